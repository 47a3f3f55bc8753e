/- The numbers of a script come again and again; each latency is from 1 to the longest, and each pick one of those that wait. -/
import Derived.Test.YtbemlndjdbopeaaRows
import Derived.Test.YtbemlndjdbopeaaBk2
import Derived.WalkKit
import Derived.ProofKit
import Derived.OpenShut
import Derived.ShutString
import Derived.ChangeOld
import Derived.Below
import Derived.SizedLaws
namespace Go.Proofs.Ytbemlndjdbopeaa
open Go.Ra
set_option linter.unusedVariables false
set_option linter.unusedSimpArgs false
def tI64 : Ty := .int .i64
abbrev rI (m : AV) : XV := .row false 1 (avN m) (o_el tI64 m)
theorem r_scr (l p : AV) (i most n : Int) (K : XV → Prop) : (quietGo TKb 80 (callI TKb 80 20) 10 [.agg 2 [rI l, rI p], .int .i64 i, .int .i64 most, .int .i64 n] K) =
    (bif bif decide ((↑(avN l) : Int) > (60 : Int)) then true else !decide ((↑(avN l) : Int) > (60 : Int)) then
  bif
      bif bif decide ((↑(avN l) : Int) > (60 : Int)) then true else decide ((↑(avN p) : Int) > (60 : Int)) then true
      else !bif decide ((↑(avN l) : Int) > (60 : Int)) then true else decide ((↑(avN p) : Int) > (60 : Int)) then
    bif
        bif bif bif decide ((↑(avN l) : Int) > (60 : Int)) then true else decide ((↑(avN p) : Int) > (60 : Int)) then true else decide (i < (0 : Int)) then true
        else !bif bif decide ((↑(avN l) : Int) > (60 : Int)) then true else decide ((↑(avN p) : Int) > (60 : Int)) then true else decide (i < (0 : Int)) then
      bif
          bif
              bif bif bif decide ((↑(avN l) : Int) > (60 : Int)) then true else decide ((↑(avN p) : Int) > (60 : Int)) then true else decide (i < (0 : Int)) then true
              else decide (i > (1099511627776 : Int)) then
            true
          else
            !bif bif bif decide ((↑(avN l) : Int) > (60 : Int)) then true else decide ((↑(avN p) : Int) > (60 : Int)) then true else decide (i < (0 : Int)) then true
              else decide (i > (1099511627776 : Int)) then
        bif
            bif
                bif
                    bif bif bif decide ((↑(avN l) : Int) > (60 : Int)) then true else decide ((↑(avN p) : Int) > (60 : Int)) then true else decide (i < (0 : Int)) then true
                    else decide (i > (1099511627776 : Int)) then
                  true
                else decide (most < (1 : Int)) then
              true
            else
              !bif
                    bif bif bif decide ((↑(avN l) : Int) > (60 : Int)) then true else decide ((↑(avN p) : Int) > (60 : Int)) then true else decide (i < (0 : Int)) then true
                    else decide (i > (1099511627776 : Int)) then
                  true
                else decide (most < (1 : Int)) then
          bif
              bif
                  bif
                      bif bif bif decide ((↑(avN l) : Int) > (60 : Int)) then true else decide ((↑(avN p) : Int) > (60 : Int)) then true else decide (i < (0 : Int)) then true
                      else decide (i > (1099511627776 : Int)) then
                    true
                  else decide (most < (1 : Int)) then
                true
              else decide (n < (1 : Int)) then
            K (XV.bool true)
          else
            bif decide (avN l ≤ (1099511627776 : Nat)) then
              bif allN (fun (i : Nat) => true) (avN l) then
                bif decide (avN p ≤ (1099511627776 : Nat)) then
                  bif allN (fun (i : Nat) => true) (avN p) then
                    bif
                        bif decide (IntKind.wrap IntKind.i64 ((1 : Int) + nthI (avN l) (o_el tI64 l) i most) ≥ (1 : Int)) then
                          decide (IntKind.wrap IntKind.i64 ((1 : Int) + nthI (avN l) (o_el tI64 l) i most) ≥ (1 : Int))
                        else true then
                      bif
                          bif
                              bif decide (IntKind.wrap IntKind.i64 ((1 : Int) + nthI (avN l) (o_el tI64 l) i most) ≥ (1 : Int)) then
                                decide (IntKind.wrap IntKind.i64 ((1 : Int) + nthI (avN l) (o_el tI64 l) i most) ≤ most)
                              else false then
                            bif decide (IntKind.wrap IntKind.i64 ((1 : Int) + nthI (avN l) (o_el tI64 l) i most) ≥ (1 : Int)) then
                              decide (IntKind.wrap IntKind.i64 ((1 : Int) + nthI (avN l) (o_el tI64 l) i most) ≤ most)
                            else false
                          else true then
                        bif
                            bif
                                bif
                                    bif decide (IntKind.wrap IntKind.i64 ((1 : Int) + nthI (avN l) (o_el tI64 l) i most) ≥ (1 : Int)) then
                                      decide (IntKind.wrap IntKind.i64 ((1 : Int) + nthI (avN l) (o_el tI64 l) i most) ≤ most)
                                    else false then
                                  decide (nthI (avN p) (o_el tI64 p) i n ≥ (0 : Int))
                                else false then
                              bif
                                  bif decide (IntKind.wrap IntKind.i64 ((1 : Int) + nthI (avN l) (o_el tI64 l) i most) ≥ (1 : Int)) then
                                    decide (IntKind.wrap IntKind.i64 ((1 : Int) + nthI (avN l) (o_el tI64 l) i most) ≤ most)
                                  else false then
                                decide (nthI (avN p) (o_el tI64 p) i n ≥ (0 : Int))
                              else false
                            else true then
                          bif
                              bif
                                  bif
                                      bif decide (IntKind.wrap IntKind.i64 ((1 : Int) + nthI (avN l) (o_el tI64 l) i most) ≥ (1 : Int)) then
                                        decide (IntKind.wrap IntKind.i64 ((1 : Int) + nthI (avN l) (o_el tI64 l) i most) ≤ most)
                                      else false then
                                    decide (nthI (avN p) (o_el tI64 p) i n ≥ (0 : Int))
                                  else false then
                                decide (nthI (avN p) (o_el tI64 p) i n < n)
                              else false then
                            bif decide (avN l ≤ (1099511627776 : Nat)) then
                              bif allN (fun (i : Nat) => true) (avN l) then
                                bif
                                    bif
                                        bif
                                            bif
                                                bif decide (IntKind.wrap IntKind.i64 ((1 : Int) + nthI (avN l) (o_el tI64 l) i most) ≥ (1 : Int)) then
                                                  decide (IntKind.wrap IntKind.i64 ((1 : Int) + nthI (avN l) (o_el tI64 l) i most) ≤ most)
                                                else false then
                                              decide (nthI (avN p) (o_el tI64 p) i n ≥ (0 : Int))
                                            else false then
                                          decide (nthI (avN p) (o_el tI64 p) i n < n)
                                        else false then
                                      decide
                                        (IntKind.wrap IntKind.i64 ((1 : Int) + nthI (avN l) (o_el tI64 l) i most) =
                                          IntKind.wrap IntKind.i64 ((1 : Int) + nthI (avN l) (o_el tI64 l) (IntKind.wrap IntKind.i64 (i + (↑(avN l) : Int))) most))
                                    else false then
                                  bif decide (avN p ≤ (1099511627776 : Nat)) then
                                    bif allN (fun (i : Nat) => true) (avN p) then
                                      bif
                                          bif
                                              bif
                                                  bif
                                                      bif
                                                          bif decide (IntKind.wrap IntKind.i64 ((1 : Int) + nthI (avN l) (o_el tI64 l) i most) ≥ (1 : Int)) then
                                                            decide (IntKind.wrap IntKind.i64 ((1 : Int) + nthI (avN l) (o_el tI64 l) i most) ≤ most)
                                                          else false then
                                                        decide (nthI (avN p) (o_el tI64 p) i n ≥ (0 : Int))
                                                      else false then
                                                    decide (nthI (avN p) (o_el tI64 p) i n < n)
                                                  else false then
                                                decide
                                                  (IntKind.wrap IntKind.i64 ((1 : Int) + nthI (avN l) (o_el tI64 l) i most) =
                                                    IntKind.wrap IntKind.i64 ((1 : Int) + nthI (avN l) (o_el tI64 l) (IntKind.wrap IntKind.i64 (i + (↑(avN l) : Int))) most))
                                              else false then
                                            decide (nthI (avN p) (o_el tI64 p) i n = nthI (avN p) (o_el tI64 p) (IntKind.wrap IntKind.i64 (i + (↑(avN p) : Int))) n)
                                          else false then
                                        bif decide (avN l ≤ (1099511627776 : Nat)) then
                                          bif allN (fun (i : Nat) => true) (avN l) then
                                            bif
                                                bif
                                                    bif
                                                        bif
                                                            bif
                                                                bif
                                                                    bif decide (IntKind.wrap IntKind.i64 ((1 : Int) + nthI (avN l) (o_el tI64 l) i most) ≥ (1 : Int)) then
                                                                      decide (IntKind.wrap IntKind.i64 ((1 : Int) + nthI (avN l) (o_el tI64 l) i most) ≤ most)
                                                                    else false then
                                                                  decide (nthI (avN p) (o_el tI64 p) i n ≥ (0 : Int))
                                                                else false then
                                                              decide (nthI (avN p) (o_el tI64 p) i n < n)
                                                            else false then
                                                          decide
                                                            (IntKind.wrap IntKind.i64 ((1 : Int) + nthI (avN l) (o_el tI64 l) i most) =
                                                              IntKind.wrap IntKind.i64 ((1 : Int) + nthI (avN l) (o_el tI64 l) (IntKind.wrap IntKind.i64 (i + (↑(avN l) : Int))) most))
                                                        else false then
                                                      decide (nthI (avN p) (o_el tI64 p) i n = nthI (avN p) (o_el tI64 p) (IntKind.wrap IntKind.i64 (i + (↑(avN p) : Int))) n)
                                                    else false then
                                                  decide (IntKind.wrap IntKind.i64 ((1 : Int) + nthI (avN l) (o_el tI64 l) i (1 : Int)) = (1 : Int))
                                                else false then
                                              bif decide (avN p ≤ (1099511627776 : Nat)) then
                                                bif allN (fun (i : Nat) => true) (avN p) then
                                                  K
                                                    (XV.bool
                                                      (bif
                                                          bif
                                                              bif
                                                                  bif
                                                                      bif
                                                                          bif
                                                                              bif decide (IntKind.wrap IntKind.i64 ((1 : Int) + nthI (avN l) (o_el tI64 l) i most) ≥ (1 : Int)) then
                                                                                decide (IntKind.wrap IntKind.i64 ((1 : Int) + nthI (avN l) (o_el tI64 l) i most) ≤ most)
                                                                              else false then
                                                                            decide (nthI (avN p) (o_el tI64 p) i n ≥ (0 : Int))
                                                                          else false then
                                                                        decide (nthI (avN p) (o_el tI64 p) i n < n)
                                                                      else false then
                                                                    decide
                                                                      (IntKind.wrap IntKind.i64 ((1 : Int) + nthI (avN l) (o_el tI64 l) i most) =
                                                                        IntKind.wrap IntKind.i64 ((1 : Int) + nthI (avN l) (o_el tI64 l) (IntKind.wrap IntKind.i64 (i + (↑(avN l) : Int))) most))
                                                                  else false then
                                                                decide (nthI (avN p) (o_el tI64 p) i n = nthI (avN p) (o_el tI64 p) (IntKind.wrap IntKind.i64 (i + (↑(avN p) : Int))) n)
                                                              else false then
                                                            decide (IntKind.wrap IntKind.i64 ((1 : Int) + nthI (avN l) (o_el tI64 l) i (1 : Int)) = (1 : Int))
                                                          else false then
                                                        decide (nthI (avN p) (o_el tI64 p) i (1 : Int) = (0 : Int))
                                                      else false))
                                                else False
                                              else False
                                            else
                                              bif
                                                  !bif
                                                        bif
                                                            bif
                                                                bif
                                                                    bif
                                                                        bif decide (IntKind.wrap IntKind.i64 ((1 : Int) + nthI (avN l) (o_el tI64 l) i most) ≥ (1 : Int)) then
                                                                          decide (IntKind.wrap IntKind.i64 ((1 : Int) + nthI (avN l) (o_el tI64 l) i most) ≤ most)
                                                                        else false then
                                                                      decide (nthI (avN p) (o_el tI64 p) i n ≥ (0 : Int))
                                                                    else false then
                                                                  decide (nthI (avN p) (o_el tI64 p) i n < n)
                                                                else false then
                                                              decide
                                                                (IntKind.wrap IntKind.i64 ((1 : Int) + nthI (avN l) (o_el tI64 l) i most) =
                                                                  IntKind.wrap IntKind.i64 ((1 : Int) + nthI (avN l) (o_el tI64 l) (IntKind.wrap IntKind.i64 (i + (↑(avN l) : Int))) most))
                                                            else false then
                                                          decide (nthI (avN p) (o_el tI64 p) i n = nthI (avN p) (o_el tI64 p) (IntKind.wrap IntKind.i64 (i + (↑(avN p) : Int))) n)
                                                        else false then
                                                      decide (IntKind.wrap IntKind.i64 ((1 : Int) + nthI (avN l) (o_el tI64 l) i (1 : Int)) = (1 : Int))
                                                    else false then
                                                K (XV.bool false)
                                              else False
                                          else False
                                        else False
                                      else
                                        bif
                                            !bif
                                                  bif
                                                      bif
                                                          bif
                                                              bif decide (IntKind.wrap IntKind.i64 ((1 : Int) + nthI (avN l) (o_el tI64 l) i most) ≥ (1 : Int)) then
                                                                decide (IntKind.wrap IntKind.i64 ((1 : Int) + nthI (avN l) (o_el tI64 l) i most) ≤ most)
                                                              else false then
                                                            decide (nthI (avN p) (o_el tI64 p) i n ≥ (0 : Int))
                                                          else false then
                                                        decide (nthI (avN p) (o_el tI64 p) i n < n)
                                                      else false then
                                                    decide
                                                      (IntKind.wrap IntKind.i64 ((1 : Int) + nthI (avN l) (o_el tI64 l) i most) =
                                                        IntKind.wrap IntKind.i64 ((1 : Int) + nthI (avN l) (o_el tI64 l) (IntKind.wrap IntKind.i64 (i + (↑(avN l) : Int))) most))
                                                  else false then
                                                decide (nthI (avN p) (o_el tI64 p) i n = nthI (avN p) (o_el tI64 p) (IntKind.wrap IntKind.i64 (i + (↑(avN p) : Int))) n)
                                              else false then
                                          K (XV.bool false)
                                        else False
                                    else False
                                  else False
                                else
                                  bif
                                      !bif
                                            bif
                                                bif
                                                    bif decide (IntKind.wrap IntKind.i64 ((1 : Int) + nthI (avN l) (o_el tI64 l) i most) ≥ (1 : Int)) then
                                                      decide (IntKind.wrap IntKind.i64 ((1 : Int) + nthI (avN l) (o_el tI64 l) i most) ≤ most)
                                                    else false then
                                                  decide (nthI (avN p) (o_el tI64 p) i n ≥ (0 : Int))
                                                else false then
                                              decide (nthI (avN p) (o_el tI64 p) i n < n)
                                            else false then
                                          decide
                                            (IntKind.wrap IntKind.i64 ((1 : Int) + nthI (avN l) (o_el tI64 l) i most) =
                                              IntKind.wrap IntKind.i64 ((1 : Int) + nthI (avN l) (o_el tI64 l) (IntKind.wrap IntKind.i64 (i + (↑(avN l) : Int))) most))
                                        else false then
                                    K (XV.bool false)
                                  else False
                              else False
                            else False
                          else
                            bif
                                !bif
                                      bif
                                          bif decide (IntKind.wrap IntKind.i64 ((1 : Int) + nthI (avN l) (o_el tI64 l) i most) ≥ (1 : Int)) then
                                            decide (IntKind.wrap IntKind.i64 ((1 : Int) + nthI (avN l) (o_el tI64 l) i most) ≤ most)
                                          else false then
                                        decide (nthI (avN p) (o_el tI64 p) i n ≥ (0 : Int))
                                      else false then
                                    decide (nthI (avN p) (o_el tI64 p) i n < n)
                                  else false then
                              K (XV.bool false)
                            else False
                        else False
                      else False
                    else False
                  else False
                else False
              else False
            else False
        else False
      else False
    else False
  else False
else False) := by kernel_rfl
theorem and30 (x : Int) : ∃ K : Nat, K ≤ 1073741823 ∧ bitsI .and .i64 x 1073741823 = (K : Int) := by
  refine ⟨(BitVec.ofInt 64 x).toNat &&& 1073741823, Nat.and_le_right, ?_⟩
  show IntKind.i64.wrap (((BitVec.ofInt 64 x) &&& (BitVec.ofInt 64 1073741823)).toNat : Int) = _
  have h : (BitVec.ofInt 64 x).toNat &&& 1073741823 ≤ 1073741823 := Nat.and_le_right
  rw [BitVec.toNat_and, show (BitVec.ofInt 64 1073741823).toNat = 1073741823 from rfl]
  exact wrap_i64 (by omega) (by omega)
theorem nth_rng (n : Nat) (f : Nat → XV) (i : Int) {most : Int} (h : 1 ≤ most) : 0 ≤ nthI n f i most ∧ nthI n f i most < most ∧ nthI n f i most ≤ 1073741823 := by
  unfold nthI
  split
  · omega
  · obtain ⟨K, h1, h2⟩ := and30 (asN (f (i.toNat % n)))
    rw [h2, Int.tmod_eq_emod_of_nonneg (by omega)]
    have m1 := Int.emod_nonneg (K : Int) (show most ≠ 0 by omega)
    have m2 := Int.emod_lt_of_pos (K : Int) (show 0 < most by omega)
    have m3 : (K : Int) % most ≤ K := by
      by_cases g : (K : Int) < most
      · rw [Int.emod_eq_of_lt (by omega) g]; exact Int.le_refl _
      · omega
    omega
theorem nth_next (n : Nat) (f : Nat → XV) {i : Int} (h : 0 ≤ i) (most : Int) : nthI n f (i + n) most = nthI n f i most := by
  unfold nthI
  by_cases g : n = 0
  · subst g; simp
  · have e : (i + (n : Int)).toNat % n = i.toNat % n := by
      rw [show (i + (n : Int)).toNat = i.toNat + n by omega, Nat.add_mod_right]
    rw [e]
    by_cases g2 : most < 1
    · rw [if_pos (.inr (.inr g2)), if_pos (.inr (.inr g2))]
    · rw [if_neg (by omega), if_neg (by omega)]
theorem script_pure (l p : AV) (i most n : Int) (hm : most ≤ 9223372036854775807) : Pure Try.prog 10 (cons [.agg 2 [rI l, rI p], .int .i64 i, .int .i64 most, .int .i64 n]) (con (.bool true)) := by
  refine pureX (u := 80) (k := 20) mix TKbok ?_
  rw [r_scr]
  simp only [pk_or, pk_and, cond_true]
  refine cnd2 (fun h => trivial) (fun h => ?_)
  simp only [Bool.cond_true_left, Bool.cond_false_right, Bool.cond_true_right, Bool.cond_false_left, Bool.or_eq_false_iff, Bool.or_eq_true, Bool.and_eq_true, Bool.and_eq_false_iff, decide_eq_false_iff_not, decide_eq_true_eq, Bool.not_eq_true', Bool.not_eq_false', Bool.not_not, Int.not_lt, Int.not_le, gt_iff_lt, ge_iff_le] at h
  obtain ⟨⟨⟨⟨⟨h1, h2⟩, h3⟩, h4⟩, h5⟩, h6⟩ := h
  have c1 : avN l ≤ 1099511627776 := by omega
  have c2 : avN p ≤ 1099511627776 := by omega
  have wl : IntKind.i64.wrap (i + ((avN l : Nat) : Int)) = i + ((avN l : Nat) : Int) := wrap_i64 (by omega) (by omega)
  have wp : IntKind.i64.wrap (i + ((avN p : Nat) : Int)) = i + ((avN p : Nat) : Int) := wrap_i64 (by omega) (by omega)
  have n1 := nth_next (avN l) (o_el tI64 l) h3 most
  have n2 := nth_next (avN p) (o_el tI64 p) h3 n
  obtain ⟨a1, a2, a3⟩ := nth_rng (avN l) (o_el tI64 l) i h5
  obtain ⟨b1, b2, b3⟩ := nth_rng (avN p) (o_el tI64 p) i h6
  obtain ⟨d1, d2, d3⟩ := nth_rng (avN l) (o_el tI64 l) i (show (1 : Int) ≤ 1 by omega)
  obtain ⟨e1, e2, e3⟩ := nth_rng (avN p) (o_el tI64 p) i (show (1 : Int) ≤ 1 by omega)
  have d4 : nthI (avN l) (o_el tI64 l) i 1 = 0 := by omega
  have e4 : nthI (avN p) (o_el tI64 p) i 1 = 0 := by omega
  have w1 : IntKind.i64.wrap (1 + nthI (avN l) (o_el tI64 l) i most) = 1 + nthI (avN l) (o_el tI64 l) i most := wrap_i64 (by omega) (by omega)
  have w2 : IntKind.i64.wrap (1 + 0) = 1 := by decide
  have q1 : 1 ≤ 1 + nthI (avN l) (o_el tI64 l) i most := by omega
  have q2 : 1 + nthI (avN l) (o_el tI64 l) i most ≤ most := by omega
  simp only [c1, c2, wl, wp, n1, n2, d4, e4, w1, w2, q1, q2, b1, b2, decide_true, decide_false, cond_true, cond_false, allN_true, Nat.le_refl, Int.toNat_natCast, Nat.beq_refl, pk_and, pk_or, Bool.not_true, Bool.not_false, not_true_eq_false, not_false_eq_true, Bool.and_true, Bool.true_and, Bool.and_self, ge_iff_le, Int.le_refl, if_true, if_false, reduceCtorEq, eq_self, BEq.rfl]
end Go.Proofs.Ytbemlndjdbopeaa
namespace Go.Proofs.Ytbemlndjdbopeaa.banksScript
open Go.Ra Go.ChangeShapes Go.WideShapes Go.ChangeAt Go.RowKit
open Go.ChangeMaps (open_string shut_string)
theorem own : ownKnob Try.prog.godebug = none := by kernel_rfl
def Ts : List Ty := [.agg 2 [.slice 1 8 tI64, .slice 1 8 tI64], .int .i64, .int .i64, .int .i64]
theorem law (xs : List AV) (h : Ty.hasL Ts xs) : Pure Try.prog 10 xs (.sc (.bool true)) := by
  have h0 := h
  simp only [Ts, Ty.hasL] at h0
  obtain ⟨s, _, rfl, hs, i, _, rfl, _, m, _, rfl, hm, n, _, rfl, _, rfl⟩ := h0
  exact lawX h (script_pure _ _ _ _ _ (has_i64 hm).2)
set_option maxRecDepth 100000 in
theorem lifted (os : Os) (started : os.Started) (H : Type) (enc : TypeId × Value → H) :
    ReturnsInHanded {} Try.checked os 10 .any (Rows.banksScriptSpec.pre6 enc Try.prog Try.f10 Rows.banksScriptRow.domain false) (Rows.banksScriptSpec.post enc Try.prog Try.f10 false true false false) := by
  refine returnsInHanded_of_change_sized (C := Try.checked) own started (by kernel_rfl) Try.func10
    (ChangeSpec.witness6 (enc := enc) (C := Try.checked) false ⟨#[], #[.agg #[.slice none 0 0, .slice none 0 0], .int .i64 0, .int .i64 0, .int .i64 0], []⟩ 8 (by kernel_rfl) (by kernel_rfl) (by kernel_rfl) (by kernel_rfl)) ?_
  intro W base args ds gs before hval hW hcnd hsz _
  refine law_post (s := Rows.banksScriptSpec) (n := 60) (Ts := Ts) (ts := [57, 3, 3, 3]) (tb := 4) (by kernel_rfl) rfl rfl Try.underlying4 rfl (by kernel_rfl) (by kernel_rfl) (fun ds hds => ?_) law W base args ds gs before hval hW hsz
  match ds, hds with
  | [d1, d2, d3, d4], _ => exact ⟨rfl, rfl, rfl⟩
theorem over : Rows.banksScriptRow.holds Try.pinned (OpenSpec.ofChange Rows.banksScriptSpec) :=
  OpenClaim.holds_of_wide 10 Try.f10 rfl rfl rfl rfl rfl rfl rfl ⟨rfl, rfl, rfl, rfl, rfl⟩ rfl rfl rfl rfl rfl (by kernel_rfl) Try.func10 (by kernel_rfl)
    (of_decide_eq_true (by kernel_rfl)) (by unfold Func.isWrapper; first | (rw [if_pos (by decide +kernel)]; kernel_rfl) | (rw [if_neg (by decide +kernel)]; exact ⟨rfl, rfl⟩))
    (fun os started H enc _ => lifted os started H enc)
theorem proved : Rows.BanksScriptSaid := over
end Go.Proofs.Ytbemlndjdbopeaa.banksScript
namespace Go.Proofs.Ytbemlndjdbopeaa
/-- The row, under a short name, for the claim. -/
theorem banksScript_holds : Rows.BanksScriptSaid := banksScript.proved
end Go.Proofs.Ytbemlndjdbopeaa
#print axioms Go.Proofs.Ytbemlndjdbopeaa.banksScript_holds
