/- Addresses of one word are in one bank, and words go round the banks. -/
import Derived.Test.YtbemlndjdbopeaaRows
import Derived.Test.YtbemlndjdbopeaaBk2
import Derived.WalkKit
import Derived.ProofKit
import Derived.OpenShut
import Derived.ShutString
import Derived.ChangeOld
import Derived.Below
import Derived.SizedLaws
namespace Go.Proofs.Ytbemlndjdbopeaa
open Go.Ra
set_option linter.unusedVariables false
set_option linter.unusedSimpArgs false
theorem r_apart (w n : Int) (K : XV → Prop) : (quietGo TKb 80 (callI TKb 80 20) 11 [.int .i64 w, .int .i64 n] K) =
    (bif bif decide (w < (0 : Int)) then true else !decide (w < (0 : Int)) then
  bif bif bif decide (w < (0 : Int)) then true else decide (w > (100000 : Int)) then true else !bif decide (w < (0 : Int)) then true else decide (w > (100000 : Int)) then
    bif
        bif bif bif decide (w < (0 : Int)) then true else decide (w > (100000 : Int)) then true else decide (n < (1 : Int)) then true
        else !bif bif decide (w < (0 : Int)) then true else decide (w > (100000 : Int)) then true else decide (n < (1 : Int)) then
      bif bif bif bif decide (w < (0 : Int)) then true else decide (w > (100000 : Int)) then true else decide (n < (1 : Int)) then true else decide (n > (16 : Int)) then K (XV.bool true)
      else
        bif decide (IntKind.wrap IntKind.i64 ((4 : Int) * w) ≤ (9223372036854775807 : Int)) then
          bif decide (IntKind.wrap IntKind.i64 (IntKind.wrap IntKind.i64 ((4 : Int) * w) + (1 : Int)) ≤ (9223372036854775807 : Int)) then
            bif decide ¬bnkI (IntKind.wrap IntKind.i64 (IntKind.wrap IntKind.i64 ((4 : Int) * w) + (1 : Int))) n = bnkI (IntKind.wrap IntKind.i64 ((4 : Int) * w)) n then K (XV.bool false)
            else
              bif decide (IntKind.wrap IntKind.i64 (IntKind.wrap IntKind.i64 ((4 : Int) * w) + (2 : Int)) ≤ (9223372036854775807 : Int)) then
                bif decide ¬bnkI (IntKind.wrap IntKind.i64 (IntKind.wrap IntKind.i64 ((4 : Int) * w) + (2 : Int))) n = bnkI (IntKind.wrap IntKind.i64 ((4 : Int) * w)) n then K (XV.bool false)
                else
                  bif decide (IntKind.wrap IntKind.i64 (IntKind.wrap IntKind.i64 ((4 : Int) * w) + (3 : Int)) ≤ (9223372036854775807 : Int)) then
                    bif decide ¬bnkI (IntKind.wrap IntKind.i64 (IntKind.wrap IntKind.i64 ((4 : Int) * w) + (3 : Int))) n = bnkI (IntKind.wrap IntKind.i64 ((4 : Int) * w)) n then K (XV.bool false)
                    else
                      bif bif decide (bnkI (IntKind.wrap IntKind.i64 ((4 : Int) * w)) n ≥ (0 : Int)) then decide (bnkI (IntKind.wrap IntKind.i64 ((4 : Int) * w)) n ≥ (0 : Int)) else true then
                        bif
                            bif decide (IntKind.wrap IntKind.i64 (IntKind.wrap IntKind.i64 ((4 : Int) * w) + (4 : Int)) ≤ (9223372036854775807 : Int)) then true
                            else !bif decide (bnkI (IntKind.wrap IntKind.i64 ((4 : Int) * w)) n ≥ (0 : Int)) then decide (bnkI (IntKind.wrap IntKind.i64 ((4 : Int) * w)) n < n) else false then
                          bif
                              bif !decide (n = (0 : Int)) then true
                              else !bif decide (bnkI (IntKind.wrap IntKind.i64 ((4 : Int) * w)) n ≥ (0 : Int)) then decide (bnkI (IntKind.wrap IntKind.i64 ((4 : Int) * w)) n < n) else false then
                            bif
                                bif bif decide (bnkI (IntKind.wrap IntKind.i64 ((4 : Int) * w)) n ≥ (0 : Int)) then decide (bnkI (IntKind.wrap IntKind.i64 ((4 : Int) * w)) n < n) else false then
                                  bif decide (bnkI (IntKind.wrap IntKind.i64 ((4 : Int) * w)) n ≥ (0 : Int)) then decide (bnkI (IntKind.wrap IntKind.i64 ((4 : Int) * w)) n < n) else false
                                else true then
                              bif
                                  bif decide (IntKind.wrap IntKind.i64 ((4 : Int) * IntKind.wrap IntKind.i64 (w + n)) ≤ (9223372036854775807 : Int)) then true
                                  else
                                    !bif bif decide (bnkI (IntKind.wrap IntKind.i64 ((4 : Int) * w)) n ≥ (0 : Int)) then decide (bnkI (IntKind.wrap IntKind.i64 ((4 : Int) * w)) n < n) else false then
                                        decide
                                          (bnkI (IntKind.wrap IntKind.i64 (IntKind.wrap IntKind.i64 ((4 : Int) * w) + (4 : Int))) n =
                                            Int.tmod (IntKind.wrap IntKind.i64 (bnkI (IntKind.wrap IntKind.i64 ((4 : Int) * w)) n + (1 : Int))) n)
                                      else false then
                                bif
                                    bif
                                        bif
                                            bif decide (bnkI (IntKind.wrap IntKind.i64 ((4 : Int) * w)) n ≥ (0 : Int)) then decide (bnkI (IntKind.wrap IntKind.i64 ((4 : Int) * w)) n < n)
                                            else false then
                                          decide
                                            (bnkI (IntKind.wrap IntKind.i64 (IntKind.wrap IntKind.i64 ((4 : Int) * w) + (4 : Int))) n =
                                              Int.tmod (IntKind.wrap IntKind.i64 (bnkI (IntKind.wrap IntKind.i64 ((4 : Int) * w)) n + (1 : Int))) n)
                                        else false then
                                      bif bif decide (bnkI (IntKind.wrap IntKind.i64 ((4 : Int) * w)) n ≥ (0 : Int)) then decide (bnkI (IntKind.wrap IntKind.i64 ((4 : Int) * w)) n < n) else false then
                                        decide
                                          (bnkI (IntKind.wrap IntKind.i64 (IntKind.wrap IntKind.i64 ((4 : Int) * w) + (4 : Int))) n =
                                            Int.tmod (IntKind.wrap IntKind.i64 (bnkI (IntKind.wrap IntKind.i64 ((4 : Int) * w)) n + (1 : Int))) n)
                                      else false
                                    else true then
                                  K
                                    (XV.bool
                                      (bif
                                          bif
                                              bif decide (bnkI (IntKind.wrap IntKind.i64 ((4 : Int) * w)) n ≥ (0 : Int)) then decide (bnkI (IntKind.wrap IntKind.i64 ((4 : Int) * w)) n < n)
                                              else false then
                                            decide
                                              (bnkI (IntKind.wrap IntKind.i64 (IntKind.wrap IntKind.i64 ((4 : Int) * w) + (4 : Int))) n =
                                                Int.tmod (IntKind.wrap IntKind.i64 (bnkI (IntKind.wrap IntKind.i64 ((4 : Int) * w)) n + (1 : Int))) n)
                                          else false then
                                        decide (bnkI (IntKind.wrap IntKind.i64 ((4 : Int) * IntKind.wrap IntKind.i64 (w + n))) n = bnkI (IntKind.wrap IntKind.i64 ((4 : Int) * w)) n)
                                      else false))
                                else False
                              else False
                            else False
                          else False
                        else False
                      else False
                  else False
              else False
          else False
        else False
    else False
  else False
else False) := by kernel_rfl
theorem apart_pure (w n : Int) : Pure Try.prog 11 (cons [.int .i64 w, .int .i64 n]) (con (.bool true)) := by
  refine pureX (u := 80) (k := 20) mix TKbok ?_
  rw [r_apart]
  simp only [pk_or, pk_and, cond_true]
  refine cnd2 (fun h => trivial) (fun h => ?_)
  simp only [Bool.cond_true_left, Bool.cond_false_right, Bool.cond_true_right, Bool.cond_false_left, Bool.or_eq_false_iff, Bool.or_eq_true, Bool.and_eq_true, Bool.and_eq_false_iff, decide_eq_false_iff_not, decide_eq_true_eq, Bool.not_eq_true', Bool.not_eq_false', Bool.not_not, Int.not_lt, Int.not_le, gt_iff_lt, ge_iff_le] at h
  obtain ⟨⟨⟨h1, h2⟩, h3⟩, h4⟩ := h
  have w0 : IntKind.i64.wrap (4 * w) = 4 * w := wrap_i64 (by omega) (by omega)
  have wk : ∀ k : Int, 0 ≤ k → k ≤ 4 → IntKind.i64.wrap (4 * w + k) = 4 * w + k := fun k h5 h6 => wrap_i64 (by omega) (by omega)
  have wn : IntKind.i64.wrap (w + n) = w + n := wrap_i64 (by omega) (by omega)
  have wm : IntKind.i64.wrap (4 * (w + n)) = 4 * (w + n) := wrap_i64 (by omega) (by omega)
  rw [w0, wn, wm, wk 1 (by omega) (by omega), wk 2 (by omega) (by omega), wk 3 (by omega) (by omega), wk 4 (by omega) (by omega)]
  have b0 : ∀ x : Int, 0 ≤ x → bnkI x n = x / 4 % n := fun x hx => by unfold bnkI; rw [if_neg (by omega)]
  rw [b0 (4 * w) (by omega), b0 (4 * w + 1) (by omega), b0 (4 * w + 2) (by omega), b0 (4 * w + 3) (by omega), b0 (4 * w + 4) (by omega), b0 (4 * (w + n)) (by omega)]
  rw [show 4 * w / 4 = w by omega, show (4 * w + 1) / 4 = w by omega, show (4 * w + 2) / 4 = w by omega, show (4 * w + 3) / 4 = w by omega, show (4 * w + 4) / 4 = w + 1 by omega, show 4 * (w + n) / 4 = w + n by omega]
  have m1 : 0 ≤ w % n := Int.emod_nonneg w (by omega)
  have m2 : w % n < n := Int.emod_lt_of_pos w (by omega)
  have m3 : Int.tmod (IntKind.i64.wrap (w % n + 1)) n = (w + 1) % n := by
    rw [wrap_i64 (by omega) (by omega), Int.tmod_eq_emod_of_nonneg (by omega)]
    exact Int.emod_add_emod w n 1
  have m4 : (w + n) % n = w % n := Int.add_emod_right w n
  have m5 : ¬ n = 0 := by omega
  have l0 : 4 * w ≤ 9223372036854775807 := by omega
  have l1 : 4 * w + 1 ≤ 9223372036854775807 := by omega
  have l2 : 4 * w + 2 ≤ 9223372036854775807 := by omega
  have l3 : 4 * w + 3 ≤ 9223372036854775807 := by omega
  have l4 : 4 * w + 4 ≤ 9223372036854775807 := by omega
  have l5 : 4 * (w + n) ≤ 9223372036854775807 := by omega
  simp only [m1, m2, m3, m4, m5, l0, l1, l2, l3, l4, l5, decide_true, decide_false, cond_true, cond_false, allN_true, Nat.le_refl, Int.toNat_natCast, Nat.beq_refl, pk_and, pk_or, Bool.not_true, Bool.not_false, not_true_eq_false, not_false_eq_true, Bool.and_true, Bool.true_and, Bool.and_self, ge_iff_le, Int.le_refl, if_true, if_false, reduceCtorEq, eq_self, BEq.rfl]
end Go.Proofs.Ytbemlndjdbopeaa
namespace Go.Proofs.Ytbemlndjdbopeaa.banksApart
open Go.Ra Go.ChangeShapes Go.WideShapes Go.ChangeAt Go.RowKit
open Go.ChangeMaps (open_string shut_string)
theorem own : ownKnob Try.prog.godebug = none := by kernel_rfl
def Ts : List Ty := [.int .i64, .int .i64]
theorem law (xs : List AV) (h : Ty.hasL Ts xs) : Pure Try.prog 11 xs (.sc (.bool true)) := by
  have h0 := h
  simp only [Ts, Ty.hasL] at h0
  obtain ⟨a, _, rfl, _, b, _, rfl, _, rfl⟩ := h0
  exact lawX h (apart_pure _ _)
set_option maxRecDepth 100000 in
theorem lifted (os : Os) (started : os.Started) (H : Type) (enc : TypeId × Value → H) :
    ReturnsInHanded {} Try.checked os 11 .any (Rows.banksApartSpec.pre6 enc Try.prog Try.f11 Rows.banksApartRow.domain false) (Rows.banksApartSpec.post enc Try.prog Try.f11 false true false false) := by
  refine returnsInHanded_of_change_sized (C := Try.checked) own started (by kernel_rfl) Try.func11
    (ChangeSpec.witness6 (enc := enc) (C := Try.checked) false ⟨#[], #[.int .i64 0, .int .i64 0], []⟩ 8 (by kernel_rfl) (by kernel_rfl) (by kernel_rfl) (by kernel_rfl)) ?_
  intro W base args ds gs before hval hW hcnd hsz _
  refine law_post (s := Rows.banksApartSpec) (n := 60) (Ts := Ts) (ts := [3, 3]) (tb := 4) (by kernel_rfl) rfl rfl Try.underlying4 rfl (by kernel_rfl) (by kernel_rfl) (fun ds hds => ?_) law W base args ds gs before hval hW hsz
  match ds, hds with
  | [d1, d2], _ => exact ⟨rfl, rfl, rfl⟩
theorem over : Rows.banksApartRow.holds Try.pinned (OpenSpec.ofChange Rows.banksApartSpec) :=
  OpenClaim.holds_of_wide 11 Try.f11 rfl rfl rfl rfl rfl rfl rfl ⟨rfl, rfl, rfl, rfl, rfl⟩ rfl rfl rfl rfl rfl (by kernel_rfl) Try.func11 (by kernel_rfl)
    (of_decide_eq_true (by kernel_rfl)) (by unfold Func.isWrapper; first | (rw [if_pos (by decide +kernel)]; kernel_rfl) | (rw [if_neg (by decide +kernel)]; exact ⟨rfl, rfl⟩))
    (fun os started H enc _ => lifted os started H enc)
theorem proved : Rows.BanksApartSaid := over
end Go.Proofs.Ytbemlndjdbopeaa.banksApart
namespace Go.Proofs.Ytbemlndjdbopeaa
/-- The row, under a short name, for the claim. -/
theorem banksApart_holds : Rows.BanksApartSaid := banksApart.proved
end Go.Proofs.Ytbemlndjdbopeaa
#print axioms Go.Proofs.Ytbemlndjdbopeaa.banksApart_holds
