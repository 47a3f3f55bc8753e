/- No store whose step is not below that of a trap is sent, and loads of other places hinder none. -/
import Derived.Test.YtbemlndjdbopeaaRows
import Derived.Test.YtbemlndjdbopeaaBk1
import Derived.WalkKit
import Derived.ProofKit
import Derived.OpenShut
import Derived.ShutString
import Derived.ChangeOld
import Derived.Below
import Derived.SizedLaws
namespace Go.Proofs.Ytbemlndjdbopeaa
open Go.Ra
set_option linter.unusedVariables false
set_option linter.unusedSimpArgs false
theorem r_traps (s t a f w : Int) (K : XV → Prop) : (quietGo TK 80 (callI TK 80 20) 5 [.int .i64 s, .int .i64 t, .int .i64 a, .int .i64 f, .int .u32 w] K) =
    (bif bif decide (s < (0 : Int)) then true else !decide (s < (0 : Int)) then
  bif bif bif decide (s < (0 : Int)) then true else decide (s > (1000 : Int)) then true else !bif decide (s < (0 : Int)) then true else decide (s > (1000 : Int)) then
    bif
        bif bif bif decide (s < (0 : Int)) then true else decide (s > (1000 : Int)) then true else decide (t < (0 : Int)) then true
        else !bif bif decide (s < (0 : Int)) then true else decide (s > (1000 : Int)) then true else decide (t < (0 : Int)) then
      bif
          bif bif bif bif decide (s < (0 : Int)) then true else decide (s > (1000 : Int)) then true else decide (t < (0 : Int)) then true else decide (t > (1000 : Int)) then true
          else !bif bif bif decide (s < (0 : Int)) then true else decide (s > (1000 : Int)) then true else decide (t < (0 : Int)) then true else decide (t > (1000 : Int)) then
        bif
            bif
                bif bif bif bif decide (s < (0 : Int)) then true else decide (s > (1000 : Int)) then true else decide (t < (0 : Int)) then true else decide (t > (1000 : Int)) then true
                else decide (a < (0 : Int)) then
              true
            else
              !bif bif bif bif decide (s < (0 : Int)) then true else decide (s > (1000 : Int)) then true else decide (t < (0 : Int)) then true else decide (t > (1000 : Int)) then true
                else decide (a < (0 : Int)) then
          bif
              bif
                  bif
                      bif bif bif bif decide (s < (0 : Int)) then true else decide (s > (1000 : Int)) then true else decide (t < (0 : Int)) then true else decide (t > (1000 : Int)) then true
                      else decide (a < (0 : Int)) then
                    true
                  else decide (a > (1000 : Int)) then
                true
              else
                !bif
                      bif bif bif bif decide (s < (0 : Int)) then true else decide (s > (1000 : Int)) then true else decide (t < (0 : Int)) then true else decide (t > (1000 : Int)) then true
                      else decide (a < (0 : Int)) then
                    true
                  else decide (a > (1000 : Int)) then
            bif
                bif
                    bif
                        bif
                            bif bif bif bif decide (s < (0 : Int)) then true else decide (s > (1000 : Int)) then true else decide (t < (0 : Int)) then true else decide (t > (1000 : Int)) then true
                            else decide (a < (0 : Int)) then
                          true
                        else decide (a > (1000 : Int)) then
                      true
                    else decide (f < (-8 : Int)) then
                  true
                else
                  !bif
                        bif
                            bif bif bif bif decide (s < (0 : Int)) then true else decide (s > (1000 : Int)) then true else decide (t < (0 : Int)) then true else decide (t > (1000 : Int)) then true
                            else decide (a < (0 : Int)) then
                          true
                        else decide (a > (1000 : Int)) then
                      true
                    else decide (f < (-8 : Int)) then
              bif
                  bif
                      bif
                          bif
                              bif bif bif bif decide (s < (0 : Int)) then true else decide (s > (1000 : Int)) then true else decide (t < (0 : Int)) then true else decide (t > (1000 : Int)) then true
                              else decide (a < (0 : Int)) then
                            true
                          else decide (a > (1000 : Int)) then
                        true
                      else decide (f < (-8 : Int)) then
                    true
                  else decide (f > (8 : Int)) then
                K (XV.bool true)
              else
                bif bif decide (f ≥ (4 : Int)) then true else !decide (f ≥ (4 : Int)) then
                  bif bif decide (IntKind.wrap IntKind.i64 (a + f) ≤ a) then decide (IntKind.wrap IntKind.i64 (a + f) ≤ a) else true then
                    bif
                        !bif decide (IntKind.wrap IntKind.i64 (a + f) ≤ a) then
                            decide (IntKind.wrap IntKind.u64 (IntKind.wrap IntKind.u64 a - IntKind.wrap IntKind.u64 (IntKind.wrap IntKind.i64 (a + f))) < (2 : Int))
                          else false then
                      bif bif decide (a ≤ IntKind.wrap IntKind.i64 (a + f)) then decide (a ≤ IntKind.wrap IntKind.i64 (a + f)) else true then
                        bif
                            bif
                                bif decide (IntKind.wrap IntKind.i64 (a + f) ≤ a) then
                                  decide (IntKind.wrap IntKind.u64 (IntKind.wrap IntKind.u64 a - IntKind.wrap IntKind.u64 (IntKind.wrap IntKind.i64 (a + f))) < (2 : Int))
                                else false then
                              true
                            else
                              bif decide (a ≤ IntKind.wrap IntKind.i64 (a + f)) then
                                decide (IntKind.wrap IntKind.u64 (IntKind.wrap IntKind.u64 (IntKind.wrap IntKind.i64 (a + f)) - IntKind.wrap IntKind.u64 a) < (4 : Int))
                              else false then
                          bif !false == bif decide (f ≥ (4 : Int)) then true else decide (f ≤ (-2 : Int)) then K (XV.bool false)
                          else
                            bif decide (s ≥ t) then
                              bif bif bif decide (f ≥ (4 : Int)) then true else decide (f ≤ (-2 : Int)) then bif decide (f ≥ (4 : Int)) then true else decide (f ≤ (-2 : Int)) else true then
                                K (XV.bool (false == bif bif decide (f ≥ (4 : Int)) then true else decide (f ≤ (-2 : Int)) then decide (s < t) else false))
                              else False
                            else
                              bif bif decide (IntKind.wrap IntKind.i64 (a + f) ≤ a) then decide (IntKind.wrap IntKind.i64 (a + f) ≤ a) else true then
                                bif
                                    !bif decide (IntKind.wrap IntKind.i64 (a + f) ≤ a) then
                                        decide (IntKind.wrap IntKind.u64 (IntKind.wrap IntKind.u64 a - IntKind.wrap IntKind.u64 (IntKind.wrap IntKind.i64 (a + f))) < (2 : Int))
                                      else false then
                                  bif bif decide (a ≤ IntKind.wrap IntKind.i64 (a + f)) then decide (a ≤ IntKind.wrap IntKind.i64 (a + f)) else true then
                                    bif
                                        bif
                                            bif decide (IntKind.wrap IntKind.i64 (a + f) ≤ a) then
                                              decide (IntKind.wrap IntKind.u64 (IntKind.wrap IntKind.u64 a - IntKind.wrap IntKind.u64 (IntKind.wrap IntKind.i64 (a + f))) < (2 : Int))
                                            else false then
                                          true
                                        else
                                          bif decide (a ≤ IntKind.wrap IntKind.i64 (a + f)) then
                                            decide (IntKind.wrap IntKind.u64 (IntKind.wrap IntKind.u64 (IntKind.wrap IntKind.i64 (a + f)) - IntKind.wrap IntKind.u64 a) < (4 : Int))
                                          else false then
                                      bif bif bif decide (f ≥ (4 : Int)) then true else decide (f ≤ (-2 : Int)) then bif decide (f ≥ (4 : Int)) then true else decide (f ≤ (-2 : Int)) else true then
                                        K (XV.bool (false == bif bif decide (f ≥ (4 : Int)) then true else decide (f ≤ (-2 : Int)) then decide (s < t) else false))
                                      else False
                                    else
                                      bif bif bif decide (f ≥ (4 : Int)) then true else decide (f ≤ (-2 : Int)) then bif decide (f ≥ (4 : Int)) then true else decide (f ≤ (-2 : Int)) else true then
                                        K (XV.bool (true == bif bif decide (f ≥ (4 : Int)) then true else decide (f ≤ (-2 : Int)) then decide (s < t) else false))
                                      else False
                                  else False
                                else
                                  bif
                                      bif
                                          bif decide (IntKind.wrap IntKind.i64 (a + f) ≤ a) then
                                            decide (IntKind.wrap IntKind.u64 (IntKind.wrap IntKind.u64 a - IntKind.wrap IntKind.u64 (IntKind.wrap IntKind.i64 (a + f))) < (2 : Int))
                                          else false then
                                        true
                                      else false then
                                    bif bif bif decide (f ≥ (4 : Int)) then true else decide (f ≤ (-2 : Int)) then bif decide (f ≥ (4 : Int)) then true else decide (f ≤ (-2 : Int)) else true then
                                      K (XV.bool (false == bif bif decide (f ≥ (4 : Int)) then true else decide (f ≤ (-2 : Int)) then decide (s < t) else false))
                                    else False
                                  else False
                              else False
                        else
                          bif !true == bif decide (f ≥ (4 : Int)) then true else decide (f ≤ (-2 : Int)) then K (XV.bool false)
                          else
                            bif decide (s ≥ t) then
                              bif bif bif decide (f ≥ (4 : Int)) then true else decide (f ≤ (-2 : Int)) then bif decide (f ≥ (4 : Int)) then true else decide (f ≤ (-2 : Int)) else true then
                                K (XV.bool (false == bif bif decide (f ≥ (4 : Int)) then true else decide (f ≤ (-2 : Int)) then decide (s < t) else false))
                              else False
                            else
                              bif bif decide (IntKind.wrap IntKind.i64 (a + f) ≤ a) then decide (IntKind.wrap IntKind.i64 (a + f) ≤ a) else true then
                                bif
                                    !bif decide (IntKind.wrap IntKind.i64 (a + f) ≤ a) then
                                        decide (IntKind.wrap IntKind.u64 (IntKind.wrap IntKind.u64 a - IntKind.wrap IntKind.u64 (IntKind.wrap IntKind.i64 (a + f))) < (2 : Int))
                                      else false then
                                  bif bif decide (a ≤ IntKind.wrap IntKind.i64 (a + f)) then decide (a ≤ IntKind.wrap IntKind.i64 (a + f)) else true then
                                    bif
                                        bif
                                            bif decide (IntKind.wrap IntKind.i64 (a + f) ≤ a) then
                                              decide (IntKind.wrap IntKind.u64 (IntKind.wrap IntKind.u64 a - IntKind.wrap IntKind.u64 (IntKind.wrap IntKind.i64 (a + f))) < (2 : Int))
                                            else false then
                                          true
                                        else
                                          bif decide (a ≤ IntKind.wrap IntKind.i64 (a + f)) then
                                            decide (IntKind.wrap IntKind.u64 (IntKind.wrap IntKind.u64 (IntKind.wrap IntKind.i64 (a + f)) - IntKind.wrap IntKind.u64 a) < (4 : Int))
                                          else false then
                                      bif bif bif decide (f ≥ (4 : Int)) then true else decide (f ≤ (-2 : Int)) then bif decide (f ≥ (4 : Int)) then true else decide (f ≤ (-2 : Int)) else true then
                                        K (XV.bool (false == bif bif decide (f ≥ (4 : Int)) then true else decide (f ≤ (-2 : Int)) then decide (s < t) else false))
                                      else False
                                    else
                                      bif bif bif decide (f ≥ (4 : Int)) then true else decide (f ≤ (-2 : Int)) then bif decide (f ≥ (4 : Int)) then true else decide (f ≤ (-2 : Int)) else true then
                                        K (XV.bool (true == bif bif decide (f ≥ (4 : Int)) then true else decide (f ≤ (-2 : Int)) then decide (s < t) else false))
                                      else False
                                  else False
                                else
                                  bif
                                      bif
                                          bif decide (IntKind.wrap IntKind.i64 (a + f) ≤ a) then
                                            decide (IntKind.wrap IntKind.u64 (IntKind.wrap IntKind.u64 a - IntKind.wrap IntKind.u64 (IntKind.wrap IntKind.i64 (a + f))) < (2 : Int))
                                          else false then
                                        true
                                      else false then
                                    bif bif bif decide (f ≥ (4 : Int)) then true else decide (f ≤ (-2 : Int)) then bif decide (f ≥ (4 : Int)) then true else decide (f ≤ (-2 : Int)) else true then
                                      K (XV.bool (false == bif bif decide (f ≥ (4 : Int)) then true else decide (f ≤ (-2 : Int)) then decide (s < t) else false))
                                    else False
                                  else False
                              else False
                      else False
                    else
                      bif
                          bif
                              bif decide (IntKind.wrap IntKind.i64 (a + f) ≤ a) then
                                decide (IntKind.wrap IntKind.u64 (IntKind.wrap IntKind.u64 a - IntKind.wrap IntKind.u64 (IntKind.wrap IntKind.i64 (a + f))) < (2 : Int))
                              else false then
                            true
                          else false then
                        bif !false == bif decide (f ≥ (4 : Int)) then true else decide (f ≤ (-2 : Int)) then K (XV.bool false)
                        else
                          bif decide (s ≥ t) then
                            bif bif bif decide (f ≥ (4 : Int)) then true else decide (f ≤ (-2 : Int)) then bif decide (f ≥ (4 : Int)) then true else decide (f ≤ (-2 : Int)) else true then
                              K (XV.bool (false == bif bif decide (f ≥ (4 : Int)) then true else decide (f ≤ (-2 : Int)) then decide (s < t) else false))
                            else False
                          else
                            bif bif decide (IntKind.wrap IntKind.i64 (a + f) ≤ a) then decide (IntKind.wrap IntKind.i64 (a + f) ≤ a) else true then
                              bif
                                  !bif decide (IntKind.wrap IntKind.i64 (a + f) ≤ a) then
                                      decide (IntKind.wrap IntKind.u64 (IntKind.wrap IntKind.u64 a - IntKind.wrap IntKind.u64 (IntKind.wrap IntKind.i64 (a + f))) < (2 : Int))
                                    else false then
                                bif bif decide (a ≤ IntKind.wrap IntKind.i64 (a + f)) then decide (a ≤ IntKind.wrap IntKind.i64 (a + f)) else true then
                                  bif
                                      bif
                                          bif decide (IntKind.wrap IntKind.i64 (a + f) ≤ a) then
                                            decide (IntKind.wrap IntKind.u64 (IntKind.wrap IntKind.u64 a - IntKind.wrap IntKind.u64 (IntKind.wrap IntKind.i64 (a + f))) < (2 : Int))
                                          else false then
                                        true
                                      else
                                        bif decide (a ≤ IntKind.wrap IntKind.i64 (a + f)) then
                                          decide (IntKind.wrap IntKind.u64 (IntKind.wrap IntKind.u64 (IntKind.wrap IntKind.i64 (a + f)) - IntKind.wrap IntKind.u64 a) < (4 : Int))
                                        else false then
                                    bif bif bif decide (f ≥ (4 : Int)) then true else decide (f ≤ (-2 : Int)) then bif decide (f ≥ (4 : Int)) then true else decide (f ≤ (-2 : Int)) else true then
                                      K (XV.bool (false == bif bif decide (f ≥ (4 : Int)) then true else decide (f ≤ (-2 : Int)) then decide (s < t) else false))
                                    else False
                                  else
                                    bif bif bif decide (f ≥ (4 : Int)) then true else decide (f ≤ (-2 : Int)) then bif decide (f ≥ (4 : Int)) then true else decide (f ≤ (-2 : Int)) else true then
                                      K (XV.bool (true == bif bif decide (f ≥ (4 : Int)) then true else decide (f ≤ (-2 : Int)) then decide (s < t) else false))
                                    else False
                                else False
                              else
                                bif
                                    bif
                                        bif decide (IntKind.wrap IntKind.i64 (a + f) ≤ a) then
                                          decide (IntKind.wrap IntKind.u64 (IntKind.wrap IntKind.u64 a - IntKind.wrap IntKind.u64 (IntKind.wrap IntKind.i64 (a + f))) < (2 : Int))
                                        else false then
                                      true
                                    else false then
                                  bif bif bif decide (f ≥ (4 : Int)) then true else decide (f ≤ (-2 : Int)) then bif decide (f ≥ (4 : Int)) then true else decide (f ≤ (-2 : Int)) else true then
                                    K (XV.bool (false == bif bif decide (f ≥ (4 : Int)) then true else decide (f ≤ (-2 : Int)) then decide (s < t) else false))
                                  else False
                                else False
                            else False
                      else False
                  else False
                else False
            else False
          else False
        else False
      else False
    else False
  else False
else False) := by kernel_rfl
theorem traps_pure (s t a f w : Int) : Pure Try.prog 5 (cons [.int .i64 s, .int .i64 t, .int .i64 a, .int .i64 f, .int .u32 w]) (con (.bool true)) := by
  refine pureX (u := 80) (k := 20) mix TKok ?_
  rw [r_traps]
  simp only [pk_or, pk_and, cond_true]
  refine cnd2 (fun h => trivial) (fun h => ?_)
  simp only [Bool.cond_true_left, Bool.cond_false_right, Bool.cond_true_right, Bool.cond_false_left, Bool.or_eq_false_iff, Bool.or_eq_true, Bool.and_eq_true, Bool.and_eq_false_iff, decide_eq_false_iff_not, decide_eq_true_eq, Bool.not_eq_true', Bool.not_eq_false', Bool.not_not, Int.not_lt, Int.not_le, gt_iff_lt, ge_iff_le] at h
  obtain ⟨⟨⟨⟨⟨⟨⟨h1, h2⟩, h3⟩, h4⟩, h5⟩, h6⟩, h7⟩, h8⟩ := h
  have w1 : IntKind.i64.wrap (a + f) = a + f := wrap_i64 (by omega) (by omega)
  rw [w1]
  have c2 : f ≤ 0 → IntKind.u64.wrap (IntKind.u64.wrap a - IntKind.u64.wrap (a + f)) = -f := fun h => by rw [wU64, wU64, wU64]; omega
  have c4 : 0 ≤ f → IntKind.u64.wrap (IntKind.u64.wrap (a + f) - IntKind.u64.wrap a) = f := fun h => by rw [wU64, wU64, wU64]; omega
  have hst : (s ≥ t ∧ ¬ s < t) ∨ (¬ s ≥ t ∧ s < t) := by omega
  have hf : (f ≤ -2) ∨ f = -1 ∨ f = 0 ∨ (1 ≤ f ∧ f ≤ 3) ∨ 4 ≤ f := by omega
  have hst' : (t ≤ s ∧ ¬ s < t) ∨ (¬ t ≤ s ∧ s < t) := by omega
  rcases hst' with ⟨k1, k2⟩ | ⟨k1, k2⟩ <;> rcases hf with g | g | g | g | g
  · have e1 : a + f ≤ a := by omega
    have e2 : ¬ a ≤ a + f := by omega
    have e3 : ¬ 4 ≤ f := by omega
    have e4 := c2 (by omega)
    have e5 : ¬ -f < 2 := by omega
    simp only [k1, k2, g, e1, e2, e3, e4, e5, beq_self_eq_true, decide_true, decide_false, cond_true, cond_false, allN_true, Nat.le_refl, Int.toNat_natCast, Nat.beq_refl, pk_and, pk_or, Bool.not_true, Bool.not_false, not_true_eq_false, not_false_eq_true, Bool.and_true, Bool.true_and, Bool.and_self, ge_iff_le, Int.le_refl, if_true, if_false, reduceCtorEq, eq_self, BEq.rfl]
    try rfl
  · have e1 : a + f ≤ a := by omega
    have e2 : ¬ a ≤ a + f := by omega
    have e3 : ¬ 4 ≤ f := by omega
    have e4 := c2 (by omega)
    have e5 : -f < 2 := by omega
    have e6 : ¬ f ≤ -2 := by omega
    simp only [k1, k2, e1, e2, e3, e4, e5, e6, beq_self_eq_true, decide_true, decide_false, cond_true, cond_false, allN_true, Nat.le_refl, Int.toNat_natCast, Nat.beq_refl, pk_and, pk_or, Bool.not_true, Bool.not_false, not_true_eq_false, not_false_eq_true, Bool.and_true, Bool.true_and, Bool.and_self, ge_iff_le, Int.le_refl, if_true, if_false, reduceCtorEq, eq_self, BEq.rfl]
    try rfl
  · have e1 : a + f ≤ a := by omega
    have e2 : a ≤ a + f := by omega
    have e3 : ¬ 4 ≤ f := by omega
    have e4 := c2 (by omega)
    have e5 : -f < 2 := by omega
    have e6 : ¬ f ≤ -2 := by omega
    simp only [k1, k2, e1, e2, e3, e4, e5, e6, beq_self_eq_true, decide_true, decide_false, cond_true, cond_false, allN_true, Nat.le_refl, Int.toNat_natCast, Nat.beq_refl, pk_and, pk_or, Bool.not_true, Bool.not_false, not_true_eq_false, not_false_eq_true, Bool.and_true, Bool.true_and, Bool.and_self, ge_iff_le, Int.le_refl, if_true, if_false, reduceCtorEq, eq_self, BEq.rfl]
    try rfl
  · have e1 : ¬ a + f ≤ a := by omega
    have e2 : a ≤ a + f := by omega
    have e3 : ¬ 4 ≤ f := by omega
    have e4 := c4 (by omega)
    have e5 : f < 4 := by omega
    have e6 : ¬ f ≤ -2 := by omega
    simp only [k1, k2, e1, e2, e3, e4, e5, e6, beq_self_eq_true, decide_true, decide_false, cond_true, cond_false, allN_true, Nat.le_refl, Int.toNat_natCast, Nat.beq_refl, pk_and, pk_or, Bool.not_true, Bool.not_false, not_true_eq_false, not_false_eq_true, Bool.and_true, Bool.true_and, Bool.and_self, ge_iff_le, Int.le_refl, if_true, if_false, reduceCtorEq, eq_self, BEq.rfl]
    try rfl
  · have e1 : ¬ a + f ≤ a := by omega
    have e2 : a ≤ a + f := by omega
    have e4 := c4 (by omega)
    have e5 : ¬ f < 4 := by omega
    have e6 : ¬ f ≤ -2 := by omega
    simp only [k1, k2, g, e1, e2, e4, e5, e6, beq_self_eq_true, decide_true, decide_false, cond_true, cond_false, allN_true, Nat.le_refl, Int.toNat_natCast, Nat.beq_refl, pk_and, pk_or, Bool.not_true, Bool.not_false, not_true_eq_false, not_false_eq_true, Bool.and_true, Bool.true_and, Bool.and_self, ge_iff_le, Int.le_refl, if_true, if_false, reduceCtorEq, eq_self, BEq.rfl]
    try rfl
  · have e1 : a + f ≤ a := by omega
    have e2 : ¬ a ≤ a + f := by omega
    have e3 : ¬ 4 ≤ f := by omega
    have e4 := c2 (by omega)
    have e5 : ¬ -f < 2 := by omega
    simp only [k1, k2, g, e1, e2, e3, e4, e5, beq_self_eq_true, decide_true, decide_false, cond_true, cond_false, allN_true, Nat.le_refl, Int.toNat_natCast, Nat.beq_refl, pk_and, pk_or, Bool.not_true, Bool.not_false, not_true_eq_false, not_false_eq_true, Bool.and_true, Bool.true_and, Bool.and_self, ge_iff_le, Int.le_refl, if_true, if_false, reduceCtorEq, eq_self, BEq.rfl]
    try rfl
  · have e1 : a + f ≤ a := by omega
    have e2 : ¬ a ≤ a + f := by omega
    have e3 : ¬ 4 ≤ f := by omega
    have e4 := c2 (by omega)
    have e5 : -f < 2 := by omega
    have e6 : ¬ f ≤ -2 := by omega
    simp only [k1, k2, e1, e2, e3, e4, e5, e6, beq_self_eq_true, decide_true, decide_false, cond_true, cond_false, allN_true, Nat.le_refl, Int.toNat_natCast, Nat.beq_refl, pk_and, pk_or, Bool.not_true, Bool.not_false, not_true_eq_false, not_false_eq_true, Bool.and_true, Bool.true_and, Bool.and_self, ge_iff_le, Int.le_refl, if_true, if_false, reduceCtorEq, eq_self, BEq.rfl]
    try rfl
  · have e1 : a + f ≤ a := by omega
    have e2 : a ≤ a + f := by omega
    have e3 : ¬ 4 ≤ f := by omega
    have e4 := c2 (by omega)
    have e5 : -f < 2 := by omega
    have e6 : ¬ f ≤ -2 := by omega
    simp only [k1, k2, e1, e2, e3, e4, e5, e6, beq_self_eq_true, decide_true, decide_false, cond_true, cond_false, allN_true, Nat.le_refl, Int.toNat_natCast, Nat.beq_refl, pk_and, pk_or, Bool.not_true, Bool.not_false, not_true_eq_false, not_false_eq_true, Bool.and_true, Bool.true_and, Bool.and_self, ge_iff_le, Int.le_refl, if_true, if_false, reduceCtorEq, eq_self, BEq.rfl]
    try rfl
  · have e1 : ¬ a + f ≤ a := by omega
    have e2 : a ≤ a + f := by omega
    have e3 : ¬ 4 ≤ f := by omega
    have e4 := c4 (by omega)
    have e5 : f < 4 := by omega
    have e6 : ¬ f ≤ -2 := by omega
    simp only [k1, k2, e1, e2, e3, e4, e5, e6, beq_self_eq_true, decide_true, decide_false, cond_true, cond_false, allN_true, Nat.le_refl, Int.toNat_natCast, Nat.beq_refl, pk_and, pk_or, Bool.not_true, Bool.not_false, not_true_eq_false, not_false_eq_true, Bool.and_true, Bool.true_and, Bool.and_self, ge_iff_le, Int.le_refl, if_true, if_false, reduceCtorEq, eq_self, BEq.rfl]
    try rfl
  · have e1 : ¬ a + f ≤ a := by omega
    have e2 : a ≤ a + f := by omega
    have e4 := c4 (by omega)
    have e5 : ¬ f < 4 := by omega
    have e6 : ¬ f ≤ -2 := by omega
    simp only [k1, k2, g, e1, e2, e4, e5, e6, beq_self_eq_true, decide_true, decide_false, cond_true, cond_false, allN_true, Nat.le_refl, Int.toNat_natCast, Nat.beq_refl, pk_and, pk_or, Bool.not_true, Bool.not_false, not_true_eq_false, not_false_eq_true, Bool.and_true, Bool.true_and, Bool.and_self, ge_iff_le, Int.le_refl, if_true, if_false, reduceCtorEq, eq_self, BEq.rfl]
    try rfl
end Go.Proofs.Ytbemlndjdbopeaa
namespace Go.Proofs.Ytbemlndjdbopeaa.commitTraps
open Go.Ra Go.ChangeShapes Go.WideShapes Go.ChangeAt Go.RowKit
open Go.ChangeMaps (open_string shut_string)
theorem own : ownKnob Try.prog.godebug = none := by kernel_rfl
def Ts : List Ty := [.int .i64, .int .i64, .int .i64, .int .i64, .int .u32]
theorem law (xs : List AV) (h : Ty.hasL Ts xs) : Pure Try.prog 5 xs (.sc (.bool true)) := by
  have h0 := h
  simp only [Ts, Ty.hasL] at h0
  obtain ⟨a, _, rfl, _, b, _, rfl, _, c, _, rfl, _, d, _, rfl, _, e, _, rfl, _, rfl⟩ := h0
  exact lawX h (traps_pure _ _ _ _ _)
set_option maxRecDepth 100000 in
theorem lifted (os : Os) (started : os.Started) (H : Type) (enc : TypeId × Value → H) :
    ReturnsInHanded {} Try.checked os 5 .any (Rows.commitTrapsSpec.pre6 enc Try.prog Try.f5 Rows.commitTrapsRow.domain false) (Rows.commitTrapsSpec.post enc Try.prog Try.f5 false true false false) := by
  refine returnsInHanded_of_change_sized (C := Try.checked) own started (by kernel_rfl) Try.func5
    (ChangeSpec.witness6 (enc := enc) (C := Try.checked) false ⟨#[], #[.int .i64 0, .int .i64 0, .int .i64 0, .int .i64 0, .int .u32 0], []⟩ 8 (by kernel_rfl) (by kernel_rfl) (by kernel_rfl) (by kernel_rfl)) ?_
  intro W base args ds gs before hval hW hcnd hsz _
  refine law_post (s := Rows.commitTrapsSpec) (n := 60) (Ts := Ts) (ts := [3, 3, 3, 3, 24]) (tb := 4) (by kernel_rfl) rfl rfl Try.underlying4 rfl (by kernel_rfl) (by kernel_rfl) (fun ds hds => ?_) law W base args ds gs before hval hW hsz
  match ds, hds with
  | [d1, d2, d3, d4, d5], _ => exact ⟨rfl, rfl, rfl⟩
theorem over : Rows.commitTrapsRow.holds Try.pinned (OpenSpec.ofChange Rows.commitTrapsSpec) :=
  OpenClaim.holds_of_wide 5 Try.f5 rfl rfl rfl rfl rfl rfl rfl ⟨rfl, rfl, rfl, rfl, rfl⟩ rfl rfl rfl rfl rfl (by kernel_rfl) Try.func5 (by kernel_rfl)
    (of_decide_eq_true (by kernel_rfl)) (by unfold Func.isWrapper; first | (rw [if_pos (by decide +kernel)]; kernel_rfl) | (rw [if_neg (by decide +kernel)]; exact ⟨rfl, rfl⟩))
    (fun os started H enc _ => lifted os started H enc)
theorem proved : Rows.CommitTrapsSaid := over
end Go.Proofs.Ytbemlndjdbopeaa.commitTraps
namespace Go.Proofs.Ytbemlndjdbopeaa
/-- The row, under a short name, for the claim. -/
theorem commitTraps_holds : Rows.CommitTrapsSaid := commitTraps.proved
end Go.Proofs.Ytbemlndjdbopeaa
#print axioms Go.Proofs.Ytbemlndjdbopeaa.commitTraps_holds
