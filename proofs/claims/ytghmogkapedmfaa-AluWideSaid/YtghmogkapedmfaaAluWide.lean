/- The highest and the lowest half of a product are that product; by 1, 0 and -1 it is what it should be. -/
import Derived.Test.YtghmogkapedmfaaRows
import Derived.Test.YtghmogkapedmfaaAl3
import Derived.WalkKit
import Derived.ProofKit
import Derived.OpenShut
import Derived.ShutString
import Derived.ChangeOld
import Derived.Below
import Derived.SizedLaws
namespace Go.Proofs.Ytghmogkapedmfaa
open Go.Ra
set_option linter.unusedVariables false
set_option linter.unusedSimpArgs false
theorem r_wide (a b : Int) (K : XV → Prop) : (quietGo TA3 80 (callI TA3 80 20) 9 [.int .u32 a, .int .u32 b] K) =
    (bif decide ((0 : Int) ≤ a) then
  bif decide (a ≤ (4294967295 : Int)) then
    bif decide ((0 : Int) ≤ b) then
      bif decide (b ≤ (4294967295 : Int)) then
        bif decide ((0 : Int) ≤ doI (12 : Int) (1 : Int) (2 : Int) (3 : Int) (0 : Int) a b) then
          bif decide (doI (12 : Int) (1 : Int) (2 : Int) (3 : Int) (0 : Int) a b ≤ (4294967295 : Int)) then
            bif decide ((0 : Int) ≤ a) then
              bif decide (a ≤ (4294967295 : Int)) then
                bif decide ((0 : Int) ≤ b) then
                  bif decide (b ≤ (4294967295 : Int)) then
                    bif decide ((0 : Int) ≤ a) then
                      bif decide (a ≤ (4294967295 : Int)) then
                        bif bif decide ((0 : Int) ≤ a) then true else false then
                          bif bif decide (a ≤ (4294967295 : Int)) then true else false then
                            bif bif decide ((0 : Int) ≤ b) then true else false then
                              bif bif decide (b ≤ (4294967295 : Int)) then true else false then
                                bif
                                    decide
                                      (IntKind.wrap IntKind.i64
                                          (IntKind.wrap IntKind.i64 (i32 (doI (12 : Int) (1 : Int) (2 : Int) (3 : Int) (0 : Int) a b) * (4294967296 : Int)) +
                                            IntKind.wrap IntKind.i64 (doI (11 : Int) (1 : Int) (2 : Int) (3 : Int) (0 : Int) a b)) =
                                        IntKind.wrap IntKind.i64 (i32 a * i32 b)) then
                                  bif decide ((0 : Int) ≤ a) then
                                    bif decide (a ≤ (4294967295 : Int)) then
                                      bif
                                          bif
                                              decide
                                                (IntKind.wrap IntKind.i64
                                                    (IntKind.wrap IntKind.i64 (i32 (doI (12 : Int) (1 : Int) (2 : Int) (3 : Int) (0 : Int) a b) * (4294967296 : Int)) +
                                                      IntKind.wrap IntKind.i64 (doI (11 : Int) (1 : Int) (2 : Int) (3 : Int) (0 : Int) a b)) =
                                                  IntKind.wrap IntKind.i64 (i32 a * i32 b)) then
                                            decide (doI (11 : Int) (1 : Int) (2 : Int) (3 : Int) (0 : Int) a (1 : Int) = a)
                                          else false then
                                        bif decide ((0 : Int) ≤ a) then
                                          bif decide (a ≤ (4294967295 : Int)) then
                                            bif
                                                bif
                                                    bif
                                                        decide
                                                          (IntKind.wrap IntKind.i64
                                                              (IntKind.wrap IntKind.i64 (i32 (doI (12 : Int) (1 : Int) (2 : Int) (3 : Int) (0 : Int) a b) * (4294967296 : Int)) +
                                                                IntKind.wrap IntKind.i64 (doI (11 : Int) (1 : Int) (2 : Int) (3 : Int) (0 : Int) a b)) =
                                                            IntKind.wrap IntKind.i64 (i32 a * i32 b)) then
                                                      decide (doI (11 : Int) (1 : Int) (2 : Int) (3 : Int) (0 : Int) a (1 : Int) = a)
                                                    else false then
                                                  decide (doI (11 : Int) (1 : Int) (2 : Int) (3 : Int) (0 : Int) a (0 : Int) = (0 : Int))
                                                else false then
                                              bif decide ((0 : Int) ≤ a) then
                                                bif decide (a ≤ (4294967295 : Int)) then
                                                  bif
                                                      bif
                                                          bif
                                                              bif
                                                                  decide
                                                                    (IntKind.wrap IntKind.i64
                                                                        (IntKind.wrap IntKind.i64 (i32 (doI (12 : Int) (1 : Int) (2 : Int) (3 : Int) (0 : Int) a b) * (4294967296 : Int)) +
                                                                          IntKind.wrap IntKind.i64 (doI (11 : Int) (1 : Int) (2 : Int) (3 : Int) (0 : Int) a b)) =
                                                                      IntKind.wrap IntKind.i64 (i32 a * i32 b)) then
                                                                decide (doI (11 : Int) (1 : Int) (2 : Int) (3 : Int) (0 : Int) a (1 : Int) = a)
                                                              else false then
                                                            decide (doI (11 : Int) (1 : Int) (2 : Int) (3 : Int) (0 : Int) a (0 : Int) = (0 : Int))
                                                          else false then
                                                        decide
                                                          (doI (11 : Int) (1 : Int) (2 : Int) (3 : Int) (0 : Int) a (4294967295 : Int) =
                                                            doI (2 : Int) (1 : Int) (2 : Int) (3 : Int) (0 : Int) (0 : Int) a)
                                                      else false then
                                                    bif decide ((0 : Int) ≤ a) then
                                                      bif decide (a ≤ (4294967295 : Int)) then
                                                        bif decide ((0 : Int) ≤ doI (2 : Int) (1 : Int) (2 : Int) (3 : Int) (0 : Int) (0 : Int) a) then
                                                          bif decide (doI (2 : Int) (1 : Int) (2 : Int) (3 : Int) (0 : Int) (0 : Int) a ≤ (4294967295 : Int)) then
                                                            K
                                                              (XV.bool
                                                                (bif
                                                                    bif
                                                                        bif
                                                                            bif
                                                                                decide
                                                                                  (IntKind.wrap IntKind.i64
                                                                                      (IntKind.wrap IntKind.i64
                                                                                          (i32 (doI (12 : Int) (1 : Int) (2 : Int) (3 : Int) (0 : Int) a b) * (4294967296 : Int)) +
                                                                                        IntKind.wrap IntKind.i64 (doI (11 : Int) (1 : Int) (2 : Int) (3 : Int) (0 : Int) a b)) =
                                                                                    IntKind.wrap IntKind.i64 (i32 a * i32 b)) then
                                                                              decide (doI (11 : Int) (1 : Int) (2 : Int) (3 : Int) (0 : Int) a (1 : Int) = a)
                                                                            else false then
                                                                          decide (doI (11 : Int) (1 : Int) (2 : Int) (3 : Int) (0 : Int) a (0 : Int) = (0 : Int))
                                                                        else false then
                                                                      decide
                                                                        (doI (11 : Int) (1 : Int) (2 : Int) (3 : Int) (0 : Int) a (4294967295 : Int) =
                                                                          doI (2 : Int) (1 : Int) (2 : Int) (3 : Int) (0 : Int) (0 : Int) a)
                                                                    else false then
                                                                  decide
                                                                    (doI (1 : Int) (1 : Int) (2 : Int) (3 : Int) (0 : Int) a (doI (2 : Int) (1 : Int) (2 : Int) (3 : Int) (0 : Int) (0 : Int) a) =
                                                                      (0 : Int))
                                                                else false))
                                                          else False
                                                        else False
                                                      else False
                                                    else False
                                                  else
                                                    bif
                                                        !bif
                                                              bif
                                                                  bif
                                                                      decide
                                                                        (IntKind.wrap IntKind.i64
                                                                            (IntKind.wrap IntKind.i64 (i32 (doI (12 : Int) (1 : Int) (2 : Int) (3 : Int) (0 : Int) a b) * (4294967296 : Int)) +
                                                                              IntKind.wrap IntKind.i64 (doI (11 : Int) (1 : Int) (2 : Int) (3 : Int) (0 : Int) a b)) =
                                                                          IntKind.wrap IntKind.i64 (i32 a * i32 b)) then
                                                                    decide (doI (11 : Int) (1 : Int) (2 : Int) (3 : Int) (0 : Int) a (1 : Int) = a)
                                                                  else false then
                                                                decide (doI (11 : Int) (1 : Int) (2 : Int) (3 : Int) (0 : Int) a (0 : Int) = (0 : Int))
                                                              else false then
                                                            decide
                                                              (doI (11 : Int) (1 : Int) (2 : Int) (3 : Int) (0 : Int) a (4294967295 : Int) =
                                                                doI (2 : Int) (1 : Int) (2 : Int) (3 : Int) (0 : Int) (0 : Int) a)
                                                          else false then
                                                      K (XV.bool false)
                                                    else False
                                                else False
                                              else False
                                            else
                                              bif
                                                  !bif
                                                        bif
                                                            decide
                                                              (IntKind.wrap IntKind.i64
                                                                  (IntKind.wrap IntKind.i64 (i32 (doI (12 : Int) (1 : Int) (2 : Int) (3 : Int) (0 : Int) a b) * (4294967296 : Int)) +
                                                                    IntKind.wrap IntKind.i64 (doI (11 : Int) (1 : Int) (2 : Int) (3 : Int) (0 : Int) a b)) =
                                                                IntKind.wrap IntKind.i64 (i32 a * i32 b)) then
                                                          decide (doI (11 : Int) (1 : Int) (2 : Int) (3 : Int) (0 : Int) a (1 : Int) = a)
                                                        else false then
                                                      decide (doI (11 : Int) (1 : Int) (2 : Int) (3 : Int) (0 : Int) a (0 : Int) = (0 : Int))
                                                    else false then
                                                K (XV.bool false)
                                              else False
                                          else False
                                        else False
                                      else
                                        bif
                                            !bif
                                                  decide
                                                    (IntKind.wrap IntKind.i64
                                                        (IntKind.wrap IntKind.i64 (i32 (doI (12 : Int) (1 : Int) (2 : Int) (3 : Int) (0 : Int) a b) * (4294967296 : Int)) +
                                                          IntKind.wrap IntKind.i64 (doI (11 : Int) (1 : Int) (2 : Int) (3 : Int) (0 : Int) a b)) =
                                                      IntKind.wrap IntKind.i64 (i32 a * i32 b)) then
                                                decide (doI (11 : Int) (1 : Int) (2 : Int) (3 : Int) (0 : Int) a (1 : Int) = a)
                                              else false then
                                          K (XV.bool false)
                                        else False
                                    else False
                                  else False
                                else
                                  bif
                                      !decide
                                          (IntKind.wrap IntKind.i64
                                              (IntKind.wrap IntKind.i64 (i32 (doI (12 : Int) (1 : Int) (2 : Int) (3 : Int) (0 : Int) a b) * (4294967296 : Int)) +
                                                IntKind.wrap IntKind.i64 (doI (11 : Int) (1 : Int) (2 : Int) (3 : Int) (0 : Int) a b)) =
                                            IntKind.wrap IntKind.i64 (i32 a * i32 b)) then
                                    K (XV.bool false)
                                  else False
                              else False
                            else False
                          else False
                        else False
                      else False
                    else False
                  else False
                else False
              else False
            else False
          else False
        else False
      else False
    else False
  else False
else False) := by kernel_rfl
theorem wide_pure (a b : Int) (h0 : 0 ≤ a) (h1 : a ≤ 4294967295) (h2 : 0 ≤ b) (h3 : b ≤ 4294967295) : Pure Try.prog 9 (cons [.int .u32 a, .int .u32 b]) (con (.bool true)) := by
  refine pureX (u := 80) (k := 20) mix TA3ok ?_
  rw [r_wide]
  have x1 : ∀ a b : Int, alW 1 a b = (a + b) % 4294967296 := fun _ _ => rfl
  have x2 : ∀ a b : Int, alW 2 a b = (a - b) % 4294967296 := fun _ _ => rfl
  have x11 : ∀ a b : Int, alW 11 a b = (a * b) % 4294967296 := fun _ _ => rfl
  have x12 : ∀ a b : Int, alW 12 a b = ((i32 a * i32 b) / 4294967296) % 4294967296 := fun _ _ => rfl
  have r1 := do_rng 12 1 2 3 0 h0 h1 h2 h3
  have r2 := do_rng 2 1 2 3 0 (show (0 : Int) ≤ 0 by omega) (show (0 : Int) ≤ 4294967295 by omega) h0 h1
  have f1 : decide (IntKind.i64.wrap (IntKind.i64.wrap (i32 (doI 12 1 2 3 0 a b) * 4294967296) + IntKind.i64.wrap (doI 11 1 2 3 0 a b)) = IntKind.i64.wrap (i32 a * i32 b)) = true := by
    refine decide_eq_true ?_
    rw [do_11, do_12, x11, x12, ← mul_mod a b]
    have hr := mul_rng (i32_rng a) (i32_rng b)
    unfold i32
    generalize IntKind.i32.wrap a * IntKind.i32.wrap b = t at *
    rw [wI32]
    have e1 : (t / 4294967296 % 4294967296 + 2147483648) % 4294967296 - 2147483648 = t / 4294967296 := by omega
    rw [e1, wrap_i64 (x := t) (by omega) (by omega), wrap_i64 (x := t / 4294967296 * 4294967296) (by omega) (by omega), wrap_i64 (x := t % 4294967296) (by omega) (by omega), wrap_i64 (by omega) (by omega)]
    omega
  have f2 : decide (doI 11 1 2 3 0 a 1 = a) = true := by rw [do_11, x11]; exact decide_eq_true (by omega)
  have f3 : decide (doI 11 1 2 3 0 a 0 = 0) = true := by rw [do_11, x11]; exact decide_eq_true (by omega)
  have f4 : decide (doI 11 1 2 3 0 a 4294967295 = doI 2 1 2 3 0 0 a) = true := by rw [do_11, do_2, x11, x2]; exact decide_eq_true (by omega)
  have f5 : decide (doI 1 1 2 3 0 a (doI 2 1 2 3 0 0 a) = 0) = true := by rw [do_1, do_2, x1, x2]; exact decide_eq_true (by omega)
  simp only [f1, f2, f3, f4, f5, r1.1, r1.2, r2.1, r2.2, h0, h1, h2, h3, decide_true, decide_false, cond_true, cond_false, allN_true, Nat.le_refl, Int.toNat_natCast, Nat.beq_refl, pk_and, pk_or, Bool.not_true, Bool.not_false, not_true_eq_false, not_false_eq_true, Bool.and_true, Bool.true_and, Bool.and_self, ge_iff_le, Int.le_refl, if_true, if_false, reduceCtorEq, eq_self, BEq.rfl]
end Go.Proofs.Ytghmogkapedmfaa
namespace Go.Proofs.Ytghmogkapedmfaa.aluWide
open Go.Ra Go.ChangeShapes Go.WideShapes Go.ChangeAt Go.RowKit
open Go.ChangeMaps (open_string shut_string)
theorem own : ownKnob Try.prog.godebug = none := by kernel_rfl
def Ts : List Ty := [.int .u32, .int .u32]
theorem law (xs : List AV) (h : Ty.hasL Ts xs) : Pure Try.prog 9 xs (.sc (.bool true)) := by
  have h0 := h
  simp only [Ts, Ty.hasL] at h0
  obtain ⟨a, _, rfl, ha, b, _, rfl, hb, rfl⟩ := h0
  exact lawX h (wide_pure _ _ (has_u32 ha).1 (has_u32 ha).2 (has_u32 hb).1 (has_u32 hb).2)
set_option maxRecDepth 100000 in
theorem lifted (os : Os) (started : os.Started) (H : Type) (enc : TypeId × Value → H) :
    ReturnsInHanded {} Try.checked os 9 .any (Rows.aluWideSpec.pre6 enc Try.prog Try.f9 Rows.aluWideRow.domain false) (Rows.aluWideSpec.post enc Try.prog Try.f9 false true false false) := by
  refine returnsInHanded_of_change_sized (C := Try.checked) own started (by kernel_rfl) Try.func9
    (ChangeSpec.witness6 (enc := enc) (C := Try.checked) false ⟨#[], #[.int .u32 0, .int .u32 0], []⟩ 8 (by kernel_rfl) (by kernel_rfl) (by kernel_rfl) (by kernel_rfl)) ?_
  intro W base args ds gs before hval hW hcnd hsz _
  refine law_post (s := Rows.aluWideSpec) (n := 60) (Ts := Ts) (ts := [24, 24]) (tb := 4) (by kernel_rfl) rfl rfl Try.underlying4 rfl (by kernel_rfl) (by kernel_rfl) (fun ds hds => ?_) law W base args ds gs before hval hW hsz
  match ds, hds with
  | [d1, d2], _ => exact ⟨rfl, rfl, rfl⟩
theorem over : Rows.aluWideRow.holds Try.pinned (OpenSpec.ofChange Rows.aluWideSpec) :=
  OpenClaim.holds_of_wide 9 Try.f9 rfl rfl rfl rfl rfl rfl rfl ⟨rfl, rfl, rfl, rfl, rfl⟩ rfl rfl rfl rfl rfl (by kernel_rfl) Try.func9 (by kernel_rfl)
    (of_decide_eq_true (by kernel_rfl)) (by unfold Func.isWrapper; first | (rw [if_pos (by decide +kernel)]; kernel_rfl) | (rw [if_neg (by decide +kernel)]; exact ⟨rfl, rfl⟩))
    (fun os started H enc _ => lifted os started H enc)
theorem proved : Rows.AluWideSaid := over
end Go.Proofs.Ytghmogkapedmfaa.aluWide
namespace Go.Proofs.Ytghmogkapedmfaa
/-- The row, under a short name, for the claim. -/
theorem aluWide_holds : Rows.AluWideSaid := aluWide.proved
end Go.Proofs.Ytghmogkapedmfaa
#print axioms Go.Proofs.Ytghmogkapedmfaa.aluWide_holds
