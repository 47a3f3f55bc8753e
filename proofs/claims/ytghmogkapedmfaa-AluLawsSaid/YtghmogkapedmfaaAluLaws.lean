/- Sums can be taken off, products and sums are one in either order, and not, and, or, xor go together as they should. -/
import Derived.Test.YtghmogkapedmfaaRows
import Derived.Test.YtghmogkapedmfaaAl3
import Derived.WalkKit
import Derived.ProofKit
import Derived.OpenShut
import Derived.ShutString
import Derived.ChangeOld
import Derived.Below
import Derived.SizedLaws
namespace Go.Proofs.Ytghmogkapedmfaa
open Go.Ra
set_option linter.unusedVariables false
set_option linter.unusedSimpArgs false
theorem r_laws (a b : Int) (K : XV → Prop) : (quietGo TA3 80 (callI TA3 80 20) 4 [.int .u32 a, .int .u32 b] K) =
    (bif decide ((0 : Int) ≤ a) then
  bif decide (a ≤ (4294967295 : Int)) then
    bif decide ((0 : Int) ≤ b) then
      bif decide (b ≤ (4294967295 : Int)) then
        bif decide ((0 : Int) ≤ doI (1 : Int) (1 : Int) (2 : Int) (3 : Int) (0 : Int) a b) then
          bif decide (doI (1 : Int) (1 : Int) (2 : Int) (3 : Int) (0 : Int) a b ≤ (4294967295 : Int)) then
            bif decide ((0 : Int) ≤ b) then
              bif decide (b ≤ (4294967295 : Int)) then
                bif decide (doI (2 : Int) (1 : Int) (2 : Int) (3 : Int) (0 : Int) (doI (1 : Int) (1 : Int) (2 : Int) (3 : Int) (0 : Int) a b) b = a) then
                  bif decide ((0 : Int) ≤ b) then
                    bif decide (b ≤ (4294967295 : Int)) then
                      bif decide ((0 : Int) ≤ a) then
                        bif decide (a ≤ (4294967295 : Int)) then
                          bif
                              bif decide (doI (2 : Int) (1 : Int) (2 : Int) (3 : Int) (0 : Int) (doI (1 : Int) (1 : Int) (2 : Int) (3 : Int) (0 : Int) a b) b = a) then
                                decide (doI (1 : Int) (1 : Int) (2 : Int) (3 : Int) (0 : Int) a b = doI (1 : Int) (1 : Int) (2 : Int) (3 : Int) (0 : Int) b a)
                              else false then
                            bif decide ((0 : Int) ≤ a) then
                              bif decide (a ≤ (4294967295 : Int)) then
                                bif decide ((0 : Int) ≤ b) then
                                  bif decide (b ≤ (4294967295 : Int)) then
                                    bif decide ((0 : Int) ≤ b) then
                                      bif decide (b ≤ (4294967295 : Int)) then
                                        bif decide ((0 : Int) ≤ a) then
                                          bif decide (a ≤ (4294967295 : Int)) then
                                            bif
                                                bif
                                                    bif decide (doI (2 : Int) (1 : Int) (2 : Int) (3 : Int) (0 : Int) (doI (1 : Int) (1 : Int) (2 : Int) (3 : Int) (0 : Int) a b) b = a) then
                                                      decide (doI (1 : Int) (1 : Int) (2 : Int) (3 : Int) (0 : Int) a b = doI (1 : Int) (1 : Int) (2 : Int) (3 : Int) (0 : Int) b a)
                                                    else false then
                                                  decide (doI (11 : Int) (1 : Int) (2 : Int) (3 : Int) (0 : Int) a b = doI (11 : Int) (1 : Int) (2 : Int) (3 : Int) (0 : Int) b a)
                                                else false then
                                              bif decide ((0 : Int) ≤ a) then
                                                bif decide (a ≤ (4294967295 : Int)) then
                                                  bif decide ((0 : Int) ≤ b) then
                                                    bif decide (b ≤ (4294967295 : Int)) then
                                                      bif decide (doI (5 : Int) (1 : Int) (2 : Int) (3 : Int) (0 : Int) a b ≤ (4294967295 : Int)) then
                                                        bif decide ((0 : Int) ≤ b) then
                                                          bif decide (b ≤ (4294967295 : Int)) then
                                                            bif
                                                                bif
                                                                    bif
                                                                        bif
                                                                            decide
                                                                              (doI (2 : Int) (1 : Int) (2 : Int) (3 : Int) (0 : Int) (doI (1 : Int) (1 : Int) (2 : Int) (3 : Int) (0 : Int) a b) b =
                                                                                a) then
                                                                          decide (doI (1 : Int) (1 : Int) (2 : Int) (3 : Int) (0 : Int) a b = doI (1 : Int) (1 : Int) (2 : Int) (3 : Int) (0 : Int) b a)
                                                                        else false then
                                                                      decide (doI (11 : Int) (1 : Int) (2 : Int) (3 : Int) (0 : Int) a b = doI (11 : Int) (1 : Int) (2 : Int) (3 : Int) (0 : Int) b a)
                                                                    else false then
                                                                  decide (doI (5 : Int) (1 : Int) (2 : Int) (3 : Int) (0 : Int) (doI (5 : Int) (1 : Int) (2 : Int) (3 : Int) (0 : Int) a b) b = a)
                                                                else false then
                                                              bif decide ((0 : Int) ≤ a) then
                                                                bif decide (a ≤ (4294967295 : Int)) then
                                                                  bif decide ((0 : Int) ≤ b) then
                                                                    bif decide (b ≤ (4294967295 : Int)) then
                                                                      bif decide ((0 : Int) ≤ a) then
                                                                        bif decide (a ≤ (4294967295 : Int)) then
                                                                          bif decide ((0 : Int) ≤ b) then
                                                                            bif decide (b ≤ (4294967295 : Int)) then
                                                                              bif decide (doI (3 : Int) (1 : Int) (2 : Int) (3 : Int) (0 : Int) a b ≤ (4294967295 : Int)) then
                                                                                bif decide (doI (4 : Int) (1 : Int) (2 : Int) (3 : Int) (0 : Int) a b ≤ (4294967295 : Int)) then
                                                                                  bif
                                                                                      bif
                                                                                          bif
                                                                                              bif
                                                                                                  bif
                                                                                                      decide
                                                                                                        (doI (2 : Int) (1 : Int) (2 : Int) (3 : Int) (0 : Int)
                                                                                                            (doI (1 : Int) (1 : Int) (2 : Int) (3 : Int) (0 : Int) a b) b =
                                                                                                          a) then
                                                                                                    decide
                                                                                                      (doI (1 : Int) (1 : Int) (2 : Int) (3 : Int) (0 : Int) a b =
                                                                                                        doI (1 : Int) (1 : Int) (2 : Int) (3 : Int) (0 : Int) b a)
                                                                                                  else false then
                                                                                                decide
                                                                                                  (doI (11 : Int) (1 : Int) (2 : Int) (3 : Int) (0 : Int) a b =
                                                                                                    doI (11 : Int) (1 : Int) (2 : Int) (3 : Int) (0 : Int) b a)
                                                                                              else false then
                                                                                            decide
                                                                                              (doI (5 : Int) (1 : Int) (2 : Int) (3 : Int) (0 : Int)
                                                                                                  (doI (5 : Int) (1 : Int) (2 : Int) (3 : Int) (0 : Int) a b) b =
                                                                                                a)
                                                                                          else false then
                                                                                        decide
                                                                                          (doI (1 : Int) (1 : Int) (2 : Int) (3 : Int) (0 : Int)
                                                                                              (doI (3 : Int) (1 : Int) (2 : Int) (3 : Int) (0 : Int) a b)
                                                                                              (doI (4 : Int) (1 : Int) (2 : Int) (3 : Int) (0 : Int) a b) =
                                                                                            doI (1 : Int) (1 : Int) (2 : Int) (3 : Int) (0 : Int) a b)
                                                                                      else false then
                                                                                    bif decide ((0 : Int) ≤ a) then
                                                                                      bif decide (a ≤ (4294967295 : Int)) then
                                                                                        bif decide ((0 : Int) ≤ b) then
                                                                                          bif decide (b ≤ (4294967295 : Int)) then
                                                                                            bif decide ((0 : Int) ≤ a) then
                                                                                              bif decide (a ≤ (4294967295 : Int)) then
                                                                                                bif decide ((0 : Int) ≤ b) then
                                                                                                  bif decide (b ≤ (4294967295 : Int)) then
                                                                                                    bif decide (doI (4 : Int) (1 : Int) (2 : Int) (3 : Int) (0 : Int) a b ≤ (4294967295 : Int)) then
                                                                                                      bif decide (doI (3 : Int) (1 : Int) (2 : Int) (3 : Int) (0 : Int) a b ≤ (4294967295 : Int)) then
                                                                                                        bif decide ((0 : Int) ≤ a) then
                                                                                                          bif decide (a ≤ (4294967295 : Int)) then
                                                                                                            bif decide ((0 : Int) ≤ b) then
                                                                                                              bif decide (b ≤ (4294967295 : Int)) then
                                                                                                                K
                                                                                                                  (XV.bool
                                                                                                                    (bif
                                                                                                                        bif
                                                                                                                            bif
                                                                                                                                bif
                                                                                                                                    bif
                                                                                                                                        decide
                                                                                                                                          (doI (2 : Int) (1 : Int) (2 : Int) (3 : Int) (0 : Int)
                                                                                                                                              (doI (1 : Int) (1 : Int) (2 : Int) (3 : Int) (0 : Int) a
                                                                                                                                                b)
                                                                                                                                              b =
                                                                                                                                            a) then
                                                                                                                                      decide
                                                                                                                                        (doI (1 : Int) (1 : Int) (2 : Int) (3 : Int) (0 : Int) a b =
                                                                                                                                          doI (1 : Int) (1 : Int) (2 : Int) (3 : Int) (0 : Int) b a)
                                                                                                                                    else false then
                                                                                                                                  decide
                                                                                                                                    (doI (11 : Int) (1 : Int) (2 : Int) (3 : Int) (0 : Int) a b =
                                                                                                                                      doI (11 : Int) (1 : Int) (2 : Int) (3 : Int) (0 : Int) b a)
                                                                                                                                else false then
                                                                                                                              decide
                                                                                                                                (doI (5 : Int) (1 : Int) (2 : Int) (3 : Int) (0 : Int)
                                                                                                                                    (doI (5 : Int) (1 : Int) (2 : Int) (3 : Int) (0 : Int) a b) b =
                                                                                                                                  a)
                                                                                                                            else false then
                                                                                                                          decide
                                                                                                                            (doI (1 : Int) (1 : Int) (2 : Int) (3 : Int) (0 : Int)
                                                                                                                                (doI (3 : Int) (1 : Int) (2 : Int) (3 : Int) (0 : Int) a b)
                                                                                                                                (doI (4 : Int) (1 : Int) (2 : Int) (3 : Int) (0 : Int) a b) =
                                                                                                                              doI (1 : Int) (1 : Int) (2 : Int) (3 : Int) (0 : Int) a b)
                                                                                                                        else false then
                                                                                                                      decide
                                                                                                                        (doI (2 : Int) (1 : Int) (2 : Int) (3 : Int) (0 : Int)
                                                                                                                            (doI (4 : Int) (1 : Int) (2 : Int) (3 : Int) (0 : Int) a b)
                                                                                                                            (doI (3 : Int) (1 : Int) (2 : Int) (3 : Int) (0 : Int) a b) =
                                                                                                                          doI (5 : Int) (1 : Int) (2 : Int) (3 : Int) (0 : Int) a b)
                                                                                                                    else false))
                                                                                                              else False
                                                                                                            else False
                                                                                                          else False
                                                                                                        else False
                                                                                                      else False
                                                                                                    else False
                                                                                                  else False
                                                                                                else False
                                                                                              else False
                                                                                            else False
                                                                                          else False
                                                                                        else False
                                                                                      else False
                                                                                    else False
                                                                                  else
                                                                                    bif
                                                                                        !bif
                                                                                              bif
                                                                                                  bif
                                                                                                      bif
                                                                                                          decide
                                                                                                            (doI (2 : Int) (1 : Int) (2 : Int) (3 : Int) (0 : Int)
                                                                                                                (doI (1 : Int) (1 : Int) (2 : Int) (3 : Int) (0 : Int) a b) b =
                                                                                                              a) then
                                                                                                        decide
                                                                                                          (doI (1 : Int) (1 : Int) (2 : Int) (3 : Int) (0 : Int) a b =
                                                                                                            doI (1 : Int) (1 : Int) (2 : Int) (3 : Int) (0 : Int) b a)
                                                                                                      else false then
                                                                                                    decide
                                                                                                      (doI (11 : Int) (1 : Int) (2 : Int) (3 : Int) (0 : Int) a b =
                                                                                                        doI (11 : Int) (1 : Int) (2 : Int) (3 : Int) (0 : Int) b a)
                                                                                                  else false then
                                                                                                decide
                                                                                                  (doI (5 : Int) (1 : Int) (2 : Int) (3 : Int) (0 : Int)
                                                                                                      (doI (5 : Int) (1 : Int) (2 : Int) (3 : Int) (0 : Int) a b) b =
                                                                                                    a)
                                                                                              else false then
                                                                                            decide
                                                                                              (doI (1 : Int) (1 : Int) (2 : Int) (3 : Int) (0 : Int)
                                                                                                  (doI (3 : Int) (1 : Int) (2 : Int) (3 : Int) (0 : Int) a b)
                                                                                                  (doI (4 : Int) (1 : Int) (2 : Int) (3 : Int) (0 : Int) a b) =
                                                                                                doI (1 : Int) (1 : Int) (2 : Int) (3 : Int) (0 : Int) a b)
                                                                                          else false then
                                                                                      K (XV.bool false)
                                                                                    else False
                                                                                else False
                                                                              else False
                                                                            else False
                                                                          else False
                                                                        else False
                                                                      else False
                                                                    else False
                                                                  else False
                                                                else False
                                                              else False
                                                            else
                                                              bif
                                                                  !bif
                                                                        bif
                                                                            bif
                                                                                decide
                                                                                  (doI (2 : Int) (1 : Int) (2 : Int) (3 : Int) (0 : Int) (doI (1 : Int) (1 : Int) (2 : Int) (3 : Int) (0 : Int) a b) b =
                                                                                    a) then
                                                                              decide
                                                                                (doI (1 : Int) (1 : Int) (2 : Int) (3 : Int) (0 : Int) a b = doI (1 : Int) (1 : Int) (2 : Int) (3 : Int) (0 : Int) b a)
                                                                            else false then
                                                                          decide
                                                                            (doI (11 : Int) (1 : Int) (2 : Int) (3 : Int) (0 : Int) a b = doI (11 : Int) (1 : Int) (2 : Int) (3 : Int) (0 : Int) b a)
                                                                        else false then
                                                                      decide (doI (5 : Int) (1 : Int) (2 : Int) (3 : Int) (0 : Int) (doI (5 : Int) (1 : Int) (2 : Int) (3 : Int) (0 : Int) a b) b = a)
                                                                    else false then
                                                                K (XV.bool false)
                                                              else False
                                                          else False
                                                        else False
                                                      else False
                                                    else False
                                                  else False
                                                else False
                                              else False
                                            else
                                              bif
                                                  !bif
                                                        bif decide (doI (2 : Int) (1 : Int) (2 : Int) (3 : Int) (0 : Int) (doI (1 : Int) (1 : Int) (2 : Int) (3 : Int) (0 : Int) a b) b = a) then
                                                          decide (doI (1 : Int) (1 : Int) (2 : Int) (3 : Int) (0 : Int) a b = doI (1 : Int) (1 : Int) (2 : Int) (3 : Int) (0 : Int) b a)
                                                        else false then
                                                      decide (doI (11 : Int) (1 : Int) (2 : Int) (3 : Int) (0 : Int) a b = doI (11 : Int) (1 : Int) (2 : Int) (3 : Int) (0 : Int) b a)
                                                    else false then
                                                K (XV.bool false)
                                              else False
                                          else False
                                        else False
                                      else False
                                    else False
                                  else False
                                else False
                              else False
                            else False
                          else
                            bif
                                !bif decide (doI (2 : Int) (1 : Int) (2 : Int) (3 : Int) (0 : Int) (doI (1 : Int) (1 : Int) (2 : Int) (3 : Int) (0 : Int) a b) b = a) then
                                    decide (doI (1 : Int) (1 : Int) (2 : Int) (3 : Int) (0 : Int) a b = doI (1 : Int) (1 : Int) (2 : Int) (3 : Int) (0 : Int) b a)
                                  else false then
                              K (XV.bool false)
                            else False
                        else False
                      else False
                    else False
                  else False
                else bif !decide (doI (2 : Int) (1 : Int) (2 : Int) (3 : Int) (0 : Int) (doI (1 : Int) (1 : Int) (2 : Int) (3 : Int) (0 : Int) a b) b = a) then K (XV.bool false) else False
              else False
            else False
          else False
        else False
      else False
    else False
  else False
else False) := by kernel_rfl
theorem laws_pure (a b : Int) (h0 : 0 ≤ a) (h1 : a ≤ 4294967295) (h2 : 0 ≤ b) (h3 : b ≤ 4294967295) : Pure Try.prog 4 (cons [.int .u32 a, .int .u32 b]) (con (.bool true)) := by
  refine pureX (u := 80) (k := 20) mix TA3ok ?_
  rw [r_laws]
  have r := fun op => do_rng op 1 2 3 0 h0 h1 h2 h3
  have r1 := (r 1).1
  have r2 := (r 1).2
  have r3 := (r 3).2
  have r4 := (r 4).2
  have r5 := (r 5).2
  obtain ⟨A, rfl⟩ := Int.eq_ofNat_of_zero_le h0
  obtain ⟨B, rfl⟩ := Int.eq_ofNat_of_zero_le h2
  have hA : A < 4294967296 := by omega
  have hB : B < 4294967296 := by omega
  obtain ⟨s1, s2⟩ := bits_sum A A B (Nat.le_refl _)
  have x1 : ∀ a b : Int, alW 1 a b = (a + b) % 4294967296 := fun _ _ => rfl
  have x2 : ∀ a b : Int, alW 2 a b = (a - b) % 4294967296 := fun _ _ => rfl
  have x3 : ∀ a b : Int, alW 3 a b = bitsI .and .u32 a b := fun _ _ => rfl
  have x4 : ∀ a b : Int, alW 4 a b = bitsI .or .u32 a b := fun _ _ => rfl
  have x5 : ∀ a b : Int, alW 5 a b = bitsI .xor .u32 a b := fun _ _ => rfl
  have x11 : ∀ a b : Int, alW 11 a b = (a * b) % 4294967296 := fun _ _ => rfl
  have f1 : decide (doI 2 1 2 3 0 (doI 1 1 2 3 0 A B) B = A) = true := by rw [do_2, do_1, x1, x2]; exact decide_eq_true (by omega)
  have f2 : decide (doI 1 1 2 3 0 A B = doI 1 1 2 3 0 B A) = true := by rw [do_1, do_1, x1, x1, Int.add_comm]; exact decide_eq_true rfl
  have f3 : decide (doI 11 1 2 3 0 A B = doI 11 1 2 3 0 B A) = true := by rw [do_11, do_11, x11, x11, Int.mul_comm]; exact decide_eq_true rfl
  have f4 : decide (doI 5 1 2 3 0 (doI 5 1 2 3 0 A B) B = A) = true := by
    rw [do_5, do_5, x5, x5, bXor hA hB, bXor (xor_lt hA hB) hB, Nat.xor_assoc, Nat.xor_self, Nat.xor_zero]; exact decide_eq_true rfl
  have f5 : decide (doI 1 1 2 3 0 (doI 3 1 2 3 0 A B) (doI 4 1 2 3 0 A B) = doI 1 1 2 3 0 A B) = true := by
    rw [do_1, do_1, do_3, do_4, x1, x1, x3, x4, bAnd hA hB, bOr hA hB]; exact decide_eq_true (by omega)
  have f6 : decide (doI 2 1 2 3 0 (doI 4 1 2 3 0 A B) (doI 3 1 2 3 0 A B) = doI 5 1 2 3 0 A B) = true := by
    rw [do_2, do_3, do_4, do_5, x2, x3, x4, x5, bAnd hA hB, bOr hA hB, bXor hA hB]
    have := xor_lt hA hB
    exact decide_eq_true (by omega)
  simp only [f1, f2, f3, f4, f5, f6, h0, h1, h2, h3, r1, r2, r3, r4, r5, decide_true, decide_false, cond_true, cond_false, allN_true, Nat.le_refl, Int.toNat_natCast, Nat.beq_refl, pk_and, pk_or, Bool.not_true, Bool.not_false, not_true_eq_false, not_false_eq_true, Bool.and_true, Bool.true_and, Bool.and_self, ge_iff_le, Int.le_refl, if_true, if_false, reduceCtorEq, eq_self, BEq.rfl]
end Go.Proofs.Ytghmogkapedmfaa
namespace Go.Proofs.Ytghmogkapedmfaa.aluLaws
open Go.Ra Go.ChangeShapes Go.WideShapes Go.ChangeAt Go.RowKit
open Go.ChangeMaps (open_string shut_string)
theorem own : ownKnob Try.prog.godebug = none := by kernel_rfl
def Ts : List Ty := [.int .u32, .int .u32]
theorem law (xs : List AV) (h : Ty.hasL Ts xs) : Pure Try.prog 4 xs (.sc (.bool true)) := by
  have h0 := h
  simp only [Ts, Ty.hasL] at h0
  obtain ⟨a, _, rfl, ha, b, _, rfl, hb, rfl⟩ := h0
  exact lawX h (laws_pure _ _ (has_u32 ha).1 (has_u32 ha).2 (has_u32 hb).1 (has_u32 hb).2)
set_option maxRecDepth 100000 in
theorem lifted (os : Os) (started : os.Started) (H : Type) (enc : TypeId × Value → H) :
    ReturnsInHanded {} Try.checked os 4 .any (Rows.aluLawsSpec.pre6 enc Try.prog Try.f4 Rows.aluLawsRow.domain false) (Rows.aluLawsSpec.post enc Try.prog Try.f4 false true false false) := by
  refine returnsInHanded_of_change_sized (C := Try.checked) own started (by kernel_rfl) Try.func4
    (ChangeSpec.witness6 (enc := enc) (C := Try.checked) false ⟨#[], #[.int .u32 0, .int .u32 0], []⟩ 8 (by kernel_rfl) (by kernel_rfl) (by kernel_rfl) (by kernel_rfl)) ?_
  intro W base args ds gs before hval hW hcnd hsz _
  refine law_post (s := Rows.aluLawsSpec) (n := 60) (Ts := Ts) (ts := [24, 24]) (tb := 4) (by kernel_rfl) rfl rfl Try.underlying4 rfl (by kernel_rfl) (by kernel_rfl) (fun ds hds => ?_) law W base args ds gs before hval hW hsz
  match ds, hds with
  | [d1, d2], _ => exact ⟨rfl, rfl, rfl⟩
theorem over : Rows.aluLawsRow.holds Try.pinned (OpenSpec.ofChange Rows.aluLawsSpec) :=
  OpenClaim.holds_of_wide 4 Try.f4 rfl rfl rfl rfl rfl rfl rfl ⟨rfl, rfl, rfl, rfl, rfl⟩ rfl rfl rfl rfl rfl (by kernel_rfl) Try.func4 (by kernel_rfl)
    (of_decide_eq_true (by kernel_rfl)) (by unfold Func.isWrapper; first | (rw [if_pos (by decide +kernel)]; kernel_rfl) | (rw [if_neg (by decide +kernel)]; exact ⟨rfl, rfl⟩))
    (fun os started H enc _ => lifted os started H enc)
theorem proved : Rows.AluLawsSaid := over
end Go.Proofs.Ytghmogkapedmfaa.aluLaws
namespace Go.Proofs.Ytghmogkapedmfaa
/-- The row, under a short name, for the claim. -/
theorem aluLaws_holds : Rows.AluLawsSaid := aluLaws.proved
end Go.Proofs.Ytghmogkapedmfaa
#print axioms Go.Proofs.Ytghmogkapedmfaa.aluLaws_holds
