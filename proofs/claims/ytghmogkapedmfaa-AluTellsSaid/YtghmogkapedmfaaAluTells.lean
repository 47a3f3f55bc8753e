/- What any instruction reckons, which branch is taken, and how long it takes. -/
import Derived.Test.YtghmogkapedmfaaRows
import Derived.Test.YtghmogkapedmfaaAl3
import Derived.WalkKit
import Derived.ProofKit
import Derived.OpenShut
import Derived.ShutString
import Derived.ChangeOld
import Derived.Below
import Derived.SizedLaws
namespace Go.Proofs.Ytghmogkapedmfaa
open Go.Ra
set_option linter.unusedVariables false
set_option linter.unusedSimpArgs false
theorem r_tel (op d x y m a b o c0 c1 c2 c3 c4 c5 c6 c7 c8 c9 ca cb : Int) (K : XV → Prop) : (quietGo TA4 80 (callI TA4 80 20) 3 [.agg 5 [.int .i64 op, .int .i64 d, .int .i64 x, .int .i64 y, .int .i64 m], .int .u32 a, .int .u32 b, .int .i64 o, .agg 12 [.int .i64 c0, .int .i64 c1, .int .i64 c2, .int .i64 c3, .int .i64 c4, .int .i64 c5, .int .i64 c6, .int .i64 c7, .int .i64 c8, .int .i64 c9, .int .i64 ca, .int .i64 cb]] K) =
    (bif decide ((0 : Int) ≤ a) then
  bif decide (a ≤ (4294967295 : Int)) then
    bif decide ((0 : Int) ≤ b) then
      bif decide (b ≤ (4294967295 : Int)) then
        bif decide ((0 : Int) ≤ a) then
          bif decide (a ≤ (4294967295 : Int)) then
            bif decide ((0 : Int) ≤ b) then
              bif decide (b ≤ (4294967295 : Int)) then
                bif bif decide (doI op d x y m a b = doI op d x y m a b) then decide (doI op d x y m a b = doI op d x y m a b) else true then
                  bif bif decide ((0 : Int) ≤ a) then true else !bif decide (doI op d x y m a b = doI op d x y m a b) then dkB op d x y m b == dkB op d x y m b else false then
                    bif bif decide (a ≤ (4294967295 : Int)) then true else !bif decide (doI op d x y m a b = doI op d x y m a b) then dkB op d x y m b == dkB op d x y m b else false then
                      bif bif decide ((0 : Int) ≤ b) then true else !bif decide (doI op d x y m a b = doI op d x y m a b) then dkB op d x y m b == dkB op d x y m b else false then
                        bif bif decide (b ≤ (4294967295 : Int)) then true else !bif decide (doI op d x y m a b = doI op d x y m a b) then dkB op d x y m b == dkB op d x y m b else false then
                          bif bif decide ((0 : Int) ≤ a) then true else !bif decide (doI op d x y m a b = doI op d x y m a b) then dkB op d x y m b == dkB op d x y m b else false then
                            bif bif decide (a ≤ (4294967295 : Int)) then true else !bif decide (doI op d x y m a b = doI op d x y m a b) then dkB op d x y m b == dkB op d x y m b else false then
                              bif bif decide ((0 : Int) ≤ b) then true else !bif decide (doI op d x y m a b = doI op d x y m a b) then dkB op d x y m b == dkB op d x y m b else false then
                                bif bif decide (b ≤ (4294967295 : Int)) then true else !bif decide (doI op d x y m a b = doI op d x y m a b) then dkB op d x y m b == dkB op d x y m b else false then
                                  bif
                                      bif bif decide (doI op d x y m a b = doI op d x y m a b) then dkB op d x y m b == dkB op d x y m b else false then
                                        bif decide (doI op d x y m a b = doI op d x y m a b) then dkB op d x y m b == dkB op d x y m b else false
                                      else true then
                                    bif
                                        bif bif bif decide (doI op d x y m a b = doI op d x y m a b) then dkB op d x y m b == dkB op d x y m b else false then tkB o a b == tkB o a b else false then
                                          bif bif decide (doI op d x y m a b = doI op d x y m a b) then dkB op d x y m b == dkB op d x y m b else false then tkB o a b == tkB o a b else false
                                        else true then
                                      K
                                        (XV.bool
                                          (bif bif bif decide (doI op d x y m a b = doI op d x y m a b) then dkB op d x y m b == dkB op d x y m b else false then tkB o a b == tkB o a b else false then
                                            decide (ltI ca cb o = ltI ca cb o)
                                          else false))
                                    else False
                                  else False
                                else False
                              else False
                            else False
                          else False
                        else False
                      else False
                    else False
                  else False
                else False
              else False
            else False
          else False
        else False
      else False
    else False
  else False
else False) := by kernel_rfl
theorem tells_pure (op d x y m a b o c0 c1 c2 c3 c4 c5 c6 c7 c8 c9 ca cb : Int) (h0 : 0 ≤ a) (h1 : a ≤ 4294967295) (h2 : 0 ≤ b) (h3 : b ≤ 4294967295) : Pure Try.prog 3 (cons [.agg 5 [.int .i64 op, .int .i64 d, .int .i64 x, .int .i64 y, .int .i64 m], .int .u32 a, .int .u32 b, .int .i64 o, .agg 12 [.int .i64 c0, .int .i64 c1, .int .i64 c2, .int .i64 c3, .int .i64 c4, .int .i64 c5, .int .i64 c6, .int .i64 c7, .int .i64 c8, .int .i64 c9, .int .i64 ca, .int .i64 cb]]) (con (.bool true)) := by
  refine pureX (u := 80) (k := 20) mix TA4ok ?_
  rw [r_tel]
  simp only [h0, h1, h2, h3, beq_self_eq_true, decide_true, decide_false, cond_true, cond_false, allN_true, Nat.le_refl, Int.toNat_natCast, Nat.beq_refl, pk_and, pk_or, Bool.not_true, Bool.not_false, not_true_eq_false, not_false_eq_true, Bool.and_true, Bool.true_and, Bool.and_self, ge_iff_le, Int.le_refl, if_true, if_false, reduceCtorEq, eq_self, BEq.rfl]
end Go.Proofs.Ytghmogkapedmfaa
namespace Go.Proofs.Ytghmogkapedmfaa.aluTells
open Go.Ra Go.ChangeShapes Go.WideShapes Go.ChangeAt Go.RowKit
open Go.ChangeMaps (open_string shut_string)
theorem own : ownKnob Try.prog.godebug = none := by kernel_rfl
def Ts : List Ty := [.agg 5 [.int .i64, .int .i64, .int .i64, .int .i64, .int .i64], .int .u32, .int .u32, .int .i64, .agg 12 [.int .i64, .int .i64, .int .i64, .int .i64, .int .i64, .int .i64, .int .i64, .int .i64, .int .i64, .int .i64, .int .i64, .int .i64]]
theorem law (xs : List AV) (h : Ty.hasL Ts xs) : Pure Try.prog 3 xs (.sc (.bool true)) := by
  have h0 := h
  simp only [Ts, Ty.hasL] at h0
  obtain ⟨i, _, rfl, hi, a, _, rfl, ha, b, _, rfl, hb, o, _, rfl, _, c, _, rfl, _, rfl⟩ := h0
  exact lawX h (tells_pure _ _ _ _ _ _ _ _ _ _ _ _ _ _ _ _ _ _ _ _ (has_u32 ha).1 (has_u32 ha).2 (has_u32 hb).1 (has_u32 hb).2)
set_option maxRecDepth 100000 in
theorem lifted (os : Os) (started : os.Started) (H : Type) (enc : TypeId × Value → H) :
    ReturnsInHanded {} Try.checked os 3 .any (Rows.aluTellsSpec.pre6 enc Try.prog Try.f3 Rows.aluTellsRow.domain false) (Rows.aluTellsSpec.post enc Try.prog Try.f3 false true false false) := by
  refine returnsInHanded_of_change_sized (C := Try.checked) own started (by kernel_rfl) Try.func3
    (ChangeSpec.witness6 (enc := enc) (C := Try.checked) false ⟨#[], #[.agg #[.int .i64 0, .int .i64 0, .int .i64 0, .int .i64 0, .int .i64 0], .int .u32 0, .int .u32 0, .int .i64 0, .agg #[.int .i64 0, .int .i64 0, .int .i64 0, .int .i64 0, .int .i64 0, .int .i64 0, .int .i64 0, .int .i64 0, .int .i64 0, .int .i64 0, .int .i64 0, .int .i64 0]], []⟩ 8 (by kernel_rfl) (by kernel_rfl) (by kernel_rfl) (by kernel_rfl)) ?_
  intro W base args ds gs before hval hW hcnd hsz _
  refine law_post (s := Rows.aluTellsSpec) (n := 60) (Ts := Ts) (ts := [23, 24, 24, 3, 26]) (tb := 4) (by kernel_rfl) rfl rfl Try.underlying4 rfl (by kernel_rfl) (by kernel_rfl) (fun ds hds => ?_) law W base args ds gs before hval hW hsz
  match ds, hds with
  | [d1, d2, d3, d4, d5], _ => exact ⟨rfl, rfl, rfl⟩
theorem over : Rows.aluTellsRow.holds Try.pinned (OpenSpec.ofChange Rows.aluTellsSpec) :=
  OpenClaim.holds_of_wide 3 Try.f3 rfl rfl rfl rfl rfl rfl rfl ⟨rfl, rfl, rfl, rfl, rfl⟩ rfl rfl rfl rfl rfl (by kernel_rfl) Try.func3 (by kernel_rfl)
    (of_decide_eq_true (by kernel_rfl)) (by unfold Func.isWrapper; first | (rw [if_pos (by decide +kernel)]; kernel_rfl) | (rw [if_neg (by decide +kernel)]; exact ⟨rfl, rfl⟩))
    (fun os started H enc _ => lifted os started H enc)
theorem proved : Rows.AluTellsSaid := over
end Go.Proofs.Ytghmogkapedmfaa.aluTells
namespace Go.Proofs.Ytghmogkapedmfaa
/-- The row, under a short name, for the claim. -/
theorem aluTells_holds : Rows.AluTellsSaid := aluTells.proved
end Go.Proofs.Ytghmogkapedmfaa
#print axioms Go.Proofs.Ytghmogkapedmfaa.aluTells_holds
