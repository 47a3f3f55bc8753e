/- What reckons nothing is told so, and no operation but branches is taken. -/
import Derived.Test.YtghmogkapedmfaaRows
import Derived.Test.YtghmogkapedmfaaAl3
import Derived.WalkKit
import Derived.ProofKit
import Derived.OpenShut
import Derived.ShutString
import Derived.ChangeOld
import Derived.Below
import Derived.SizedLaws
namespace Go.Proofs.Ytghmogkapedmfaa
open Go.Ra
set_option linter.unusedVariables false
set_option linter.unusedSimpArgs false
theorem r_oth (op d x y m o a b : Int) (K : XV → Prop) : (quietGo TA4 80 (callI TA4 80 20) 11 [.agg 5 [.int .i64 op, .int .i64 d, .int .i64 x, .int .i64 y, .int .i64 m], .int .i64 o, .int .u32 a, .int .u32 b] K) =
    (bif decide ((0 : Int) ≤ a) then
  bif decide (a ≤ (4294967295 : Int)) then
    bif decide ((0 : Int) ≤ b) then
      bif decide (b ≤ (4294967295 : Int)) then
        bif bif decide (fmI op < (1 : Int)) then true else !decide (fmI op < (1 : Int)) then
          bif bif bif decide (fmI op < (1 : Int)) then true else decide (fmI op > (3 : Int)) then true else !bif decide (fmI op < (1 : Int)) then true else decide (fmI op > (3 : Int)) then
            bif
                bif bif bif decide (fmI op < (1 : Int)) then true else decide (fmI op > (3 : Int)) then true else !rtB op d x y m then true
                else !bif bif decide (fmI op < (1 : Int)) then true else decide (fmI op > (3 : Int)) then true else !rtB op d x y m then
              bif
                  bif
                      bif decide ¬doI op d x y m a b = (0 : Int) then true
                      else
                        bif bif bif decide (fmI op < (1 : Int)) then true else decide (fmI op > (3 : Int)) then true else !rtB op d x y m then !decide ¬doI op d x y m a b = (0 : Int) else false then
                    true
                  else !bif bif decide (fmI op < (1 : Int)) then true else decide (fmI op > (3 : Int)) then true else !rtB op d x y m then
                bif
                    bif bif bif decide (fmI op < (1 : Int)) then true else decide (fmI op > (3 : Int)) then true else !rtB op d x y m then
                      bif bif decide (fmI op < (1 : Int)) then true else decide (fmI op > (3 : Int)) then true else !rtB op d x y m
                    else true then
                  bif
                      bif bif bif decide (fmI op < (1 : Int)) then true else decide (fmI op > (3 : Int)) then true else !rtB op d x y m then
                        bif decide ¬doI op d x y m a b = (0 : Int) then true else !dkB op d x y m b
                      else false then
                    K (XV.bool false)
                  else
                    bif bif bif decide (o ≥ (34 : Int)) then decide (o ≥ (34 : Int)) else true then true else false then
                      bif bif decide ((0 : Int) ≤ a) then true else !!bif decide (o ≥ (34 : Int)) then decide (o ≤ (39 : Int)) else false then
                        bif bif decide (a ≤ (4294967295 : Int)) then true else !!bif decide (o ≥ (34 : Int)) then decide (o ≤ (39 : Int)) else false then
                          bif bif decide ((0 : Int) ≤ b) then true else !!bif decide (o ≥ (34 : Int)) then decide (o ≤ (39 : Int)) else false then
                            bif bif decide (b ≤ (4294967295 : Int)) then true else !!bif decide (o ≥ (34 : Int)) then decide (o ≤ (39 : Int)) else false then
                              bif
                                  bif bif bif decide (o ≥ (34 : Int)) then decide (o ≤ (39 : Int)) else false then true else !bif decide (o ≥ (34 : Int)) then decide (o ≤ (39 : Int)) else false then
                                    true
                                  else false then
                                K (XV.bool (bif bif decide (o ≥ (34 : Int)) then decide (o ≤ (39 : Int)) else false then true else !tkB o a b))
                              else False
                            else False
                          else False
                        else False
                      else False
                    else False
                else False
              else False
            else False
          else False
        else False
      else False
    else False
  else False
else False) := by kernel_rfl
theorem others_pure (op d x y m o a b : Int) (h0 : 0 ≤ a) (h1 : a ≤ 4294967295) (h2 : 0 ≤ b) (h3 : b ≤ 4294967295) : Pure Try.prog 11 (cons [.agg 5 [.int .i64 op, .int .i64 d, .int .i64 x, .int .i64 y, .int .i64 m], .int .i64 o, .int .u32 a, .int .u32 b]) (con (.bool true)) := by
  refine pureX (u := 80) (k := 20) mix TA4ok ?_
  rw [r_oth]
  simp only [h0, h1, h2, h3, pk3, pk4, decide_true, cond_true, pk_and, pk_or, decide_not]
  have ht : ¬ (34 ≤ o ∧ o ≤ 39) → tkB o a b = false := fun h => by
    unfold tkB
    repeat rw [if_neg (by omega)]
  have hd : (bif bif decide (fmI op < 1) then true else decide (fmI op > 3) then true else !rtB op d x y m) = true → doI op d x y m a b = 0 ∧ dkB op d x y m b = true := by
    intro h
    have h' : rtB op d x y m = false ∨ fmI op > 3 := by
      simp only [Bool.cond_true_left, Bool.cond_false_right, Bool.cond_true_right, Bool.cond_false_left, Bool.or_eq_false_iff, Bool.or_eq_true, Bool.and_eq_true, Bool.and_eq_false_iff, decide_eq_false_iff_not, decide_eq_true_eq, Bool.not_eq_true', Bool.not_eq_false', Bool.not_not, Int.not_lt, Int.not_le, gt_iff_lt, ge_iff_le, Bool.not_eq_true'] at h
      rcases h with (h | h) | h
      · have hf := fm_in op
        have : fmI op = 0 := by omega
        refine .inl ?_
        unfold rtB rtP
        rw [this]
        simp
      · exact .inr (by omega)
      · exact .inl h
    exact ⟨do_no h', dk_no h'⟩
  have hlast : (bif (bif decide (o ≥ 34) then decide (o ≤ 39) else false) then true else !tkB o a b) = true := by
    by_cases g : 34 ≤ o ∧ o ≤ 39
    · have e1 : decide (o ≥ 34) = true := decide_eq_true g.1
      have e2 : decide (o ≤ 39) = true := decide_eq_true g.2
      rw [e1, e2]; rfl
    · rw [ht g]
      cases (bif decide (o ≥ 34) then decide (o ≤ 39) else false) <;> rfl
  rw [hlast]
  generalize (bif decide (o ≥ 34) then decide (o ≤ 39) else false) = u at *
  generalize hg : (bif bif decide (fmI op < 1) then true else decide (fmI op > 3) then true else !rtB op d x y m) = g at *
  cases g with
  | true =>
    obtain ⟨e1, e2⟩ := hd rfl
    cases u <;> simp [e1, e2]
  | false =>
    cases u <;> simp
end Go.Proofs.Ytghmogkapedmfaa
namespace Go.Proofs.Ytghmogkapedmfaa.aluOthers
open Go.Ra Go.ChangeShapes Go.WideShapes Go.ChangeAt Go.RowKit
open Go.ChangeMaps (open_string shut_string)
theorem own : ownKnob Try.prog.godebug = none := by kernel_rfl
def Ts : List Ty := [.agg 5 [.int .i64, .int .i64, .int .i64, .int .i64, .int .i64], .int .i64, .int .u32, .int .u32]
theorem law (xs : List AV) (h : Ty.hasL Ts xs) : Pure Try.prog 11 xs (.sc (.bool true)) := by
  have h0 := h
  simp only [Ts, Ty.hasL] at h0
  obtain ⟨i, _, rfl, hi, o, _, rfl, _, a, _, rfl, ha, b, _, rfl, hb, rfl⟩ := h0
  exact lawX h (others_pure _ _ _ _ _ _ _ _ (has_u32 ha).1 (has_u32 ha).2 (has_u32 hb).1 (has_u32 hb).2)
set_option maxRecDepth 100000 in
theorem lifted (os : Os) (started : os.Started) (H : Type) (enc : TypeId × Value → H) :
    ReturnsInHanded {} Try.checked os 11 .any (Rows.aluOthersSpec.pre6 enc Try.prog Try.f11 Rows.aluOthersRow.domain false) (Rows.aluOthersSpec.post enc Try.prog Try.f11 false true false false) := by
  refine returnsInHanded_of_change_sized (C := Try.checked) own started (by kernel_rfl) Try.func11
    (ChangeSpec.witness6 (enc := enc) (C := Try.checked) false ⟨#[], #[.agg #[.int .i64 0, .int .i64 0, .int .i64 0, .int .i64 0, .int .i64 0], .int .i64 0, .int .u32 0, .int .u32 0], []⟩ 8 (by kernel_rfl) (by kernel_rfl) (by kernel_rfl) (by kernel_rfl)) ?_
  intro W base args ds gs before hval hW hcnd hsz _
  refine law_post (s := Rows.aluOthersSpec) (n := 60) (Ts := Ts) (ts := [23, 3, 24, 24]) (tb := 4) (by kernel_rfl) rfl rfl Try.underlying4 rfl (by kernel_rfl) (by kernel_rfl) (fun ds hds => ?_) law W base args ds gs before hval hW hsz
  match ds, hds with
  | [d1, d2, d3, d4], _ => exact ⟨rfl, rfl, rfl⟩
theorem over : Rows.aluOthersRow.holds Try.pinned (OpenSpec.ofChange Rows.aluOthersSpec) :=
  OpenClaim.holds_of_wide 11 Try.f11 rfl rfl rfl rfl rfl rfl rfl ⟨rfl, rfl, rfl, rfl, rfl⟩ rfl rfl rfl rfl rfl (by kernel_rfl) Try.func11 (by kernel_rfl)
    (of_decide_eq_true (by kernel_rfl)) (by unfold Func.isWrapper; first | (rw [if_pos (by decide +kernel)]; kernel_rfl) | (rw [if_neg (by decide +kernel)]; exact ⟨rfl, rfl⟩))
    (fun os started H enc _ => lifted os started H enc)
theorem proved : Rows.AluOthersSaid := over
end Go.Proofs.Ytghmogkapedmfaa.aluOthers
namespace Go.Proofs.Ytghmogkapedmfaa
/-- The row, under a short name, for the claim. -/
theorem aluOthers_holds : Rows.AluOthersSaid := aluOthers.proved
end Go.Proofs.Ytghmogkapedmfaa
#print axioms Go.Proofs.Ytghmogkapedmfaa.aluOthers_holds
