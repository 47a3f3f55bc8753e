/- Which trap programs of few instructions end by. -/
import Derived.Test.YtmfbaglhmiadjaaRows
import Derived.WalkKit
import Derived.ProofKit
import Derived.OpenShut
import Derived.ShutString
import Derived.ChangeOld
import Derived.Below
import Derived.SizedLaws
import Derived.Test.YtmfbaglhmiadjaaPk6

namespace Go.Proofs.Ytmfbaglhmiadjaa
open Go.Ra
set_option linter.unusedVariables false
set_option linter.unusedSimpArgs false
def TT0 : Tab := mkT qq cl_law6 [(10, alvSp)] []
def TT1 : Tab := mkT qq (cl_law6 ++ cl_slices) [(10, alvSp), (13, runSp)] gl_slices
theorem TT0ok : TabOk Try.prog TT0 := mkT_ok clok_law6 ⟨sp_alv, trivial⟩ trivial
theorem TT1ok : TabOk Try.prog TT1 := mkT_ok (clok_law6.app clok_slices) ⟨sp_alv, sp_run, trivial⟩ glok_slices
theorem r_tr (w : Int) (K : XV → Prop) : (quietGo TT0 80 (callI TT0 80 20) 4 [.int .i64 w] K) = (bif bif decide (w < 0) then true else !decide (w < 0) then bif bif decide (w < 0) then true else decide (w ≥ 14) then K (.bool true) else bif decide (0 ≤ w)
 then bif decide (w < 14) then False else False else False
else False) := by kernel_rfl
theorem r_tr0 (K : XV → Prop) : (quietGo TT1 80 (callI TT1 80 20) 4 [.int .i64 0] K) = (K (.bool true)) := by kernel_rfl
theorem r_tr1 (K : XV → Prop) : (quietGo TT1 80 (callI TT1 80 20) 4 [.int .i64 1] K) = (K (.bool true)) := by kernel_rfl
theorem r_tr2 (K : XV → Prop) : (quietGo TT1 80 (callI TT1 80 20) 4 [.int .i64 2] K) = (K (.bool true)) := by kernel_rfl
theorem r_tr3 (K : XV → Prop) : (quietGo TT1 80 (callI TT1 80 20) 4 [.int .i64 3] K) = (K (.bool true)) := by kernel_rfl
theorem r_tr4 (K : XV → Prop) : (quietGo TT1 80 (callI TT1 80 20) 4 [.int .i64 4] K) = (K (.bool true)) := by kernel_rfl
theorem r_tr5 (K : XV → Prop) : (quietGo TT1 80 (callI TT1 80 20) 4 [.int .i64 5] K) = (K (.bool true)) := by kernel_rfl
theorem r_tr6 (K : XV → Prop) : (quietGo TT1 80 (callI TT1 80 20) 4 [.int .i64 6] K) = (K (.bool true)) := by kernel_rfl
theorem r_tr7 (K : XV → Prop) : (quietGo TT1 80 (callI TT1 80 20) 4 [.int .i64 7] K) = (K (.bool true)) := by kernel_rfl
theorem r_tr8 (K : XV → Prop) : (quietGo TT1 80 (callI TT1 80 20) 4 [.int .i64 8] K) = (K (.bool true)) := by kernel_rfl
theorem r_tr9 (K : XV → Prop) : (quietGo TT1 80 (callI TT1 80 20) 4 [.int .i64 9] K) = (K (.bool true)) := by kernel_rfl
theorem r_tr10 (K : XV → Prop) : (quietGo TT1 80 (callI TT1 80 20) 4 [.int .i64 10] K) = (K (.bool true)) := by kernel_rfl
theorem r_tr11 (K : XV → Prop) : (quietGo TT1 80 (callI TT1 80 20) 4 [.int .i64 11] K) = (K (.bool true)) := by kernel_rfl
theorem r_tr12 (K : XV → Prop) : (quietGo TT1 80 (callI TT1 80 20) 4 [.int .i64 12] K) = (K (.bool true)) := by kernel_rfl
theorem r_tr13 (K : XV → Prop) : (quietGo TT1 80 (callI TT1 80 20) 4 [.int .i64 13] K) = (K (.bool true)) := by kernel_rfl
theorem tr_pure (w : Int) : Pure Try.prog 4 (cons [.int .i64 w]) (con (.bool true)) := by
  by_cases h : w < 0 ∨ w ≥ 14
  · refine pureX (u := 80) (k := 20) mix TT0ok ?_
    rw [r_tr]
    by_cases h1 : w < 0
    · simp only [h1, pk_or, pk_and, decide_true, decide_false, cond_true, cond_false, allN_true, Nat.le_refl, Int.toNat_natCast, Nat.beq_refl, pk_and, pk_or, Bool.not_true, Bool.not_false, not_true_eq_false, not_false_eq_true, Bool.and_true, Bool.true_and, Bool.and_self, ge_iff_le, Int.le_refl, if_true, if_false, reduceCtorEq, eq_self, BEq.rfl]
    · have h2 : w ≥ 14 := h.resolve_left h1
      simp only [h1, h2, pk_or, pk_and, decide_true, decide_false, cond_true, cond_false, allN_true, Nat.le_refl, Int.toNat_natCast, Nat.beq_refl, pk_and, pk_or, Bool.not_true, Bool.not_false, not_true_eq_false, not_false_eq_true, Bool.and_true, Bool.true_and, Bool.and_self, ge_iff_le, Int.le_refl, if_true, if_false, reduceCtorEq, eq_self, BEq.rfl]
  · rcases (by omega : w = 0 ∨ w = 1 ∨ w = 2 ∨ w = 3 ∨ w = 4 ∨ w = 5 ∨ w = 6 ∨ w = 7 ∨ w = 8 ∨ w = 9 ∨ w = 10 ∨ w = 11 ∨ w = 12 ∨ w = 13) with rfl | rfl | rfl | rfl | rfl | rfl | rfl | rfl | rfl | rfl | rfl | rfl | rfl | rfl
    · refine pureX (u := 80) (k := 20) mix TT1ok ?_
      rw [r_tr0]
    · refine pureX (u := 80) (k := 20) mix TT1ok ?_
      rw [r_tr1]
    · refine pureX (u := 80) (k := 20) mix TT1ok ?_
      rw [r_tr2]
    · refine pureX (u := 80) (k := 20) mix TT1ok ?_
      rw [r_tr3]
    · refine pureX (u := 80) (k := 20) mix TT1ok ?_
      rw [r_tr4]
    · refine pureX (u := 80) (k := 20) mix TT1ok ?_
      rw [r_tr5]
    · refine pureX (u := 80) (k := 20) mix TT1ok ?_
      rw [r_tr6]
    · refine pureX (u := 80) (k := 20) mix TT1ok ?_
      rw [r_tr7]
    · refine pureX (u := 80) (k := 20) mix TT1ok ?_
      rw [r_tr8]
    · refine pureX (u := 80) (k := 20) mix TT1ok ?_
      rw [r_tr9]
    · refine pureX (u := 80) (k := 20) mix TT1ok ?_
      rw [r_tr10]
    · refine pureX (u := 80) (k := 20) mix TT1ok ?_
      rw [r_tr11]
    · refine pureX (u := 80) (k := 20) mix TT1ok ?_
      rw [r_tr12]
    · refine pureX (u := 80) (k := 20) mix TT1ok ?_
      rw [r_tr13]
end Go.Proofs.Ytmfbaglhmiadjaa
namespace Go.Proofs.Ytmfbaglhmiadjaa.seqTraps
open Go.Ra Go.ChangeShapes Go.WideShapes Go.ChangeAt Go.RowKit
open Go.ChangeMaps (open_string shut_string)
theorem own : ownKnob Try.prog.godebug = none := by kernel_rfl
def Ts : List Ty := [.int .i64]
theorem law (xs : List AV) (h : Ty.hasL Ts xs) : Pure Try.prog 4 xs (.sc (.bool true)) := by
  have h0 := h
  simp only [Ts, Ty.hasL] at h0
  obtain ⟨a, _, rfl, _, rfl⟩ := h0
  exact lawX h (tr_pure _)
set_option maxRecDepth 100000 in
theorem lifted (os : Os) (started : os.Started) (H : Type) (enc : TypeId × Value → H) :
    ReturnsInHanded {} Try.checked os 4 .any (Rows.seqTrapsSpec.pre6 enc Try.prog Try.f4 Rows.seqTrapsRow.domain false) (Rows.seqTrapsSpec.post enc Try.prog Try.f4 false true false false) := by
  refine returnsInHanded_of_change_sized (C := Try.checked) own started (by kernel_rfl) Try.func4
    (ChangeSpec.witness6 (enc := enc) (C := Try.checked) false ⟨#[], #[.int .i64 0], []⟩ 8 (by kernel_rfl) (by kernel_rfl) (by kernel_rfl) (by kernel_rfl)) ?_
  intro W base args ds gs before hval hW hcnd hsz _
  refine law_post (s := Rows.seqTrapsSpec) (n := 60) (Ts := Ts) (ts := [3]) (tb := 4) (by kernel_rfl) rfl rfl Try.underlying4 rfl (by kernel_rfl) (by kernel_rfl) (fun ds hds => ?_) law W base args ds gs before hval hW hsz
  match ds, hds with
  | [d1], _ => exact ⟨rfl, rfl, rfl⟩
theorem over : Rows.seqTrapsRow.holds Try.pinned (OpenSpec.ofChange Rows.seqTrapsSpec) :=
  OpenClaim.holds_of_wide 4 Try.f4 rfl rfl rfl rfl rfl rfl rfl ⟨rfl, rfl, rfl, rfl, rfl⟩ rfl rfl rfl rfl rfl (by kernel_rfl) Try.func4 (by kernel_rfl)
    (of_decide_eq_true (by kernel_rfl)) (by unfold Func.isWrapper; first | (rw [if_pos (by decide +kernel)]; kernel_rfl) | (rw [if_neg (by decide +kernel)]; exact ⟨rfl, rfl⟩))
    (fun os started H enc _ => lifted os started H enc)
theorem proved : Rows.SeqTrapsSaid := over
end Go.Proofs.Ytmfbaglhmiadjaa.seqTraps
namespace Go.Proofs.Ytmfbaglhmiadjaa
/-- The row, under a short name, for the claim. -/
theorem seqTraps_holds : Rows.SeqTrapsSaid := seqTraps.proved
end Go.Proofs.Ytmfbaglhmiadjaa
#print axioms Go.Proofs.Ytmfbaglhmiadjaa.seqTraps_holds
