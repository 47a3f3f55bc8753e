/- Whether the first store can be sent, and what it is then, of any state. -/
import Derived.Test.YtbemlndjdbopeaaRows
import Derived.WalkKit
import Derived.ProofKit
import Derived.OpenShut
import Derived.ShutString
import Derived.ChangeOld
import Derived.Below
import Derived.SizedLaws
import Derived.Test.YtbemlndjdbopeaaPk5

namespace Go.Proofs.Ytbemlndjdbopeaa
open Go.Ra
set_option linter.unusedVariables false
set_option linter.unusedSimpArgs false
def TCl : Tab := mkT2 qq (cl_law23 ++ cl_commit) [(12, alvSp)] [] [(13, fewS), (33, canS), (17, sndS), (18, cpyS), (16, samS), (15, rcanS), (19, rsndS)] []
theorem TClok : TabOk Try.prog TCl := mkT2_ok (clok_law23.app clok_commit) ⟨sp_alv23, trivial⟩ trivial ⟨sk_few, sk_can, sk_snd, sk_cpy, sk_same, sk_rcan, sk_rsnd, trivial⟩ trivial
theorem r_tells (c : Cfg) (s : Stt) (r : XV) : (quietGo TCl 80 (callI TCl 80 20) 3 [e_Cfg c, e_Stt s] (fun v => ResLe v r)) = (∃ (s_1 : Stt), ArgsLe [e_Stt s] [e_Stt s_1] ∧ PreIs True ∧ ∀ (y : Bool), y = fewF s_1 → bif !y then ResLe (.bool true) r else ∃ (s_2 : Cfg × Stt), ArgsLe [e_Cfg
 c, .fptr (e_Stt s)] [e_Cfg (Prod.fst s_2), .fptr (e_Stt (Prod.snd s_2))] ∧ PreIs (Stt.ok (Prod.snd s_2)) ∧ ∀ (y : Bool), y = canF (Prod.fst s_2) (Prod.snd s_2) →
 ∃ (s_3 : Cfg × Stt), ArgsLe [e_Cfg c, e_Stt s] [e_Cfg (Prod.fst s_3), e_Stt (Prod.snd s_3)] ∧ PreIs (Stt.ok (Prod.snd s_3)) ∧ ∀ (y_1 : Bool), y_1 = canF (Prod.fst
 s_3) (Prod.snd s_3) → bif y == y_1 then ∃ (s_4 : Stt), ArgsLe [e_Stt s] [e_Stt s_4] ∧ PreIs (Stt.ok s_4) ∧ ∀ (y_2 : Stt), y_2 = s_4 → ∃ (s_5 : Cfg × Stt), ArgsLe
 [e_Cfg c, e_Stt y_2] [e_Cfg (Prod.fst s_5), e_Stt (Prod.snd s_5)] ∧ PreIs (Stt.ok (Prod.snd s_5)) ∧ ∀ (y_3 : Stt), y_3 = sendF (Prod.fst s_5) (Prod.snd s_5) → ∃
 (s_6 : Cfg × Stt), ArgsLe [e_Cfg c, e_Stt s] [e_Cfg (Prod.fst s_6), e_Stt (Prod.snd s_6)] ∧ PreIs (Stt.ok (Prod.snd s_6)) ∧ ∀ (y_4 : Stt), y_4 = sendF (Prod.fst
 s_6) (Prod.snd s_6) → ∃ (s : Stt × Stt), ArgsLe [e_Stt y_3, e_Stt y_4] [e_Stt (Prod.fst s), e_Stt (Prod.snd s)] ∧ PreIs (Stt.ok (Prod.fst s) ∧ Stt.ok (Prod.snd s))
 ∧ ∀ (y_5 : Bool), y_5 = sameF (Prod.fst s) (Prod.snd s) → ResLe (.bool (bif y == y_1 then y_5 else false)) r else bif !y == y_1 then ResLe (.bool false) r else False)
 := by kernel_rfl
theorem tells_pure (c : Cfg) (s : Stt) (hw : s.wf) : Pure Try.prog 3 (cons [e_Cfg c, e_Stt s]) (con (.bool true)) := by
  refine pureR (u := 80) (k := 20) mix TClok ?_
  refine Eq.mpr (r_tells c s _) ?_
  refine ⟨s, .rfl, ⟨trivial⟩, ?_⟩
  rintro y rfl
  refine cnd2 (fun h => .rfl) (fun h => ?_)
  have hf : fewF s = true := by simpa using h
  have hok := few_ok hw hf
  have hn : s.table.length ≤ 999999 := by
    simp only [fewF, Bool.and_eq_true, decide_eq_true_eq] at hf
    omega
  refine ⟨(c, s), .rfl, ⟨hok⟩, ?_⟩
  rintro y1 rfl
  refine ⟨(c, s), .rfl, ⟨hok⟩, ?_⟩
  rintro y2 rfl
  simp only [beq_self_eq_true, cond_true]
  refine ⟨s, .rfl, ⟨hok⟩, ?_⟩
  rintro y3 rfl
  refine ⟨(c, y3), .rfl, ⟨hok⟩, ?_⟩
  rintro y4 rfl
  refine ⟨(c, y3), .rfl, ⟨hok⟩, ?_⟩
  rintro y5 rfl
  refine ⟨(sendF c y3, sendF c y3), .rfl, ⟨send_ok hok hn, send_ok hok hn⟩, ?_⟩
  rintro y6 rfl
  show ResLe (.bool (sameF (sendF c y3) (sendF c y3))) _
  rw [sameF_self]
  exact .rfl
end Go.Proofs.Ytbemlndjdbopeaa
namespace Go.Proofs.Ytbemlndjdbopeaa.commitTells
open Go.Ra Go.ChangeShapes Go.WideShapes Go.ChangeAt Go.RowKit
open Go.ChangeMaps (open_string shut_string)
theorem own : ownKnob Try.prog.godebug = none := by kernel_rfl
def Ts : List Ty := [T_Cfg, T_Stt]
theorem law (xs : List AV) (h : Ty.hasL Ts xs) : Pure Try.prog 3 xs (.sc (.bool true)) := by
  simp only [Ts, Ty.hasL] at h
  obtain ⟨a, _, rfl, ha, b, _, rfl, hb, rfl⟩ := h
  obtain ⟨c, rfl, _⟩ := has_Cfg _ ha
  obtain ⟨s, rfl, hw⟩ := has_Stt _ hb
  exact tells_pure c s hw
set_option maxRecDepth 100000 in
theorem lifted (os : Os) (started : os.Started) (H : Type) (enc : TypeId × Value → H) :
    ReturnsInHanded {} Try.checked os 3 .any (Rows.commitTellsSpec.pre6 enc Try.prog Try.f3 Rows.commitTellsRow.domain false) (Rows.commitTellsSpec.post enc Try.prog Try.f3 false true false false) := by
  refine returnsInHanded_of_change_sized (C := Try.checked) own started (by kernel_rfl) Try.func3
    (ChangeSpec.witness6 (enc := enc) (C := Try.checked) false ⟨#[], #[.agg #[.int .i64 0, .int .i64 0, .int .i64 0, .int .i64 0, .int .i64 0, .int .i64 0, .int .i64 0, .int .i64 0, .int .i64 0, .int .i64 0, .int .i64 0, .int .i64 0], .agg #[.int .i64 0, .int .u32 0, .int .u32 0, .int .u32 0, .int .u32 0, .int .u32 0, .int .u32 0, .int .u32 0, .int .u32 0, .int .u32 0, .int .u32 0, .int .u32 0, .int .u32 0, .int .u32 0, .int .u32 0, .int .u32 0, .int .u32 0, .int .i64 0, .int .i64 0, .int .i64 0, .int .i64 0, .int .i64 0, .int .i64 0, .int .i64 0, .int .i64 0, .int .i64 0, .int .i64 0, .int .i64 0, .int .i64 0, .int .i64 0, .int .i64 0, .int .i64 0, .int .i64 0, .int .i64 0, .int .i64 0, .int .i64 0, .int .i64 0, .bool false, .int .i64 0, .int .u32 0, .int .u32 0, .int .u32 0, .int .u32 0, .int .u32 0, .int .u32 0, .int .u32 0, .int .u32 0, .int .u32 0, .int .u32 0, .int .u32 0, .int .u32 0, .int .u32 0, .int .u32 0, .int .u32 0, .int .u32 0, .int .i64 0, .int .i64 0, .int .i64 0, .int .i64 0, .int .i64 0, .int .i64 0, .int .i64 0, .int .i64 0, .int .i64 0, .int .i64 0, .int .i64 0, .int .i64 0, .int .i64 0, .int .i64 0, .int .i64 0, .int .i64 0, .int .i64 0, .int .i64 0, .int .i64 0, .int .i64 0, .bool false, .int .i64 0, .slice none 0 0, .slice none 0 0, .slice none 0 0, .slice none 0 0, .slice none 0 0, .slice none 0 0, .slice none 0 0, .slice none 0 0, .slice none 0 0, .int .i64 0, .int .i64 0, .int .i64 0, .int .i64 0, .int .i64 0, .int .i64 0]], []⟩ 8 (by kernel_rfl) (by kernel_rfl) (by kernel_rfl) (by kernel_rfl)) ?_
  intro W base args ds gs before hval hW hcnd hsz _
  refine law_post (s := Rows.commitTellsSpec) (n := 60) (Ts := Ts) (ts := [23, 41]) (tb := 4) (by kernel_rfl) rfl rfl Try.underlying4 rfl (by kernel_rfl) (by kernel_rfl) (fun ds hds => ?_) law W base args ds gs before hval hW hsz
  match ds, hds with
  | [d1, d2], _ => exact ⟨rfl, rfl, rfl⟩
theorem over : Rows.commitTellsRow.holds Try.pinned (OpenSpec.ofChange Rows.commitTellsSpec) :=
  OpenClaim.holds_of_wide 3 Try.f3 rfl rfl rfl rfl rfl rfl rfl ⟨rfl, rfl, rfl, rfl, rfl⟩ rfl rfl rfl rfl rfl (by kernel_rfl) Try.func3 (by kernel_rfl)
    (of_decide_eq_true (by kernel_rfl)) (by unfold Func.isWrapper; first | (rw [if_pos (by decide +kernel)]; kernel_rfl) | (rw [if_neg (by decide +kernel)]; exact ⟨rfl, rfl⟩))
    (fun os started H enc _ => lifted os started H enc)
theorem proved : Rows.CommitTellsSaid := over
end Go.Proofs.Ytbemlndjdbopeaa.commitTells
namespace Go.Proofs.Ytbemlndjdbopeaa
/-- The row, under a short name, for the claim. -/
theorem commitTells_holds : Rows.CommitTellsSaid := commitTells.proved
end Go.Proofs.Ytbemlndjdbopeaa
#print axioms Go.Proofs.Ytbemlndjdbopeaa.commitTells_holds
