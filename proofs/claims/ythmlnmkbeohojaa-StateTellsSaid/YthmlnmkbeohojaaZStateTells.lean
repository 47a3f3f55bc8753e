/- Which configs may be, how a program begins, which states may be, and which two are one. -/
import Derived.Test.YthmlnmkbeohojaaRows
import Derived.WalkKit
import Derived.ProofKit
import Derived.OpenShut
import Derived.ShutString
import Derived.ChangeOld
import Derived.Below
import Derived.SizedLaws
import Derived.Test.YthmlnmkbeohojaaPk6

namespace Go.Proofs.Ythmlnmkbeohojaa
open Go.Ra
set_option linter.unusedVariables false
set_option linter.unusedSimpArgs false
def TV0 : Tab := mkT2 qq cl_law19 [] [] [(7, alvS), (8, few4S), (9, few13S), (10, fewS), (11, cfgS), (12, cfgS), (14, fstS), (15, fstS), (13, samS), (16, rigS), (17, rigS), (18, samS)] []
theorem TV0ok : TabOk Try.prog TV0 := mkT2_ok clok_law19 trivial trivial ⟨sk_alv, sk_few4, sk_few13, sk_few, sk_cfg, sk_rcfg, sk_first, sk_rfirst, sk_same, sk_right, sk_rst, sk_sm, trivial⟩ trivial
theorem r_tells (c : Cfg) (p : Prog) (s : Split) (x y : Stt) (r : XV) : (quietGo TV0 80 (callI TV0 80 20) 3 [e_Cfg c, e_Prog p, e_Split s, e_Stt x, e_Stt y] (fun v => ResLe v r)) = (∃ (s_1 : Unit), ArgsLe [] [] ∧ PreIs True ∧ ∀ (y_1 : Bool), y_1 = true → bif !!y_1 then ∃ (s_2 : Prog), ArgsLe [e_Prog p] [e_Prog s_2] ∧ PreIs True ∧ ∀ (y_2
 : Bool), y_2 = few4F s_2 → bif !bif !y_1 then true else !y_2 then ∃ (s_3 : Split), ArgsLe [e_Split s] [e_Split s_3] ∧ PreIs (Split.wf s_3) ∧ ∀ (y_3 : Bool), y_3
 = few13F s_3 → bif !bif bif !y_1 then true else !y_2 then true else !y_3 then ∃ (s_4 : Stt), ArgsLe [e_Stt x] [e_Stt s_4] ∧ PreIs True ∧ ∀ (y_4 : Bool), y_4 = fewF
 s_4 → bif !bif bif bif !y_1 then true else !y_2 then true else !y_3 then true else !y_4 then ∃ (s_5 : Stt), ArgsLe [e_Stt y] [e_Stt s_5] ∧ PreIs True ∧ ∀ (y_5 :
 Bool), y_5 = fewF s_5 → bif bif bif bif bif !y_1 then true else !y_2 then true else !y_3 then true else !y_4 then true else !y_5 then ResLe (.bool y_1) r else ∃
 (s_6 : Cfg), ArgsLe [e_Cfg c] [e_Cfg s_6] ∧ PreIs True ∧ ∀ (y_6 : Bool), y_6 = rightCfg s_6 → ∃ (s_7 : Cfg), ArgsLe [e_Cfg c] [e_Cfg s_7] ∧ PreIs True ∧ ∀ (y_7 :
 Bool), y_7 = rightCfg s_7 → bif y_6 == y_7 then ∃ (s_8 : Prog), ArgsLe [e_Prog p] [e_Prog s_8] ∧ PreIs (Prog.wf s_8) ∧ ∀ (y_8 : Stt), y_8 = firstF s_8 → ∃ (s_9 :
 Prog), ArgsLe [e_Prog p] [e_Prog s_9] ∧ PreIs (Prog.wf s_9) ∧ ∀ (y_9 : Stt), y_9 = firstF s_9 → ∃ (s_10 : Stt × Stt), ArgsLe [e_Stt y_8, e_Stt y_9] [e_Stt (Prod.fst
 s_10), e_Stt (Prod.snd s_10)] ∧ PreIs (Stt.ok (Prod.fst s_10) ∧ Stt.ok (Prod.snd s_10)) ∧ ∀ (y_10 : Bool), y_10 = sameF (Prod.fst s_10) (Prod.snd s_10) → bif bif
 y_6 == y_7 then y_10 else false then ∃ (s_11 : Cfg × Split × Stt), ArgsLe [e_Cfg c, e_Split s, e_Stt x] [e_Cfg (Prod.fst s_11), e_Split (Prod.fst (Prod.snd s_11)),
 e_Stt (Prod.snd (Prod.snd s_11))] ∧ PreIs (Stt.ok (Prod.snd (Prod.snd s_11))) ∧ ∀ (y_11 : Bool), y_11 = rightStt (Prod.fst s_11) (Prod.fst (Prod.snd s_11)) (Prod.snd
 (Prod.snd s_11)) → ∃ (s_12 : Cfg × Split × Stt), ArgsLe [e_Cfg c, e_Split s, e_Stt x] [e_Cfg (Prod.fst s_12), e_Split (Prod.fst (Prod.snd s_12)), e_Stt (Prod.snd
 (Prod.snd s_12))] ∧ PreIs (Stt.ok (Prod.snd (Prod.snd s_12))) ∧ ∀ (y_12 : Bool), y_12 = rightStt (Prod.fst s_12) (Prod.fst (Prod.snd s_12)) (Prod.snd (Prod.snd s_12))
 → bif bif bif y_6 == y_7 then y_10 else false then y_11 == y_12 else false then ∃ (s : Stt × Stt), ArgsLe [e_Stt x, e_Stt y] [e_Stt (Prod.fst s), e_Stt (Prod.snd
 s)] ∧ PreIs (Stt.ok (Prod.fst s) ∧ Stt.ok (Prod.snd s)) ∧ ∀ (y_13 : Bool), y_13 = sameF (Prod.fst s) (Prod.snd s) → ∃ (s : Stt × Stt), ArgsLe [e_Stt x, e_Stt y]
 [e_Stt (Prod.fst s), e_Stt (Prod.snd s)] ∧ PreIs (Stt.ok (Prod.fst s) ∧ Stt.ok (Prod.snd s)) ∧ ∀ (y : Bool), y = sameF (Prod.fst s) (Prod.snd s) → bif bif bif bif
 y_6 == y_7 then y_10 else false then y_11 == y_12 else false then y_13 == y else false then ∃ (s : Stt × Stt), ArgsLe [e_Stt x, e_Stt x] [e_Stt (Prod.fst s), e_Stt
 (Prod.snd s)] ∧ PreIs (Stt.ok (Prod.fst s) ∧ Stt.ok (Prod.snd s)) ∧ ∀ (y_14 : Bool), y_14 = sameF (Prod.fst s) (Prod.snd s) → ResLe (.bool (bif bif bif bif y_6 ==
 y_7 then y_10 else false then y_11 == y_12 else false then y_13 == y else false then y_14 else false)) r else bif !bif bif bif y_6 == y_7 then y_10 else false then
 y_11 == y_12 else false then y_13 == y else false then ResLe (.bool false) r else False else bif !bif bif y_6 == y_7 then y_10 else false then y_11 == y_12 else
 false then ResLe (.bool false) r else False else bif !bif y_6 == y_7 then y_10 else false then ResLe (.bool false) r else False else bif !y_6 == y_7 then ResLe (.bool
 false) r else False else bif bif bif bif !y_1 then true else !y_2 then true else !y_3 then true else !y_4 then ResLe (.bool y_1) r else False else bif bif bif !y_1
 then true else !y_2 then true else !y_3 then ResLe (.bool y_1) r else False else bif bif !y_1 then true else !y_2 then ResLe (.bool y_1) r else False else bif !y_1
 then ResLe (.bool y_1) r else False) := by kernel_rfl
theorem tells_pure (c : Cfg) (p : Prog) (s : Split) (x y : Stt) (hp : p.wf) (hs : s.wf) (hx : x.wf) (hy : y.wf) : Pure Try.prog 3 (cons [e_Cfg c, e_Prog p, e_Split s, e_Stt x, e_Stt y]) (con (.bool true)) := by
  refine pureR (u := 80) (k := 20) mix TV0ok ?_
  refine Eq.mpr (r_tells c p s x y _) ?_
  refine ⟨(), .rfl, ⟨trivial⟩, ?_⟩
  intro v hv
  replace hv : v = true := hv
  subst hv
  refine ⟨p, .rfl, ⟨trivial⟩, ?_⟩
  intro v1 _
  cases v1 with
  | false => exact .rfl
  | true =>
  refine ⟨s, .rfl, ⟨hs⟩, ?_⟩
  intro v2 _
  cases v2 with
  | false => exact .rfl
  | true =>
  refine ⟨x, .rfl, ⟨trivial⟩, ?_⟩
  intro v3 h3
  replace h3 : v3 = fewF x := h3
  cases v3 with
  | false => exact .rfl
  | true =>
  have ox := few_ok hx h3.symm
  refine ⟨y, .rfl, ⟨trivial⟩, ?_⟩
  intro v4 h4
  replace h4 : v4 = fewF y := h4
  cases v4 with
  | false => exact .rfl
  | true =>
  have oy := few_ok hy h4.symm
  have of := first_ok hp
  refine ⟨c, .rfl, ⟨trivial⟩, ?_⟩
  rintro v5 rfl
  refine ⟨c, .rfl, ⟨trivial⟩, ?_⟩
  rintro v6 rfl
  simp only [beq_self_eq_true, cond_true]
  refine ⟨p, .rfl, ⟨hp⟩, ?_⟩
  intro v7 h7
  replace h7 : v7 = firstF p := h7
  subst h7
  refine ⟨p, .rfl, ⟨hp⟩, ?_⟩
  intro v8 h8
  replace h8 : v8 = firstF p := h8
  subst h8
  refine ⟨(firstF p, firstF p), .rfl, ⟨of, of⟩, ?_⟩
  intro v9 h9
  replace h9 : v9 = sameF (firstF p) (firstF p) := h9
  rw [sameF_self] at h9
  subst h9
  refine ⟨(c, s, x), .rfl, ⟨ox⟩, ?_⟩
  rintro v10 rfl
  refine ⟨(c, s, x), .rfl, ⟨ox⟩, ?_⟩
  rintro v11 rfl
  simp only [beq_self_eq_true, cond_true]
  refine ⟨(x, y), .rfl, ⟨ox, oy⟩, ?_⟩
  rintro v12 rfl
  refine ⟨(x, y), .rfl, ⟨ox, oy⟩, ?_⟩
  rintro v13 rfl
  simp only [beq_self_eq_true, cond_true]
  refine ⟨(x, x), .rfl, ⟨ox, ox⟩, ?_⟩
  intro v14 h14
  replace h14 : v14 = sameF x x := h14
  rw [sameF_self] at h14
  subst h14
  exact .rfl
end Go.Proofs.Ythmlnmkbeohojaa
namespace Go.Proofs.Ythmlnmkbeohojaa.stateTells
open Go.Ra Go.ChangeShapes Go.WideShapes Go.ChangeAt Go.RowKit
open Go.ChangeMaps (open_string shut_string)
theorem own : ownKnob Try.prog.godebug = none := by kernel_rfl
def Ts : List Ty := [T_Cfg, T_Prog, T_Split, T_Stt, T_Stt]
theorem law (xs : List AV) (h : Ty.hasL Ts xs) : Pure Try.prog 3 xs (.sc (.bool true)) := by
  simp only [Ts, Ty.hasL] at h
  obtain ⟨a, _, rfl, ha, b, _, rfl, hb, d, _, rfl, hd, e, _, rfl, he, f, _, rfl, hf, rfl⟩ := h
  obtain ⟨c, rfl, _⟩ := has_Cfg _ ha
  obtain ⟨p, rfl, hp⟩ := has_Prog _ hb
  obtain ⟨s, rfl, hs⟩ := has_Split _ hd
  obtain ⟨x, rfl, hx⟩ := has_Stt _ he
  obtain ⟨y, rfl, hy⟩ := has_Stt _ hf
  exact tells_pure c p s x y hp hs hx hy
set_option maxRecDepth 100000 in
theorem lifted (os : Os) (started : os.Started) (H : Type) (enc : TypeId × Value → H) :
    ReturnsInHanded {} Try.checked os 3 .any (Rows.stateTellsSpec.pre6 enc Try.prog Try.f3 Rows.stateTellsRow.domain false) (Rows.stateTellsSpec.post enc Try.prog Try.f3 false true false false) := by
  refine returnsInHanded_of_change_sized (C := Try.checked) own started (by kernel_rfl) Try.func3
    (ChangeSpec.witness6 (enc := enc) (C := Try.checked) false ⟨#[], #[.agg #[.int .i64 0, .int .i64 0, .int .i64 0, .int .i64 0, .int .i64 0, .int .i64 0, .int .i64 0, .int .i64 0, .int .i64 0, .int .i64 0, .int .i64 0, .int .i64 0], .agg #[.slice none 0 0, .int .i64 0, .slice none 0 0], .agg #[.slice none 0 0, .int .i64 0, .int .i64 0, .int .i64 0, .int .i64 0, .int .i64 0, .int .i64 0, .int .i64 0, .int .i64 0, .int .i64 0, .int .i64 0, .int .i64 0, .int .i64 0, .int .i64 0, .int .i64 0, .int .i64 0, .int .i64 0], .agg #[.int .i64 0, .int .u32 0, .int .u32 0, .int .u32 0, .int .u32 0, .int .u32 0, .int .u32 0, .int .u32 0, .int .u32 0, .int .u32 0, .int .u32 0, .int .u32 0, .int .u32 0, .int .u32 0, .int .u32 0, .int .u32 0, .int .u32 0, .int .i64 0, .int .i64 0, .int .i64 0, .int .i64 0, .int .i64 0, .int .i64 0, .int .i64 0, .int .i64 0, .int .i64 0, .int .i64 0, .int .i64 0, .int .i64 0, .int .i64 0, .int .i64 0, .int .i64 0, .int .i64 0, .int .i64 0, .int .i64 0, .int .i64 0, .int .i64 0, .bool false, .int .i64 0, .int .u32 0, .int .u32 0, .int .u32 0, .int .u32 0, .int .u32 0, .int .u32 0, .int .u32 0, .int .u32 0, .int .u32 0, .int .u32 0, .int .u32 0, .int .u32 0, .int .u32 0, .int .u32 0, .int .u32 0, .int .u32 0, .int .i64 0, .int .i64 0, .int .i64 0, .int .i64 0, .int .i64 0, .int .i64 0, .int .i64 0, .int .i64 0, .int .i64 0, .int .i64 0, .int .i64 0, .int .i64 0, .int .i64 0, .int .i64 0, .int .i64 0, .int .i64 0, .int .i64 0, .int .i64 0, .int .i64 0, .int .i64 0, .bool false, .int .i64 0, .slice none 0 0, .slice none 0 0, .slice none 0 0, .slice none 0 0, .slice none 0 0, .slice none 0 0, .slice none 0 0, .slice none 0 0, .slice none 0 0, .int .i64 0, .int .i64 0, .int .i64 0, .int .i64 0, .int .i64 0, .int .i64 0], .agg #[.int .i64 0, .int .u32 0, .int .u32 0, .int .u32 0, .int .u32 0, .int .u32 0, .int .u32 0, .int .u32 0, .int .u32 0, .int .u32 0, .int .u32 0, .int .u32 0, .int .u32 0, .int .u32 0, .int .u32 0, .int .u32 0, .int .u32 0, .int .i64 0, .int .i64 0, .int .i64 0, .int .i64 0, .int .i64 0, .int .i64 0, .int .i64 0, .int .i64 0, .int .i64 0, .int .i64 0, .int .i64 0, .int .i64 0, .int .i64 0, .int .i64 0, .int .i64 0, .int .i64 0, .int .i64 0, .int .i64 0, .int .i64 0, .int .i64 0, .bool false, .int .i64 0, .int .u32 0, .int .u32 0, .int .u32 0, .int .u32 0, .int .u32 0, .int .u32 0, .int .u32 0, .int .u32 0, .int .u32 0, .int .u32 0, .int .u32 0, .int .u32 0, .int .u32 0, .int .u32 0, .int .u32 0, .int .u32 0, .int .i64 0, .int .i64 0, .int .i64 0, .int .i64 0, .int .i64 0, .int .i64 0, .int .i64 0, .int .i64 0, .int .i64 0, .int .i64 0, .int .i64 0, .int .i64 0, .int .i64 0, .int .i64 0, .int .i64 0, .int .i64 0, .int .i64 0, .int .i64 0, .int .i64 0, .int .i64 0, .bool false, .int .i64 0, .slice none 0 0, .slice none 0 0, .slice none 0 0, .slice none 0 0, .slice none 0 0, .slice none 0 0, .slice none 0 0, .slice none 0 0, .slice none 0 0, .int .i64 0, .int .i64 0, .int .i64 0, .int .i64 0, .int .i64 0, .int .i64 0]], []⟩ 8 (by kernel_rfl) (by kernel_rfl) (by kernel_rfl) (by kernel_rfl)) ?_
  intro W base args ds gs before hval hW hcnd hsz _
  refine law_post (s := Rows.stateTellsSpec) (n := 60) (Ts := Ts) (ts := [23, 27, 31, 47, 47]) (tb := 4) (by kernel_rfl) rfl rfl Try.underlying4 rfl (by kernel_rfl) (by kernel_rfl) (fun ds hds => ?_) law W base args ds gs before hval hW hsz
  match ds, hds with
  | [d1, d2, d3, d4, d5], _ => exact ⟨rfl, rfl, rfl⟩
theorem over : Rows.stateTellsRow.holds Try.pinned (OpenSpec.ofChange Rows.stateTellsSpec) :=
  OpenClaim.holds_of_wide 3 Try.f3 rfl rfl rfl rfl rfl rfl rfl ⟨rfl, rfl, rfl, rfl, rfl⟩ rfl rfl rfl rfl rfl (by kernel_rfl) Try.func3 (by kernel_rfl)
    (of_decide_eq_true (by kernel_rfl)) (by unfold Func.isWrapper; first | (rw [if_pos (by decide +kernel)]; kernel_rfl) | (rw [if_neg (by decide +kernel)]; exact ⟨rfl, rfl⟩))
    (fun os started H enc _ => lifted os started H enc)
theorem proved : Rows.StateTellsSaid := over
end Go.Proofs.Ythmlnmkbeohojaa.stateTells
namespace Go.Proofs.Ythmlnmkbeohojaa
/-- The row, under a short name, for the claim. -/
theorem stateTells_holds : Rows.StateTellsSaid := stateTells.proved
end Go.Proofs.Ythmlnmkbeohojaa
#print axioms Go.Proofs.Ythmlnmkbeohojaa.stateTells_holds
