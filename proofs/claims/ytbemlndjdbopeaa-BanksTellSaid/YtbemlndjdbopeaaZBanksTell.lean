/- Which bank any address has, which latencies and picks any script has, and what a cycle does to the requests of any state. -/
import Derived.Test.YtbemlndjdbopeaaRows
import Derived.WalkKit
import Derived.ProofKit
import Derived.OpenShut
import Derived.ShutString
import Derived.ChangeOld
import Derived.Below
import Derived.SizedLaws
import Derived.Test.YtbemlndjdbopeaaPk5

namespace Go.Proofs.Ytbemlndjdbopeaa
open Go.Ra
set_option linter.unusedVariables false
set_option linter.unusedSimpArgs false
def TBt : Tab := mkT2 qq cl_law18 [(21, alvSp), (22, bnkSp), (23, bnkSp)] [] [(13, fewS), (24, latS), (25, latS), (26, picS), (27, picS), (18, cpyS), (28, avS), (29, avS), (16, samS)] []
theorem TBtok : TabOk Try.prog TBt := mkT2_ok clok_law18 ⟨sp_alv18, sp_bnk1, sp_bnk2, trivial⟩ trivial ⟨sk_few, sk_lat, sk_rlat, sk_pick, sk_rpick, sk_cpy, sk_adv, sk_radv, sk_same, trivial⟩ trivial
theorem r_tells (c : Cfg) (s : Script) (x : Stt) (a i n : Int) (r : XV) : (quietGo TBt 80 (callI TBt 80 20) 7 [e_Cfg c, e_Script s, e_Stt x, .int .i64 a, .int .i64 i, .int .i64 n] (fun v => ResLe v r)) = (let q1 : Bool → Bool := fun y => bif !y then true else decide ((↑(List.length (Script.lats s)) : Int) > 60);
let q2 : Bool := decide (a ≤ 9223372036854775807);
let
 q3 : Bool := decide (bnkI a n = bnkI a n);
let q4 : List XV := [e_Script s, .int .i64 i, .int .i64 n];
let q5 : Script × Int × Int → List XV := fun (s : Script ×
 Int × Int) => [e_Script (Prod.fst s), .int .i64 (Prod.fst (Prod.snd s)), .int .i64 (Prod.snd (Prod.snd s))];
let q6 : Script × Int × Int → Int := fun (s : Script
 × Int × Int) => latF (Prod.fst s) (Prod.fst (Prod.snd s)) (Prod.snd (Prod.snd s));
let q7 : Int → Int → Bool := fun (y y_1 : Int) => bif q3 then decide (y = y_1)
 else false;
let q8 : Script × Int × Int → Int := fun (s : Script × Int × Int) => pickF (Prod.fst s) (Prod.fst (Prod.snd s)) (Prod.snd (Prod.snd s));
let q9 : Int
 → Int → Int → Int → Bool := fun (y y_1 y_2 y_3 : Int) => bif q7 y y_1 then decide (y_2 = y_3) else false;
let q10 : Cfg × Script × Stt → List XV := fun (s : Cfg
 × Script × Stt) => [e_Cfg (Prod.fst s), e_Script (Prod.fst (Prod.snd s)), e_Stt (Prod.snd (Prod.snd s))];
let q11 : Cfg × Script × Stt → Nat := fun (s : Cfg × Script
 × Stt) => List.length (Script.lats (Prod.fst (Prod.snd s)));
let q12 : Cfg × Script × Stt → Nat := fun (s : Cfg × Script × Stt) => List.length (Script.picks (Prod.fst
 (Prod.snd s)));
let q13 : Cfg × Script × Stt → Stt := fun (s : Cfg × Script × Stt) => advF (Prod.fst s) (Prod.fst (Prod.snd s)) (Prod.snd (Prod.snd s));
∃ (s_1 :
 Stt), ArgsLe [e_Stt x] [e_Stt s_1] ∧ PreIs True ∧ ∀ (y : Bool), y = fewF s_1 → bif bif !y then true else !!y then bif bif q1 y then true else !q1 y then bif bif
 q1 y then true else decide ((↑(List.length (Script.picks s)) : Int) > 60) then ResLe (.bool true) r else bif q2 then bif q2 then bif q3 then ∃ (s_2 : Script × Int
 × Int), ArgsLe q4 (q5 s_2) ∧ PreIs (List.length (Script.lats (Prod.fst s_2)) ≤ 1000000) ∧ ∀ (y : Int), y = q6 s_2 → ∃ (s_3 : Script × Int × Int), ArgsLe q4 (q5 s_3)
 ∧ PreIs (List.length (Script.lats (Prod.fst s_3)) ≤ 1000000) ∧ ∀ (y_1 : Int), y_1 = q6 s_3 → bif q7 y y_1 then ∃ (s_4 : Script × Int × Int), ArgsLe q4 (q5 s_4) ∧
 PreIs (List.length (Script.picks (Prod.fst s_4)) ≤ 1000000) ∧ ∀ (y_2 : Int), y_2 = q8 s_4 → ∃ (s_5 : Script × Int × Int), ArgsLe q4 (q5 s_5) ∧ PreIs (List.length
 (Script.picks (Prod.fst s_5)) ≤ 1000000) ∧ ∀ (y_3 : Int), y_3 = q8 s_5 → bif q9 y y_1 y_2 y_3 then ∃ (s_6 : Stt), ArgsLe [e_Stt x] [e_Stt s_6] ∧ PreIs (Stt.ok s_6)
 ∧ ∀ (y_4 : Stt), y_4 = s_6 → ∃ (s_7 : Cfg × Script × Stt), ArgsLe [e_Cfg c, e_Script s, e_Stt y_4] (q10 s_7) ∧ PreIs (goodS (Prod.snd (Prod.snd s_7)) ∧ q11 s_7 ≤
 1000000 ∧ q12 s_7 ≤ 1000000) ∧ ∀ (y_5 : Stt), y_5 = q13 s_7 → ∃ (s_8 : Cfg × Script × Stt), ArgsLe [e_Cfg c, e_Script s, e_Stt x] (q10 s_8) ∧ PreIs (goodS (Prod.snd
 (Prod.snd s_8)) ∧ q11 s_8 ≤ 1000000 ∧ q12 s_8 ≤ 1000000) ∧ ∀ (y_6 : Stt), y_6 = q13 s_8 → ∃ (s : Stt × Stt), ArgsLe [e_Stt y_5, e_Stt y_6] [e_Stt (Prod.fst s), e_Stt
 (Prod.snd s)] ∧ PreIs (Stt.ok (Prod.fst s) ∧ Stt.ok (Prod.snd s)) ∧ ∀ (y_7 : Bool), y_7 = sameF (Prod.fst s) (Prod.snd s) → ResLe (.bool (bif q9 y y_1 y_2 y_3 then
 y_7 else false)) r else bif !q9 y y_1 y_2 y_3 then ResLe (.bool false) r else False else bif !q7 y y_1 then ResLe (.bool false) r else False else bif !q3 then ResLe
 (.bool false) r else False else False else False else False else False) := by kernel_rfl
theorem tells_pure (c : Cfg) (s : Script) (x : Stt) (a i n : Int) (hx : x.wf) (ha : i64R a) : Pure Try.prog 7 (cons [e_Cfg c, e_Script s, e_Stt x, .int .i64 a, .int .i64 i, .int .i64 n]) (con (.bool true)) := by
  refine pureR (u := 80) (k := 20) mix TBtok ?_
  refine Eq.mpr (r_tells c s x a i n _) ?_
  refine ⟨x, .rfl, ⟨trivial⟩, ?_⟩
  intro v hv
  replace hv : v = fewF x := hv
  cases v with
  | false => exact .rfl
  | true =>
  have hg := few_good hx hv.symm
  by_cases h1 : (s.lats.length : Int) > 60
  · simp only [h1, decide_true, Bool.not_true, cond_true, cond_false, Bool.not_false]
    exact .rfl
  by_cases h2 : (s.picks.length : Int) > 60
  · simp only [h1, h2, decide_true, decide_false, Bool.not_true, cond_true, cond_false, Bool.not_false]
    exact .rfl
  have ha2 : a ≤ 9223372036854775807 := ha.2
  have g1 : s.lats.length ≤ 1000000 := by omega
  have g2 : s.picks.length ≤ 1000000 := by omega
  simp only [h1, h2, ha2, decide_true, decide_false, Bool.not_true, cond_true, cond_false, Bool.not_false]
  refine ⟨(s, i, n), .rfl, ⟨g1⟩, ?_⟩
  rintro v1 rfl
  refine ⟨(s, i, n), .rfl, ⟨g1⟩, ?_⟩
  rintro v2 rfl
  simp only [decide_true, cond_true]
  refine ⟨(s, i, n), .rfl, ⟨g2⟩, ?_⟩
  rintro v3 rfl
  refine ⟨(s, i, n), .rfl, ⟨g2⟩, ?_⟩
  rintro v4 rfl
  simp only [decide_true, cond_true]
  refine ⟨x, .rfl, ⟨hg.1⟩, ?_⟩
  rintro v5 rfl
  refine ⟨(c, s, v5), .rfl, ⟨hg, g1, g2⟩, ?_⟩
  intro v6 h6
  replace h6 : v6 = advF c s v5 := h6
  subst h6
  refine ⟨(c, s, v5), .rfl, ⟨hg, g1, g2⟩, ?_⟩
  intro v7 h7
  replace h7 : v7 = advF c s v5 := h7
  subst h7
  have ho := (adv_good (c := c) (s := s) hg).1
  refine ⟨(advF c s v5, advF c s v5), .rfl, ⟨ho, ho⟩, ?_⟩
  intro v8 h8
  replace h8 : v8 = sameF (advF c s v5) (advF c s v5) := h8
  rw [sameF_self] at h8
  subst h8
  exact .rfl
end Go.Proofs.Ytbemlndjdbopeaa
namespace Go.Proofs.Ytbemlndjdbopeaa.banksTell
open Go.Ra Go.ChangeShapes Go.WideShapes Go.ChangeAt Go.RowKit
open Go.ChangeMaps (open_string shut_string)
theorem own : ownKnob Try.prog.godebug = none := by kernel_rfl
def Ts : List Ty := [T_Cfg, T_Script, T_Stt, .int .i64, .int .i64, .int .i64]
theorem law (xs : List AV) (h : Ty.hasL Ts xs) : Pure Try.prog 7 xs (.sc (.bool true)) := by
  simp only [Ts, Ty.hasL] at h
  obtain ⟨a, _, rfl, ha, b, _, rfl, hb, d, _, rfl, hd, e, _, rfl, he, f, _, rfl, hf, g, _, rfl, hg, rfl⟩ := h
  obtain ⟨c, rfl, _⟩ := has_Cfg _ ha
  obtain ⟨s, rfl, _⟩ := has_Script _ hb
  obtain ⟨x, rfl, hx⟩ := has_Stt _ hd
  obtain ⟨u, rfl, hu⟩ := has_i64' _ he
  obtain ⟨v, rfl, _⟩ := has_i64' _ hf
  obtain ⟨w, rfl, _⟩ := has_i64' _ hg
  exact tells_pure c s x u v w hx hu
set_option maxRecDepth 100000 in
theorem lifted (os : Os) (started : os.Started) (H : Type) (enc : TypeId × Value → H) :
    ReturnsInHanded {} Try.checked os 7 .any (Rows.banksTellSpec.pre6 enc Try.prog Try.f7 Rows.banksTellRow.domain false) (Rows.banksTellSpec.post enc Try.prog Try.f7 false true false false) := by
  refine returnsInHanded_of_change_sized (C := Try.checked) own started (by kernel_rfl) Try.func7
    (ChangeSpec.witness6 (enc := enc) (C := Try.checked) false ⟨#[], #[.agg #[.int .i64 0, .int .i64 0, .int .i64 0, .int .i64 0, .int .i64 0, .int .i64 0, .int .i64 0, .int .i64 0, .int .i64 0, .int .i64 0, .int .i64 0, .int .i64 0], .agg #[.slice none 0 0, .slice none 0 0], .agg #[.int .i64 0, .int .u32 0, .int .u32 0, .int .u32 0, .int .u32 0, .int .u32 0, .int .u32 0, .int .u32 0, .int .u32 0, .int .u32 0, .int .u32 0, .int .u32 0, .int .u32 0, .int .u32 0, .int .u32 0, .int .u32 0, .int .u32 0, .int .i64 0, .int .i64 0, .int .i64 0, .int .i64 0, .int .i64 0, .int .i64 0, .int .i64 0, .int .i64 0, .int .i64 0, .int .i64 0, .int .i64 0, .int .i64 0, .int .i64 0, .int .i64 0, .int .i64 0, .int .i64 0, .int .i64 0, .int .i64 0, .int .i64 0, .int .i64 0, .bool false, .int .i64 0, .int .u32 0, .int .u32 0, .int .u32 0, .int .u32 0, .int .u32 0, .int .u32 0, .int .u32 0, .int .u32 0, .int .u32 0, .int .u32 0, .int .u32 0, .int .u32 0, .int .u32 0, .int .u32 0, .int .u32 0, .int .u32 0, .int .i64 0, .int .i64 0, .int .i64 0, .int .i64 0, .int .i64 0, .int .i64 0, .int .i64 0, .int .i64 0, .int .i64 0, .int .i64 0, .int .i64 0, .int .i64 0, .int .i64 0, .int .i64 0, .int .i64 0, .int .i64 0, .int .i64 0, .int .i64 0, .int .i64 0, .int .i64 0, .bool false, .int .i64 0, .slice none 0 0, .slice none 0 0, .slice none 0 0, .slice none 0 0, .slice none 0 0, .slice none 0 0, .slice none 0 0, .slice none 0 0, .slice none 0 0, .int .i64 0, .int .i64 0, .int .i64 0, .int .i64 0, .int .i64 0, .int .i64 0], .int .i64 0, .int .i64 0, .int .i64 0], []⟩ 8 (by kernel_rfl) (by kernel_rfl) (by kernel_rfl) (by kernel_rfl)) ?_
  intro W base args ds gs before hval hW hcnd hsz _
  refine law_post (s := Rows.banksTellSpec) (n := 60) (Ts := Ts) (ts := [23, 57, 41, 3, 3, 3]) (tb := 4) (by kernel_rfl) rfl rfl Try.underlying4 rfl (by kernel_rfl) (by kernel_rfl) (fun ds hds => ?_) law W base args ds gs before hval hW hsz
  match ds, hds with
  | [d1, d2, d3, d4, d5, d6], _ => exact ⟨rfl, rfl, rfl⟩
theorem over : Rows.banksTellRow.holds Try.pinned (OpenSpec.ofChange Rows.banksTellSpec) :=
  OpenClaim.holds_of_wide 7 Try.f7 rfl rfl rfl rfl rfl rfl rfl ⟨rfl, rfl, rfl, rfl, rfl⟩ rfl rfl rfl rfl rfl (by kernel_rfl) Try.func7 (by kernel_rfl)
    (of_decide_eq_true (by kernel_rfl)) (by unfold Func.isWrapper; first | (rw [if_pos (by decide +kernel)]; kernel_rfl) | (rw [if_neg (by decide +kernel)]; exact ⟨rfl, rfl⟩))
    (fun os started H enc _ => lifted os started H enc)
theorem proved : Rows.BanksTellSaid := over
end Go.Proofs.Ytbemlndjdbopeaa.banksTell
namespace Go.Proofs.Ytbemlndjdbopeaa
/-- The row, under a short name, for the claim. -/
theorem banksTell_holds : Rows.BanksTellSaid := banksTell.proved
end Go.Proofs.Ytbemlndjdbopeaa
#print axioms Go.Proofs.Ytbemlndjdbopeaa.banksTell_holds
