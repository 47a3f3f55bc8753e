/- What one step leaves of any result, and where it goes on, and what a whole run leaves. -/
import Derived.Test.YtmfbaglhmiadjaaRows
import Derived.WalkKit
import Derived.ProofKit
import Derived.OpenShut
import Derived.ShutString
import Derived.ChangeOld
import Derived.Below
import Derived.SizedLaws
import Derived.Test.YtmfbaglhmiadjaaPk6

namespace Go.Proofs.Ytmfbaglhmiadjaa
open Go.Ra
set_option linter.unusedVariables false
set_option linter.unusedSimpArgs false
def TY0 : Tab := mkT2 qq cl_law6 [] [] [(10, alvS), (11, few4S), (19, few6S), (21, cprS), (20, stpS), (22, stpS), (13, runS), (24, runS), (23, samrS)] []
theorem r_tells (p : Prog) (s : Rslt) (pc fuel : Int) (r : XV) : (quietGo TY0 80 (callI TY0 80 20) 7 [e_Prog p, e_Rslt s, .int .i64 pc, .int .i64 fuel] (fun v => ResLe v r)) = (∃ (s_1 : Unit), ArgsLe [] [] ∧ PreIs True ∧ ∀ (y : Bool), y = true → bif !!y then ∃ (s_2 : Prog), ArgsLe [e_Prog p] [e_Prog s_2] ∧ PreIs True ∧ ∀ (y_1 : Bool),
 y_1 = few4F s_2 → bif bif bif !y then true else !y_1 then true else !bif !y then true else !y_1 then bif !bif bif !y then true else !y_1 then true else decide (Prog.size
 p > 1000) then ∃ (s_3 : Rslt), ArgsLe [e_Rslt s] [e_Rslt s_3] ∧ PreIs True ∧ ∀ (y_2 : Bool), y_2 = few6F s_3 → bif bif bif bif bif !y then true else !y_1 then true
 else decide (Prog.size p > 1000) then true else !y_2 then true else !bif bif bif !y then true else !y_1 then true else decide (Prog.size p > 1000) then true else
 !y_2 then bif bif bif bif bif !y then true else !y_1 then true else decide (Prog.size p > 1000) then true else !y_2 then true else decide (fuel > 300) then ResLe
 (.bool y) r else ∃ (s_4 : Rslt), ArgsLe [e_Rslt s] [e_Rslt s_4] ∧ PreIs (rsOk s_4) ∧ ∀ (y : Rslt), y = s_4 → ∃ (s_5 : Prog × Rslt × Int), ArgsLe [e_Prog p, e_Rslt
 y, .int .i64 pc] [e_Prog (Prod.fst s_5), e_Rslt (Prod.fst (Prod.snd s_5)), .int .i64 (Prod.snd (Prod.snd s_5))] ∧ PreIs (Prog.wf (Prod.fst s_5) ∧ rsOk (Prod.fst
 (Prod.snd s_5)) ∧ List.length (Rslt.writes (Prod.fst (Prod.snd s_5))) ≤ 999999) ∧ ∀ (y : Rslt × Int), y = stpF (Prod.fst s_5) (Prod.fst (Prod.snd s_5)) (Prod.snd
 (Prod.snd s_5)) → ∃ (s_6 : Prog × Rslt × Int), ArgsLe [e_Prog p, e_Rslt s, .int .i64 pc] [e_Prog (Prod.fst s_6), e_Rslt (Prod.fst (Prod.snd s_6)), .int .i64 (Prod.snd
 (Prod.snd s_6))] ∧ PreIs (Prog.wf (Prod.fst s_6) ∧ rsOk (Prod.fst (Prod.snd s_6)) ∧ List.length (Rslt.writes (Prod.fst (Prod.snd s_6))) ≤ 999999) ∧ ∀ (y_3 : Rslt
 × Int), y_3 = stpF (Prod.fst s_6) (Prod.fst (Prod.snd s_6)) (Prod.snd (Prod.snd s_6)) → ∃ (s : Rslt), ArgsLe [e_Rslt (Prod.fst y), e_Rslt (Prod.fst y_3)] [e_Rslt
 s, e_Rslt s] ∧ PreIs (rsOk s) ∧ ∀ (y_4 : Bool), y_4 = true → bif bif y_4 then y_4 else true then bif bif y_4 then decide (Prod.snd y = Prod.snd y_3) else false then
 ∃ (s : Prog × Int), ArgsLe [e_Prog p, .int .i64 fuel] [e_Prog (Prod.fst s), .int .i64 (Prod.snd s)] ∧ PreIs (Prog.wf (Prod.fst s)) ∧ ∀ (y_5 : Rslt), y_5 = runF (Prod.fst
 s) (Prod.snd s) → ∃ (s : Prog × Int), ArgsLe [e_Prog p, .int .i64 fuel] [e_Prog (Prod.fst s), .int .i64 (Prod.snd s)] ∧ PreIs (Prog.wf (Prod.fst s)) ∧ ∀ (y_6 : Rslt),
 y_6 = runF (Prod.fst s) (Prod.snd s) → ∃ (s : Rslt), ArgsLe [e_Rslt y_5, e_Rslt y_6] [e_Rslt s, e_Rslt s] ∧ PreIs (rsOk s) ∧ ∀ (y_7 : Bool), y_7 = true → ResLe (.bool
 (bif bif y_4 then decide (Prod.snd y = Prod.snd y_3) else false then y_7 else false)) r else bif !bif y_4 then decide (Prod.snd y = Prod.snd y_3) else false then
 ResLe (.bool false) r else False else False else False else bif bif bif !y then true else !y_1 then true else decide (Prog.size p > 1000) then ResLe (.bool y) r
 else False else False else bif !y then ResLe (.bool y) r else False) := by kernel_rfl
theorem TY0ok : TabOk Try.prog TY0 := mkT2_ok clok_law6 trivial trivial ⟨sk_alv, sk_few4, sk_few6, sk_cpr, sk_sst, sk_stp, sk_qrun, sk_run, sk_samr, trivial⟩ trivial
theorem run_ok {p : Prog} (hw : p.wf) (fuel : Int) : rsOk (runF p fuel) := by
  unfold runF
  by_cases hr : rightProg p = true
  · rw [if_pos hr]
    have hs := right_size hr
    have hfl : fuelF fuel ≤ 100000 := by
      unfold fuelF
      repeat' split
      all_goals omega
    obtain ⟨i1, i2, i3, i4⟩ := it_inv hw hr (fuelF fuel) (by omega)
    split
    · obtain ⟨_, h2, h3, h4, h5, h6⟩ := i1
      exact ⟨⟨by show i64R 3; unfold i64R; omega, h2, h3, h4, h5, h6⟩, by show (itR p (fuelF fuel)).1.mem.length ≤ _; omega, by show (itR p (fuelF fuel)).1.writes.length ≤ _; omega⟩
    · exact ⟨i1, by omega, by omega⟩
  · rw [if_neg hr]
    exact r0_ok (fun x hx => by cases hx) (Nat.zero_le _)
theorem tells_pure (p : Prog) (s : Rslt) (pc fuel : Int) (hp : p.wf) (hs : rsWf s) (hpc : i64R pc) : Pure Try.prog 7 (cons [e_Prog p, e_Rslt s, .int .i64 pc, .int .i64 fuel]) (con (.bool true)) := by
  refine pureR (u := 80) (k := 20) mix TY0ok ?_
  refine Eq.mpr (r_tells p s pc fuel _) ?_
  refine ⟨(), .rfl, ⟨trivial⟩, ?_⟩
  rintro y rfl
  refine ⟨p, .rfl, ⟨trivial⟩, ?_⟩
  intro y1 h1
  cases y1 with
  | false => exact .rfl
  | true =>
  by_cases hz : p.size > 1000
  · simp only [hz, decide_true, Bool.not_true, cond_true, cond_false]
    exact .rfl
  simp only [hz, decide_false, Bool.not_true, Bool.not_false, cond_true, cond_false]
  refine ⟨s, .rfl, ⟨trivial⟩, ?_⟩
  intro y2 h2
  replace h2 : y2 = few6F s := h2
  cases y2 with
  | false => exact .rfl
  | true =>
  simp only [few6F, Bool.true_eq, Bool.and_eq_true, decide_eq_true_eq] at h2
  by_cases hf : fuel > 300
  · simp only [hf, decide_true, Bool.not_true, Bool.not_false, cond_true, cond_false]
    exact .rfl
  simp only [hf, decide_false, Bool.not_true, Bool.not_false, cond_true, cond_false]
  have ho : rsOk s := ⟨hs, by omega, by omega⟩
  have hl : s.writes.length ≤ 999999 := by omega
  have os : rsOk (stpF p s pc).1 := by
    obtain ⟨⟨b1, b2, b3⟩, _⟩ := stp_inv (p := p) ho hl hpc
    exact ⟨b1, by omega, by omega⟩
  refine ⟨s, .rfl, ⟨ho⟩, ?_⟩
  intro v1 e1
  replace e1 : v1 = s := e1
  subst e1
  refine ⟨(p, v1, pc), .rfl, ⟨hp, ho, hl⟩, ?_⟩
  intro v2 e2
  replace e2 : v2 = stpF p v1 pc := e2
  subst e2
  refine ⟨(p, v1, pc), .rfl, ⟨hp, ho, hl⟩, ?_⟩
  intro v3 e3
  replace e3 : v3 = stpF p v1 pc := e3
  subst e3
  refine ⟨(stpF p v1 pc).1, .rfl, ⟨os⟩, ?_⟩
  rintro v4 rfl
  have eq1 : decide ((stpF p v1 pc).2 = (stpF p v1 pc).2) = true := by simp
  simp only [eq1, cond_true]
  refine ⟨(p, fuel), .rfl, ⟨hp⟩, ?_⟩
  intro v5 e5
  replace e5 : v5 = runF p fuel := e5
  subst e5
  refine ⟨(p, fuel), .rfl, ⟨hp⟩, ?_⟩
  intro v6 e6
  replace e6 : v6 = runF p fuel := e6
  subst e6
  refine ⟨runF p fuel, .rfl, ⟨run_ok hp fuel⟩, ?_⟩
  rintro v7 rfl
  exact .rfl
end Go.Proofs.Ytmfbaglhmiadjaa
namespace Go.Proofs.Ytmfbaglhmiadjaa.seqTells
open Go.Ra Go.ChangeShapes Go.WideShapes Go.ChangeAt Go.RowKit
open Go.ChangeMaps (open_string shut_string)
theorem own : ownKnob Try.prog.godebug = none := by kernel_rfl
def Ts : List Ty := [T_Prog, T_Rslt, .int .i64, .int .i64]
theorem law (xs : List AV) (h : Ty.hasL Ts xs) : Pure Try.prog 7 xs (.sc (.bool true)) := by
  simp only [Ts, Ty.hasL] at h
  obtain ⟨a, _, rfl, ha, b, _, rfl, hb, d, _, rfl, hd, e, _, rfl, he, rfl⟩ := h
  obtain ⟨p, rfl, hp⟩ := has_Prog _ ha
  obtain ⟨s, rfl, hs⟩ := has_Rslt _ hb
  obtain ⟨pc, rfl, hpc⟩ := has_i64' _ hd
  obtain ⟨fuel, rfl, _⟩ := has_i64' _ he
  exact tells_pure p s pc fuel hp hs hpc
set_option maxRecDepth 100000 in
theorem lifted (os : Os) (started : os.Started) (H : Type) (enc : TypeId × Value → H) :
    ReturnsInHanded {} Try.checked os 7 .any (Rows.seqTellsSpec.pre6 enc Try.prog Try.f7 Rows.seqTellsRow.domain false) (Rows.seqTellsSpec.post enc Try.prog Try.f7 false true false false) := by
  refine returnsInHanded_of_change_sized (C := Try.checked) own started (by kernel_rfl) Try.func7
    (ChangeSpec.witness6 (enc := enc) (C := Try.checked) false ⟨#[], #[.agg #[.slice none 0 0, .int .i64 0, .slice none 0 0], .agg #[.int .i64 0, .int .i64 0, .int .i64 0, .int .i64 0, .int .i64 0, .int .u32 0, .int .u32 0, .int .u32 0, .int .u32 0, .int .u32 0, .int .u32 0, .int .u32 0, .int .u32 0, .int .u32 0, .int .u32 0, .int .u32 0, .int .u32 0, .int .u32 0, .int .u32 0, .int .u32 0, .int .u32 0, .slice none 0 0, .slice none 0 0], .int .i64 0, .int .i64 0], []⟩ 8 (by kernel_rfl) (by kernel_rfl) (by kernel_rfl) (by kernel_rfl)) ?_
  intro W base args ds gs before hval hW hcnd hsz _
  refine law_post (s := Rows.seqTellsSpec) (n := 60) (Ts := Ts) (ts := [25, 34, 3, 3]) (tb := 4) (by kernel_rfl) rfl rfl Try.underlying4 rfl (by kernel_rfl) (by kernel_rfl) (fun ds hds => ?_) law W base args ds gs before hval hW hsz
  match ds, hds with
  | [d1, d2, d3, d4], _ => exact ⟨rfl, rfl, rfl⟩
theorem over : Rows.seqTellsRow.holds Try.pinned (OpenSpec.ofChange Rows.seqTellsSpec) :=
  OpenClaim.holds_of_wide 7 Try.f7 rfl rfl rfl rfl rfl rfl rfl ⟨rfl, rfl, rfl, rfl, rfl⟩ rfl rfl rfl rfl rfl (by kernel_rfl) Try.func7 (by kernel_rfl)
    (of_decide_eq_true (by kernel_rfl)) (by unfold Func.isWrapper; first | (rw [if_pos (by decide +kernel)]; kernel_rfl) | (rw [if_neg (by decide +kernel)]; exact ⟨rfl, rfl⟩))
    (fun os started H enc _ => lifted os started H enc)
theorem proved : Rows.SeqTellsSaid := over
end Go.Proofs.Ytmfbaglhmiadjaa.seqTells
namespace Go.Proofs.Ytmfbaglhmiadjaa
/-- The row, under a short name, for the claim. -/
theorem seqTells_holds : Rows.SeqTellsSaid := seqTells.proved
end Go.Proofs.Ytmfbaglhmiadjaa
#print axioms Go.Proofs.Ytmfbaglhmiadjaa.seqTells_holds
