/- Each program's beginning may be, for each config that may be, with each split of it. -/
import Derived.Test.YthmlnmkbeohojaaRows
import Derived.WalkKit
import Derived.ProofKit
import Derived.OpenShut
import Derived.ShutString
import Derived.ChangeOld
import Derived.Below
import Derived.SizedLaws
import Derived.Test.YthmlnmkbeohojaaPk6

namespace Go.Proofs.Ythmlnmkbeohojaa
open Go.Ra
set_option linter.unusedVariables false
set_option linter.unusedSimpArgs false
def TJ1 : Tab := mkT2 qq cl_ref1 [] [] [] []
def memS : List XV → Option ((XV → Prop) → Prop) := skOf (fun p : Prog => [e_Prog p]) (fun p => rightProg p = true) (fun p => memF p) (fun y => e_row 1 e_u8 y)
def TW0 : Tab := mkT2 qq cl_law19 [] [] [(7, alvS), (8, few4S), (19, splS), (12, cfgS), (14, fstS), (16, rigS), (20, memS)] []
theorem r_mem (p : Prog) (r : XV) : (quietGo TJ1 80 (callI TJ1 80 20) 20 [e_Prog p] (fun v => ResLe v r)) = (bif decide (0 ≤ Prog.size p) then bif decide (Int.toNat (Prog.size p) * 1 ≤ 140737488355328) then bif Nat.beq (Int.toNat (Prog.size p)) (Int.toNat (Prog.size
 p)) then bif decide (Int.toNat (Prog.size p) ≤ Int.toNat (Prog.size p)) then ResLe (.row false 1 (Int.toNat (Prog.size p)) fun i => .int .u8 (bif decide (i < List.length
 (Prog.data p)) then ix (Prog.data p) i else (0 : Int))) r else False else False else False
else False) := by kernel_rfl
theorem r_first (c : Cfg) (p : Prog) (r : XV) : (quietGo TW0 80 (callI TW0 80 20) 4 [e_Cfg c, e_Prog p] (fun v => ResLe v r)) = (∃ (s : Unit), ArgsLe [] [] ∧ PreIs True ∧ ∀ (y : Bool), y = true → ∃ (s : Prog), ArgsLe [e_Prog p] [e_Prog s] ∧ PreIs (Prog.wf s) ∧ ∀ (y_1 : Split × Int), y_1
 = splitF s → bif !!y then ∃ (s : Prog), ArgsLe [e_Prog p] [e_Prog s] ∧ PreIs True ∧ ∀ (y_2 : Bool), y_2 = few4F s → bif bif bif !y then true else !y_2 then true
 else !bif !y then true else !y_2 then bif bif bif bif !y then true else !y_2 then true else decide (Prog.size p > 1000) then true else !bif bif !y then true else
 !y_2 then true else decide (Prog.size p > 1000) then bif !bif bif bif !y then true else !y_2 then true else decide (Prog.size p > 1000) then true else decide ¬Prod.snd
 y_1 = 0 then ∃ (s : Cfg), ArgsLe [e_Cfg c] [e_Cfg s] ∧ PreIs True ∧ ∀ (y_3 : Bool), y_3 = rightCfg s → bif bif bif bif bif !y then true else !y_2 then true else
 decide (Prog.size p > 1000) then true else decide ¬Prod.snd y_1 = 0 then true else !y_3 then ResLe (.bool y) r else ∃ (s : Prog), ArgsLe [e_Prog p] [e_Prog s] ∧
 PreIs (Prog.wf s) ∧ ∀ (y : Stt), y = firstF s → ∃ (s : Cfg × Split × Stt), ArgsLe [e_Cfg c, e_Split (Prod.fst y_1), e_Stt y] [e_Cfg (Prod.fst s), e_Split (Prod.fst
 (Prod.snd s)), e_Stt (Prod.snd (Prod.snd s))] ∧ PreIs (Stt.ok (Prod.snd (Prod.snd s))) ∧ ∀ (y_4 : Bool), y_4 = rightStt (Prod.fst s) (Prod.fst (Prod.snd s)) (Prod.snd
 (Prod.snd s)) → bif bif y_4 then y_4 else true then bif bif y_4 then decide ((↑(List.length (Stt.mem y)) : Int) = Prog.size p) else false then bif allN (fun i =>
 true) (List.length (Stt.mem y)) then ∃ (s : Prog), ArgsLe [e_Prog p] [e_Prog s] ∧ PreIs (rightProg s = true) ∧ ∀ (y_5 : List Int), y_5 = memF s → bif allN (fun i
 => true) (List.length y_5) then ResLe (.bool (bif bif y_4 then decide ((↑(List.length (Stt.mem y)) : Int) = Prog.size p) else false then strEq (List.length (Stt.mem
 y)) (fun i => ix (Stt.mem y) i) (List.length y_5) fun i => ix y_5 i else false)) r else False else False else bif !bif y_4 then decide ((↑(List.length (Stt.mem y))
 : Int) = Prog.size p) else false then ResLe (.bool false) r else False else False else bif bif bif bif !y then true else !y_2 then true else decide (Prog.size p
 > 1000) then true else decide ¬Prod.snd y_1 = 0 then ResLe (.bool y) r else False else False else False else bif !y then ResLe (.bool y) r else False) := by kernel_rfl 

theorem TJ1ok : TabOk Try.prog TJ1 := mkT2_ok clok_ref1 trivial trivial trivial trivial
theorem sk_mem : SkOk Try.prog (20, memS) := skOf_ok fun p h => by
  have hs := right_size (p := p) h
  show Pure _ _ (cons [e_Prog p]) (con (e_row 1 e_u8 (memF p)))
  refine pureR (u := 80) (k := 20) mix TJ1ok ?_
  refine Eq.mpr (r_mem p _) ?_
  have h1 : (0 : Int) ≤ p.size := hs.1
  have h2 : p.size.toNat * 1 ≤ 140737488355328 := by omega
  simp only [g1, g2, g3, g4, g5, g6, g7, allN_true, cond_true, Nat.le_refl, decide_true, pl_eq, h1, h2, Nat.beq_refl]
  refine ⟨lq_erow mem_len.symm (.inl rfl) fun i hi => ?_⟩
  show leQ _ (con (e_u8 (ix (memF p) i)))
  unfold memF
  rw [ix_tabL hi]
  exact .refl _
theorem TW0ok : TabOk Try.prog TW0 := mkT2_ok clok_law19 trivial trivial ⟨sk_alv, sk_few4, sk_split, sk_rcfg, sk_first, sk_right, sk_mem, trivial⟩ trivial
theorem lead_pos {p : Prog} (h : rightProg p = true) : 0 < (leadersF p).length := by
  have hs := right_size h
  unfold leadersF
  rw [if_pos h]
  unfold leadK
  rw [List.length_map, List.length_pos_iff_exists_mem]
  exact ⟨0, List.mem_filter.2 ⟨List.mem_range.2 (by omega), by simp [leadB]⟩⟩
theorem first_right {c : Cfg} {p : Prog} {o : Nat → Int} (hc : rightCfg c = true) (hr : rightProg p = true) : rightStt c ⟨(cutF p).map (withB p o), o⟩ (startF p) = true := by
  have hl : 0 < (cutF p).length := by
    unfold cutF
    rw [cutK_len]
    exact lead_pos hr
  have hs := right_size hr
  have hm : (memF p).length ≤ 65536 := by rw [mem_len]; omega
  have hsd : ∀ e : Bool, sideOk ⟨(cutF p).map (withB p o), o⟩ e zSide = true := fun e => by
    unfold sideOk
    have h1 : withinF (-1) 1099511627776 (tabL 16 zSide.ready) = true := by decide
    rw [h1]
    simp [zSide, withinF, hl]
  have hq : quesF c (startF p) = true := by
    simp [rightCfg, withinF] at hc
    have hm2 : ((memF p).length : Int) ≤ 65536 := by omega
    obtain ⟨⟨g1, g2, g3, g4, g5, g6, g7, g8⟩, _⟩ := hc
    have z : ∀ n : Int, 1 ≤ n ∧ n ≤ 64 → ((0 : Nat) : Int) ≤ n := fun n h => by omega
    simp only [quesF, Bool.and_eq_true, decide_eq_true_eq]
    exact ⟨z _ g1, z _ g2, z _ g3, z _ g4, z _ g5, z _ g6, z _ g7, hm2⟩
  unfold rightStt
  rw [hc, hq]
  show (true && (sideOk _ false zSide && (sideOk _ true zSide && _))) = true
  rw [hsd, hsd]
  rfl
theorem first_pure (c : Cfg) (p : Prog) (hp : p.wf) : Pure Try.prog 4 (cons [e_Cfg c, e_Prog p]) (con (.bool true)) := by
  refine pureR (u := 80) (k := 20) mix TW0ok ?_
  refine Eq.mpr (r_first c p _) ?_
  refine ⟨(), .rfl, ⟨trivial⟩, ?_⟩
  intro v hv
  replace hv : v = true := hv
  subst hv
  refine ⟨p, .rfl, ⟨hp⟩, ?_⟩
  intro y1 h1
  replace h1 : y1 = splitF p := h1
  refine ⟨p, .rfl, ⟨trivial⟩, ?_⟩
  intro y2 _
  cases y2 with
  | false => exact .rfl
  | true =>
  by_cases hz : p.size > 1000
  · simp only [hz, decide_true, Bool.not_true, cond_true, cond_false, Bool.not_false]
    exact .rfl
  by_cases he : y1.2 = 0
  case neg =>
    simp only [hz, he, not_false_eq_true, decide_true, decide_false, Bool.not_true, cond_true, cond_false, Bool.not_false]
    exact .rfl
  simp only [hz, he, not_true_eq_false, decide_true, decide_false, Bool.not_true, cond_true, cond_false, Bool.not_false]
  refine ⟨c, .rfl, ⟨trivial⟩, ?_⟩
  intro y3 h3
  replace h3 : y3 = rightCfg c := h3
  cases y3 with
  | false => exact .rfl
  | true =>
  have hcl : closedF p (ownerF p) = true := by
    cases hcl : closedF p (ownerF p) with
    | true => rfl
    | false =>
      rw [h1] at he
      unfold splitF withF at he
      rw [if_neg (by rw [hcl]; simp)] at he
      cases he
  have hr : rightProg p = true := by
    unfold closedF at hcl
    exact (Bool.and_eq_true_iff.1 hcl).1
  have e1 : y1.1 = ⟨(cutF p).map (withB p (ownerF p)), ownerF p⟩ := by
    rw [h1]
    unfold splitF withF
    rw [if_pos hcl]
  have ef : firstF p = startF p := by
    unfold firstF
    rw [if_pos hr]
  have hs := right_size hr
  refine ⟨p, .rfl, ⟨hp⟩, ?_⟩
  intro y h
  replace h : y = firstF p := h
  rw [ef] at h
  subst h
  refine ⟨(c, y1.1, startF p), .rfl, ⟨start_ok hp hr⟩, ?_⟩
  intro y4 h4
  replace h4 : y4 = rightStt c y1.1 (startF p) := h4
  rw [e1, first_right h3.symm hr] at h4
  subst h4
  have em : ((startF p).mem.length : Int) = p.size := by
    show ((memF p).length : Int) = _
    rw [mem_len]; omega
  simp only [em, decide_true, cond_true, allN_true]
  refine ⟨p, .rfl, ⟨hr⟩, ?_⟩
  intro y5 h5
  replace h5 : y5 = memF p := h5
  subst h5
  have es : strEq (startF p).mem.length (fun i => ix (startF p).mem i) (memF p).length (fun i => ix (memF p) i) = true := strEq_self _ _
  simp only [es, cond_true, allN_true]
  exact .rfl
end Go.Proofs.Ythmlnmkbeohojaa
namespace Go.Proofs.Ythmlnmkbeohojaa.stateFirst
open Go.Ra Go.ChangeShapes Go.WideShapes Go.ChangeAt Go.RowKit
open Go.ChangeMaps (open_string shut_string)
theorem own : ownKnob Try.prog.godebug = none := by kernel_rfl
def Ts : List Ty := [T_Cfg, T_Prog]
theorem law (xs : List AV) (h : Ty.hasL Ts xs) : Pure Try.prog 4 xs (.sc (.bool true)) := by
  simp only [Ts, Ty.hasL] at h
  obtain ⟨a, _, rfl, ha, b, _, rfl, hb, rfl⟩ := h
  obtain ⟨c, rfl, _⟩ := has_Cfg _ ha
  obtain ⟨p, rfl, hp⟩ := has_Prog _ hb
  exact first_pure c p hp
set_option maxRecDepth 100000 in
theorem lifted (os : Os) (started : os.Started) (H : Type) (enc : TypeId × Value → H) :
    ReturnsInHanded {} Try.checked os 4 .any (Rows.stateFirstSpec.pre6 enc Try.prog Try.f4 Rows.stateFirstRow.domain false) (Rows.stateFirstSpec.post enc Try.prog Try.f4 false true false false) := by
  refine returnsInHanded_of_change_sized (C := Try.checked) own started (by kernel_rfl) Try.func4
    (ChangeSpec.witness6 (enc := enc) (C := Try.checked) false ⟨#[], #[.agg #[.int .i64 0, .int .i64 0, .int .i64 0, .int .i64 0, .int .i64 0, .int .i64 0, .int .i64 0, .int .i64 0, .int .i64 0, .int .i64 0, .int .i64 0, .int .i64 0], .agg #[.slice none 0 0, .int .i64 0, .slice none 0 0]], []⟩ 8 (by kernel_rfl) (by kernel_rfl) (by kernel_rfl) (by kernel_rfl)) ?_
  intro W base args ds gs before hval hW hcnd hsz _
  refine law_post (s := Rows.stateFirstSpec) (n := 60) (Ts := Ts) (ts := [23, 27]) (tb := 4) (by kernel_rfl) rfl rfl Try.underlying4 rfl (by kernel_rfl) (by kernel_rfl) (fun ds hds => ?_) law W base args ds gs before hval hW hsz
  match ds, hds with
  | [d1, d2], _ => exact ⟨rfl, rfl, rfl⟩
theorem over : Rows.stateFirstRow.holds Try.pinned (OpenSpec.ofChange Rows.stateFirstSpec) :=
  OpenClaim.holds_of_wide 4 Try.f4 rfl rfl rfl rfl rfl rfl rfl ⟨rfl, rfl, rfl, rfl, rfl⟩ rfl rfl rfl rfl rfl (by kernel_rfl) Try.func4 (by kernel_rfl)
    (of_decide_eq_true (by kernel_rfl)) (by unfold Func.isWrapper; first | (rw [if_pos (by decide +kernel)]; kernel_rfl) | (rw [if_neg (by decide +kernel)]; exact ⟨rfl, rfl⟩))
    (fun os started H enc _ => lifted os started H enc)
theorem proved : Rows.StateFirstSaid := over
end Go.Proofs.Ythmlnmkbeohojaa.stateFirst
namespace Go.Proofs.Ythmlnmkbeohojaa
/-- The row, under a short name, for the claim. -/
theorem stateFirst_holds : Rows.StateFirstSaid := stateFirst.proved
end Go.Proofs.Ythmlnmkbeohojaa
#print axioms Go.Proofs.Ythmlnmkbeohojaa.stateFirst_holds
