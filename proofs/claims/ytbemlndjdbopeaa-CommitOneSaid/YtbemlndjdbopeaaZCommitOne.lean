/- A store that is sent is the first, once, with the first word, its lowest bytes, and the next one waits till it is gone. -/
import Derived.Test.YtbemlndjdbopeaaRows
import Derived.WalkKit
import Derived.ProofKit
import Derived.OpenShut
import Derived.ShutString
import Derived.ChangeOld
import Derived.Below
import Derived.SizedLaws
import Derived.Test.YtbemlndjdbopeaaPk5

namespace Go.Proofs.Ytbemlndjdbopeaa
open Go.Ra
set_option linter.unusedVariables false
set_option linter.unusedSimpArgs false
def TCo : Tab := mkT2 qq (cl_law23 ++ cl_commit) [(12, alvSp), (20, mskSp)] [] [(13, fewS), (33, canS), (17, sndS), (18, cpyS), (16, samS)] []
theorem TCook : TabOk Try.prog TCo := mkT2_ok (clok_law23.app clok_commit) ⟨sp_alv23, sp_mask, trivial⟩ trivial ⟨sk_few, sk_can, sk_snd, sk_cpy, sk_same, trivial⟩ trivial
theorem r_one (c : Cfg) (s : Stt) (r : XV) : (quietGo TCo 80 (callI TCo 80 20) 4 [e_Cfg c, e_Stt s] (fun v => ResLe v r)) = (∃ (s_1 : Stt), ArgsLe [e_Stt s] [e_Stt s_1] ∧ PreIs True ∧ ∀ (y : Bool), y = fewF s_1 → bif !!y then ∃ (s_2 : Cfg × Stt), ArgsLe [e_Cfg c, .fptr (e_Stt s)] [e_Cfg
 (Prod.fst s_2), .fptr (e_Stt (Prod.snd s_2))] ∧ PreIs (Stt.ok (Prod.snd s_2)) ∧ ∀ (y_1 : Bool), y_1 = canF (Prod.fst s_2) (Prod.snd s_2) → bif bif !y then true else
 !y_1 then ResLe (.bool true) r else ∃ (s_3 : Stt), ArgsLe [e_Stt s] [e_Stt s_3] ∧ PreIs (Stt.ok s_3) ∧ ∀ (y : Stt), y = s_3 → ∃ (s_4 : Cfg × Stt), ArgsLe [e_Cfg
 c, e_Stt y] [e_Cfg (Prod.fst s_4), e_Stt (Prod.snd s_4)] ∧ PreIs (Stt.ok (Prod.snd s_4)) ∧ ∀ (y : Stt), y = sendF (Prod.fst s_4) (Prod.snd s_4) → bif bif decide
 ¬(↑(List.length (Stt.saq y)) : Int) = (↑(List.length (Stt.saq s)) : Int) then true else !decide ¬(↑(List.length (Stt.saq y)) : Int) = (↑(List.length (Stt.saq s))
 : Int) then bif bif bif decide ¬(↑(List.length (Stt.saq y)) : Int) = (↑(List.length (Stt.saq s)) : Int) then true else decide ¬(↑(List.length (Stt.sdq y)) : Int)
 = IntKind.wrap .i64 ((↑(List.length (Stt.sdq s)) : Int) - (1 : Int)) then true else !bif decide ¬(↑(List.length (Stt.saq y)) : Int) = (↑(List.length (Stt.saq s))
 : Int) then true else decide ¬(↑(List.length (Stt.sdq y)) : Int) = IntKind.wrap .i64 ((↑(List.length (Stt.sdq s)) : Int) - (1 : Int)) then bif bif bif decide ¬(↑(List.length
 (Stt.saq y)) : Int) = (↑(List.length (Stt.saq s)) : Int) then true else decide ¬(↑(List.length (Stt.sdq y)) : Int) = IntKind.wrap .i64 ((↑(List.length (Stt.sdq s))
 : Int) - (1 : Int)) then true else decide ¬(↑(List.length (Stt.table y)) : Int) = IntKind.wrap .i64 ((↑(List.length (Stt.table s)) : Int) + (1 : Int)) then ResLe
 (.bool false) r else bif decide ((↑(List.length (Stt.table s)) : Int) < (↑(List.length (Stt.table y)) : Int)) then bif decide (0 < (↑(List.length (Stt.saq s)) :
 Int)) then bif bif Req.store (ix (Stt.table y) (List.length (Stt.table s))) then Req.store (ix (Stt.table y) (List.length (Stt.table s))) else true then bif bif
 bif Req.store (ix (Stt.table y) (List.length (Stt.table s))) then decide (Req.addr (ix (Stt.table y) (List.length (Stt.table s))) = Entry.addr (ix (Stt.saq s) 0))
 else false then bif Req.store (ix (Stt.table y) (List.length (Stt.table s))) then decide (Req.addr (ix (Stt.table y) (List.length (Stt.table s))) = Entry.addr (ix
 (Stt.saq s) 0)) else false else true then bif bif decide (0 < (↑(List.length (Stt.sdq s)) : Int)) then true else !bif bif Req.store (ix (Stt.table y) (List.length
 (Stt.table s))) then decide (Req.addr (ix (Stt.table y) (List.length (Stt.table s))) = Entry.addr (ix (Stt.saq s) 0)) else false then decide (Req.size (ix (Stt.table
 y) (List.length (Stt.table s))) = Entry.size (ix (Stt.saq s) 0)) else false then bif bif bif bif Req.store (ix (Stt.table y) (List.length (Stt.table s))) then decide
 (Req.addr (ix (Stt.table y) (List.length (Stt.table s))) = Entry.addr (ix (Stt.saq s) 0)) else false then decide (Req.size (ix (Stt.table y) (List.length (Stt.table
 s))) = Entry.size (ix (Stt.saq s) 0)) else false then bif bif Req.store (ix (Stt.table y) (List.length (Stt.table s))) then decide (Req.addr (ix (Stt.table y) (List.length
 (Stt.table s))) = Entry.addr (ix (Stt.saq s) 0)) else false then decide (Req.size (ix (Stt.table y) (List.length (Stt.table s))) = Entry.size (ix (Stt.saq s) 0))
 else false else true then bif bif decide (0 < (↑(List.length (Stt.saq y)) : Int)) then true else !bif bif bif Req.store (ix (Stt.table y) (List.length (Stt.table
 s))) then decide (Req.addr (ix (Stt.table y) (List.length (Stt.table s))) = Entry.addr (ix (Stt.saq s) 0)) else false then decide (Req.size (ix (Stt.table y) (List.length
 (Stt.table s))) = Entry.size (ix (Stt.saq s) 0)) else false then decide (Req.val (ix (Stt.table y) (List.length (Stt.table s))) = mskI (ix (Stt.sdq s) 0) (Entry.size
 (ix (Stt.saq s) 0))) else false then bif bif bif bif bif Req.store (ix (Stt.table y) (List.length (Stt.table s))) then decide (Req.addr (ix (Stt.table y) (List.length
 (Stt.table s))) = Entry.addr (ix (Stt.saq s) 0)) else false then decide (Req.size (ix (Stt.table y) (List.length (Stt.table s))) = Entry.size (ix (Stt.saq s) 0))
 else false then decide (Req.val (ix (Stt.table y) (List.length (Stt.table s))) = mskI (ix (Stt.sdq s) 0) (Entry.size (ix (Stt.saq s) 0))) else false then bif bif
 bif Req.store (ix (Stt.table y) (List.length (Stt.table s))) then decide (Req.addr (ix (Stt.table y) (List.length (Stt.table s))) = Entry.addr (ix (Stt.saq s) 0))
 else false then decide (Req.size (ix (Stt.table y) (List.length (Stt.table s))) = Entry.size (ix (Stt.saq s) 0)) else false then decide (Req.val (ix (Stt.table y)
 (List.length (Stt.table s))) = mskI (ix (Stt.sdq s) 0) (Entry.size (ix (Stt.saq s) 0))) else false else true then bif bif decide (0 < (↑(List.length (Stt.saq y))
 : Int)) then true else !bif bif bif bif Req.store (ix (Stt.table y) (List.length (Stt.table s))) then decide (Req.addr (ix (Stt.table y) (List.length (Stt.table
 s))) = Entry.addr (ix (Stt.saq s) 0)) else false then decide (Req.size (ix (Stt.table y) (List.length (Stt.table s))) = Entry.size (ix (Stt.saq s) 0)) else false
 then decide (Req.val (ix (Stt.table y) (List.length (Stt.table s))) = mskI (ix (Stt.sdq s) 0) (Entry.size (ix (Stt.saq s) 0))) else false then Entry.known (ix (Stt.saq
 y) 0) else false then bif bif bif bif bif bif Req.store (ix (Stt.table y) (List.length (Stt.table s))) then decide (Req.addr (ix (Stt.table y) (List.length (Stt.table
 s))) = Entry.addr (ix (Stt.saq s) 0)) else false then decide (Req.size (ix (Stt.table y) (List.length (Stt.table s))) = Entry.size (ix (Stt.saq s) 0)) else false
 then decide (Req.val (ix (Stt.table y) (List.length (Stt.table s))) = mskI (ix (Stt.sdq s) 0) (Entry.size (ix (Stt.saq s) 0))) else false then Entry.known (ix (Stt.saq
 y) 0) else false then bif bif bif bif Req.store (ix (Stt.table y) (List.length (Stt.table s))) then decide (Req.addr (ix (Stt.table y) (List.length (Stt.table s)))
 = Entry.addr (ix (Stt.saq s) 0)) else false then decide (Req.size (ix (Stt.table y) (List.length (Stt.table s))) = Entry.size (ix (Stt.saq s) 0)) else false then
 decide (Req.val (ix (Stt.table y) (List.length (Stt.table s))) = mskI (ix (Stt.sdq s) 0) (Entry.size (ix (Stt.saq s) 0))) else false then Entry.known (ix (Stt.saq
 y) 0) else false else true then bif bif bif bif bif bif Req.store (ix (Stt.table y) (List.length (Stt.table s))) then decide (Req.addr (ix (Stt.table y) (List.length
 (Stt.table s))) = Entry.addr (ix (Stt.saq s) 0)) else false then decide (Req.size (ix (Stt.table y) (List.length (Stt.table s))) = Entry.size (ix (Stt.saq s) 0))
 else false then decide (Req.val (ix (Stt.table y) (List.length (Stt.table s))) = mskI (ix (Stt.sdq s) 0) (Entry.size (ix (Stt.saq s) 0))) else false then Entry.known
 (ix (Stt.saq y) 0) else false then decide (Entry.val (ix (Stt.saq y) 0) = Req.val (ix (Stt.table y) (List.length (Stt.table s)))) else false then ∃ (s_5 : Cfg ×
 Stt), ArgsLe [e_Cfg c, .fptr (e_Stt y)] [e_Cfg (Prod.fst s_5), .fptr (e_Stt (Prod.snd s_5))] ∧ PreIs (Stt.ok (Prod.snd s_5)) ∧ ∀ (y_2 : Bool), y_2 = canF (Prod.fst
 s_5) (Prod.snd s_5) → bif bif bif bif bif bif bif Req.store (ix (Stt.table y) (List.length (Stt.table s))) then decide (Req.addr (ix (Stt.table y) (List.length (Stt.table
 s))) = Entry.addr (ix (Stt.saq s) 0)) else false then decide (Req.size (ix (Stt.table y) (List.length (Stt.table s))) = Entry.size (ix (Stt.saq s) 0)) else false
 then decide (Req.val (ix (Stt.table y) (List.length (Stt.table s))) = mskI (ix (Stt.sdq s) 0) (Entry.size (ix (Stt.saq s) 0))) else false then Entry.known (ix (Stt.saq
 y) 0) else false then decide (Entry.val (ix (Stt.saq y) 0) = Req.val (ix (Stt.table y) (List.length (Stt.table s)))) else false then !y_2 else false then ∃ (s_6
 : Stt), ArgsLe [e_Stt y] [e_Stt s_6] ∧ PreIs (Stt.ok s_6) ∧ ∀ (y_3 : Stt), y_3 = s_6 → ∃ (s_7 : Cfg × Stt), ArgsLe [e_Cfg c, e_Stt y_3] [e_Cfg (Prod.fst s_7), e_Stt
 (Prod.snd s_7)] ∧ PreIs (Stt.ok (Prod.snd s_7)) ∧ ∀ (y_4 : Stt), y_4 = sendF (Prod.fst s_7) (Prod.snd s_7) → ∃ (s_8 : Stt × Stt), ArgsLe [e_Stt y_4, e_Stt y] [e_Stt
 (Prod.fst s_8), e_Stt (Prod.snd s_8)] ∧ PreIs (Stt.ok (Prod.fst s_8) ∧ Stt.ok (Prod.snd s_8)) ∧ ∀ (y_5 : Bool), y_5 = sameF (Prod.fst s_8) (Prod.snd s_8) → ResLe
 (.bool (bif bif bif bif bif bif bif Req.store (ix (Stt.table y) (List.length (Stt.table s))) then decide (Req.addr (ix (Stt.table y) (List.length (Stt.table s)))
 = Entry.addr (ix (Stt.saq s) 0)) else false then decide (Req.size (ix (Stt.table y) (List.length (Stt.table s))) = Entry.size (ix (Stt.saq s) 0)) else false then
 decide (Req.val (ix (Stt.table y) (List.length (Stt.table s))) = mskI (ix (Stt.sdq s) 0) (Entry.size (ix (Stt.saq s) 0))) else false then Entry.known (ix (Stt.saq
 y) 0) else false then decide (Entry.val (ix (Stt.saq y) 0) = Req.val (ix (Stt.table y) (List.length (Stt.table s)))) else false then !y_2 else false then y_5 else
 false)) r else bif !bif bif bif bif bif bif Req.store (ix (Stt.table y) (List.length (Stt.table s))) then decide (Req.addr (ix (Stt.table y) (List.length (Stt.table
 s))) = Entry.addr (ix (Stt.saq s) 0)) else false then decide (Req.size (ix (Stt.table y) (List.length (Stt.table s))) = Entry.size (ix (Stt.saq s) 0)) else false
 then decide (Req.val (ix (Stt.table y) (List.length (Stt.table s))) = mskI (ix (Stt.sdq s) 0) (Entry.size (ix (Stt.saq s) 0))) else false then Entry.known (ix (Stt.saq
 y) 0) else false then decide (Entry.val (ix (Stt.saq y) 0) = Req.val (ix (Stt.table y) (List.length (Stt.table s)))) else false then !y_2 else false then ResLe (.bool
 false) r else False else bif !bif bif bif bif bif Req.store (ix (Stt.table y) (List.length (Stt.table s))) then decide (Req.addr (ix (Stt.table y) (List.length (Stt.table
 s))) = Entry.addr (ix (Stt.saq s) 0)) else false then decide (Req.size (ix (Stt.table y) (List.length (Stt.table s))) = Entry.size (ix (Stt.saq s) 0)) else false
 then decide (Req.val (ix (Stt.table y) (List.length (Stt.table s))) = mskI (ix (Stt.sdq s) 0) (Entry.size (ix (Stt.saq s) 0))) else false then Entry.known (ix (Stt.saq
 y) 0) else false then decide (Entry.val (ix (Stt.saq y) 0) = Req.val (ix (Stt.table y) (List.length (Stt.table s)))) else false then ResLe (.bool false) r else False
 else False else False else False else False else False else False else False else False else False else False else False else False else bif !y then ResLe (.bool
 true) r else False) := by kernel_rfl
theorem one_pure (c : Cfg) (s : Stt) (hw : s.wf) : Pure Try.prog 4 (cons [e_Cfg c, e_Stt s]) (con (.bool true)) := by
  refine pureR (u := 80) (k := 20) mix TCook ?_
  refine Eq.mpr (r_one c s _) ?_
  refine ⟨s, .rfl, ⟨trivial⟩, ?_⟩
  rintro y rfl
  cases hf : fewF s with
  | false => exact .rfl
  | true =>
    have hok := few_ok hw hf
    have hn : s.table.length ≤ 64 := by
      simp only [fewF, Bool.and_eq_true, decide_eq_true_eq] at hf
      omega
    simp only [Bool.not_true, Bool.not_false, cond_true, cond_false]
    refine ⟨(c, s), .rfl, ⟨hok⟩, ?_⟩
    rintro y1 rfl
    show cond (!canF c s) _ _
    cases hu : canF c s with
    | false => exact .rfl
    | true =>
      have hs : sendF c s = sendG s := by unfold sendF; rw [if_pos hu]
      have hu' := hu
      simp only [canF, Bool.and_eq_true, decide_eq_true_eq] at hu'
      have l8 : 0 < s.saq.length := List.length_pos_iff.2 hu'.1
      have l4 : 0 < s.sdq.length := List.length_pos_iff.2 hu'.2.2.1
      have t4 : (sendG s).sdq.length = s.sdq.length - 1 := by simp [sendG]
      have t8 : (sendG s).saq.length = s.saq.length := by simp [sendG]
      have t9 : (sendG s).table.length = s.table.length + 1 := by simp [sendG]
      have e9 : ix (sendG s).table s.table.length = ⟨true, opI (ix s.saq 0).size, (ix s.saq 0).addr, (ix s.saq 0).size, mskI (ix s.sdq 0) (ix s.saq 0).size, 0, 0, 0⟩ := by
        simp only [sendG, ix_append, Nat.lt_irrefl, if_false, Nat.sub_self]
        rfl
      have e8 : ix (sendG s).saq 0 = { ix s.saq 0 with known := true, val := mskI (ix s.sdq 0) (ix s.saq 0).size } := by
        simp only [sendG, ix_set, l8, and_self, if_true]
      have hc2 : canF c (sendG s) = false := by
        unfold canF
        rw [e8]
        simp
      have hs2 : sendF c (sendG s) = sendG s := by unfold sendF; rw [if_neg (by rw [hc2]; simp)]
      have hok2 : (sendG s).ok := by rw [← hs]; exact send_ok hok (by omega)
      have hl := hok.2
      have w1 : IntKind.i64.wrap ((s.sdq.length : Int) - 1) = ((s.sdq.length - 1 : Nat) : Int) := by rw [wrap_i64 (by omega) (by omega)]; omega
      have w2 : IntKind.i64.wrap ((s.table.length : Int) + 1) = ((s.table.length + 1 : Nat) : Int) := by rw [wrap_i64 (by omega) (by omega)]; omega
      have w3 : (s.table.length : Int) < ((s.table.length + 1 : Nat) : Int) := by omega
      have l8' : (0 : Int) < (s.saq.length : Int) := by omega
      have l4' : (0 : Int) < (s.sdq.length : Int) := by omega
      simp only [Bool.not_true, cond_false]
      refine ⟨s, .rfl, ⟨hok⟩, ?_⟩
      rintro y2 rfl
      refine ⟨(c, y2), .rfl, ⟨hok⟩, ?_⟩
      intro y3 hy
      replace hy : y3 = sendF c y2 := hy
      rw [hs] at hy
      subst hy
      simp only [t4, t8, t9, e8, e9, w1, w2, w3, l8', l4', not_true_eq_false, decide_true, decide_false, cond_true, cond_false, Bool.not_true, Bool.not_false, pk_or, pk_and]
      refine ⟨(c, sendG y2), .rfl, ⟨hok2⟩, ?_⟩
      intro y4 hy
      replace hy : y4 = canF c (sendG y2) := hy
      rw [hc2] at hy
      subst hy
      simp only [cond_true, Bool.not_false]
      refine ⟨sendG y2, .rfl, ⟨hok2⟩, ?_⟩
      rintro y5 hy
      subst hy
      refine ⟨(c, sendG y2), .rfl, ⟨hok2⟩, ?_⟩
      intro y6 hy
      replace hy : y6 = sendF c (sendG y2) := hy
      rw [hs2] at hy
      subst hy
      refine ⟨(sendG y2, sendG y2), .rfl, ⟨hok2, hok2⟩, ?_⟩
      intro y7 hy
      replace hy : y7 = sameF (sendG y2) (sendG y2) := hy
      rw [sameF_self] at hy
      subst hy
      exact .rfl
end Go.Proofs.Ytbemlndjdbopeaa
namespace Go.Proofs.Ytbemlndjdbopeaa.commitOne
open Go.Ra Go.ChangeShapes Go.WideShapes Go.ChangeAt Go.RowKit
open Go.ChangeMaps (open_string shut_string)
theorem own : ownKnob Try.prog.godebug = none := by kernel_rfl
def Ts : List Ty := [T_Cfg, T_Stt]
theorem law (xs : List AV) (h : Ty.hasL Ts xs) : Pure Try.prog 4 xs (.sc (.bool true)) := by
  simp only [Ts, Ty.hasL] at h
  obtain ⟨a, _, rfl, ha, b, _, rfl, hb, rfl⟩ := h
  obtain ⟨c, rfl, _⟩ := has_Cfg _ ha
  obtain ⟨s, rfl, hw⟩ := has_Stt _ hb
  exact one_pure c s hw
set_option maxRecDepth 100000 in
theorem lifted (os : Os) (started : os.Started) (H : Type) (enc : TypeId × Value → H) :
    ReturnsInHanded {} Try.checked os 4 .any (Rows.commitOneSpec.pre6 enc Try.prog Try.f4 Rows.commitOneRow.domain false) (Rows.commitOneSpec.post enc Try.prog Try.f4 false true false false) := by
  refine returnsInHanded_of_change_sized (C := Try.checked) own started (by kernel_rfl) Try.func4
    (ChangeSpec.witness6 (enc := enc) (C := Try.checked) false ⟨#[], #[.agg #[.int .i64 0, .int .i64 0, .int .i64 0, .int .i64 0, .int .i64 0, .int .i64 0, .int .i64 0, .int .i64 0, .int .i64 0, .int .i64 0, .int .i64 0, .int .i64 0], .agg #[.int .i64 0, .int .u32 0, .int .u32 0, .int .u32 0, .int .u32 0, .int .u32 0, .int .u32 0, .int .u32 0, .int .u32 0, .int .u32 0, .int .u32 0, .int .u32 0, .int .u32 0, .int .u32 0, .int .u32 0, .int .u32 0, .int .u32 0, .int .i64 0, .int .i64 0, .int .i64 0, .int .i64 0, .int .i64 0, .int .i64 0, .int .i64 0, .int .i64 0, .int .i64 0, .int .i64 0, .int .i64 0, .int .i64 0, .int .i64 0, .int .i64 0, .int .i64 0, .int .i64 0, .int .i64 0, .int .i64 0, .int .i64 0, .int .i64 0, .bool false, .int .i64 0, .int .u32 0, .int .u32 0, .int .u32 0, .int .u32 0, .int .u32 0, .int .u32 0, .int .u32 0, .int .u32 0, .int .u32 0, .int .u32 0, .int .u32 0, .int .u32 0, .int .u32 0, .int .u32 0, .int .u32 0, .int .u32 0, .int .i64 0, .int .i64 0, .int .i64 0, .int .i64 0, .int .i64 0, .int .i64 0, .int .i64 0, .int .i64 0, .int .i64 0, .int .i64 0, .int .i64 0, .int .i64 0, .int .i64 0, .int .i64 0, .int .i64 0, .int .i64 0, .int .i64 0, .int .i64 0, .int .i64 0, .int .i64 0, .bool false, .int .i64 0, .slice none 0 0, .slice none 0 0, .slice none 0 0, .slice none 0 0, .slice none 0 0, .slice none 0 0, .slice none 0 0, .slice none 0 0, .slice none 0 0, .int .i64 0, .int .i64 0, .int .i64 0, .int .i64 0, .int .i64 0, .int .i64 0]], []⟩ 8 (by kernel_rfl) (by kernel_rfl) (by kernel_rfl) (by kernel_rfl)) ?_
  intro W base args ds gs before hval hW hcnd hsz _
  refine law_post (s := Rows.commitOneSpec) (n := 60) (Ts := Ts) (ts := [23, 41]) (tb := 4) (by kernel_rfl) rfl rfl Try.underlying4 rfl (by kernel_rfl) (by kernel_rfl) (fun ds hds => ?_) law W base args ds gs before hval hW hsz
  match ds, hds with
  | [d1, d2], _ => exact ⟨rfl, rfl, rfl⟩
theorem over : Rows.commitOneRow.holds Try.pinned (OpenSpec.ofChange Rows.commitOneSpec) :=
  OpenClaim.holds_of_wide 4 Try.f4 rfl rfl rfl rfl rfl rfl rfl ⟨rfl, rfl, rfl, rfl, rfl⟩ rfl rfl rfl rfl rfl (by kernel_rfl) Try.func4 (by kernel_rfl)
    (of_decide_eq_true (by kernel_rfl)) (by unfold Func.isWrapper; first | (rw [if_pos (by decide +kernel)]; kernel_rfl) | (rw [if_neg (by decide +kernel)]; exact ⟨rfl, rfl⟩))
    (fun os started H enc _ => lifted os started H enc)
theorem proved : Rows.CommitOneSaid := over
end Go.Proofs.Ytbemlndjdbopeaa.commitOne
namespace Go.Proofs.Ytbemlndjdbopeaa
/-- The row, under a short name, for the claim. -/
theorem commitOne_holds : Rows.CommitOneSaid := commitOne.proved
end Go.Proofs.Ytbemlndjdbopeaa
#print axioms Go.Proofs.Ytbemlndjdbopeaa.commitOne_holds
