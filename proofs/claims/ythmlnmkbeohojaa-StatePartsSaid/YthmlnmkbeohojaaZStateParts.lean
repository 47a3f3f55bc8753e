/- Two states that part in one place are not one. -/
import Derived.Test.YthmlnmkbeohojaaRows
import Derived.WalkKit
import Derived.ProofKit
import Derived.OpenShut
import Derived.ShutString
import Derived.ChangeOld
import Derived.Below
import Derived.SizedLaws
import Derived.Test.YthmlnmkbeohojaaPk6

namespace Go.Proofs.Ythmlnmkbeohojaa
open Go.Ra
set_option linter.unusedVariables false
set_option linter.unusedSimpArgs false
def TQ1 : Tab := mkT2 qq (cl_law19 ++ cl_ref15) [] gl_ref15 [(7, alvS), (10, fewS), (18, smlS)] []
def TQ2 : Tab := mkT2 qq cl_law19 [] [] [(7, alvS), (10, fewS)] []
theorem TQ1ok : TabOk Try.prog TQ1 := mkT2_ok (clok_law19.app clok_ref15) trivial glok_ref15 ⟨sk_alv, sk_few, sk_sml, trivial⟩ trivial
theorem TQ2ok : TabOk Try.prog TQ2 := mkT2_ok clok_law19 trivial trivial ⟨sk_alv, sk_few, trivial⟩ trivial
theorem r_parX (x : Stt) (w : Int) (r : XV) : (quietGo TQ2 80 (callI TQ2 80 20) 6 [e_Stt x, .int .i64 w] (fun v => ResLe v r)) = (∃ (s : Unit), ArgsLe [] [] ∧ PreIs True ∧ ∀ (y : Bool), y = true → bif !!y then ∃ (s : Stt), ArgsLe [e_Stt x] [e_Stt s] ∧ PreIs True ∧ ∀ (y_1 : Bool), y_1 =
 fewF s → bif bif bif !y then true else !y_1 then true else !bif !y then true else !y_1 then bif bif bif bif !y then true else !y_1 then true else decide (w < 0)
 then true else !bif bif !y then true else !y_1 then true else decide (w < 0) then bif bif bif bif !y then true else !y_1 then true else decide (w < 0) then true
 else decide (w > 15) then ResLe (.bool y) r else False else False else False else bif !y then ResLe (.bool y) r else False) := by kernel_rfl
/-- What the law comes to where a number is turned. -/
def parT (x : Stt) (X r : XV) : Prop := (∃ (s : Unit), ArgsLe [] [] ∧ PreIs True ∧ ∀ (y : Bool), y = true → bif !!y then ∃ (s : Stt), ArgsLe [e_Stt x] [e_Stt s] ∧ PreIs True ∧ ∀ (y_1 : Bool), y_1 = fewF
  s → bif bif bif !y then true else !y_1 then true else !bif !y then true else !y_1 then bif bif bif bif !y then true else !y_1 then true else false then true else
  !bif bif !y then true else !y_1 then true else false then bif bif bif bif !y then true else !y_1 then true else false then true else false then ResLe (.bool y) r
  else bif decide (List.length (Stt.ldq x) * 16 ≤ 140737488355328) then bif allN (fun i => true) (List.length (Stt.ldq x)) then bif decide (List.length (Stt.sdq x)
  * 4 ≤ 140737488355328) then bif decide (List.length (Stt.aeq x) * 4 ≤ 140737488355328) then bif decide (List.length (Stt.abq x) * 1 ≤ 140737488355328) then bif decide
  (List.length (Stt.ebq x) * 1 ≤ 140737488355328) then bif decide (List.length (Stt.saq x) * 32 ≤ 140737488355328) then bif decide (List.length (Stt.table x) * 64
  ≤ 140737488355328) then bif decide (List.length (Stt.mem x) * 1 ≤ 140737488355328) then bif decide (List.length (Stt.writes x) * 24 ≤ 140737488355328) then bif decide
  (List.length (Stt.ldq x) ≤ List.length (Stt.ldq x)) then bif decide (List.length (Stt.sdq x) ≤ List.length (Stt.sdq x)) then bif decide (List.length (Stt.aeq x)
  ≤ List.length (Stt.aeq x)) then bif decide (List.length (Stt.abq x) ≤ List.length (Stt.abq x)) then bif decide (List.length (Stt.ebq x) ≤ List.length (Stt.ebq x))
  then bif decide (List.length (Stt.saq x) ≤ List.length (Stt.saq x)) then bif decide (List.length (Stt.table x) ≤ List.length (Stt.table x)) then bif decide (List.length
  (Stt.mem x) ≤ List.length (Stt.mem x)) then bif decide (List.length (Stt.writes x) ≤ List.length (Stt.writes x)) then ∃ (s : Stt × Stt), ArgsLe [e_Stt x, X] [e_Stt
  (Prod.fst s), e_Stt (Prod.snd s)] ∧ PreIs (Stt.lens (Prod.fst s)) ∧ ∀ (y : Bool), y = sameF (Prod.fst s) (Prod.snd s) → bif !y then bif decide (List.length (Stt.ldq
  x) ≤ List.length (Stt.ldq x)) then bif decide (List.length (Stt.sdq x) ≤ List.length (Stt.sdq x)) then bif decide (List.length (Stt.aeq x) ≤ List.length (Stt.aeq
  x)) then bif decide (List.length (Stt.abq x) ≤ List.length (Stt.abq x)) then bif decide (List.length (Stt.ebq x) ≤ List.length (Stt.ebq x)) then bif decide (List.length
  (Stt.saq x) ≤ List.length (Stt.saq x)) then bif decide (List.length (Stt.table x) ≤ List.length (Stt.table x)) then bif decide (List.length (Stt.mem x) ≤ List.length
  (Stt.mem x)) then bif decide (List.length (Stt.writes x) ≤ List.length (Stt.writes x)) then ∃ (s : Stt × Stt), ArgsLe [X, e_Stt x] [e_Stt (Prod.fst s), e_Stt (Prod.snd
  s)] ∧ PreIs (Stt.lens (Prod.fst s)) ∧ ∀ (y_2 : Bool), y_2 = sameF (Prod.fst s) (Prod.snd s) → bif bif !y then !y_2 else false then bif decide (List.length (Stt.ldq
  x) ≤ List.length (Stt.ldq x)) then bif decide (List.length (Stt.sdq x) ≤ List.length (Stt.sdq x)) then bif decide (List.length (Stt.aeq x) ≤ List.length (Stt.aeq
  x)) then bif decide (List.length (Stt.abq x) ≤ List.length (Stt.abq x)) then bif decide (List.length (Stt.ebq x) ≤ List.length (Stt.ebq x)) then bif decide (List.length
  (Stt.saq x) ≤ List.length (Stt.saq x)) then bif decide (List.length (Stt.table x) ≤ List.length (Stt.table x)) then bif decide (List.length (Stt.mem x) ≤ List.length
  (Stt.mem x)) then bif decide (List.length (Stt.writes x) ≤ List.length (Stt.writes x)) then bif decide (List.length (Stt.ldq x) ≤ List.length (Stt.ldq x)) then bif
  decide (List.length (Stt.sdq x) ≤ List.length (Stt.sdq x)) then bif decide (List.length (Stt.aeq x) ≤ List.length (Stt.aeq x)) then bif decide (List.length (Stt.abq
  x) ≤ List.length (Stt.abq x)) then bif decide (List.length (Stt.ebq x) ≤ List.length (Stt.ebq x)) then bif decide (List.length (Stt.saq x) ≤ List.length (Stt.saq
  x)) then bif decide (List.length (Stt.table x) ≤ List.length (Stt.table x)) then bif decide (List.length (Stt.mem x) ≤ List.length (Stt.mem x)) then bif decide (List.length
  (Stt.writes x) ≤ List.length (Stt.writes x)) then ∃ (s : Stt × Stt), ArgsLe [X, X] [e_Stt (Prod.fst s), e_Stt (Prod.snd s)] ∧ PreIs (Stt.lens (Prod.fst s)) ∧ ∀ (y_3
  : Bool), y_3 = sameF (Prod.fst s) (Prod.snd s) → ResLe (.bool (bif bif !y then !y_2 else false then y_3 else false)) r else False else False else False else False
  else False else False else False else False else False else False else False else False else False else False else False else False else False else False else bif
  !bif !y then !y_2 else false then ResLe (.bool false) r else False else False else False else False else False else False else False else False else False else False
  else bif !!y then ResLe (.bool false) r else False else False else False else False else False else False else False else False else False else False else False
  else False else False else False else False else False else False else False else False else False else False else False else bif !y then ResLe (.bool y) r else
  False)
/-- What the law comes to where a row is longer. -/
def parU (x : Stt) (X : XV) (l0 m0 n0 n1 n2 n3 n4 n5 n6 n7 n8 : Nat) (r : XV) : Prop := (∃ (s : Unit), ArgsLe [] [] ∧ PreIs True ∧ ∀ (y : Bool), y = true → bif !!y then ∃ (s : Stt), ArgsLe [e_Stt x] [e_Stt s] ∧ PreIs True ∧ ∀ (y_1 : Bool), y_1 = fewF
  s → bif bif bif !y then true else !y_1 then true else !bif !y then true else !y_1 then bif bif bif bif !y then true else !y_1 then true else false then true else
  !bif bif !y then true else !y_1 then true else false then bif bif bif bif !y then true else !y_1 then true else false then true else false then ResLe (.bool y) r
  else bif decide (List.length (Stt.ldq x) * 16 ≤ 140737488355328) then bif allN (fun i => true) (List.length (Stt.ldq x)) then bif decide (List.length (Stt.sdq x)
  * 4 ≤ 140737488355328) then bif decide (List.length (Stt.aeq x) * 4 ≤ 140737488355328) then bif decide (List.length (Stt.abq x) * 1 ≤ 140737488355328) then bif decide
  (List.length (Stt.ebq x) * 1 ≤ 140737488355328) then bif decide (List.length (Stt.saq x) * 32 ≤ 140737488355328) then bif decide (List.length (Stt.table x) * 64
  ≤ 140737488355328) then bif decide (List.length (Stt.mem x) * 1 ≤ 140737488355328) then bif decide (List.length (Stt.writes x) * 24 ≤ 140737488355328) then bif decide
  (l0 ≤ l0) then bif decide (m0 ≤ 140737488355328) then bif decide (n0 ≤ n0) then bif decide (n1 ≤ n1) then bif decide (n2 ≤ n2) then bif decide (n3 ≤ n3) then bif
  decide (n4 ≤ n4) then bif decide (n5 ≤ n5) then bif decide (n6 ≤ n6) then bif decide (n7 ≤ n7) then bif decide (n8 ≤ n8) then ∃ (s : Stt × Stt), ArgsLe [e_Stt x,
  X] [e_Stt (Prod.fst s), e_Stt (Prod.snd s)] ∧ PreIs (Stt.lens (Prod.fst s)) ∧ ∀ (y : Bool), y = sameF (Prod.fst s) (Prod.snd s) → bif !y then bif decide (n0 ≤ n0)
  then bif decide (n1 ≤ n1) then bif decide (n2 ≤ n2) then bif decide (n3 ≤ n3) then bif decide (n4 ≤ n4) then bif decide (n5 ≤ n5) then bif decide (n6 ≤ n6) then
  bif decide (n7 ≤ n7) then bif decide (n8 ≤ n8) then ∃ (s : Stt × Stt), ArgsLe [X, e_Stt x] [e_Stt (Prod.fst s), e_Stt (Prod.snd s)] ∧ PreIs (Stt.lens (Prod.fst s))
  ∧ ∀ (y_2 : Bool), y_2 = sameF (Prod.fst s) (Prod.snd s) → bif bif !y then !y_2 else false then bif decide (n0 ≤ n0) then bif decide (n1 ≤ n1) then bif decide (n2
  ≤ n2) then bif decide (n3 ≤ n3) then bif decide (n4 ≤ n4) then bif decide (n5 ≤ n5) then bif decide (n6 ≤ n6) then bif decide (n7 ≤ n7) then bif decide (n8 ≤ n8)
  then bif decide (n0 ≤ n0) then bif decide (n1 ≤ n1) then bif decide (n2 ≤ n2) then bif decide (n3 ≤ n3) then bif decide (n4 ≤ n4) then bif decide (n5 ≤ n5) then
  bif decide (n6 ≤ n6) then bif decide (n7 ≤ n7) then bif decide (n8 ≤ n8) then ∃ (s : Stt × Stt), ArgsLe [X, X] [e_Stt (Prod.fst s), e_Stt (Prod.snd s)] ∧ PreIs (Stt.lens
  (Prod.fst s)) ∧ ∀ (y_3 : Bool), y_3 = sameF (Prod.fst s) (Prod.snd s) → ResLe (.bool (bif bif !y then !y_2 else false then y_3 else false)) r else False else False
  else False else False else False else False else False else False else False else False else False else False else False else False else False else False else False
  else False else bif !bif !y then !y_2 else false then ResLe (.bool false) r else False else False else False else False else False else False else False else False
  else False else False else bif !!y then ResLe (.bool false) r else False else False else False else False else False else False else False else False else False
  else False else False else False else False else False else False else False else False else False else False else False else False else False else False else False
  else bif !y then ResLe (.bool y) r else False)
theorem wi_ne {n : Int} (h : i64R n) : ¬ IntKind.i64.wrap (n + 1) = n := by
  unfold i64R at h
  by_cases hn : n = 9223372036854775807
  · subst hn; decide
  · rw [wrap_i64 (by omega) (by omega)]; omega
theorem wu_ne {n : Int} (h : u32R n) : ¬ IntKind.u32.wrap (n + 1) = n := by
  unfold u32R at h
  rw [wU32]; omega
theorem ap_ne {α : Type} {l : List α} {a : α} : ¬ l ++ [a] = l := fun h => by
  have := congrArg List.length h
  simp at this
theorem reg_no {s s' : Side} (h : ¬ s.regs 7 = s'.regs 7) : sideB s s' = false := by
  unfold sideB
  rw [allN_false (i := 7) (by decide) (decide_eq_false h)]
  rfl
theorem rdy_no {s s' : Side} (h : ¬ s.ready 3 = s'.ready 3) : sideB s s' = false := by
  unfold sideB
  rw [allN_false (p := fun i => decide (s.ready i = s'.ready i)) (i := 3) (by decide) (decide_eq_false h), Bool.false_and, Bool.and_false]
theorem app_lq {α : Type} [Inhabited α] {es n : Nat} {f : Nat → XV} {en : α → XV} {l : List α} {a : α} (hn : n = l.length + 1) (h1 : ∀ i, i < l.length → con (f i) = con (en (ix l i))) (h2 : con (f l.length) = con (en a)) : leQ (con (.row false es n f)) (con (e_row es en (l ++ [a]))) := by
  refine lq_erow (by rw [hn, app_len]) (.inl rfl) fun i hi => lq_con ?_
  by_cases hlt : i < l.length
  · rw [ix_app_lt hlt]; exact h1 i hlt
  · obtain rfl : i = l.length := by omega
    rw [ix_app_eq]; exact h2
theorem parT_ok (x x' : Stt) (X : XV) (hw : x.wf) (hf : fewF x = true) (hX : leQ (con X) (con (e_Stt x'))) (hl' : x'.lens) (e1 : sameF x' x = false) (e2 : sameF x x' = false) : parT x X (.bool true) := by
  unfold parT
  refine ⟨(), .rfl, ⟨trivial⟩, ?_⟩
  intro y hy
  replace hy : y = true := hy
  subst hy
  refine ⟨x, .rfl, ⟨trivial⟩, ?_⟩
  intro y hy
  replace hy : y = fewF x := hy
  rw [hf] at hy
  subst hy
  have hok := few_ok hw hf
  have hl : x.lens := hok.2
  obtain ⟨b1, b2, b3, b4, b5, b6, b7, b8, b9⟩ := ok_b hok
  simp only [b1, b2, b3, b4, b5, b6, b7, b8, b9, allN_true, Nat.le_refl, decide_true, cond_true, cond_false, Bool.not_true, Bool.not_false]
  refine ⟨(x, x'), ⟨lqs_cons (.refl _) (lqs_cons hX lqs_nil)⟩, ⟨hl⟩, ?_⟩
  intro y hy
  replace hy : y = sameF x x' := hy
  rw [e2] at hy
  subst hy
  refine ⟨(x', x), ⟨lqs_cons hX (lqs_cons (.refl _) lqs_nil)⟩, ⟨hl'⟩, ?_⟩
  intro y hy
  replace hy : y = sameF x' x := hy
  rw [e1] at hy
  subst hy
  refine ⟨(x', x'), ⟨lqs_cons hX (lqs_cons hX lqs_nil)⟩, ⟨hl'⟩, ?_⟩
  intro y hy
  replace hy : y = sameF x' x' := hy
  rw [sameF_self] at hy
  subst hy
  exact .rfl
theorem parU_ok (x x' : Stt) (X : XV) (l0 m0 n0 n1 n2 n3 n4 n5 n6 n7 n8 : Nat) (hm : m0 ≤ 140737488355328) (hw : x.wf) (hf : fewF x = true) (hX : leQ (con X) (con (e_Stt x'))) (hl' : x'.lens) (e1 : sameF x' x = false) (e2 : sameF x x' = false) : parU x X l0 m0 n0 n1 n2 n3 n4 n5 n6 n7 n8 (.bool true) := by
  unfold parU
  refine ⟨(), .rfl, ⟨trivial⟩, ?_⟩
  intro y hy
  replace hy : y = true := hy
  subst hy
  refine ⟨x, .rfl, ⟨trivial⟩, ?_⟩
  intro y hy
  replace hy : y = fewF x := hy
  rw [hf] at hy
  subst hy
  have hok := few_ok hw hf
  have hl : x.lens := hok.2
  obtain ⟨b1, b2, b3, b4, b5, b6, b7, b8, b9⟩ := ok_b hok
  simp only [b1, b2, b3, b4, b5, b6, b7, b8, b9, hm, allN_true, Nat.le_refl, decide_true, cond_true, cond_false, Bool.not_true, Bool.not_false]
  refine ⟨(x, x'), ⟨lqs_cons (.refl _) (lqs_cons hX lqs_nil)⟩, ⟨hl⟩, ?_⟩
  intro y hy
  replace hy : y = sameF x x' := hy
  rw [e2] at hy
  subst hy
  refine ⟨(x', x), ⟨lqs_cons hX (lqs_cons (.refl _) lqs_nil)⟩, ⟨hl'⟩, ?_⟩
  intro y hy
  replace hy : y = sameF x' x := hy
  rw [e1] at hy
  subst hy
  refine ⟨(x', x'), ⟨lqs_cons hX (lqs_cons hX lqs_nil)⟩, ⟨hl'⟩, ?_⟩
  intro y hy
  replace hy : y = sameF x' x' := hy
  rw [sameF_self] at hy
  subst hy
  exact .rfl
set_option maxRecDepth 100000 in
theorem r_par0 (x : Stt) (r : XV) : (quietGo TQ1 80 (callI TQ1 80 20) 6 [e_Stt x, .int .i64 0] (fun v => ResLe v r)) = parT x (.agg 92 [.int .i64 (IntKind.wrap .i64 (Stt.cycle x + (1 : Int))), e_Side (Stt.a x), e_Side (Stt.e x), e_row 3 e_Slot (Stt.ldq x), e_row 1 e_u32 (Stt.sdq
  x), e_row 1 e_u32 (Stt.aeq x), e_row 1 e_bool (Stt.abq x), e_row 1 e_bool (Stt.ebq x), e_row 5 e_Entry (Stt.saq x), e_row 8 e_Req (Stt.table x), e_row 1 e_u8 (Stt.mem
  x), e_row 3 e_Wr (Stt.writes x), e_Trp (Stt.trap x), .int .i64 (Stt.lats x), .int .i64 (Stt.picks x), .int .i64 (Stt.tags x)]) r := by kernel_rfl
theorem part0 (x : Stt) (hw : x.wf) (hf : fewF x = true) : Pure Try.prog 6 (cons [e_Stt x, .int .i64 0]) (con (.bool true)) := by
  refine pureR (u := 80) (k := 20) mix TQ1ok ?_
  refine Eq.mpr (r_par0 x _) ?_
  have e1 : sameF ({ x with cycle := IntKind.i64.wrap (x.cycle + 1) } : Stt) x = false := by simp [same_eq, wi_ne hw.1]
  have e2 : sameF x ({ x with cycle := IntKind.i64.wrap (x.cycle + 1) } : Stt) = false := by simp [same_eq, Ne.symm (wi_ne hw.1)]
  have hl : x.lens := (few_ok hw hf).2
  have hl' : Stt.lens ({ x with cycle := IntKind.i64.wrap (x.cycle + 1) } : Stt) := by
    simp only [fewF, Bool.and_eq_true, decide_eq_true_eq] at hf
    refine ⟨?_, ?_, ?_, ?_, ?_, ?_, ?_, ?_, ?_⟩ <;> simp <;> omega
  exact parT_ok x ({ x with cycle := IntKind.i64.wrap (x.cycle + 1) } : Stt) _ hw hf (.refl _) hl' e1 e2
set_option maxRecDepth 100000 in
theorem r_par1 (x : Stt) (r : XV) : (quietGo TQ1 80 (callI TQ1 80 20) 6 [e_Stt x, .int .i64 1] (fun v => ResLe v r)) = parT x (.agg 92 [.int .i64 (Stt.cycle x), .agg 38 [.tab 16 1 fun j => .int .u32 (bif Nat.beq j 7 then IntKind.wrap .u32 (Side.regs (Stt.a x) 7 + (1 : Int)) else
  Side.regs (Stt.a x) j), .tab 16 1 fun i => .int .i64 (Side.ready (Stt.a x) i), e_Pos (Side.pos (Stt.a x)), .int .i64 (Side.wait (Stt.a x)), .bool (Side.halted (Stt.a
  x)), .int .i64 (Side.done (Stt.a x))], e_Side (Stt.e x), e_row 3 e_Slot (Stt.ldq x), e_row 1 e_u32 (Stt.sdq x), e_row 1 e_u32 (Stt.aeq x), e_row 1 e_bool (Stt.abq
  x), e_row 1 e_bool (Stt.ebq x), e_row 5 e_Entry (Stt.saq x), e_row 8 e_Req (Stt.table x), e_row 1 e_u8 (Stt.mem x), e_row 3 e_Wr (Stt.writes x), e_Trp (Stt.trap
  x), .int .i64 (Stt.lats x), .int .i64 (Stt.picks x), .int .i64 (Stt.tags x)]) r := by kernel_rfl
theorem part1 (x : Stt) (hw : x.wf) (hf : fewF x = true) : Pure Try.prog 6 (cons [e_Stt x, .int .i64 1]) (con (.bool true)) := by
  refine pureR (u := 80) (k := 20) mix TQ1ok ?_
  refine Eq.mpr (r_par1 x _) ?_
  have e1 : sameF ({ x with a := { x.a with regs := fun j => bif Nat.beq j 7 then IntKind.u32.wrap (x.a.regs 7 + 1) else x.a.regs j } } : Stt) x = false := by rw [same_eq, reg_no (s := { x.a with regs := fun j => bif Nat.beq j 7 then IntKind.u32.wrap (x.a.regs 7 + 1) else x.a.regs j }) (wu_ne (hw.2.1.1 7 (by decide)))]; simp
  have e2 : sameF x ({ x with a := { x.a with regs := fun j => bif Nat.beq j 7 then IntKind.u32.wrap (x.a.regs 7 + 1) else x.a.regs j } } : Stt) = false := by rw [same_eq, reg_no (s' := { x.a with regs := fun j => bif Nat.beq j 7 then IntKind.u32.wrap (x.a.regs 7 + 1) else x.a.regs j }) (Ne.symm (wu_ne (hw.2.1.1 7 (by decide))))]; simp
  have hl : x.lens := (few_ok hw hf).2
  have hl' : Stt.lens ({ x with a := { x.a with regs := fun j => bif Nat.beq j 7 then IntKind.u32.wrap (x.a.regs 7 + 1) else x.a.regs j } } : Stt) := by
    simp only [fewF, Bool.and_eq_true, decide_eq_true_eq] at hf
    refine ⟨?_, ?_, ?_, ?_, ?_, ?_, ?_, ?_, ?_⟩ <;> simp <;> omega
  exact parT_ok x ({ x with a := { x.a with regs := fun j => bif Nat.beq j 7 then IntKind.u32.wrap (x.a.regs 7 + 1) else x.a.regs j } } : Stt) _ hw hf (.refl _) hl' e1 e2
set_option maxRecDepth 100000 in
theorem r_par2 (x : Stt) (r : XV) : (quietGo TQ1 80 (callI TQ1 80 20) 6 [e_Stt x, .int .i64 2] (fun v => ResLe v r)) = parT x (.agg 92 [.int .i64 (Stt.cycle x), e_Side (Stt.a x), .agg 38 [.tab 16 1 fun i => .int .u32 (Side.regs (Stt.e x) i), .tab 16 1 fun j => .int .i64 (bif Nat.beq
  j 3 then IntKind.wrap .i64 (Side.ready (Stt.e x) 3 + (1 : Int)) else Side.ready (Stt.e x) j), e_Pos (Side.pos (Stt.e x)), .int .i64 (Side.wait (Stt.e x)), .bool
  (Side.halted (Stt.e x)), .int .i64 (Side.done (Stt.e x))], e_row 3 e_Slot (Stt.ldq x), e_row 1 e_u32 (Stt.sdq x), e_row 1 e_u32 (Stt.aeq x), e_row 1 e_bool (Stt.abq
  x), e_row 1 e_bool (Stt.ebq x), e_row 5 e_Entry (Stt.saq x), e_row 8 e_Req (Stt.table x), e_row 1 e_u8 (Stt.mem x), e_row 3 e_Wr (Stt.writes x), e_Trp (Stt.trap
  x), .int .i64 (Stt.lats x), .int .i64 (Stt.picks x), .int .i64 (Stt.tags x)]) r := by kernel_rfl
theorem part2 (x : Stt) (hw : x.wf) (hf : fewF x = true) : Pure Try.prog 6 (cons [e_Stt x, .int .i64 2]) (con (.bool true)) := by
  refine pureR (u := 80) (k := 20) mix TQ1ok ?_
  refine Eq.mpr (r_par2 x _) ?_
  have e1 : sameF ({ x with e := { x.e with ready := fun j => bif Nat.beq j 3 then IntKind.i64.wrap (x.e.ready 3 + 1) else x.e.ready j } } : Stt) x = false := by rw [same_eq, rdy_no (s := { x.e with ready := fun j => bif Nat.beq j 3 then IntKind.i64.wrap (x.e.ready 3 + 1) else x.e.ready j }) (wi_ne (hw.2.2.1.2.1 3 (by decide)))]; simp
  have e2 : sameF x ({ x with e := { x.e with ready := fun j => bif Nat.beq j 3 then IntKind.i64.wrap (x.e.ready 3 + 1) else x.e.ready j } } : Stt) = false := by rw [same_eq, rdy_no (s' := { x.e with ready := fun j => bif Nat.beq j 3 then IntKind.i64.wrap (x.e.ready 3 + 1) else x.e.ready j }) (Ne.symm (wi_ne (hw.2.2.1.2.1 3 (by decide))))]; simp
  have hl : x.lens := (few_ok hw hf).2
  have hl' : Stt.lens ({ x with e := { x.e with ready := fun j => bif Nat.beq j 3 then IntKind.i64.wrap (x.e.ready 3 + 1) else x.e.ready j } } : Stt) := by
    simp only [fewF, Bool.and_eq_true, decide_eq_true_eq] at hf
    refine ⟨?_, ?_, ?_, ?_, ?_, ?_, ?_, ?_, ?_⟩ <;> simp <;> omega
  exact parT_ok x ({ x with e := { x.e with ready := fun j => bif Nat.beq j 3 then IntKind.i64.wrap (x.e.ready 3 + 1) else x.e.ready j } } : Stt) _ hw hf (.refl _) hl' e1 e2
set_option maxRecDepth 100000 in
theorem r_par3 (x : Stt) (r : XV) : (quietGo TQ1 80 (callI TQ1 80 20) 6 [e_Stt x, .int .i64 3] (fun v => ResLe v r)) = parT x (.agg 92 [.int .i64 (Stt.cycle x), .agg 38 [.tab 16 1 fun i => .int .u32 (Side.regs (Stt.a x) i), .tab 16 1 fun i => .int .i64 (Side.ready (Stt.a x) i), .agg
  3 [.int .i64 (Pos.block (Side.pos (Stt.a x))), .int .i64 (IntKind.wrap .i64 (Pos.index (Side.pos (Stt.a x)) + (1 : Int))), .int .i64 (Pos.base (Side.pos (Stt.a x)))],
  .int .i64 (Side.wait (Stt.a x)), .bool (Side.halted (Stt.a x)), .int .i64 (Side.done (Stt.a x))], e_Side (Stt.e x), e_row 3 e_Slot (Stt.ldq x), e_row 1 e_u32 (Stt.sdq
  x), e_row 1 e_u32 (Stt.aeq x), e_row 1 e_bool (Stt.abq x), e_row 1 e_bool (Stt.ebq x), e_row 5 e_Entry (Stt.saq x), e_row 8 e_Req (Stt.table x), e_row 1 e_u8 (Stt.mem
  x), e_row 3 e_Wr (Stt.writes x), e_Trp (Stt.trap x), .int .i64 (Stt.lats x), .int .i64 (Stt.picks x), .int .i64 (Stt.tags x)]) r := by kernel_rfl
theorem part3 (x : Stt) (hw : x.wf) (hf : fewF x = true) : Pure Try.prog 6 (cons [e_Stt x, .int .i64 3]) (con (.bool true)) := by
  refine pureR (u := 80) (k := 20) mix TQ1ok ?_
  refine Eq.mpr (r_par3 x _) ?_
  have e1 : sameF ({ x with a := { x.a with pos := { x.a.pos with index := IntKind.i64.wrap (x.a.pos.index + 1) } } } : Stt) x = false := by simp [same_eq, sideB, wi_ne hw.2.1.2.2.1.2.1]
  have e2 : sameF x ({ x with a := { x.a with pos := { x.a.pos with index := IntKind.i64.wrap (x.a.pos.index + 1) } } } : Stt) = false := by simp [same_eq, sideB, Ne.symm (wi_ne hw.2.1.2.2.1.2.1)]
  have hl : x.lens := (few_ok hw hf).2
  have hl' : Stt.lens ({ x with a := { x.a with pos := { x.a.pos with index := IntKind.i64.wrap (x.a.pos.index + 1) } } } : Stt) := by
    simp only [fewF, Bool.and_eq_true, decide_eq_true_eq] at hf
    refine ⟨?_, ?_, ?_, ?_, ?_, ?_, ?_, ?_, ?_⟩ <;> simp <;> omega
  exact parT_ok x ({ x with a := { x.a with pos := { x.a.pos with index := IntKind.i64.wrap (x.a.pos.index + 1) } } } : Stt) _ hw hf (.refl _) hl' e1 e2
set_option maxRecDepth 100000 in
theorem r_par4 (x : Stt) (r : XV) : (quietGo TQ1 80 (callI TQ1 80 20) 6 [e_Stt x, .int .i64 4] (fun v => ResLe v r)) = parU x (.agg 92 [.int .i64 (Stt.cycle x), e_Side (Stt.a x), e_Side (Stt.e x), .row false 3 (pl (List.length (Stt.ldq x)) 1) fun i => .agg 3 [.int .i64 (bif decide
  (i < List.length (Stt.ldq x)) then Slot.tag (ix (Stt.ldq x) i) else (0 : Int)), .bool (bif decide (i < List.length (Stt.ldq x)) then Slot.full (ix (Stt.ldq x) i)
  else false), .int .u32 (bif decide (i < List.length (Stt.ldq x)) then Slot.val (ix (Stt.ldq x) i) else (0 : Int))], e_row 1 e_u32 (Stt.sdq x), e_row 1 e_u32 (Stt.aeq
  x), e_row 1 e_bool (Stt.abq x), e_row 1 e_bool (Stt.ebq x), e_row 5 e_Entry (Stt.saq x), e_row 8 e_Req (Stt.table x), e_row 1 e_u8 (Stt.mem x), e_row 3 e_Wr (Stt.writes
  x), e_Trp (Stt.trap x), .int .i64 (Stt.lats x), .int .i64 (Stt.picks x), .int .i64 (Stt.tags x)]) (x.ldq.length) (pl (x.ldq.length) 1 * 16) (pl (x.ldq.length) 1)
  (x.sdq.length) (x.aeq.length) (x.abq.length) (x.ebq.length) (x.saq.length) (x.table.length) (x.mem.length) (x.writes.length) r := by kernel_rfl
theorem part4 (x : Stt) (hw : x.wf) (hf : fewF x = true) : Pure Try.prog 6 (cons [e_Stt x, .int .i64 4]) (con (.bool true)) := by
  refine pureR (u := 80) (k := 20) mix TQ1ok ?_
  refine Eq.mpr (r_par4 x _) ?_
  have e1 : sameF ({ x with ldq := x.ldq ++ [⟨0, false, 0⟩] } : Stt) x = false := by simp [same_eq, ap_ne]
  have e2 : sameF x ({ x with ldq := x.ldq ++ [⟨0, false, 0⟩] } : Stt) = false := by simp [same_eq, Ne.symm ap_ne]
  have hl : x.lens := (few_ok hw hf).2
  have hl' : Stt.lens ({ x with ldq := x.ldq ++ [⟨0, false, 0⟩] } : Stt) := by
    simp only [fewF, Bool.and_eq_true, decide_eq_true_eq] at hf
    refine ⟨?_, ?_, ?_, ?_, ?_, ?_, ?_, ?_, ?_⟩ <;> simp <;> omega
  have hm : pl (x.ldq.length) 1 * 16 ≤ 140737488355328 := by rw [pl_eq]; simp only [fewF, Bool.and_eq_true, decide_eq_true_eq] at hf; omega
  exact parU_ok x ({ x with ldq := x.ldq ++ [⟨0, false, 0⟩] } : Stt) _ _ _ _ _ _ _ _ _ _ _ _ hm hw hf (lq_agg (lqs_cons (.refl _) (lqs_cons (.refl _) (lqs_cons (.refl _) (lqs_cons (app_lq (by first | rfl | simp only [pl_eq]) (fun i hi => by simp only [hi, decide_true, cond_true]; rfl) (by simp only [Nat.lt_irrefl, decide_false, cond_false]; rfl)) (lqs_cons (.refl _) (lqs_cons (.refl _) (lqs_cons (.refl _) (lqs_cons (.refl _) (lqs_cons (.refl _) (lqs_cons (.refl _) (lqs_cons (.refl _) (lqs_cons (.refl _) (lqs_cons (.refl _) (lqs_cons (.refl _) (lqs_cons (.refl _) (lqs_cons (.refl _) (lqs_nil)))))))))))))))))) hl' e1 e2
set_option maxRecDepth 100000 in
theorem r_par5 (x : Stt) (r : XV) : (quietGo TQ1 80 (callI TQ1 80 20) 6 [e_Stt x, .int .i64 5] (fun v => ResLe v r)) = parU x (.agg 92 [.int .i64 (Stt.cycle x), e_Side (Stt.a x), e_Side (Stt.e x), e_row 3 e_Slot (Stt.ldq x), .row false 1 (pl (List.length (Stt.sdq x)) 1) fun i =>
  .int .u32 (bif decide (i < List.length (Stt.sdq x)) then ix (Stt.sdq x) i else (0 : Int)), e_row 1 e_u32 (Stt.aeq x), e_row 1 e_bool (Stt.abq x), e_row 1 e_bool
  (Stt.ebq x), e_row 5 e_Entry (Stt.saq x), e_row 8 e_Req (Stt.table x), e_row 1 e_u8 (Stt.mem x), e_row 3 e_Wr (Stt.writes x), e_Trp (Stt.trap x), .int .i64 (Stt.lats
  x), .int .i64 (Stt.picks x), .int .i64 (Stt.tags x)]) (x.sdq.length) (pl (x.sdq.length) 1 * 4) (x.ldq.length) (pl (x.sdq.length) 1) (x.aeq.length) (x.abq.length)
  (x.ebq.length) (x.saq.length) (x.table.length) (x.mem.length) (x.writes.length) r := by kernel_rfl
theorem part5 (x : Stt) (hw : x.wf) (hf : fewF x = true) : Pure Try.prog 6 (cons [e_Stt x, .int .i64 5]) (con (.bool true)) := by
  refine pureR (u := 80) (k := 20) mix TQ1ok ?_
  refine Eq.mpr (r_par5 x _) ?_
  have e1 : sameF ({ x with sdq := x.sdq ++ [0] } : Stt) x = false := by simp [same_eq, ap_ne]
  have e2 : sameF x ({ x with sdq := x.sdq ++ [0] } : Stt) = false := by simp [same_eq, Ne.symm ap_ne]
  have hl : x.lens := (few_ok hw hf).2
  have hl' : Stt.lens ({ x with sdq := x.sdq ++ [0] } : Stt) := by
    simp only [fewF, Bool.and_eq_true, decide_eq_true_eq] at hf
    refine ⟨?_, ?_, ?_, ?_, ?_, ?_, ?_, ?_, ?_⟩ <;> simp <;> omega
  have hm : pl (x.sdq.length) 1 * 4 ≤ 140737488355328 := by rw [pl_eq]; simp only [fewF, Bool.and_eq_true, decide_eq_true_eq] at hf; omega
  exact parU_ok x ({ x with sdq := x.sdq ++ [0] } : Stt) _ _ _ _ _ _ _ _ _ _ _ _ hm hw hf (lq_agg (lqs_cons (.refl _) (lqs_cons (.refl _) (lqs_cons (.refl _) (lqs_cons (.refl _) (lqs_cons (app_lq (by first | rfl | simp only [pl_eq]) (fun i hi => by simp only [hi, decide_true, cond_true]; rfl) (by simp only [Nat.lt_irrefl, decide_false, cond_false]; rfl)) (lqs_cons (.refl _) (lqs_cons (.refl _) (lqs_cons (.refl _) (lqs_cons (.refl _) (lqs_cons (.refl _) (lqs_cons (.refl _) (lqs_cons (.refl _) (lqs_cons (.refl _) (lqs_cons (.refl _) (lqs_cons (.refl _) (lqs_cons (.refl _) (lqs_nil)))))))))))))))))) hl' e1 e2
set_option maxRecDepth 100000 in
theorem r_par6 (x : Stt) (r : XV) : (quietGo TQ1 80 (callI TQ1 80 20) 6 [e_Stt x, .int .i64 6] (fun v => ResLe v r)) = parU x (.agg 92 [.int .i64 (Stt.cycle x), e_Side (Stt.a x), e_Side (Stt.e x), e_row 3 e_Slot (Stt.ldq x), e_row 1 e_u32 (Stt.sdq x), .row false 1 (pl (List.length
  (Stt.aeq x)) 1) fun i => .int .u32 (bif decide (i < List.length (Stt.aeq x)) then ix (Stt.aeq x) i else (0 : Int)), e_row 1 e_bool (Stt.abq x), e_row 1 e_bool (Stt.ebq
  x), e_row 5 e_Entry (Stt.saq x), e_row 8 e_Req (Stt.table x), e_row 1 e_u8 (Stt.mem x), e_row 3 e_Wr (Stt.writes x), e_Trp (Stt.trap x), .int .i64 (Stt.lats x),
  .int .i64 (Stt.picks x), .int .i64 (Stt.tags x)]) (x.aeq.length) (pl (x.aeq.length) 1 * 4) (x.ldq.length) (x.sdq.length) (pl (x.aeq.length) 1) (x.abq.length) (x.ebq.length)
  (x.saq.length) (x.table.length) (x.mem.length) (x.writes.length) r := by kernel_rfl
theorem part6 (x : Stt) (hw : x.wf) (hf : fewF x = true) : Pure Try.prog 6 (cons [e_Stt x, .int .i64 6]) (con (.bool true)) := by
  refine pureR (u := 80) (k := 20) mix TQ1ok ?_
  refine Eq.mpr (r_par6 x _) ?_
  have e1 : sameF ({ x with aeq := x.aeq ++ [0] } : Stt) x = false := by simp [same_eq, ap_ne]
  have e2 : sameF x ({ x with aeq := x.aeq ++ [0] } : Stt) = false := by simp [same_eq, Ne.symm ap_ne]
  have hl : x.lens := (few_ok hw hf).2
  have hl' : Stt.lens ({ x with aeq := x.aeq ++ [0] } : Stt) := by
    simp only [fewF, Bool.and_eq_true, decide_eq_true_eq] at hf
    refine ⟨?_, ?_, ?_, ?_, ?_, ?_, ?_, ?_, ?_⟩ <;> simp <;> omega
  have hm : pl (x.aeq.length) 1 * 4 ≤ 140737488355328 := by rw [pl_eq]; simp only [fewF, Bool.and_eq_true, decide_eq_true_eq] at hf; omega
  exact parU_ok x ({ x with aeq := x.aeq ++ [0] } : Stt) _ _ _ _ _ _ _ _ _ _ _ _ hm hw hf (lq_agg (lqs_cons (.refl _) (lqs_cons (.refl _) (lqs_cons (.refl _) (lqs_cons (.refl _) (lqs_cons (.refl _) (lqs_cons (app_lq (by first | rfl | simp only [pl_eq]) (fun i hi => by simp only [hi, decide_true, cond_true]; rfl) (by simp only [Nat.lt_irrefl, decide_false, cond_false]; rfl)) (lqs_cons (.refl _) (lqs_cons (.refl _) (lqs_cons (.refl _) (lqs_cons (.refl _) (lqs_cons (.refl _) (lqs_cons (.refl _) (lqs_cons (.refl _) (lqs_cons (.refl _) (lqs_cons (.refl _) (lqs_cons (.refl _) (lqs_nil)))))))))))))))))) hl' e1 e2
set_option maxRecDepth 100000 in
theorem r_par7 (x : Stt) (r : XV) : (quietGo TQ1 80 (callI TQ1 80 20) 6 [e_Stt x, .int .i64 7] (fun v => ResLe v r)) = parU x (.agg 92 [.int .i64 (Stt.cycle x), e_Side (Stt.a x), e_Side (Stt.e x), e_row 3 e_Slot (Stt.ldq x), e_row 1 e_u32 (Stt.sdq x), e_row 1 e_u32 (Stt.aeq x), .row
  false 1 (pl (List.length (Stt.abq x)) 1) fun i => .bool (bif decide (i < List.length (Stt.abq x)) then ix (Stt.abq x) i else false), e_row 1 e_bool (Stt.ebq x),
  e_row 5 e_Entry (Stt.saq x), e_row 8 e_Req (Stt.table x), e_row 1 e_u8 (Stt.mem x), e_row 3 e_Wr (Stt.writes x), e_Trp (Stt.trap x), .int .i64 (Stt.lats x), .int
  .i64 (Stt.picks x), .int .i64 (Stt.tags x)]) (x.abq.length) (pl (x.abq.length) 1 * 1) (x.ldq.length) (x.sdq.length) (x.aeq.length) (pl (x.abq.length) 1) (x.ebq.length)
  (x.saq.length) (x.table.length) (x.mem.length) (x.writes.length) r := by kernel_rfl
theorem part7 (x : Stt) (hw : x.wf) (hf : fewF x = true) : Pure Try.prog 6 (cons [e_Stt x, .int .i64 7]) (con (.bool true)) := by
  refine pureR (u := 80) (k := 20) mix TQ1ok ?_
  refine Eq.mpr (r_par7 x _) ?_
  have e1 : sameF ({ x with abq := x.abq ++ [false] } : Stt) x = false := by simp [same_eq, ap_ne]
  have e2 : sameF x ({ x with abq := x.abq ++ [false] } : Stt) = false := by simp [same_eq, Ne.symm ap_ne]
  have hl : x.lens := (few_ok hw hf).2
  have hl' : Stt.lens ({ x with abq := x.abq ++ [false] } : Stt) := by
    simp only [fewF, Bool.and_eq_true, decide_eq_true_eq] at hf
    refine ⟨?_, ?_, ?_, ?_, ?_, ?_, ?_, ?_, ?_⟩ <;> simp <;> omega
  have hm : pl (x.abq.length) 1 * 1 ≤ 140737488355328 := by rw [pl_eq]; simp only [fewF, Bool.and_eq_true, decide_eq_true_eq] at hf; omega
  exact parU_ok x ({ x with abq := x.abq ++ [false] } : Stt) _ _ _ _ _ _ _ _ _ _ _ _ hm hw hf (lq_agg (lqs_cons (.refl _) (lqs_cons (.refl _) (lqs_cons (.refl _) (lqs_cons (.refl _) (lqs_cons (.refl _) (lqs_cons (.refl _) (lqs_cons (app_lq (by first | rfl | simp only [pl_eq]) (fun i hi => by simp only [hi, decide_true, cond_true]; rfl) (by simp only [Nat.lt_irrefl, decide_false, cond_false]; rfl)) (lqs_cons (.refl _) (lqs_cons (.refl _) (lqs_cons (.refl _) (lqs_cons (.refl _) (lqs_cons (.refl _) (lqs_cons (.refl _) (lqs_cons (.refl _) (lqs_cons (.refl _) (lqs_cons (.refl _) (lqs_nil)))))))))))))))))) hl' e1 e2
set_option maxRecDepth 100000 in
theorem r_par8 (x : Stt) (r : XV) : (quietGo TQ1 80 (callI TQ1 80 20) 6 [e_Stt x, .int .i64 8] (fun v => ResLe v r)) = parU x (.agg 92 [.int .i64 (Stt.cycle x), e_Side (Stt.a x), e_Side (Stt.e x), e_row 3 e_Slot (Stt.ldq x), e_row 1 e_u32 (Stt.sdq x), e_row 1 e_u32 (Stt.aeq x), e_row
  1 e_bool (Stt.abq x), .row false 1 (pl (List.length (Stt.ebq x)) 1) fun i => .bool (bif decide (i < List.length (Stt.ebq x)) then ix (Stt.ebq x) i else false), e_row
  5 e_Entry (Stt.saq x), e_row 8 e_Req (Stt.table x), e_row 1 e_u8 (Stt.mem x), e_row 3 e_Wr (Stt.writes x), e_Trp (Stt.trap x), .int .i64 (Stt.lats x), .int .i64
  (Stt.picks x), .int .i64 (Stt.tags x)]) (x.ebq.length) (pl (x.ebq.length) 1 * 1) (x.ldq.length) (x.sdq.length) (x.aeq.length) (x.abq.length) (pl (x.ebq.length) 1)
  (x.saq.length) (x.table.length) (x.mem.length) (x.writes.length) r := by kernel_rfl
theorem part8 (x : Stt) (hw : x.wf) (hf : fewF x = true) : Pure Try.prog 6 (cons [e_Stt x, .int .i64 8]) (con (.bool true)) := by
  refine pureR (u := 80) (k := 20) mix TQ1ok ?_
  refine Eq.mpr (r_par8 x _) ?_
  have e1 : sameF ({ x with ebq := x.ebq ++ [false] } : Stt) x = false := by simp [same_eq, ap_ne]
  have e2 : sameF x ({ x with ebq := x.ebq ++ [false] } : Stt) = false := by simp [same_eq, Ne.symm ap_ne]
  have hl : x.lens := (few_ok hw hf).2
  have hl' : Stt.lens ({ x with ebq := x.ebq ++ [false] } : Stt) := by
    simp only [fewF, Bool.and_eq_true, decide_eq_true_eq] at hf
    refine ⟨?_, ?_, ?_, ?_, ?_, ?_, ?_, ?_, ?_⟩ <;> simp <;> omega
  have hm : pl (x.ebq.length) 1 * 1 ≤ 140737488355328 := by rw [pl_eq]; simp only [fewF, Bool.and_eq_true, decide_eq_true_eq] at hf; omega
  exact parU_ok x ({ x with ebq := x.ebq ++ [false] } : Stt) _ _ _ _ _ _ _ _ _ _ _ _ hm hw hf (lq_agg (lqs_cons (.refl _) (lqs_cons (.refl _) (lqs_cons (.refl _) (lqs_cons (.refl _) (lqs_cons (.refl _) (lqs_cons (.refl _) (lqs_cons (.refl _) (lqs_cons (app_lq (by first | rfl | simp only [pl_eq]) (fun i hi => by simp only [hi, decide_true, cond_true]; rfl) (by simp only [Nat.lt_irrefl, decide_false, cond_false]; rfl)) (lqs_cons (.refl _) (lqs_cons (.refl _) (lqs_cons (.refl _) (lqs_cons (.refl _) (lqs_cons (.refl _) (lqs_cons (.refl _) (lqs_cons (.refl _) (lqs_cons (.refl _) (lqs_nil)))))))))))))))))) hl' e1 e2
set_option maxRecDepth 100000 in
theorem r_par9 (x : Stt) (r : XV) : (quietGo TQ1 80 (callI TQ1 80 20) 6 [e_Stt x, .int .i64 9] (fun v => ResLe v r)) = parU x (.agg 92 [.int .i64 (Stt.cycle x), e_Side (Stt.a x), e_Side (Stt.e x), e_row 3 e_Slot (Stt.ldq x), e_row 1 e_u32 (Stt.sdq x), e_row 1 e_u32 (Stt.aeq x), e_row
  1 e_bool (Stt.abq x), e_row 1 e_bool (Stt.ebq x), .row false 5 (pl (List.length (Stt.saq x)) 1) fun i => .agg 5 [.int .i64 (bif decide (i < List.length (Stt.saq
  x)) then Entry.addr (ix (Stt.saq x) i) else (0 : Int)), .int .i64 (bif decide (i < List.length (Stt.saq x)) then Entry.size (ix (Stt.saq x) i) else (0 : Int)), .int
  .i64 (bif decide (i < List.length (Stt.saq x)) then Entry.step (ix (Stt.saq x) i) else (0 : Int)), .bool (bif decide (i < List.length (Stt.saq x)) then Entry.known
  (ix (Stt.saq x) i) else false), .int .u32 (bif decide (i < List.length (Stt.saq x)) then Entry.val (ix (Stt.saq x) i) else (0 : Int))], e_row 8 e_Req (Stt.table
  x), e_row 1 e_u8 (Stt.mem x), e_row 3 e_Wr (Stt.writes x), e_Trp (Stt.trap x), .int .i64 (Stt.lats x), .int .i64 (Stt.picks x), .int .i64 (Stt.tags x)]) (x.saq.length)
  (pl (x.saq.length) 1 * 32) (x.ldq.length) (x.sdq.length) (x.aeq.length) (x.abq.length) (x.ebq.length) (pl (x.saq.length) 1) (x.table.length) (x.mem.length) (x.writes.length) 
  r := by kernel_rfl
theorem part9 (x : Stt) (hw : x.wf) (hf : fewF x = true) : Pure Try.prog 6 (cons [e_Stt x, .int .i64 9]) (con (.bool true)) := by
  refine pureR (u := 80) (k := 20) mix TQ1ok ?_
  refine Eq.mpr (r_par9 x _) ?_
  have e1 : sameF ({ x with saq := x.saq ++ [⟨0, 0, 0, false, 0⟩] } : Stt) x = false := by simp [same_eq, ap_ne]
  have e2 : sameF x ({ x with saq := x.saq ++ [⟨0, 0, 0, false, 0⟩] } : Stt) = false := by simp [same_eq, Ne.symm ap_ne]
  have hl : x.lens := (few_ok hw hf).2
  have hl' : Stt.lens ({ x with saq := x.saq ++ [⟨0, 0, 0, false, 0⟩] } : Stt) := by
    simp only [fewF, Bool.and_eq_true, decide_eq_true_eq] at hf
    refine ⟨?_, ?_, ?_, ?_, ?_, ?_, ?_, ?_, ?_⟩ <;> simp <;> omega
  have hm : pl (x.saq.length) 1 * 32 ≤ 140737488355328 := by rw [pl_eq]; simp only [fewF, Bool.and_eq_true, decide_eq_true_eq] at hf; omega
  exact parU_ok x ({ x with saq := x.saq ++ [⟨0, 0, 0, false, 0⟩] } : Stt) _ _ _ _ _ _ _ _ _ _ _ _ hm hw hf (lq_agg (lqs_cons (.refl _) (lqs_cons (.refl _) (lqs_cons (.refl _) (lqs_cons (.refl _) (lqs_cons (.refl _) (lqs_cons (.refl _) (lqs_cons (.refl _) (lqs_cons (.refl _) (lqs_cons (app_lq (by first | rfl | simp only [pl_eq]) (fun i hi => by simp only [hi, decide_true, cond_true]; rfl) (by simp only [Nat.lt_irrefl, decide_false, cond_false]; rfl)) (lqs_cons (.refl _) (lqs_cons (.refl _) (lqs_cons (.refl _) (lqs_cons (.refl _) (lqs_cons (.refl _) (lqs_cons (.refl _) (lqs_cons (.refl _) (lqs_nil)))))))))))))))))) hl' e1 e2
set_option maxRecDepth 100000 in
theorem r_par10 (x : Stt) (r : XV) : (quietGo TQ1 80 (callI TQ1 80 20) 6 [e_Stt x, .int .i64 10] (fun v => ResLe v r)) = parU x (.agg 92 [.int .i64 (Stt.cycle x), e_Side (Stt.a x), e_Side (Stt.e x), e_row 3 e_Slot (Stt.ldq x), e_row 1 e_u32 (Stt.sdq x), e_row 1 e_u32 (Stt.aeq x), e_row
  1 e_bool (Stt.abq x), e_row 1 e_bool (Stt.ebq x), e_row 5 e_Entry (Stt.saq x), .row false 8 (pl (List.length (Stt.table x)) 1) fun i => .agg 8 [.bool (bif decide
  (i < List.length (Stt.table x)) then Req.store (ix (Stt.table x) i) else false), .int .i64 (bif decide (i < List.length (Stt.table x)) then Req.op (ix (Stt.table
  x) i) else (0 : Int)), .int .i64 (bif decide (i < List.length (Stt.table x)) then Req.addr (ix (Stt.table x) i) else (0 : Int)), .int .i64 (bif decide (i < List.length
  (Stt.table x)) then Req.size (ix (Stt.table x) i) else (0 : Int)), .int .u32 (bif decide (i < List.length (Stt.table x)) then Req.val (ix (Stt.table x) i) else (0
  : Int)), .int .i64 (bif decide (i < List.length (Stt.table x)) then Req.left (ix (Stt.table x) i) else (0 : Int)), .int .i64 (bif decide (i < List.length (Stt.table
  x)) then Req.reg (ix (Stt.table x) i) else (0 : Int)), .int .i64 (bif decide (i < List.length (Stt.table x)) then Req.tag (ix (Stt.table x) i) else (0 : Int))],
  e_row 1 e_u8 (Stt.mem x), e_row 3 e_Wr (Stt.writes x), e_Trp (Stt.trap x), .int .i64 (Stt.lats x), .int .i64 (Stt.picks x), .int .i64 (Stt.tags x)]) (x.table.length)
  (pl (x.table.length) 1 * 64) (x.ldq.length) (x.sdq.length) (x.aeq.length) (x.abq.length) (x.ebq.length) (x.saq.length) (pl (x.table.length) 1) (x.mem.length) (x.writes.length) 
  r := by kernel_rfl
theorem part10 (x : Stt) (hw : x.wf) (hf : fewF x = true) : Pure Try.prog 6 (cons [e_Stt x, .int .i64 10]) (con (.bool true)) := by
  refine pureR (u := 80) (k := 20) mix TQ1ok ?_
  refine Eq.mpr (r_par10 x _) ?_
  have e1 : sameF ({ x with table := x.table ++ [⟨false, 0, 0, 0, 0, 0, 0, 0⟩] } : Stt) x = false := by simp [same_eq, ap_ne]
  have e2 : sameF x ({ x with table := x.table ++ [⟨false, 0, 0, 0, 0, 0, 0, 0⟩] } : Stt) = false := by simp [same_eq, Ne.symm ap_ne]
  have hl : x.lens := (few_ok hw hf).2
  have hl' : Stt.lens ({ x with table := x.table ++ [⟨false, 0, 0, 0, 0, 0, 0, 0⟩] } : Stt) := by
    simp only [fewF, Bool.and_eq_true, decide_eq_true_eq] at hf
    refine ⟨?_, ?_, ?_, ?_, ?_, ?_, ?_, ?_, ?_⟩ <;> simp <;> omega
  have hm : pl (x.table.length) 1 * 64 ≤ 140737488355328 := by rw [pl_eq]; simp only [fewF, Bool.and_eq_true, decide_eq_true_eq] at hf; omega
  exact parU_ok x ({ x with table := x.table ++ [⟨false, 0, 0, 0, 0, 0, 0, 0⟩] } : Stt) _ _ _ _ _ _ _ _ _ _ _ _ hm hw hf (lq_agg (lqs_cons (.refl _) (lqs_cons (.refl _) (lqs_cons (.refl _) (lqs_cons (.refl _) (lqs_cons (.refl _) (lqs_cons (.refl _) (lqs_cons (.refl _) (lqs_cons (.refl _) (lqs_cons (.refl _) (lqs_cons (app_lq (by first | rfl | simp only [pl_eq]) (fun i hi => by simp only [hi, decide_true, cond_true]; rfl) (by simp only [Nat.lt_irrefl, decide_false, cond_false]; rfl)) (lqs_cons (.refl _) (lqs_cons (.refl _) (lqs_cons (.refl _) (lqs_cons (.refl _) (lqs_cons (.refl _) (lqs_cons (.refl _) (lqs_nil)))))))))))))))))) hl' e1 e2
set_option maxRecDepth 100000 in
theorem r_par11 (x : Stt) (r : XV) : (quietGo TQ1 80 (callI TQ1 80 20) 6 [e_Stt x, .int .i64 11] (fun v => ResLe v r)) = parU x (.agg 92 [.int .i64 (Stt.cycle x), e_Side (Stt.a x), e_Side (Stt.e x), e_row 3 e_Slot (Stt.ldq x), e_row 1 e_u32 (Stt.sdq x), e_row 1 e_u32 (Stt.aeq x), e_row
  1 e_bool (Stt.abq x), e_row 1 e_bool (Stt.ebq x), e_row 5 e_Entry (Stt.saq x), e_row 8 e_Req (Stt.table x), .row false 1 (pl (List.length (Stt.mem x)) 1) fun i =>
  .int .u8 (bif decide (i < List.length (Stt.mem x)) then ix (Stt.mem x) i else (0 : Int)), e_row 3 e_Wr (Stt.writes x), e_Trp (Stt.trap x), .int .i64 (Stt.lats x),
  .int .i64 (Stt.picks x), .int .i64 (Stt.tags x)]) (x.mem.length) (pl (x.mem.length) 1 * 1) (x.ldq.length) (x.sdq.length) (x.aeq.length) (x.abq.length) (x.ebq.length)
  (x.saq.length) (x.table.length) (pl (x.mem.length) 1) (x.writes.length) r := by kernel_rfl
theorem part11 (x : Stt) (hw : x.wf) (hf : fewF x = true) : Pure Try.prog 6 (cons [e_Stt x, .int .i64 11]) (con (.bool true)) := by
  refine pureR (u := 80) (k := 20) mix TQ1ok ?_
  refine Eq.mpr (r_par11 x _) ?_
  have e1 : sameF ({ x with mem := x.mem ++ [0] } : Stt) x = false := by simp [same_eq, ap_ne]
  have e2 : sameF x ({ x with mem := x.mem ++ [0] } : Stt) = false := by simp [same_eq, Ne.symm ap_ne]
  have hl : x.lens := (few_ok hw hf).2
  have hl' : Stt.lens ({ x with mem := x.mem ++ [0] } : Stt) := by
    simp only [fewF, Bool.and_eq_true, decide_eq_true_eq] at hf
    refine ⟨?_, ?_, ?_, ?_, ?_, ?_, ?_, ?_, ?_⟩ <;> simp <;> omega
  have hm : pl (x.mem.length) 1 * 1 ≤ 140737488355328 := by rw [pl_eq]; simp only [fewF, Bool.and_eq_true, decide_eq_true_eq] at hf; omega
  exact parU_ok x ({ x with mem := x.mem ++ [0] } : Stt) _ _ _ _ _ _ _ _ _ _ _ _ hm hw hf (lq_agg (lqs_cons (.refl _) (lqs_cons (.refl _) (lqs_cons (.refl _) (lqs_cons (.refl _) (lqs_cons (.refl _) (lqs_cons (.refl _) (lqs_cons (.refl _) (lqs_cons (.refl _) (lqs_cons (.refl _) (lqs_cons (.refl _) (lqs_cons (app_lq (by first | rfl | simp only [pl_eq]) (fun i hi => by simp only [hi, decide_true, cond_true]; rfl) (by simp only [Nat.lt_irrefl, decide_false, cond_false]; rfl)) (lqs_cons (.refl _) (lqs_cons (.refl _) (lqs_cons (.refl _) (lqs_cons (.refl _) (lqs_cons (.refl _) (lqs_nil)))))))))))))))))) hl' e1 e2
set_option maxRecDepth 100000 in
theorem r_par12 (x : Stt) (r : XV) : (quietGo TQ1 80 (callI TQ1 80 20) 6 [e_Stt x, .int .i64 12] (fun v => ResLe v r)) = parU x (.agg 92 [.int .i64 (Stt.cycle x), e_Side (Stt.a x), e_Side (Stt.e x), e_row 3 e_Slot (Stt.ldq x), e_row 1 e_u32 (Stt.sdq x), e_row 1 e_u32 (Stt.aeq x), e_row
  1 e_bool (Stt.abq x), e_row 1 e_bool (Stt.ebq x), e_row 5 e_Entry (Stt.saq x), e_row 8 e_Req (Stt.table x), e_row 1 e_u8 (Stt.mem x), .row false 3 (pl (List.length
  (Stt.writes x)) 1) fun i => .agg 3 [.int .i64 (bif decide (i < List.length (Stt.writes x)) then Wr.addr (ix (Stt.writes x) i) else (0 : Int)), .int .i64 (bif decide
  (i < List.length (Stt.writes x)) then Wr.size (ix (Stt.writes x) i) else (0 : Int)), .int .u32 (bif decide (i < List.length (Stt.writes x)) then Wr.val (ix (Stt.writes
  x) i) else (0 : Int))], e_Trp (Stt.trap x), .int .i64 (Stt.lats x), .int .i64 (Stt.picks x), .int .i64 (Stt.tags x)]) (x.writes.length) (pl (x.writes.length) 1 *
  24) (x.ldq.length) (x.sdq.length) (x.aeq.length) (x.abq.length) (x.ebq.length) (x.saq.length) (x.table.length) (x.mem.length) (pl (x.writes.length) 1) r := by kernel_rfl
theorem part12 (x : Stt) (hw : x.wf) (hf : fewF x = true) : Pure Try.prog 6 (cons [e_Stt x, .int .i64 12]) (con (.bool true)) := by
  refine pureR (u := 80) (k := 20) mix TQ1ok ?_
  refine Eq.mpr (r_par12 x _) ?_
  have e1 : sameF ({ x with writes := x.writes ++ [⟨0, 0, 0⟩] } : Stt) x = false := by simp [same_eq, ap_ne]
  have e2 : sameF x ({ x with writes := x.writes ++ [⟨0, 0, 0⟩] } : Stt) = false := by simp [same_eq, Ne.symm ap_ne]
  have hl : x.lens := (few_ok hw hf).2
  have hl' : Stt.lens ({ x with writes := x.writes ++ [⟨0, 0, 0⟩] } : Stt) := by
    simp only [fewF, Bool.and_eq_true, decide_eq_true_eq] at hf
    refine ⟨?_, ?_, ?_, ?_, ?_, ?_, ?_, ?_, ?_⟩ <;> simp <;> omega
  have hm : pl (x.writes.length) 1 * 24 ≤ 140737488355328 := by rw [pl_eq]; simp only [fewF, Bool.and_eq_true, decide_eq_true_eq] at hf; omega
  exact parU_ok x ({ x with writes := x.writes ++ [⟨0, 0, 0⟩] } : Stt) _ _ _ _ _ _ _ _ _ _ _ _ hm hw hf (lq_agg (lqs_cons (.refl _) (lqs_cons (.refl _) (lqs_cons (.refl _) (lqs_cons (.refl _) (lqs_cons (.refl _) (lqs_cons (.refl _) (lqs_cons (.refl _) (lqs_cons (.refl _) (lqs_cons (.refl _) (lqs_cons (.refl _) (lqs_cons (.refl _) (lqs_cons (app_lq (by first | rfl | simp only [pl_eq]) (fun i hi => by simp only [hi, decide_true, cond_true]; rfl) (by simp only [Nat.lt_irrefl, decide_false, cond_false]; rfl)) (lqs_cons (.refl _) (lqs_cons (.refl _) (lqs_cons (.refl _) (lqs_cons (.refl _) (lqs_nil)))))))))))))))))) hl' e1 e2
set_option maxRecDepth 100000 in
theorem r_par13 (x : Stt) (r : XV) : (quietGo TQ1 80 (callI TQ1 80 20) 6 [e_Stt x, .int .i64 13] (fun v => ResLe v r)) = parT x (.agg 92 [.int .i64 (Stt.cycle x), e_Side (Stt.a x), e_Side (Stt.e x), e_row 3 e_Slot (Stt.ldq x), e_row 1 e_u32 (Stt.sdq x), e_row 1 e_u32 (Stt.aeq x), e_row
  1 e_bool (Stt.abq x), e_row 1 e_bool (Stt.ebq x), e_row 5 e_Entry (Stt.saq x), e_row 8 e_Req (Stt.table x), e_row 1 e_u8 (Stt.mem x), e_row 3 e_Wr (Stt.writes x),
  .agg 3 [.int .i64 (Trp.kind (Stt.trap x)), .int .i64 (IntKind.wrap .i64 (Trp.step (Stt.trap x) + (1 : Int))), .int .i64 (Trp.pc (Stt.trap x))], .int .i64 (Stt.lats
  x), .int .i64 (Stt.picks x), .int .i64 (Stt.tags x)]) r := by kernel_rfl
theorem part13 (x : Stt) (hw : x.wf) (hf : fewF x = true) : Pure Try.prog 6 (cons [e_Stt x, .int .i64 13]) (con (.bool true)) := by
  refine pureR (u := 80) (k := 20) mix TQ1ok ?_
  refine Eq.mpr (r_par13 x _) ?_
  have e1 : sameF ({ x with trap := { x.trap with step := IntKind.i64.wrap (x.trap.step + 1) } } : Stt) x = false := by simp [same_eq, trpB, wi_ne hw.2.2.2.2.2.2.2.2.2.2.2.2.1.2.1]
  have e2 : sameF x ({ x with trap := { x.trap with step := IntKind.i64.wrap (x.trap.step + 1) } } : Stt) = false := by simp [same_eq, trpB, Ne.symm (wi_ne hw.2.2.2.2.2.2.2.2.2.2.2.2.1.2.1)]
  have hl : x.lens := (few_ok hw hf).2
  have hl' : Stt.lens ({ x with trap := { x.trap with step := IntKind.i64.wrap (x.trap.step + 1) } } : Stt) := by
    simp only [fewF, Bool.and_eq_true, decide_eq_true_eq] at hf
    refine ⟨?_, ?_, ?_, ?_, ?_, ?_, ?_, ?_, ?_⟩ <;> simp <;> omega
  exact parT_ok x ({ x with trap := { x.trap with step := IntKind.i64.wrap (x.trap.step + 1) } } : Stt) _ hw hf (.refl _) hl' e1 e2
set_option maxRecDepth 100000 in
theorem r_par14 (x : Stt) (r : XV) : (quietGo TQ1 80 (callI TQ1 80 20) 6 [e_Stt x, .int .i64 14] (fun v => ResLe v r)) = parT x (.agg 92 [.int .i64 (Stt.cycle x), e_Side (Stt.a x), .agg 38 [.tab 16 1 fun i => .int .u32 (Side.regs (Stt.e x) i), .tab 16 1 fun i => .int .i64 (Side.ready
  (Stt.e x) i), e_Pos (Side.pos (Stt.e x)), .int .i64 (Side.wait (Stt.e x)), .bool !Side.halted (Stt.e x), .int .i64 (Side.done (Stt.e x))], e_row 3 e_Slot (Stt.ldq
  x), e_row 1 e_u32 (Stt.sdq x), e_row 1 e_u32 (Stt.aeq x), e_row 1 e_bool (Stt.abq x), e_row 1 e_bool (Stt.ebq x), e_row 5 e_Entry (Stt.saq x), e_row 8 e_Req (Stt.table
  x), e_row 1 e_u8 (Stt.mem x), e_row 3 e_Wr (Stt.writes x), e_Trp (Stt.trap x), .int .i64 (Stt.lats x), .int .i64 (Stt.picks x), .int .i64 (Stt.tags x)]) r := by kernel_rfl
theorem part14 (x : Stt) (hw : x.wf) (hf : fewF x = true) : Pure Try.prog 6 (cons [e_Stt x, .int .i64 14]) (con (.bool true)) := by
  refine pureR (u := 80) (k := 20) mix TQ1ok ?_
  refine Eq.mpr (r_par14 x _) ?_
  have e1 : sameF ({ x with e := { x.e with halted := !x.e.halted } } : Stt) x = false := by simp [same_eq, sideB]
  have e2 : sameF x ({ x with e := { x.e with halted := !x.e.halted } } : Stt) = false := by simp [same_eq, sideB]
  have hl : x.lens := (few_ok hw hf).2
  have hl' : Stt.lens ({ x with e := { x.e with halted := !x.e.halted } } : Stt) := by
    simp only [fewF, Bool.and_eq_true, decide_eq_true_eq] at hf
    refine ⟨?_, ?_, ?_, ?_, ?_, ?_, ?_, ?_, ?_⟩ <;> simp <;> omega
  exact parT_ok x ({ x with e := { x.e with halted := !x.e.halted } } : Stt) _ hw hf (.refl _) hl' e1 e2
set_option maxRecDepth 100000 in
theorem r_par15 (x : Stt) (r : XV) : (quietGo TQ1 80 (callI TQ1 80 20) 6 [e_Stt x, .int .i64 15] (fun v => ResLe v r)) = parT x (.agg 92 [.int .i64 (Stt.cycle x), e_Side (Stt.a x), e_Side (Stt.e x), e_row 3 e_Slot (Stt.ldq x), e_row 1 e_u32 (Stt.sdq x), e_row 1 e_u32 (Stt.aeq x), e_row
  1 e_bool (Stt.abq x), e_row 1 e_bool (Stt.ebq x), e_row 5 e_Entry (Stt.saq x), e_row 8 e_Req (Stt.table x), e_row 1 e_u8 (Stt.mem x), e_row 3 e_Wr (Stt.writes x),
  e_Trp (Stt.trap x), .int .i64 (Stt.lats x), .int .i64 (Stt.picks x), .int .i64 (IntKind.wrap .i64 (Stt.tags x + (1 : Int)))]) r := by kernel_rfl
theorem part15 (x : Stt) (hw : x.wf) (hf : fewF x = true) : Pure Try.prog 6 (cons [e_Stt x, .int .i64 15]) (con (.bool true)) := by
  refine pureR (u := 80) (k := 20) mix TQ1ok ?_
  refine Eq.mpr (r_par15 x _) ?_
  have e1 : sameF ({ x with tags := IntKind.i64.wrap (x.tags + 1) } : Stt) x = false := by simp [same_eq, wi_ne hw.2.2.2.2.2.2.2.2.2.2.2.2.2.2.2]
  have e2 : sameF x ({ x with tags := IntKind.i64.wrap (x.tags + 1) } : Stt) = false := by simp [same_eq, Ne.symm (wi_ne hw.2.2.2.2.2.2.2.2.2.2.2.2.2.2.2)]
  have hl : x.lens := (few_ok hw hf).2
  have hl' : Stt.lens ({ x with tags := IntKind.i64.wrap (x.tags + 1) } : Stt) := by
    simp only [fewF, Bool.and_eq_true, decide_eq_true_eq] at hf
    refine ⟨?_, ?_, ?_, ?_, ?_, ?_, ?_, ?_, ?_⟩ <;> simp <;> omega
  exact parT_ok x ({ x with tags := IntKind.i64.wrap (x.tags + 1) } : Stt) _ hw hf (.refl _) hl' e1 e2
theorem par_pure (x : Stt) (w : Int) (hw : x.wf) : Pure Try.prog 6 (cons [e_Stt x, .int .i64 w]) (con (.bool true)) := by
  by_cases hb : fewF x = false ∨ w < 0 ∨ w > 15
  · refine pureR (u := 80) (k := 20) mix TQ2ok ?_
    refine Eq.mpr (r_parX x w _) ?_
    refine ⟨(), .rfl, ⟨trivial⟩, ?_⟩
    intro y hy
    replace hy : y = true := hy
    subst hy
    refine ⟨x, .rfl, ⟨trivial⟩, ?_⟩
    intro y hy
    replace hy : y = fewF x := hy
    rw [← hy] at hb
    simp only [g1, g2, g3, g4, g5, g6, g7, allN_true, cond_true, Nat.le_refl, decide_true, pl_eq]
    simp only [bor]
    have e : (!true || !y || decide (w < 0) || decide (w > 15)) = true := by
      rcases hb with h | h | h <;> simp [h]
    rw [e]
    exact .rfl
  · have hf : fewF x = true := by
      cases h : fewF x with
      | true => rfl
      | false => exact absurd (.inl h) hb
    rcases (by omega : w = 0 ∨ w = 1 ∨ w = 2 ∨ w = 3 ∨ w = 4 ∨ w = 5 ∨ w = 6 ∨ w = 7 ∨ w = 8 ∨ w = 9 ∨ w = 10 ∨ w = 11 ∨ w = 12 ∨ w = 13 ∨ w = 14 ∨ w = 15) with rfl | rfl | rfl | rfl | rfl | rfl | rfl | rfl | rfl | rfl | rfl | rfl | rfl | rfl | rfl | rfl
    · exact part0 x hw hf
    · exact part1 x hw hf
    · exact part2 x hw hf
    · exact part3 x hw hf
    · exact part4 x hw hf
    · exact part5 x hw hf
    · exact part6 x hw hf
    · exact part7 x hw hf
    · exact part8 x hw hf
    · exact part9 x hw hf
    · exact part10 x hw hf
    · exact part11 x hw hf
    · exact part12 x hw hf
    · exact part13 x hw hf
    · exact part14 x hw hf
    · exact part15 x hw hf
end Go.Proofs.Ythmlnmkbeohojaa
namespace Go.Proofs.Ythmlnmkbeohojaa.stateParts
open Go.Ra Go.ChangeShapes Go.WideShapes Go.ChangeAt Go.RowKit
open Go.ChangeMaps (open_string shut_string)
theorem own : ownKnob Try.prog.godebug = none := by kernel_rfl
def Ts : List Ty := [T_Stt, .int .i64]
theorem law (xs : List AV) (h : Ty.hasL Ts xs) : Pure Try.prog 6 xs (.sc (.bool true)) := by
  simp only [Ts, Ty.hasL] at h
  obtain ⟨a, _, rfl, ha, b, _, rfl, hb, rfl⟩ := h
  obtain ⟨s, rfl, hw⟩ := has_Stt _ ha
  obtain ⟨n, rfl, _⟩ := has_i64' _ hb
  exact par_pure s n hw
set_option maxRecDepth 100000 in
theorem lifted (os : Os) (started : os.Started) (H : Type) (enc : TypeId × Value → H) :
    ReturnsInHanded {} Try.checked os 6 .any (Rows.statePartsSpec.pre6 enc Try.prog Try.f6 Rows.statePartsRow.domain false) (Rows.statePartsSpec.post enc Try.prog Try.f6 false true false false) := by
  refine returnsInHanded_of_change_sized (C := Try.checked) own started (by kernel_rfl) Try.func6
    (ChangeSpec.witness6 (enc := enc) (C := Try.checked) false ⟨#[], #[.agg #[.int .i64 0, .int .u32 0, .int .u32 0, .int .u32 0, .int .u32 0, .int .u32 0, .int .u32 0, .int .u32 0, .int .u32 0, .int .u32 0, .int .u32 0, .int .u32 0, .int .u32 0, .int .u32 0, .int .u32 0, .int .u32 0, .int .u32 0, .int .i64 0, .int .i64 0, .int .i64 0, .int .i64 0, .int .i64 0, .int .i64 0, .int .i64 0, .int .i64 0, .int .i64 0, .int .i64 0, .int .i64 0, .int .i64 0, .int .i64 0, .int .i64 0, .int .i64 0, .int .i64 0, .int .i64 0, .int .i64 0, .int .i64 0, .int .i64 0, .bool false, .int .i64 0, .int .u32 0, .int .u32 0, .int .u32 0, .int .u32 0, .int .u32 0, .int .u32 0, .int .u32 0, .int .u32 0, .int .u32 0, .int .u32 0, .int .u32 0, .int .u32 0, .int .u32 0, .int .u32 0, .int .u32 0, .int .u32 0, .int .i64 0, .int .i64 0, .int .i64 0, .int .i64 0, .int .i64 0, .int .i64 0, .int .i64 0, .int .i64 0, .int .i64 0, .int .i64 0, .int .i64 0, .int .i64 0, .int .i64 0, .int .i64 0, .int .i64 0, .int .i64 0, .int .i64 0, .int .i64 0, .int .i64 0, .int .i64 0, .bool false, .int .i64 0, .slice none 0 0, .slice none 0 0, .slice none 0 0, .slice none 0 0, .slice none 0 0, .slice none 0 0, .slice none 0 0, .slice none 0 0, .slice none 0 0, .int .i64 0, .int .i64 0, .int .i64 0, .int .i64 0, .int .i64 0, .int .i64 0], .int .i64 0], []⟩ 8 (by kernel_rfl) (by kernel_rfl) (by kernel_rfl) (by kernel_rfl)) ?_
  intro W base args ds gs before hval hW hcnd hsz _
  refine law_post (s := Rows.statePartsSpec) (n := 60) (Ts := Ts) (ts := [47, 3]) (tb := 4) (by kernel_rfl) rfl rfl Try.underlying4 rfl (by kernel_rfl) (by kernel_rfl) (fun ds hds => ?_) law W base args ds gs before hval hW hsz
  match ds, hds with
  | [d1, d2], _ => exact ⟨rfl, rfl, rfl⟩
theorem over : Rows.statePartsRow.holds Try.pinned (OpenSpec.ofChange Rows.statePartsSpec) :=
  OpenClaim.holds_of_wide 6 Try.f6 rfl rfl rfl rfl rfl rfl rfl ⟨rfl, rfl, rfl, rfl, rfl⟩ rfl rfl rfl rfl rfl (by kernel_rfl) Try.func6 (by kernel_rfl)
    (of_decide_eq_true (by kernel_rfl)) (by unfold Func.isWrapper; first | (rw [if_pos (by decide +kernel)]; kernel_rfl) | (rw [if_neg (by decide +kernel)]; exact ⟨rfl, rfl⟩))
    (fun os started H enc _ => lifted os started H enc)
theorem proved : Rows.StatePartsSaid := over
end Go.Proofs.Ythmlnmkbeohojaa.stateParts
namespace Go.Proofs.Ythmlnmkbeohojaa
/-- The row, under a short name, for the claim. -/
theorem stateParts_holds : Rows.StatePartsSaid := stateParts.proved
end Go.Proofs.Ythmlnmkbeohojaa
#print axioms Go.Proofs.Ythmlnmkbeohojaa.stateParts_holds
