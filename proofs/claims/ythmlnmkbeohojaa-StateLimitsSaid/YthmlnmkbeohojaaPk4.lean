/- Texts put together. -/
import Derived.Test.YthmlnmkbeohojaaPk3
/- The cells of an instruction. -/
namespace Go.Proofs.Ythmlnmkbeohojaa
open Go.Ra
set_option linter.unusedVariables false
set_option linter.unusedSimpArgs false
/-- The same as sntT, by how many there are. -/
def sntC : List XV → Option ((XV → Prop) → Prop) := fun args => some fun K => ∃ s : Ins × (Nat → Int), ArgsLe args [e_Ins s.1, e_own s.2] ∧ ∀ y : List Int, y = sentF s.1 s.2 → (y = [] → K (.row false 1 0 (fun _ => .int .i64 0))) ∧ (∀ a : Int, y = [a] → K (.row false 1 1 (fun _ => .int .i64 a))) ∧ (∀ a b : Int, y = [a, b] → K (.row false 1 2 (fun i => .int .i64 (bif Nat.beq i 0 then a else b))))
def TT3 : Tab := mkT2 qq cl_ref10 [(65, formSp), (57, rtSp)] [] [(87, anyES), (86, onES), (94, owndS), (70, redS), (90, sideS), (93, sntC)] []
def cI (k : Int) (i : Ins) (pc off : Int) : Cell := ⟨k, i, 0, pc, off⟩
def cR (k : Int) (pc off : Int) (n : Int) : Cell := ⟨k, ⟨0, 0, 0, 0, 0⟩, n, pc, off⟩
def cP (k : Int) (pc off : Int) : Cell := ⟨k, ⟨0, 0, 0, 0, 0⟩, 0, pc, off⟩
def e_cells (y : List Cell × List Cell) : XV := .tup [e_row 9 e_Cell y.1, e_row 9 e_Cell y.2]
/-- A's cells of an instruction, and E's. -/
def emitF (i : Ins) (o : Nat → Int) (pc off : Int) : List Cell × List Cell :=
  if rightIns i = false then ([], [])
  else if formI i.op = 1 ∨ formI i.op = 2 ∨ formI i.op = 3 then
    if sideF i o = 1 then ([cI 1 i pc off], []) else ((sentF i o).map (cR 5 pc off), (sentF i o).map (cR 6 pc off) ++ [cI 1 i pc off])
  else if formI i.op = 4 then
    if onEB o i.d = true then ([cI 3 i pc off], [cI 7 i pc off]) else ([cI 2 i pc off], [])
  else if formI i.op = 5 then
    if ownedF o i.b = 1 then ([cR 5 pc off i.b, cI 4 i pc off], [cR 6 pc off i.b, cR 8 pc off i.b]) else ([cI 4 i pc off], [cR 8 pc off i.b])
  else if formI i.op = 6 then
    if anyEB o (readsF i) = false then ([cI 9 i pc off], [cP 10 pc off]) else ((sentF i o).map (cR 5 pc off) ++ [cP 10 pc off], (sentF i o).map (cR 6 pc off) ++ [cI 9 i pc off])
  else if formI i.op = 7 then ([cP 11 pc off], [cP 11 pc off])
  else if formI i.op = 8 then ([cP 12 pc off], [cP 12 pc off])
  else ([], [])
def emtS : List XV → Option ((XV → Prop) → Prop) := skOf (fun q : Ins × (Nat → Int) × Int × Int => [e_Ins q.1, e_own q.2.1, .int .i64 q.2.2.1, .int .i64 q.2.2.2]) (fun q => True) (fun q => emitF q.1 q.2.1 q.2.2.1 q.2.2.2) (fun y => e_cells y)
theorem sentC_ok : SkOk Try.prog (93, sntC) := by
  intro args W hW K hK
  simp only [sntC, Option.some.injEq] at hW
  subst hW
  obtain ⟨⟨i, o⟩, h1, h2⟩ := hK
  obtain ⟨h3, h4, h5⟩ := h2 _ rfl
  have hl : (sentF i o).length ≤ 2 := by
    unfold sentF
    have := sent_len (o := o) (l := readsF i)
    have := (reads_ok (i := i)).1
    omega
  obtain ⟨v, hp, hk⟩ := sk_snt args _ rfl (fun v => v = e_row 1 e_i64 (sentF i o)) ⟨(i, o), h1, ⟨trivial⟩, fun y hy => by rw [hy]⟩
  subst hk
  revert h3 h4 h5 hl hp
  generalize sentF i o = l
  intro h3 h4 h5 hl hp
  match l, hl with
  | [], _ => exact ⟨_, hp.out (lq_row rfl (.inl rfl) fun j hj => absurd hj (Nat.not_lt_zero _)), h3 rfl⟩
  | [a], _ => exact ⟨_, hp.out (lq_row rfl (.inl rfl) fun j hj => by
      have : j = 0 := by simp at hj; exact hj
      subst this; exact .refl _), h4 a rfl⟩
  | [a, b], _ => exact ⟨_, hp.out (lq_row rfl (.inl rfl) fun j hj => by
      have hj : j < 2 := hj
      rcases (by omega : j = 0 ∨ j = 1) with rfl | rfl <;> exact .refl _), h5 a b rfl⟩
  | _ :: _ :: _ :: _, h => simp at h
theorem TT3ok : TabOk Try.prog TT3 := mkT2_ok clok_ref10 ⟨sp_form, sp_rt, trivial⟩ trivial ⟨sk_anyE, sk_onE, sk_ownd, sk_reads, sk_side, sentC_ok, trivial⟩ trivial
theorem r_emit (i : Ins) (o : Nat → Int) (pc off : Int) (r : XV) : (quietGo TT3 80 (callI TT3 80 20) 69 [e_Ins i, e_own o, .int .i64 pc, .int .i64 off] (fun v => ResLe v r)) = (bif !rightIns i then ResLe (.tup [.row true 0 0 fun x => .unk, .row true 0 0 fun x => .unk]) r
else bif decide (formI (Ins.op i) = 1) then bif decide (formI
 (Ins.op i) = 1) then ∃ (s : Ins × (Nat → Int)), ArgsLe [e_Ins i, .tab 16 1 fun i => .int .i64 (o i)] [e_Ins (Prod.fst s), e_own (Prod.snd s)] ∧ PreIs True ∧ ∀ (y
 : Int), y = sideF (Prod.fst s) (Prod.snd s) → bif decide (y = 1) then ResLe (.tup [.row false 9 1 fun i_1 => .agg 9 [.int .i64 1, e_Ins i, .int .i64 0, .int .i64
 pc, .int .i64 off], .row true 0 0 fun x => .unk]) r else ∃ (s : Ins × (Nat → Int)), ArgsLe [e_Ins i, .tab 16 1 fun i => .int .i64 (o i)] [e_Ins (Prod.fst s), e_own
 (Prod.snd s)] ∧ ∀ (y : List Int), y = sentF (Prod.fst s) (Prod.snd s) → (y = [] → ∃ (s : Ins × (Nat → Int)), ArgsLe [e_Ins i, .tab 16 1 fun i => .int .i64 (o i)]
 [e_Ins (Prod.fst s), e_own (Prod.snd s)] ∧ ∀ (y : List Int), y = sentF (Prod.fst s) (Prod.snd s) → (y = [] → ResLe (.tup [.row true 0 0 fun x => .unk, .row false
 9 1 fun i_1 => .agg 9 [.int .i64 1, e_Ins i, .int .i64 0, .int .i64 pc, .int .i64 off]]) r) ∧ (∀ (a : Int), y = [a] → ResLe (.tup [.row true 0 0 fun x => .unk, .row
 false 9 2 fun i_1 => .agg 9 [.int .i64 (bif decide (i_1 < 1) then (6 : Int) else (1 : Int)), .agg 5 [.int .i64 (bif decide (i_1 < 1) then (0 : Int) else Ins.op i),
 .int .i64 (bif decide (i_1 < 1) then (0 : Int) else Ins.d i), .int .i64 (bif decide (i_1 < 1) then (0 : Int) else Ins.a i), .int .i64 (bif decide (i_1 < 1) then
 (0 : Int) else Ins.b i), .int .i64 (bif decide (i_1 < 1) then (0 : Int) else Ins.imm i)], .int .i64 (bif decide (i_1 < 1) then a else (0 : Int)), .int .i64 (bif
 decide (i_1 < 1) then pc else pc), .int .i64 (bif decide (i_1 < 1) then off else off)]]) r) ∧ ∀ (a b : Int), y = [a, b] → ResLe (.tup [.row true 0 0 fun x => .unk,
 .row false 9 3 fun i_1 => .agg 9 [.int .i64 (bif decide (i_1 < 2) then bif decide (i_1 < 1) then (6 : Int) else (6 : Int) else (1 : Int)), .agg 5 [.int .i64 (bif
 decide (i_1 < 2) then bif decide (i_1 < 1) then (0 : Int) else (0 : Int) else Ins.op i), .int .i64 (bif decide (i_1 < 2) then bif decide (i_1 < 1) then (0 : Int)
 else (0 : Int) else Ins.d i), .int .i64 (bif decide (i_1 < 2) then bif decide (i_1 < 1) then (0 : Int) else (0 : Int) else Ins.a i), .int .i64 (bif decide (i_1 <
 2) then bif decide (i_1 < 1) then (0 : Int) else (0 : Int) else Ins.b i), .int .i64 (bif decide (i_1 < 2) then bif decide (i_1 < 1) then (0 : Int) else (0 : Int)
 else Ins.imm i)], .int .i64 (bif decide (i_1 < 2) then bif decide (i_1 < 1) then a else b else (0 : Int)), .int .i64 (bif decide (i_1 < 2) then bif decide (i_1 <
 1) then pc else pc else pc), .int .i64 (bif decide (i_1 < 2) then bif decide (i_1 < 1) then off else off else off)]]) r) ∧ (∀ (a : Int), y = [a] → ∃ (s : Ins × (Nat
 → Int)), ArgsLe [e_Ins i, .tab 16 1 fun i => .int .i64 (o i)] [e_Ins (Prod.fst s), e_own (Prod.snd s)] ∧ ∀ (y : List Int), y = sentF (Prod.fst s) (Prod.snd s) →
 (y = [] → ResLe (.tup [.row false 9 1 fun i => .agg 9 [.int .i64 5, .agg 5 [.int .i64 0, .int .i64 0, .int .i64 0, .int .i64 0, .int .i64 0], .int .i64 a, .int .i64
 pc, .int .i64 off], .row false 9 1 fun i_1 => .agg 9 [.int .i64 1, e_Ins i, .int .i64 0, .int .i64 pc, .int .i64 off]]) r) ∧ (∀ (a_3 : Int), y = [a_3] → ResLe (.tup
 [.row false 9 1 fun i => .agg 9 [.int .i64 5, .agg 5 [.int .i64 0, .int .i64 0, .int .i64 0, .int .i64 0, .int .i64 0], .int .i64 a, .int .i64 pc, .int .i64 off],
 .row false 9 2 fun i_1 => .agg 9 [.int .i64 (bif decide (i_1 < 1) then (6 : Int) else (1 : Int)), .agg 5 [.int .i64 (bif decide (i_1 < 1) then (0 : Int) else Ins.op
 i), .int .i64 (bif decide (i_1 < 1) then (0 : Int) else Ins.d i), .int .i64 (bif decide (i_1 < 1) then (0 : Int) else Ins.a i), .int .i64 (bif decide (i_1 < 1) then
 (0 : Int) else Ins.b i), .int .i64 (bif decide (i_1 < 1) then (0 : Int) else Ins.imm i)], .int .i64 (bif decide (i_1 < 1) then a_3 else (0 : Int)), .int .i64 (bif
 decide (i_1 < 1) then pc else pc), .int .i64 (bif decide (i_1 < 1) then off else off)]]) r) ∧ ∀ (a_3 b : Int), y = [a_3, b] → ResLe (.tup [.row false 9 1 fun i =>
 .agg 9 [.int .i64 5, .agg 5 [.int .i64 0, .int .i64 0, .int .i64 0, .int .i64 0, .int .i64 0], .int .i64 a, .int .i64 pc, .int .i64 off], .row false 9 3 fun i_1
 => .agg 9 [.int .i64 (bif decide (i_1 < 2) then bif decide (i_1 < 1) then (6 : Int) else (6 : Int) else (1 : Int)), .agg 5 [.int .i64 (bif decide (i_1 < 2) then
 bif decide (i_1 < 1) then (0 : Int) else (0 : Int) else Ins.op i), .int .i64 (bif decide (i_1 < 2) then bif decide (i_1 < 1) then (0 : Int) else (0 : Int) else Ins.d
 i), .int .i64 (bif decide (i_1 < 2) then bif decide (i_1 < 1) then (0 : Int) else (0 : Int) else Ins.a i), .int .i64 (bif decide (i_1 < 2) then bif decide (i_1 <
 1) then (0 : Int) else (0 : Int) else Ins.b i), .int .i64 (bif decide (i_1 < 2) then bif decide (i_1 < 1) then (0 : Int) else (0 : Int) else Ins.imm i)], .int .i64
 (bif decide (i_1 < 2) then bif decide (i_1 < 1) then a_3 else b else (0 : Int)), .int .i64 (bif decide (i_1 < 2) then bif decide (i_1 < 1) then pc else pc else pc),
 .int .i64 (bif decide (i_1 < 2) then bif decide (i_1 < 1) then off else off else off)]]) r) ∧ ∀ (a b : Int), y = [a, b] → ∃ (s : Ins × (Nat → Int)), ArgsLe [e_Ins
 i, .tab 16 1 fun i => .int .i64 (o i)] [e_Ins (Prod.fst s), e_own (Prod.snd s)] ∧ ∀ (y : List Int), y = sentF (Prod.fst s) (Prod.snd s) → (y = [] → ResLe (.tup [.row
 false 9 2 fun i => .agg 9 [.int .i64 (bif decide (i < 1) then (5 : Int) else (5 : Int)), .agg 5 [.int .i64 (bif decide (i < 1) then (0 : Int) else (0 : Int)), .int
 .i64 (bif decide (i < 1) then (0 : Int) else (0 : Int)), .int .i64 (bif decide (i < 1) then (0 : Int) else (0 : Int)), .int .i64 (bif decide (i < 1) then (0 : Int)
 else (0 : Int)), .int .i64 (bif decide (i < 1) then (0 : Int) else (0 : Int))], .int .i64 (bif decide (i < 1) then a else b), .int .i64 (bif decide (i < 1) then
 pc else pc), .int .i64 (bif decide (i < 1) then off else off)], .row false 9 1 fun i_1 => .agg 9 [.int .i64 1, e_Ins i, .int .i64 0, .int .i64 pc, .int .i64 off]])
 r) ∧ (∀ (a_3 : Int), y = [a_3] → ResLe (.tup [.row false 9 2 fun i => .agg 9 [.int .i64 (bif decide (i < 1) then (5 : Int) else (5 : Int)), .agg 5 [.int .i64 (bif
 decide (i < 1) then (0 : Int) else (0 : Int)), .int .i64 (bif decide (i < 1) then (0 : Int) else (0 : Int)), .int .i64 (bif decide (i < 1) then (0 : Int) else (0
 : Int)), .int .i64 (bif decide (i < 1) then (0 : Int) else (0 : Int)), .int .i64 (bif decide (i < 1) then (0 : Int) else (0 : Int))], .int .i64 (bif decide (i <
 1) then a else b), .int .i64 (bif decide (i < 1) then pc else pc), .int .i64 (bif decide (i < 1) then off else off)], .row false 9 2 fun i_1 => .agg 9 [.int .i64
 (bif decide (i_1 < 1) then (6 : Int) else (1 : Int)), .agg 5 [.int .i64 (bif decide (i_1 < 1) then (0 : Int) else Ins.op i), .int .i64 (bif decide (i_1 < 1) then
 (0 : Int) else Ins.d i), .int .i64 (bif decide (i_1 < 1) then (0 : Int) else Ins.a i), .int .i64 (bif decide (i_1 < 1) then (0 : Int) else Ins.b i), .int .i64 (bif
 decide (i_1 < 1) then (0 : Int) else Ins.imm i)], .int .i64 (bif decide (i_1 < 1) then a_3 else (0 : Int)), .int .i64 (bif decide (i_1 < 1) then pc else pc), .int
 .i64 (bif decide (i_1 < 1) then off else off)]]) r) ∧ ∀ (a_3 b_1 : Int), y = [a_3, b_1] → ResLe (.tup [.row false 9 2 fun i => .agg 9 [.int .i64 (bif decide (i <
 1) then (5 : Int) else (5 : Int)), .agg 5 [.int .i64 (bif decide (i < 1) then (0 : Int) else (0 : Int)), .int .i64 (bif decide (i < 1) then (0 : Int) else (0 : Int)),
 .int .i64 (bif decide (i < 1) then (0 : Int) else (0 : Int)), .int .i64 (bif decide (i < 1) then (0 : Int) else (0 : Int)), .int .i64 (bif decide (i < 1) then (0
 : Int) else (0 : Int))], .int .i64 (bif decide (i < 1) then a else b), .int .i64 (bif decide (i < 1) then pc else pc), .int .i64 (bif decide (i < 1) then off else
 off)], .row false 9 3 fun i_1 => .agg 9 [.int .i64 (bif decide (i_1 < 2) then bif decide (i_1 < 1) then (6 : Int) else (6 : Int) else (1 : Int)), .agg 5 [.int .i64
 (bif decide (i_1 < 2) then bif decide (i_1 < 1) then (0 : Int) else (0 : Int) else Ins.op i), .int .i64 (bif decide (i_1 < 2) then bif decide (i_1 < 1) then (0 :
 Int) else (0 : Int) else Ins.d i), .int .i64 (bif decide (i_1 < 2) then bif decide (i_1 < 1) then (0 : Int) else (0 : Int) else Ins.a i), .int .i64 (bif decide (i_1
 < 2) then bif decide (i_1 < 1) then (0 : Int) else (0 : Int) else Ins.b i), .int .i64 (bif decide (i_1 < 2) then bif decide (i_1 < 1) then (0 : Int) else (0 : Int)
 else Ins.imm i)], .int .i64 (bif decide (i_1 < 2) then bif decide (i_1 < 1) then a_3 else b_1 else (0 : Int)), .int .i64 (bif decide (i_1 < 2) then bif decide (i_1
 < 1) then pc else pc else pc), .int .i64 (bif decide (i_1 < 2) then bif decide (i_1 < 1) then off else off else off)]]) r else bif decide (formI (Ins.op i) = 4)
 then ∃ (s : (Nat → Int) × Int), ArgsLe [.tab 16 1 fun i => .int .i64 (o i), .int .i64 (Ins.d i)] [e_own (Prod.fst s), .int .i64 (Prod.snd s)] ∧ PreIs (Prod.snd s
 ≤ 15) ∧ ∀ (y : Bool), y = onEB (Prod.fst s) (Prod.snd s) → bif y then ResLe (.tup [.row false 9 1 fun i_1 => .agg 9 [.int .i64 3, e_Ins i, .int .i64 0, .int .i64
 pc, .int .i64 off], .row false 9 1 fun i_1 => .agg 9 [.int .i64 7, e_Ins i, .int .i64 0, .int .i64 pc, .int .i64 off]]) r else ResLe (.tup [.row false 9 1 fun i_1
 => .agg 9 [.int .i64 2, e_Ins i, .int .i64 0, .int .i64 pc, .int .i64 off], .row true 0 0 fun x => .unk]) r else bif decide (formI (Ins.op i) = 5) then ∃ (s : (Nat
 → Int) × Int), ArgsLe [.tab 16 1 fun i => .int .i64 (o i), .int .i64 (Ins.b i)] [e_own (Prod.fst s), .int .i64 (Prod.snd s)] ∧ PreIs True ∧ ∀ (y : Int), y = ownedF
 (Prod.fst s) (Prod.snd s) → bif decide (y = 1) then ResLe (.tup [.row false 9 2 fun i_1 => .agg 9 [.int .i64 (bif decide (i_1 < 1) then (5 : Int) else (4 : Int)),
 .agg 5 [.int .i64 (bif decide (i_1 < 1) then (0 : Int) else Ins.op i), .int .i64 (bif decide (i_1 < 1) then (0 : Int) else Ins.d i), .int .i64 (bif decide (i_1 <
 1) then (0 : Int) else Ins.a i), .int .i64 (bif decide (i_1 < 1) then (0 : Int) else Ins.b i), .int .i64 (bif decide (i_1 < 1) then (0 : Int) else Ins.imm i)], .int
 .i64 (bif decide (i_1 < 1) then Ins.b i else (0 : Int)), .int .i64 (bif decide (i_1 < 1) then pc else pc), .int .i64 (bif decide (i_1 < 1) then off else off)], .row
 false 9 2 fun i_1 => .agg 9 [.int .i64 (bif decide (i_1 < 1) then (6 : Int) else (8 : Int)), .agg 5 [.int .i64 (bif decide (i_1 < 1) then (0 : Int) else (0 : Int)),
 .int .i64 (bif decide (i_1 < 1) then (0 : Int) else (0 : Int)), .int .i64 (bif decide (i_1 < 1) then (0 : Int) else (0 : Int)), .int .i64 (bif decide (i_1 < 1) then
 (0 : Int) else (0 : Int)), .int .i64 (bif decide (i_1 < 1) then (0 : Int) else (0 : Int))], .int .i64 (bif decide (i_1 < 1) then Ins.b i else Ins.b i), .int .i64
 (bif decide (i_1 < 1) then pc else pc), .int .i64 (bif decide (i_1 < 1) then off else off)]]) r else ResLe (.tup [.row false 9 1 fun i_1 => .agg 9 [.int .i64 4,
 e_Ins i, .int .i64 0, .int .i64 pc, .int .i64 off], .row false 9 1 fun i_1 => .agg 9 [.int .i64 8, .agg 5 [.int .i64 0, .int .i64 0, .int .i64 0, .int .i64 0, .int
 .i64 0], .int .i64 (Ins.b i), .int .i64 pc, .int .i64 off]]) r else bif decide (formI (Ins.op i) = 6) then ∃ (s : Ins), ArgsLe [e_Ins i] [e_Ins s] ∧ PreIs True ∧
 ∀ (y : List Int), y = readsF s → ∃ (s : (Nat → Int) × List Int), ArgsLe [.tab 16 1 fun i => .int .i64 (o i), e_row 1 e_i64 y] [e_own (Prod.fst s), e_row 1 e_i64
 (Prod.snd s)] ∧ PreIs (List.length (Prod.snd s) ≤ 1000000000 ∧ ∀ (x : Int), x ∈ Prod.snd s → x ≤ 15) ∧ ∀ (y : Bool), y = anyEB (Prod.fst s) (Prod.snd s) → bif !y
 then ResLe (.tup [.row false 9 1 fun i_1 => .agg 9 [.int .i64 9, e_Ins i, .int .i64 0, .int .i64 pc, .int .i64 off], .row false 9 1 fun i => .agg 9 [.int .i64 10,
 .agg 5 [.int .i64 0, .int .i64 0, .int .i64 0, .int .i64 0, .int .i64 0], .int .i64 0, .int .i64 pc, .int .i64 off]]) r else ∃ (s : Ins × (Nat → Int)), ArgsLe [e_Ins
 i, .tab 16 1 fun i => .int .i64 (o i)] [e_Ins (Prod.fst s), e_own (Prod.snd s)] ∧ ∀ (y : List Int), y = sentF (Prod.fst s) (Prod.snd s) → (y = [] → ∃ (s : Ins ×
 (Nat → Int)), ArgsLe [e_Ins i, .tab 16 1 fun i => .int .i64 (o i)] [e_Ins (Prod.fst s), e_own (Prod.snd s)] ∧ ∀ (y : List Int), y = sentF (Prod.fst s) (Prod.snd
 s) → (y = [] → ResLe (.tup [.row false 9 1 fun i => .agg 9 [.int .i64 10, .agg 5 [.int .i64 0, .int .i64 0, .int .i64 0, .int .i64 0, .int .i64 0], .int .i64 0,
 .int .i64 pc, .int .i64 off], .row false 9 1 fun i_1 => .agg 9 [.int .i64 9, e_Ins i, .int .i64 0, .int .i64 pc, .int .i64 off]]) r) ∧ (∀ (a : Int), y = [a] → ResLe
 (.tup [.row false 9 1 fun i => .agg 9 [.int .i64 10, .agg 5 [.int .i64 0, .int .i64 0, .int .i64 0, .int .i64 0, .int .i64 0], .int .i64 0, .int .i64 pc, .int .i64
 off], .row false 9 2 fun i_1 => .agg 9 [.int .i64 (bif decide (i_1 < 1) then (6 : Int) else (9 : Int)), .agg 5 [.int .i64 (bif decide (i_1 < 1) then (0 : Int) else
 Ins.op i), .int .i64 (bif decide (i_1 < 1) then (0 : Int) else Ins.d i), .int .i64 (bif decide (i_1 < 1) then (0 : Int) else Ins.a i), .int .i64 (bif decide (i_1
 < 1) then (0 : Int) else Ins.b i), .int .i64 (bif decide (i_1 < 1) then (0 : Int) else Ins.imm i)], .int .i64 (bif decide (i_1 < 1) then a else (0 : Int)), .int
 .i64 (bif decide (i_1 < 1) then pc else pc), .int .i64 (bif decide (i_1 < 1) then off else off)]]) r) ∧ ∀ (a b : Int), y = [a, b] → ResLe (.tup [.row false 9 1 fun
 i => .agg 9 [.int .i64 10, .agg 5 [.int .i64 0, .int .i64 0, .int .i64 0, .int .i64 0, .int .i64 0], .int .i64 0, .int .i64 pc, .int .i64 off], .row false 9 3 fun
 i_1 => .agg 9 [.int .i64 (bif decide (i_1 < 2) then bif decide (i_1 < 1) then (6 : Int) else (6 : Int) else (9 : Int)), .agg 5 [.int .i64 (bif decide (i_1 < 2) then
 bif decide (i_1 < 1) then (0 : Int) else (0 : Int) else Ins.op i), .int .i64 (bif decide (i_1 < 2) then bif decide (i_1 < 1) then (0 : Int) else (0 : Int) else Ins.d
 i), .int .i64 (bif decide (i_1 < 2) then bif decide (i_1 < 1) then (0 : Int) else (0 : Int) else Ins.a i), .int .i64 (bif decide (i_1 < 2) then bif decide (i_1 <
 1) then (0 : Int) else (0 : Int) else Ins.b i), .int .i64 (bif decide (i_1 < 2) then bif decide (i_1 < 1) then (0 : Int) else (0 : Int) else Ins.imm i)], .int .i64
 (bif decide (i_1 < 2) then bif decide (i_1 < 1) then a else b else (0 : Int)), .int .i64 (bif decide (i_1 < 2) then bif decide (i_1 < 1) then pc else pc else pc),
 .int .i64 (bif decide (i_1 < 2) then bif decide (i_1 < 1) then off else off else off)]]) r) ∧ (∀ (a : Int), y = [a] → ∃ (s : Ins × (Nat → Int)), ArgsLe [e_Ins i,
 .tab 16 1 fun i => .int .i64 (o i)] [e_Ins (Prod.fst s), e_own (Prod.snd s)] ∧ ∀ (y : List Int), y = sentF (Prod.fst s) (Prod.snd s) → (y = [] → ResLe (.tup [.row
 false 9 2 fun i => .agg 9 [.int .i64 (bif decide (i < 1) then (5 : Int) else (10 : Int)), .agg 5 [.int .i64 (bif decide (i < 1) then (0 : Int) else (0 : Int)), .int
 .i64 (bif decide (i < 1) then (0 : Int) else (0 : Int)), .int .i64 (bif decide (i < 1) then (0 : Int) else (0 : Int)), .int .i64 (bif decide (i < 1) then (0 : Int)
 else (0 : Int)), .int .i64 (bif decide (i < 1) then (0 : Int) else (0 : Int))], .int .i64 (bif decide (i < 1) then a else (0 : Int)), .int .i64 (bif decide (i <
 1) then pc else pc), .int .i64 (bif decide (i < 1) then off else off)], .row false 9 1 fun i_1 => .agg 9 [.int .i64 9, e_Ins i, .int .i64 0, .int .i64 pc, .int .i64
 off]]) r) ∧ (∀ (a_3 : Int), y = [a_3] → ResLe (.tup [.row false 9 2 fun i => .agg 9 [.int .i64 (bif decide (i < 1) then (5 : Int) else (10 : Int)), .agg 5 [.int
 .i64 (bif decide (i < 1) then (0 : Int) else (0 : Int)), .int .i64 (bif decide (i < 1) then (0 : Int) else (0 : Int)), .int .i64 (bif decide (i < 1) then (0 : Int)
 else (0 : Int)), .int .i64 (bif decide (i < 1) then (0 : Int) else (0 : Int)), .int .i64 (bif decide (i < 1) then (0 : Int) else (0 : Int))], .int .i64 (bif decide
 (i < 1) then a else (0 : Int)), .int .i64 (bif decide (i < 1) then pc else pc), .int .i64 (bif decide (i < 1) then off else off)], .row false 9 2 fun i_1 => .agg
 9 [.int .i64 (bif decide (i_1 < 1) then (6 : Int) else (9 : Int)), .agg 5 [.int .i64 (bif decide (i_1 < 1) then (0 : Int) else Ins.op i), .int .i64 (bif decide (i_1
 < 1) then (0 : Int) else Ins.d i), .int .i64 (bif decide (i_1 < 1) then (0 : Int) else Ins.a i), .int .i64 (bif decide (i_1 < 1) then (0 : Int) else Ins.b i), .int
 .i64 (bif decide (i_1 < 1) then (0 : Int) else Ins.imm i)], .int .i64 (bif decide (i_1 < 1) then a_3 else (0 : Int)), .int .i64 (bif decide (i_1 < 1) then pc else
 pc), .int .i64 (bif decide (i_1 < 1) then off else off)]]) r) ∧ ∀ (a_3 b : Int), y = [a_3, b] → ResLe (.tup [.row false 9 2 fun i => .agg 9 [.int .i64 (bif decide
 (i < 1) then (5 : Int) else (10 : Int)), .agg 5 [.int .i64 (bif decide (i < 1) then (0 : Int) else (0 : Int)), .int .i64 (bif decide (i < 1) then (0 : Int) else
 (0 : Int)), .int .i64 (bif decide (i < 1) then (0 : Int) else (0 : Int)), .int .i64 (bif decide (i < 1) then (0 : Int) else (0 : Int)), .int .i64 (bif decide (i
 < 1) then (0 : Int) else (0 : Int))], .int .i64 (bif decide (i < 1) then a else (0 : Int)), .int .i64 (bif decide (i < 1) then pc else pc), .int .i64 (bif decide
 (i < 1) then off else off)], .row false 9 3 fun i_1 => .agg 9 [.int .i64 (bif decide (i_1 < 2) then bif decide (i_1 < 1) then (6 : Int) else (6 : Int) else (9 :
 Int)), .agg 5 [.int .i64 (bif decide (i_1 < 2) then bif decide (i_1 < 1) then (0 : Int) else (0 : Int) else Ins.op i), .int .i64 (bif decide (i_1 < 2) then bif decide
 (i_1 < 1) then (0 : Int) else (0 : Int) else Ins.d i), .int .i64 (bif decide (i_1 < 2) then bif decide (i_1 < 1) then (0 : Int) else (0 : Int) else Ins.a i), .int
 .i64 (bif decide (i_1 < 2) then bif decide (i_1 < 1) then (0 : Int) else (0 : Int) else Ins.b i), .int .i64 (bif decide (i_1 < 2) then bif decide (i_1 < 1) then
 (0 : Int) else (0 : Int) else Ins.imm i)], .int .i64 (bif decide (i_1 < 2) then bif decide (i_1 < 1) then a_3 else b else (0 : Int)), .int .i64 (bif decide (i_1
 < 2) then bif decide (i_1 < 1) then pc else pc else pc), .int .i64 (bif decide (i_1 < 2) then bif decide (i_1 < 1) then off else off else off)]]) r) ∧ ∀ (a b : Int),
 y = [a, b] → ∃ (s : Ins × (Nat → Int)), ArgsLe [e_Ins i, .tab 16 1 fun i => .int .i64 (o i)] [e_Ins (Prod.fst s), e_own (Prod.snd s)] ∧ ∀ (y : List Int), y = sentF
 (Prod.fst s) (Prod.snd s) → (y = [] → ResLe (.tup [.row false 9 3 fun i => .agg 9 [.int .i64 (bif decide (i < 2) then bif decide (i < 1) then (5 : Int) else (5 :
 Int) else (10 : Int)), .agg 5 [.int .i64 (bif decide (i < 2) then bif decide (i < 1) then (0 : Int) else (0 : Int) else (0 : Int)), .int .i64 (bif decide (i < 2)
 then bif decide (i < 1) then (0 : Int) else (0 : Int) else (0 : Int)), .int .i64 (bif decide (i < 2) then bif decide (i < 1) then (0 : Int) else (0 : Int) else (0
 : Int)), .int .i64 (bif decide (i < 2) then bif decide (i < 1) then (0 : Int) else (0 : Int) else (0 : Int)), .int .i64 (bif decide (i < 2) then bif decide (i <
 1) then (0 : Int) else (0 : Int) else (0 : Int))], .int .i64 (bif decide (i < 2) then bif decide (i < 1) then a else b else (0 : Int)), .int .i64 (bif decide (i
 < 2) then bif decide (i < 1) then pc else pc else pc), .int .i64 (bif decide (i < 2) then bif decide (i < 1) then off else off else off)], .row false 9 1 fun i_1
 => .agg 9 [.int .i64 9, e_Ins i, .int .i64 0, .int .i64 pc, .int .i64 off]]) r) ∧ (∀ (a_3 : Int), y = [a_3] → ResLe (.tup [.row false 9 3 fun i => .agg 9 [.int .i64
 (bif decide (i < 2) then bif decide (i < 1) then (5 : Int) else (5 : Int) else (10 : Int)), .agg 5 [.int .i64 (bif decide (i < 2) then bif decide (i < 1) then (0
 : Int) else (0 : Int) else (0 : Int)), .int .i64 (bif decide (i < 2) then bif decide (i < 1) then (0 : Int) else (0 : Int) else (0 : Int)), .int .i64 (bif decide
 (i < 2) then bif decide (i < 1) then (0 : Int) else (0 : Int) else (0 : Int)), .int .i64 (bif decide (i < 2) then bif decide (i < 1) then (0 : Int) else (0 : Int)
 else (0 : Int)), .int .i64 (bif decide (i < 2) then bif decide (i < 1) then (0 : Int) else (0 : Int) else (0 : Int))], .int .i64 (bif decide (i < 2) then bif decide
 (i < 1) then a else b else (0 : Int)), .int .i64 (bif decide (i < 2) then bif decide (i < 1) then pc else pc else pc), .int .i64 (bif decide (i < 2) then bif decide
 (i < 1) then off else off else off)], .row false 9 2 fun i_1 => .agg 9 [.int .i64 (bif decide (i_1 < 1) then (6 : Int) else (9 : Int)), .agg 5 [.int .i64 (bif decide
 (i_1 < 1) then (0 : Int) else Ins.op i), .int .i64 (bif decide (i_1 < 1) then (0 : Int) else Ins.d i), .int .i64 (bif decide (i_1 < 1) then (0 : Int) else Ins.a
 i), .int .i64 (bif decide (i_1 < 1) then (0 : Int) else Ins.b i), .int .i64 (bif decide (i_1 < 1) then (0 : Int) else Ins.imm i)], .int .i64 (bif decide (i_1 < 1)
 then a_3 else (0 : Int)), .int .i64 (bif decide (i_1 < 1) then pc else pc), .int .i64 (bif decide (i_1 < 1) then off else off)]]) r) ∧ ∀ (a_3 b_1 : Int), y = [a_3,
 b_1] → ResLe (.tup [.row false 9 3 fun i => .agg 9 [.int .i64 (bif decide (i < 2) then bif decide (i < 1) then (5 : Int) else (5 : Int) else (10 : Int)), .agg 5
 [.int .i64 (bif decide (i < 2) then bif decide (i < 1) then (0 : Int) else (0 : Int) else (0 : Int)), .int .i64 (bif decide (i < 2) then bif decide (i < 1) then
 (0 : Int) else (0 : Int) else (0 : Int)), .int .i64 (bif decide (i < 2) then bif decide (i < 1) then (0 : Int) else (0 : Int) else (0 : Int)), .int .i64 (bif decide
 (i < 2) then bif decide (i < 1) then (0 : Int) else (0 : Int) else (0 : Int)), .int .i64 (bif decide (i < 2) then bif decide (i < 1) then (0 : Int) else (0 : Int)
 else (0 : Int))], .int .i64 (bif decide (i < 2) then bif decide (i < 1) then a else b else (0 : Int)), .int .i64 (bif decide (i < 2) then bif decide (i < 1) then
 pc else pc else pc), .int .i64 (bif decide (i < 2) then bif decide (i < 1) then off else off else off)], .row false 9 3 fun i_1 => .agg 9 [.int .i64 (bif decide
 (i_1 < 2) then bif decide (i_1 < 1) then (6 : Int) else (6 : Int) else (9 : Int)), .agg 5 [.int .i64 (bif decide (i_1 < 2) then bif decide (i_1 < 1) then (0 : Int)
 else (0 : Int) else Ins.op i), .int .i64 (bif decide (i_1 < 2) then bif decide (i_1 < 1) then (0 : Int) else (0 : Int) else Ins.d i), .int .i64 (bif decide (i_1
 < 2) then bif decide (i_1 < 1) then (0 : Int) else (0 : Int) else Ins.a i), .int .i64 (bif decide (i_1 < 2) then bif decide (i_1 < 1) then (0 : Int) else (0 : Int)
 else Ins.b i), .int .i64 (bif decide (i_1 < 2) then bif decide (i_1 < 1) then (0 : Int) else (0 : Int) else Ins.imm i)], .int .i64 (bif decide (i_1 < 2) then bif
 decide (i_1 < 1) then a_3 else b_1 else (0 : Int)), .int .i64 (bif decide (i_1 < 2) then bif decide (i_1 < 1) then pc else pc else pc), .int .i64 (bif decide (i_1
 < 2) then bif decide (i_1 < 1) then off else off else off)]]) r else bif decide (formI (Ins.op i) = 7) then ResLe (.tup [.row false 9 1 fun i => .agg 9 [.int .i64
 11, .agg 5 [.int .i64 0, .int .i64 0, .int .i64 0, .int .i64 0, .int .i64 0], .int .i64 0, .int .i64 pc, .int .i64 off], .row false 9 1 fun i => .agg 9 [.int .i64
 11, .agg 5 [.int .i64 0, .int .i64 0, .int .i64 0, .int .i64 0, .int .i64 0], .int .i64 0, .int .i64 pc, .int .i64 off]]) r else bif decide (formI (Ins.op i) = 8)
 then ResLe (.tup [.row false 9 1 fun i => .agg 9 [.int .i64 12, .agg 5 [.int .i64 0, .int .i64 0, .int .i64 0, .int .i64 0, .int .i64 0], .int .i64 0, .int .i64
 pc, .int .i64 off], .row false 9 1 fun i => .agg 9 [.int .i64 12, .agg 5 [.int .i64 0, .int .i64 0, .int .i64 0, .int .i64 0, .int .i64 0], .int .i64 0, .int .i64
 pc, .int .i64 off]]) r else ResLe (.tup [.row true 0 0 fun x => .unk, .row true 0 0 fun x => .unk]) r else bif decide (formI (Ins.op i) = 2) then bif decide (formI
 (Ins.op i) = 2) then ∃ (s : Ins × (Nat → Int)), ArgsLe [e_Ins i, .tab 16 1 fun i => .int .i64 (o i)] [e_Ins (Prod.fst s), e_own (Prod.snd s)] ∧ PreIs True ∧ ∀ (y
 : Int), y = sideF (Prod.fst s) (Prod.snd s) → bif decide (y = 1) then ResLe (.tup [.row false 9 1 fun i_1 => .agg 9 [.int .i64 1, e_Ins i, .int .i64 0, .int .i64
 pc, .int .i64 off], .row true 0 0 fun x => .unk]) r else ∃ (s : Ins × (Nat → Int)), ArgsLe [e_Ins i, .tab 16 1 fun i => .int .i64 (o i)] [e_Ins (Prod.fst s), e_own
 (Prod.snd s)] ∧ ∀ (y : List Int), y = sentF (Prod.fst s) (Prod.snd s) → (y = [] → ∃ (s : Ins × (Nat → Int)), ArgsLe [e_Ins i, .tab 16 1 fun i => .int .i64 (o i)]
 [e_Ins (Prod.fst s), e_own (Prod.snd s)] ∧ ∀ (y : List Int), y = sentF (Prod.fst s) (Prod.snd s) → (y = [] → ResLe (.tup [.row true 0 0 fun x => .unk, .row false
 9 1 fun i_1 => .agg 9 [.int .i64 1, e_Ins i, .int .i64 0, .int .i64 pc, .int .i64 off]]) r) ∧ (∀ (a : Int), y = [a] → ResLe (.tup [.row true 0 0 fun x => .unk, .row
 false 9 2 fun i_1 => .agg 9 [.int .i64 (bif decide (i_1 < 1) then (6 : Int) else (1 : Int)), .agg 5 [.int .i64 (bif decide (i_1 < 1) then (0 : Int) else Ins.op i),
 .int .i64 (bif decide (i_1 < 1) then (0 : Int) else Ins.d i), .int .i64 (bif decide (i_1 < 1) then (0 : Int) else Ins.a i), .int .i64 (bif decide (i_1 < 1) then
 (0 : Int) else Ins.b i), .int .i64 (bif decide (i_1 < 1) then (0 : Int) else Ins.imm i)], .int .i64 (bif decide (i_1 < 1) then a else (0 : Int)), .int .i64 (bif
 decide (i_1 < 1) then pc else pc), .int .i64 (bif decide (i_1 < 1) then off else off)]]) r) ∧ ∀ (a b : Int), y = [a, b] → ResLe (.tup [.row true 0 0 fun x => .unk,
 .row false 9 3 fun i_1 => .agg 9 [.int .i64 (bif decide (i_1 < 2) then bif decide (i_1 < 1) then (6 : Int) else (6 : Int) else (1 : Int)), .agg 5 [.int .i64 (bif
 decide (i_1 < 2) then bif decide (i_1 < 1) then (0 : Int) else (0 : Int) else Ins.op i), .int .i64 (bif decide (i_1 < 2) then bif decide (i_1 < 1) then (0 : Int)
 else (0 : Int) else Ins.d i), .int .i64 (bif decide (i_1 < 2) then bif decide (i_1 < 1) then (0 : Int) else (0 : Int) else Ins.a i), .int .i64 (bif decide (i_1 <
 2) then bif decide (i_1 < 1) then (0 : Int) else (0 : Int) else Ins.b i), .int .i64 (bif decide (i_1 < 2) then bif decide (i_1 < 1) then (0 : Int) else (0 : Int)
 else Ins.imm i)], .int .i64 (bif decide (i_1 < 2) then bif decide (i_1 < 1) then a else b else (0 : Int)), .int .i64 (bif decide (i_1 < 2) then bif decide (i_1 <
 1) then pc else pc else pc), .int .i64 (bif decide (i_1 < 2) then bif decide (i_1 < 1) then off else off else off)]]) r) ∧ (∀ (a : Int), y = [a] → ∃ (s : Ins × (Nat
 → Int)), ArgsLe [e_Ins i, .tab 16 1 fun i => .int .i64 (o i)] [e_Ins (Prod.fst s), e_own (Prod.snd s)] ∧ ∀ (y : List Int), y = sentF (Prod.fst s) (Prod.snd s) →
 (y = [] → ResLe (.tup [.row false 9 1 fun i => .agg 9 [.int .i64 5, .agg 5 [.int .i64 0, .int .i64 0, .int .i64 0, .int .i64 0, .int .i64 0], .int .i64 a, .int .i64
 pc, .int .i64 off], .row false 9 1 fun i_1 => .agg 9 [.int .i64 1, e_Ins i, .int .i64 0, .int .i64 pc, .int .i64 off]]) r) ∧ (∀ (a_3 : Int), y = [a_3] → ResLe (.tup
 [.row false 9 1 fun i => .agg 9 [.int .i64 5, .agg 5 [.int .i64 0, .int .i64 0, .int .i64 0, .int .i64 0, .int .i64 0], .int .i64 a, .int .i64 pc, .int .i64 off],
 .row false 9 2 fun i_1 => .agg 9 [.int .i64 (bif decide (i_1 < 1) then (6 : Int) else (1 : Int)), .agg 5 [.int .i64 (bif decide (i_1 < 1) then (0 : Int) else Ins.op
 i), .int .i64 (bif decide (i_1 < 1) then (0 : Int) else Ins.d i), .int .i64 (bif decide (i_1 < 1) then (0 : Int) else Ins.a i), .int .i64 (bif decide (i_1 < 1) then
 (0 : Int) else Ins.b i), .int .i64 (bif decide (i_1 < 1) then (0 : Int) else Ins.imm i)], .int .i64 (bif decide (i_1 < 1) then a_3 else (0 : Int)), .int .i64 (bif
 decide (i_1 < 1) then pc else pc), .int .i64 (bif decide (i_1 < 1) then off else off)]]) r) ∧ ∀ (a_3 b : Int), y = [a_3, b] → ResLe (.tup [.row false 9 1 fun i =>
 .agg 9 [.int .i64 5, .agg 5 [.int .i64 0, .int .i64 0, .int .i64 0, .int .i64 0, .int .i64 0], .int .i64 a, .int .i64 pc, .int .i64 off], .row false 9 3 fun i_1
 => .agg 9 [.int .i64 (bif decide (i_1 < 2) then bif decide (i_1 < 1) then (6 : Int) else (6 : Int) else (1 : Int)), .agg 5 [.int .i64 (bif decide (i_1 < 2) then
 bif decide (i_1 < 1) then (0 : Int) else (0 : Int) else Ins.op i), .int .i64 (bif decide (i_1 < 2) then bif decide (i_1 < 1) then (0 : Int) else (0 : Int) else Ins.d
 i), .int .i64 (bif decide (i_1 < 2) then bif decide (i_1 < 1) then (0 : Int) else (0 : Int) else Ins.a i), .int .i64 (bif decide (i_1 < 2) then bif decide (i_1 <
 1) then (0 : Int) else (0 : Int) else Ins.b i), .int .i64 (bif decide (i_1 < 2) then bif decide (i_1 < 1) then (0 : Int) else (0 : Int) else Ins.imm i)], .int .i64
 (bif decide (i_1 < 2) then bif decide (i_1 < 1) then a_3 else b else (0 : Int)), .int .i64 (bif decide (i_1 < 2) then bif decide (i_1 < 1) then pc else pc else pc),
 .int .i64 (bif decide (i_1 < 2) then bif decide (i_1 < 1) then off else off else off)]]) r) ∧ ∀ (a b : Int), y = [a, b] → ∃ (s : Ins × (Nat → Int)), ArgsLe [e_Ins
 i, .tab 16 1 fun i => .int .i64 (o i)] [e_Ins (Prod.fst s), e_own (Prod.snd s)] ∧ ∀ (y : List Int), y = sentF (Prod.fst s) (Prod.snd s) → (y = [] → ResLe (.tup [.row
 false 9 2 fun i => .agg 9 [.int .i64 (bif decide (i < 1) then (5 : Int) else (5 : Int)), .agg 5 [.int .i64 (bif decide (i < 1) then (0 : Int) else (0 : Int)), .int
 .i64 (bif decide (i < 1) then (0 : Int) else (0 : Int)), .int .i64 (bif decide (i < 1) then (0 : Int) else (0 : Int)), .int .i64 (bif decide (i < 1) then (0 : Int)
 else (0 : Int)), .int .i64 (bif decide (i < 1) then (0 : Int) else (0 : Int))], .int .i64 (bif decide (i < 1) then a else b), .int .i64 (bif decide (i < 1) then
 pc else pc), .int .i64 (bif decide (i < 1) then off else off)], .row false 9 1 fun i_1 => .agg 9 [.int .i64 1, e_Ins i, .int .i64 0, .int .i64 pc, .int .i64 off]])
 r) ∧ (∀ (a_3 : Int), y = [a_3] → ResLe (.tup [.row false 9 2 fun i => .agg 9 [.int .i64 (bif decide (i < 1) then (5 : Int) else (5 : Int)), .agg 5 [.int .i64 (bif
 decide (i < 1) then (0 : Int) else (0 : Int)), .int .i64 (bif decide (i < 1) then (0 : Int) else (0 : Int)), .int .i64 (bif decide (i < 1) then (0 : Int) else (0
 : Int)), .int .i64 (bif decide (i < 1) then (0 : Int) else (0 : Int)), .int .i64 (bif decide (i < 1) then (0 : Int) else (0 : Int))], .int .i64 (bif decide (i <
 1) then a else b), .int .i64 (bif decide (i < 1) then pc else pc), .int .i64 (bif decide (i < 1) then off else off)], .row false 9 2 fun i_1 => .agg 9 [.int .i64
 (bif decide (i_1 < 1) then (6 : Int) else (1 : Int)), .agg 5 [.int .i64 (bif decide (i_1 < 1) then (0 : Int) else Ins.op i), .int .i64 (bif decide (i_1 < 1) then
 (0 : Int) else Ins.d i), .int .i64 (bif decide (i_1 < 1) then (0 : Int) else Ins.a i), .int .i64 (bif decide (i_1 < 1) then (0 : Int) else Ins.b i), .int .i64 (bif
 decide (i_1 < 1) then (0 : Int) else Ins.imm i)], .int .i64 (bif decide (i_1 < 1) then a_3 else (0 : Int)), .int .i64 (bif decide (i_1 < 1) then pc else pc), .int
 .i64 (bif decide (i_1 < 1) then off else off)]]) r) ∧ ∀ (a_3 b_1 : Int), y = [a_3, b_1] → ResLe (.tup [.row false 9 2 fun i => .agg 9 [.int .i64 (bif decide (i <
 1) then (5 : Int) else (5 : Int)), .agg 5 [.int .i64 (bif decide (i < 1) then (0 : Int) else (0 : Int)), .int .i64 (bif decide (i < 1) then (0 : Int) else (0 : Int)),
 .int .i64 (bif decide (i < 1) then (0 : Int) else (0 : Int)), .int .i64 (bif decide (i < 1) then (0 : Int) else (0 : Int)), .int .i64 (bif decide (i < 1) then (0
 : Int) else (0 : Int))], .int .i64 (bif decide (i < 1) then a else b), .int .i64 (bif decide (i < 1) then pc else pc), .int .i64 (bif decide (i < 1) then off else
 off)], .row false 9 3 fun i_1 => .agg 9 [.int .i64 (bif decide (i_1 < 2) then bif decide (i_1 < 1) then (6 : Int) else (6 : Int) else (1 : Int)), .agg 5 [.int .i64
 (bif decide (i_1 < 2) then bif decide (i_1 < 1) then (0 : Int) else (0 : Int) else Ins.op i), .int .i64 (bif decide (i_1 < 2) then bif decide (i_1 < 1) then (0 :
 Int) else (0 : Int) else Ins.d i), .int .i64 (bif decide (i_1 < 2) then bif decide (i_1 < 1) then (0 : Int) else (0 : Int) else Ins.a i), .int .i64 (bif decide (i_1
 < 2) then bif decide (i_1 < 1) then (0 : Int) else (0 : Int) else Ins.b i), .int .i64 (bif decide (i_1 < 2) then bif decide (i_1 < 1) then (0 : Int) else (0 : Int)
 else Ins.imm i)], .int .i64 (bif decide (i_1 < 2) then bif decide (i_1 < 1) then a_3 else b_1 else (0 : Int)), .int .i64 (bif decide (i_1 < 2) then bif decide (i_1
 < 1) then pc else pc else pc), .int .i64 (bif decide (i_1 < 2) then bif decide (i_1 < 1) then off else off else off)]]) r else bif decide (formI (Ins.op i) = 4)
 then ∃ (s : (Nat → Int) × Int), ArgsLe [.tab 16 1 fun i => .int .i64 (o i), .int .i64 (Ins.d i)] [e_own (Prod.fst s), .int .i64 (Prod.snd s)] ∧ PreIs (Prod.snd s
 ≤ 15) ∧ ∀ (y : Bool), y = onEB (Prod.fst s) (Prod.snd s) → bif y then ResLe (.tup [.row false 9 1 fun i_1 => .agg 9 [.int .i64 3, e_Ins i, .int .i64 0, .int .i64
 pc, .int .i64 off], .row false 9 1 fun i_1 => .agg 9 [.int .i64 7, e_Ins i, .int .i64 0, .int .i64 pc, .int .i64 off]]) r else ResLe (.tup [.row false 9 1 fun i_1
 => .agg 9 [.int .i64 2, e_Ins i, .int .i64 0, .int .i64 pc, .int .i64 off], .row true 0 0 fun x => .unk]) r else bif decide (formI (Ins.op i) = 5) then ∃ (s : (Nat
 → Int) × Int), ArgsLe [.tab 16 1 fun i => .int .i64 (o i), .int .i64 (Ins.b i)] [e_own (Prod.fst s), .int .i64 (Prod.snd s)] ∧ PreIs True ∧ ∀ (y : Int), y = ownedF
 (Prod.fst s) (Prod.snd s) → bif decide (y = 1) then ResLe (.tup [.row false 9 2 fun i_1 => .agg 9 [.int .i64 (bif decide (i_1 < 1) then (5 : Int) else (4 : Int)),
 .agg 5 [.int .i64 (bif decide (i_1 < 1) then (0 : Int) else Ins.op i), .int .i64 (bif decide (i_1 < 1) then (0 : Int) else Ins.d i), .int .i64 (bif decide (i_1 <
 1) then (0 : Int) else Ins.a i), .int .i64 (bif decide (i_1 < 1) then (0 : Int) else Ins.b i), .int .i64 (bif decide (i_1 < 1) then (0 : Int) else Ins.imm i)], .int
 .i64 (bif decide (i_1 < 1) then Ins.b i else (0 : Int)), .int .i64 (bif decide (i_1 < 1) then pc else pc), .int .i64 (bif decide (i_1 < 1) then off else off)], .row
 false 9 2 fun i_1 => .agg 9 [.int .i64 (bif decide (i_1 < 1) then (6 : Int) else (8 : Int)), .agg 5 [.int .i64 (bif decide (i_1 < 1) then (0 : Int) else (0 : Int)),
 .int .i64 (bif decide (i_1 < 1) then (0 : Int) else (0 : Int)), .int .i64 (bif decide (i_1 < 1) then (0 : Int) else (0 : Int)), .int .i64 (bif decide (i_1 < 1) then
 (0 : Int) else (0 : Int)), .int .i64 (bif decide (i_1 < 1) then (0 : Int) else (0 : Int))], .int .i64 (bif decide (i_1 < 1) then Ins.b i else Ins.b i), .int .i64
 (bif decide (i_1 < 1) then pc else pc), .int .i64 (bif decide (i_1 < 1) then off else off)]]) r else ResLe (.tup [.row false 9 1 fun i_1 => .agg 9 [.int .i64 4,
 e_Ins i, .int .i64 0, .int .i64 pc, .int .i64 off], .row false 9 1 fun i_1 => .agg 9 [.int .i64 8, .agg 5 [.int .i64 0, .int .i64 0, .int .i64 0, .int .i64 0, .int
 .i64 0], .int .i64 (Ins.b i), .int .i64 pc, .int .i64 off]]) r else bif decide (formI (Ins.op i) = 6) then ∃ (s : Ins), ArgsLe [e_Ins i] [e_Ins s] ∧ PreIs True ∧
 ∀ (y : List Int), y = readsF s → ∃ (s : (Nat → Int) × List Int), ArgsLe [.tab 16 1 fun i => .int .i64 (o i), e_row 1 e_i64 y] [e_own (Prod.fst s), e_row 1 e_i64
 (Prod.snd s)] ∧ PreIs (List.length (Prod.snd s) ≤ 1000000000 ∧ ∀ (x : Int), x ∈ Prod.snd s → x ≤ 15) ∧ ∀ (y : Bool), y = anyEB (Prod.fst s) (Prod.snd s) → bif !y
 then ResLe (.tup [.row false 9 1 fun i_1 => .agg 9 [.int .i64 9, e_Ins i, .int .i64 0, .int .i64 pc, .int .i64 off], .row false 9 1 fun i => .agg 9 [.int .i64 10,
 .agg 5 [.int .i64 0, .int .i64 0, .int .i64 0, .int .i64 0, .int .i64 0], .int .i64 0, .int .i64 pc, .int .i64 off]]) r else ∃ (s : Ins × (Nat → Int)), ArgsLe [e_Ins
 i, .tab 16 1 fun i => .int .i64 (o i)] [e_Ins (Prod.fst s), e_own (Prod.snd s)] ∧ ∀ (y : List Int), y = sentF (Prod.fst s) (Prod.snd s) → (y = [] → ∃ (s : Ins ×
 (Nat → Int)), ArgsLe [e_Ins i, .tab 16 1 fun i => .int .i64 (o i)] [e_Ins (Prod.fst s), e_own (Prod.snd s)] ∧ ∀ (y : List Int), y = sentF (Prod.fst s) (Prod.snd
 s) → (y = [] → ResLe (.tup [.row false 9 1 fun i => .agg 9 [.int .i64 10, .agg 5 [.int .i64 0, .int .i64 0, .int .i64 0, .int .i64 0, .int .i64 0], .int .i64 0,
 .int .i64 pc, .int .i64 off], .row false 9 1 fun i_1 => .agg 9 [.int .i64 9, e_Ins i, .int .i64 0, .int .i64 pc, .int .i64 off]]) r) ∧ (∀ (a : Int), y = [a] → ResLe
 (.tup [.row false 9 1 fun i => .agg 9 [.int .i64 10, .agg 5 [.int .i64 0, .int .i64 0, .int .i64 0, .int .i64 0, .int .i64 0], .int .i64 0, .int .i64 pc, .int .i64
 off], .row false 9 2 fun i_1 => .agg 9 [.int .i64 (bif decide (i_1 < 1) then (6 : Int) else (9 : Int)), .agg 5 [.int .i64 (bif decide (i_1 < 1) then (0 : Int) else
 Ins.op i), .int .i64 (bif decide (i_1 < 1) then (0 : Int) else Ins.d i), .int .i64 (bif decide (i_1 < 1) then (0 : Int) else Ins.a i), .int .i64 (bif decide (i_1
 < 1) then (0 : Int) else Ins.b i), .int .i64 (bif decide (i_1 < 1) then (0 : Int) else Ins.imm i)], .int .i64 (bif decide (i_1 < 1) then a else (0 : Int)), .int
 .i64 (bif decide (i_1 < 1) then pc else pc), .int .i64 (bif decide (i_1 < 1) then off else off)]]) r) ∧ ∀ (a b : Int), y = [a, b] → ResLe (.tup [.row false 9 1 fun
 i => .agg 9 [.int .i64 10, .agg 5 [.int .i64 0, .int .i64 0, .int .i64 0, .int .i64 0, .int .i64 0], .int .i64 0, .int .i64 pc, .int .i64 off], .row false 9 3 fun
 i_1 => .agg 9 [.int .i64 (bif decide (i_1 < 2) then bif decide (i_1 < 1) then (6 : Int) else (6 : Int) else (9 : Int)), .agg 5 [.int .i64 (bif decide (i_1 < 2) then
 bif decide (i_1 < 1) then (0 : Int) else (0 : Int) else Ins.op i), .int .i64 (bif decide (i_1 < 2) then bif decide (i_1 < 1) then (0 : Int) else (0 : Int) else Ins.d
 i), .int .i64 (bif decide (i_1 < 2) then bif decide (i_1 < 1) then (0 : Int) else (0 : Int) else Ins.a i), .int .i64 (bif decide (i_1 < 2) then bif decide (i_1 <
 1) then (0 : Int) else (0 : Int) else Ins.b i), .int .i64 (bif decide (i_1 < 2) then bif decide (i_1 < 1) then (0 : Int) else (0 : Int) else Ins.imm i)], .int .i64
 (bif decide (i_1 < 2) then bif decide (i_1 < 1) then a else b else (0 : Int)), .int .i64 (bif decide (i_1 < 2) then bif decide (i_1 < 1) then pc else pc else pc),
 .int .i64 (bif decide (i_1 < 2) then bif decide (i_1 < 1) then off else off else off)]]) r) ∧ (∀ (a : Int), y = [a] → ∃ (s : Ins × (Nat → Int)), ArgsLe [e_Ins i,
 .tab 16 1 fun i => .int .i64 (o i)] [e_Ins (Prod.fst s), e_own (Prod.snd s)] ∧ ∀ (y : List Int), y = sentF (Prod.fst s) (Prod.snd s) → (y = [] → ResLe (.tup [.row
 false 9 2 fun i => .agg 9 [.int .i64 (bif decide (i < 1) then (5 : Int) else (10 : Int)), .agg 5 [.int .i64 (bif decide (i < 1) then (0 : Int) else (0 : Int)), .int
 .i64 (bif decide (i < 1) then (0 : Int) else (0 : Int)), .int .i64 (bif decide (i < 1) then (0 : Int) else (0 : Int)), .int .i64 (bif decide (i < 1) then (0 : Int)
 else (0 : Int)), .int .i64 (bif decide (i < 1) then (0 : Int) else (0 : Int))], .int .i64 (bif decide (i < 1) then a else (0 : Int)), .int .i64 (bif decide (i <
 1) then pc else pc), .int .i64 (bif decide (i < 1) then off else off)], .row false 9 1 fun i_1 => .agg 9 [.int .i64 9, e_Ins i, .int .i64 0, .int .i64 pc, .int .i64
 off]]) r) ∧ (∀ (a_3 : Int), y = [a_3] → ResLe (.tup [.row false 9 2 fun i => .agg 9 [.int .i64 (bif decide (i < 1) then (5 : Int) else (10 : Int)), .agg 5 [.int
 .i64 (bif decide (i < 1) then (0 : Int) else (0 : Int)), .int .i64 (bif decide (i < 1) then (0 : Int) else (0 : Int)), .int .i64 (bif decide (i < 1) then (0 : Int)
 else (0 : Int)), .int .i64 (bif decide (i < 1) then (0 : Int) else (0 : Int)), .int .i64 (bif decide (i < 1) then (0 : Int) else (0 : Int))], .int .i64 (bif decide
 (i < 1) then a else (0 : Int)), .int .i64 (bif decide (i < 1) then pc else pc), .int .i64 (bif decide (i < 1) then off else off)], .row false 9 2 fun i_1 => .agg
 9 [.int .i64 (bif decide (i_1 < 1) then (6 : Int) else (9 : Int)), .agg 5 [.int .i64 (bif decide (i_1 < 1) then (0 : Int) else Ins.op i), .int .i64 (bif decide (i_1
 < 1) then (0 : Int) else Ins.d i), .int .i64 (bif decide (i_1 < 1) then (0 : Int) else Ins.a i), .int .i64 (bif decide (i_1 < 1) then (0 : Int) else Ins.b i), .int
 .i64 (bif decide (i_1 < 1) then (0 : Int) else Ins.imm i)], .int .i64 (bif decide (i_1 < 1) then a_3 else (0 : Int)), .int .i64 (bif decide (i_1 < 1) then pc else
 pc), .int .i64 (bif decide (i_1 < 1) then off else off)]]) r) ∧ ∀ (a_3 b : Int), y = [a_3, b] → ResLe (.tup [.row false 9 2 fun i => .agg 9 [.int .i64 (bif decide
 (i < 1) then (5 : Int) else (10 : Int)), .agg 5 [.int .i64 (bif decide (i < 1) then (0 : Int) else (0 : Int)), .int .i64 (bif decide (i < 1) then (0 : Int) else
 (0 : Int)), .int .i64 (bif decide (i < 1) then (0 : Int) else (0 : Int)), .int .i64 (bif decide (i < 1) then (0 : Int) else (0 : Int)), .int .i64 (bif decide (i
 < 1) then (0 : Int) else (0 : Int))], .int .i64 (bif decide (i < 1) then a else (0 : Int)), .int .i64 (bif decide (i < 1) then pc else pc), .int .i64 (bif decide
 (i < 1) then off else off)], .row false 9 3 fun i_1 => .agg 9 [.int .i64 (bif decide (i_1 < 2) then bif decide (i_1 < 1) then (6 : Int) else (6 : Int) else (9 :
 Int)), .agg 5 [.int .i64 (bif decide (i_1 < 2) then bif decide (i_1 < 1) then (0 : Int) else (0 : Int) else Ins.op i), .int .i64 (bif decide (i_1 < 2) then bif decide
 (i_1 < 1) then (0 : Int) else (0 : Int) else Ins.d i), .int .i64 (bif decide (i_1 < 2) then bif decide (i_1 < 1) then (0 : Int) else (0 : Int) else Ins.a i), .int
 .i64 (bif decide (i_1 < 2) then bif decide (i_1 < 1) then (0 : Int) else (0 : Int) else Ins.b i), .int .i64 (bif decide (i_1 < 2) then bif decide (i_1 < 1) then
 (0 : Int) else (0 : Int) else Ins.imm i)], .int .i64 (bif decide (i_1 < 2) then bif decide (i_1 < 1) then a_3 else b else (0 : Int)), .int .i64 (bif decide (i_1
 < 2) then bif decide (i_1 < 1) then pc else pc else pc), .int .i64 (bif decide (i_1 < 2) then bif decide (i_1 < 1) then off else off else off)]]) r) ∧ ∀ (a b : Int),
 y = [a, b] → ∃ (s : Ins × (Nat → Int)), ArgsLe [e_Ins i, .tab 16 1 fun i => .int .i64 (o i)] [e_Ins (Prod.fst s), e_own (Prod.snd s)] ∧ ∀ (y : List Int), y = sentF
 (Prod.fst s) (Prod.snd s) → (y = [] → ResLe (.tup [.row false 9 3 fun i => .agg 9 [.int .i64 (bif decide (i < 2) then bif decide (i < 1) then (5 : Int) else (5 :
 Int) else (10 : Int)), .agg 5 [.int .i64 (bif decide (i < 2) then bif decide (i < 1) then (0 : Int) else (0 : Int) else (0 : Int)), .int .i64 (bif decide (i < 2)
 then bif decide (i < 1) then (0 : Int) else (0 : Int) else (0 : Int)), .int .i64 (bif decide (i < 2) then bif decide (i < 1) then (0 : Int) else (0 : Int) else (0
 : Int)), .int .i64 (bif decide (i < 2) then bif decide (i < 1) then (0 : Int) else (0 : Int) else (0 : Int)), .int .i64 (bif decide (i < 2) then bif decide (i <
 1) then (0 : Int) else (0 : Int) else (0 : Int))], .int .i64 (bif decide (i < 2) then bif decide (i < 1) then a else b else (0 : Int)), .int .i64 (bif decide (i
 < 2) then bif decide (i < 1) then pc else pc else pc), .int .i64 (bif decide (i < 2) then bif decide (i < 1) then off else off else off)], .row false 9 1 fun i_1
 => .agg 9 [.int .i64 9, e_Ins i, .int .i64 0, .int .i64 pc, .int .i64 off]]) r) ∧ (∀ (a_3 : Int), y = [a_3] → ResLe (.tup [.row false 9 3 fun i => .agg 9 [.int .i64
 (bif decide (i < 2) then bif decide (i < 1) then (5 : Int) else (5 : Int) else (10 : Int)), .agg 5 [.int .i64 (bif decide (i < 2) then bif decide (i < 1) then (0
 : Int) else (0 : Int) else (0 : Int)), .int .i64 (bif decide (i < 2) then bif decide (i < 1) then (0 : Int) else (0 : Int) else (0 : Int)), .int .i64 (bif decide
 (i < 2) then bif decide (i < 1) then (0 : Int) else (0 : Int) else (0 : Int)), .int .i64 (bif decide (i < 2) then bif decide (i < 1) then (0 : Int) else (0 : Int)
 else (0 : Int)), .int .i64 (bif decide (i < 2) then bif decide (i < 1) then (0 : Int) else (0 : Int) else (0 : Int))], .int .i64 (bif decide (i < 2) then bif decide
 (i < 1) then a else b else (0 : Int)), .int .i64 (bif decide (i < 2) then bif decide (i < 1) then pc else pc else pc), .int .i64 (bif decide (i < 2) then bif decide
 (i < 1) then off else off else off)], .row false 9 2 fun i_1 => .agg 9 [.int .i64 (bif decide (i_1 < 1) then (6 : Int) else (9 : Int)), .agg 5 [.int .i64 (bif decide
 (i_1 < 1) then (0 : Int) else Ins.op i), .int .i64 (bif decide (i_1 < 1) then (0 : Int) else Ins.d i), .int .i64 (bif decide (i_1 < 1) then (0 : Int) else Ins.a
 i), .int .i64 (bif decide (i_1 < 1) then (0 : Int) else Ins.b i), .int .i64 (bif decide (i_1 < 1) then (0 : Int) else Ins.imm i)], .int .i64 (bif decide (i_1 < 1)
 then a_3 else (0 : Int)), .int .i64 (bif decide (i_1 < 1) then pc else pc), .int .i64 (bif decide (i_1 < 1) then off else off)]]) r) ∧ ∀ (a_3 b_1 : Int), y = [a_3,
 b_1] → ResLe (.tup [.row false 9 3 fun i => .agg 9 [.int .i64 (bif decide (i < 2) then bif decide (i < 1) then (5 : Int) else (5 : Int) else (10 : Int)), .agg 5
 [.int .i64 (bif decide (i < 2) then bif decide (i < 1) then (0 : Int) else (0 : Int) else (0 : Int)), .int .i64 (bif decide (i < 2) then bif decide (i < 1) then
 (0 : Int) else (0 : Int) else (0 : Int)), .int .i64 (bif decide (i < 2) then bif decide (i < 1) then (0 : Int) else (0 : Int) else (0 : Int)), .int .i64 (bif decide
 (i < 2) then bif decide (i < 1) then (0 : Int) else (0 : Int) else (0 : Int)), .int .i64 (bif decide (i < 2) then bif decide (i < 1) then (0 : Int) else (0 : Int)
 else (0 : Int))], .int .i64 (bif decide (i < 2) then bif decide (i < 1) then a else b else (0 : Int)), .int .i64 (bif decide (i < 2) then bif decide (i < 1) then
 pc else pc else pc), .int .i64 (bif decide (i < 2) then bif decide (i < 1) then off else off else off)], .row false 9 3 fun i_1 => .agg 9 [.int .i64 (bif decide
 (i_1 < 2) then bif decide (i_1 < 1) then (6 : Int) else (6 : Int) else (9 : Int)), .agg 5 [.int .i64 (bif decide (i_1 < 2) then bif decide (i_1 < 1) then (0 : Int)
 else (0 : Int) else Ins.op i), .int .i64 (bif decide (i_1 < 2) then bif decide (i_1 < 1) then (0 : Int) else (0 : Int) else Ins.d i), .int .i64 (bif decide (i_1
 < 2) then bif decide (i_1 < 1) then (0 : Int) else (0 : Int) else Ins.a i), .int .i64 (bif decide (i_1 < 2) then bif decide (i_1 < 1) then (0 : Int) else (0 : Int)
 else Ins.b i), .int .i64 (bif decide (i_1 < 2) then bif decide (i_1 < 1) then (0 : Int) else (0 : Int) else Ins.imm i)], .int .i64 (bif decide (i_1 < 2) then bif
 decide (i_1 < 1) then a_3 else b_1 else (0 : Int)), .int .i64 (bif decide (i_1 < 2) then bif decide (i_1 < 1) then pc else pc else pc), .int .i64 (bif decide (i_1
 < 2) then bif decide (i_1 < 1) then off else off else off)]]) r else bif decide (formI (Ins.op i) = 7) then ResLe (.tup [.row false 9 1 fun i => .agg 9 [.int .i64
 11, .agg 5 [.int .i64 0, .int .i64 0, .int .i64 0, .int .i64 0, .int .i64 0], .int .i64 0, .int .i64 pc, .int .i64 off], .row false 9 1 fun i => .agg 9 [.int .i64
 11, .agg 5 [.int .i64 0, .int .i64 0, .int .i64 0, .int .i64 0, .int .i64 0], .int .i64 0, .int .i64 pc, .int .i64 off]]) r else bif decide (formI (Ins.op i) = 8)
 then ResLe (.tup [.row false 9 1 fun i => .agg 9 [.int .i64 12, .agg 5 [.int .i64 0, .int .i64 0, .int .i64 0, .int .i64 0, .int .i64 0], .int .i64 0, .int .i64
 pc, .int .i64 off], .row false 9 1 fun i => .agg 9 [.int .i64 12, .agg 5 [.int .i64 0, .int .i64 0, .int .i64 0, .int .i64 0, .int .i64 0], .int .i64 0, .int .i64
 pc, .int .i64 off]]) r else ResLe (.tup [.row true 0 0 fun x => .unk, .row true 0 0 fun x => .unk]) r else bif decide (formI (Ins.op i) = 3) then ∃ (s : Ins × (Nat
 → Int)), ArgsLe [e_Ins i, .tab 16 1 fun i => .int .i64 (o i)] [e_Ins (Prod.fst s), e_own (Prod.snd s)] ∧ PreIs True ∧ ∀ (y : Int), y = sideF (Prod.fst s) (Prod.snd
 s) → bif decide (y = 1) then ResLe (.tup [.row false 9 1 fun i_1 => .agg 9 [.int .i64 1, e_Ins i, .int .i64 0, .int .i64 pc, .int .i64 off], .row true 0 0 fun x
 => .unk]) r else ∃ (s : Ins × (Nat → Int)), ArgsLe [e_Ins i, .tab 16 1 fun i => .int .i64 (o i)] [e_Ins (Prod.fst s), e_own (Prod.snd s)] ∧ ∀ (y : List Int), y =
 sentF (Prod.fst s) (Prod.snd s) → (y = [] → ∃ (s : Ins × (Nat → Int)), ArgsLe [e_Ins i, .tab 16 1 fun i => .int .i64 (o i)] [e_Ins (Prod.fst s), e_own (Prod.snd
 s)] ∧ ∀ (y : List Int), y = sentF (Prod.fst s) (Prod.snd s) → (y = [] → ResLe (.tup [.row true 0 0 fun x => .unk, .row false 9 1 fun i_1 => .agg 9 [.int .i64 1,
 e_Ins i, .int .i64 0, .int .i64 pc, .int .i64 off]]) r) ∧ (∀ (a : Int), y = [a] → ResLe (.tup [.row true 0 0 fun x => .unk, .row false 9 2 fun i_1 => .agg 9 [.int
 .i64 (bif decide (i_1 < 1) then (6 : Int) else (1 : Int)), .agg 5 [.int .i64 (bif decide (i_1 < 1) then (0 : Int) else Ins.op i), .int .i64 (bif decide (i_1 < 1)
 then (0 : Int) else Ins.d i), .int .i64 (bif decide (i_1 < 1) then (0 : Int) else Ins.a i), .int .i64 (bif decide (i_1 < 1) then (0 : Int) else Ins.b i), .int .i64
 (bif decide (i_1 < 1) then (0 : Int) else Ins.imm i)], .int .i64 (bif decide (i_1 < 1) then a else (0 : Int)), .int .i64 (bif decide (i_1 < 1) then pc else pc),
 .int .i64 (bif decide (i_1 < 1) then off else off)]]) r) ∧ ∀ (a b : Int), y = [a, b] → ResLe (.tup [.row true 0 0 fun x => .unk, .row false 9 3 fun i_1 => .agg 9
 [.int .i64 (bif decide (i_1 < 2) then bif decide (i_1 < 1) then (6 : Int) else (6 : Int) else (1 : Int)), .agg 5 [.int .i64 (bif decide (i_1 < 2) then bif decide
 (i_1 < 1) then (0 : Int) else (0 : Int) else Ins.op i), .int .i64 (bif decide (i_1 < 2) then bif decide (i_1 < 1) then (0 : Int) else (0 : Int) else Ins.d i), .int
 .i64 (bif decide (i_1 < 2) then bif decide (i_1 < 1) then (0 : Int) else (0 : Int) else Ins.a i), .int .i64 (bif decide (i_1 < 2) then bif decide (i_1 < 1) then
 (0 : Int) else (0 : Int) else Ins.b i), .int .i64 (bif decide (i_1 < 2) then bif decide (i_1 < 1) then (0 : Int) else (0 : Int) else Ins.imm i)], .int .i64 (bif
 decide (i_1 < 2) then bif decide (i_1 < 1) then a else b else (0 : Int)), .int .i64 (bif decide (i_1 < 2) then bif decide (i_1 < 1) then pc else pc else pc), .int
 .i64 (bif decide (i_1 < 2) then bif decide (i_1 < 1) then off else off else off)]]) r) ∧ (∀ (a : Int), y = [a] → ∃ (s : Ins × (Nat → Int)), ArgsLe [e_Ins i, .tab
 16 1 fun i => .int .i64 (o i)] [e_Ins (Prod.fst s), e_own (Prod.snd s)] ∧ ∀ (y : List Int), y = sentF (Prod.fst s) (Prod.snd s) → (y = [] → ResLe (.tup [.row false
 9 1 fun i => .agg 9 [.int .i64 5, .agg 5 [.int .i64 0, .int .i64 0, .int .i64 0, .int .i64 0, .int .i64 0], .int .i64 a, .int .i64 pc, .int .i64 off], .row false
 9 1 fun i_1 => .agg 9 [.int .i64 1, e_Ins i, .int .i64 0, .int .i64 pc, .int .i64 off]]) r) ∧ (∀ (a_3 : Int), y = [a_3] → ResLe (.tup [.row false 9 1 fun i => .agg
 9 [.int .i64 5, .agg 5 [.int .i64 0, .int .i64 0, .int .i64 0, .int .i64 0, .int .i64 0], .int .i64 a, .int .i64 pc, .int .i64 off], .row false 9 2 fun i_1 => .agg
 9 [.int .i64 (bif decide (i_1 < 1) then (6 : Int) else (1 : Int)), .agg 5 [.int .i64 (bif decide (i_1 < 1) then (0 : Int) else Ins.op i), .int .i64 (bif decide (i_1
 < 1) then (0 : Int) else Ins.d i), .int .i64 (bif decide (i_1 < 1) then (0 : Int) else Ins.a i), .int .i64 (bif decide (i_1 < 1) then (0 : Int) else Ins.b i), .int
 .i64 (bif decide (i_1 < 1) then (0 : Int) else Ins.imm i)], .int .i64 (bif decide (i_1 < 1) then a_3 else (0 : Int)), .int .i64 (bif decide (i_1 < 1) then pc else
 pc), .int .i64 (bif decide (i_1 < 1) then off else off)]]) r) ∧ ∀ (a_3 b : Int), y = [a_3, b] → ResLe (.tup [.row false 9 1 fun i => .agg 9 [.int .i64 5, .agg 5
 [.int .i64 0, .int .i64 0, .int .i64 0, .int .i64 0, .int .i64 0], .int .i64 a, .int .i64 pc, .int .i64 off], .row false 9 3 fun i_1 => .agg 9 [.int .i64 (bif decide
 (i_1 < 2) then bif decide (i_1 < 1) then (6 : Int) else (6 : Int) else (1 : Int)), .agg 5 [.int .i64 (bif decide (i_1 < 2) then bif decide (i_1 < 1) then (0 : Int)
 else (0 : Int) else Ins.op i), .int .i64 (bif decide (i_1 < 2) then bif decide (i_1 < 1) then (0 : Int) else (0 : Int) else Ins.d i), .int .i64 (bif decide (i_1
 < 2) then bif decide (i_1 < 1) then (0 : Int) else (0 : Int) else Ins.a i), .int .i64 (bif decide (i_1 < 2) then bif decide (i_1 < 1) then (0 : Int) else (0 : Int)
 else Ins.b i), .int .i64 (bif decide (i_1 < 2) then bif decide (i_1 < 1) then (0 : Int) else (0 : Int) else Ins.imm i)], .int .i64 (bif decide (i_1 < 2) then bif
 decide (i_1 < 1) then a_3 else b else (0 : Int)), .int .i64 (bif decide (i_1 < 2) then bif decide (i_1 < 1) then pc else pc else pc), .int .i64 (bif decide (i_1
 < 2) then bif decide (i_1 < 1) then off else off else off)]]) r) ∧ ∀ (a b : Int), y = [a, b] → ∃ (s : Ins × (Nat → Int)), ArgsLe [e_Ins i, .tab 16 1 fun i => .int
 .i64 (o i)] [e_Ins (Prod.fst s), e_own (Prod.snd s)] ∧ ∀ (y : List Int), y = sentF (Prod.fst s) (Prod.snd s) → (y = [] → ResLe (.tup [.row false 9 2 fun i => .agg
 9 [.int .i64 (bif decide (i < 1) then (5 : Int) else (5 : Int)), .agg 5 [.int .i64 (bif decide (i < 1) then (0 : Int) else (0 : Int)), .int .i64 (bif decide (i <
 1) then (0 : Int) else (0 : Int)), .int .i64 (bif decide (i < 1) then (0 : Int) else (0 : Int)), .int .i64 (bif decide (i < 1) then (0 : Int) else (0 : Int)), .int
 .i64 (bif decide (i < 1) then (0 : Int) else (0 : Int))], .int .i64 (bif decide (i < 1) then a else b), .int .i64 (bif decide (i < 1) then pc else pc), .int .i64
 (bif decide (i < 1) then off else off)], .row false 9 1 fun i_1 => .agg 9 [.int .i64 1, e_Ins i, .int .i64 0, .int .i64 pc, .int .i64 off]]) r) ∧ (∀ (a_3 : Int),
 y = [a_3] → ResLe (.tup [.row false 9 2 fun i => .agg 9 [.int .i64 (bif decide (i < 1) then (5 : Int) else (5 : Int)), .agg 5 [.int .i64 (bif decide (i < 1) then
 (0 : Int) else (0 : Int)), .int .i64 (bif decide (i < 1) then (0 : Int) else (0 : Int)), .int .i64 (bif decide (i < 1) then (0 : Int) else (0 : Int)), .int .i64
 (bif decide (i < 1) then (0 : Int) else (0 : Int)), .int .i64 (bif decide (i < 1) then (0 : Int) else (0 : Int))], .int .i64 (bif decide (i < 1) then a else b),
 .int .i64 (bif decide (i < 1) then pc else pc), .int .i64 (bif decide (i < 1) then off else off)], .row false 9 2 fun i_1 => .agg 9 [.int .i64 (bif decide (i_1 <
 1) then (6 : Int) else (1 : Int)), .agg 5 [.int .i64 (bif decide (i_1 < 1) then (0 : Int) else Ins.op i), .int .i64 (bif decide (i_1 < 1) then (0 : Int) else Ins.d
 i), .int .i64 (bif decide (i_1 < 1) then (0 : Int) else Ins.a i), .int .i64 (bif decide (i_1 < 1) then (0 : Int) else Ins.b i), .int .i64 (bif decide (i_1 < 1) then
 (0 : Int) else Ins.imm i)], .int .i64 (bif decide (i_1 < 1) then a_3 else (0 : Int)), .int .i64 (bif decide (i_1 < 1) then pc else pc), .int .i64 (bif decide (i_1
 < 1) then off else off)]]) r) ∧ ∀ (a_3 b_1 : Int), y = [a_3, b_1] → ResLe (.tup [.row false 9 2 fun i => .agg 9 [.int .i64 (bif decide (i < 1) then (5 : Int) else
 (5 : Int)), .agg 5 [.int .i64 (bif decide (i < 1) then (0 : Int) else (0 : Int)), .int .i64 (bif decide (i < 1) then (0 : Int) else (0 : Int)), .int .i64 (bif decide
 (i < 1) then (0 : Int) else (0 : Int)), .int .i64 (bif decide (i < 1) then (0 : Int) else (0 : Int)), .int .i64 (bif decide (i < 1) then (0 : Int) else (0 : Int))],
 .int .i64 (bif decide (i < 1) then a else b), .int .i64 (bif decide (i < 1) then pc else pc), .int .i64 (bif decide (i < 1) then off else off)], .row false 9 3 fun
 i_1 => .agg 9 [.int .i64 (bif decide (i_1 < 2) then bif decide (i_1 < 1) then (6 : Int) else (6 : Int) else (1 : Int)), .agg 5 [.int .i64 (bif decide (i_1 < 2) then
 bif decide (i_1 < 1) then (0 : Int) else (0 : Int) else Ins.op i), .int .i64 (bif decide (i_1 < 2) then bif decide (i_1 < 1) then (0 : Int) else (0 : Int) else Ins.d
 i), .int .i64 (bif decide (i_1 < 2) then bif decide (i_1 < 1) then (0 : Int) else (0 : Int) else Ins.a i), .int .i64 (bif decide (i_1 < 2) then bif decide (i_1 <
 1) then (0 : Int) else (0 : Int) else Ins.b i), .int .i64 (bif decide (i_1 < 2) then bif decide (i_1 < 1) then (0 : Int) else (0 : Int) else Ins.imm i)], .int .i64
 (bif decide (i_1 < 2) then bif decide (i_1 < 1) then a_3 else b_1 else (0 : Int)), .int .i64 (bif decide (i_1 < 2) then bif decide (i_1 < 1) then pc else pc else
 pc), .int .i64 (bif decide (i_1 < 2) then bif decide (i_1 < 1) then off else off else off)]]) r else bif decide (formI (Ins.op i) = 4) then ∃ (s : (Nat → Int) ×
 Int), ArgsLe [.tab 16 1 fun i => .int .i64 (o i), .int .i64 (Ins.d i)] [e_own (Prod.fst s), .int .i64 (Prod.snd s)] ∧ PreIs (Prod.snd s ≤ 15) ∧ ∀ (y : Bool), y =
 onEB (Prod.fst s) (Prod.snd s) → bif y then ResLe (.tup [.row false 9 1 fun i_1 => .agg 9 [.int .i64 3, e_Ins i, .int .i64 0, .int .i64 pc, .int .i64 off], .row
 false 9 1 fun i_1 => .agg 9 [.int .i64 7, e_Ins i, .int .i64 0, .int .i64 pc, .int .i64 off]]) r else ResLe (.tup [.row false 9 1 fun i_1 => .agg 9 [.int .i64 2,
 e_Ins i, .int .i64 0, .int .i64 pc, .int .i64 off], .row true 0 0 fun x => .unk]) r else bif decide (formI (Ins.op i) = 5) then ∃ (s : (Nat → Int) × Int), ArgsLe
 [.tab 16 1 fun i => .int .i64 (o i), .int .i64 (Ins.b i)] [e_own (Prod.fst s), .int .i64 (Prod.snd s)] ∧ PreIs True ∧ ∀ (y : Int), y = ownedF (Prod.fst s) (Prod.snd
 s) → bif decide (y = 1) then ResLe (.tup [.row false 9 2 fun i_1 => .agg 9 [.int .i64 (bif decide (i_1 < 1) then (5 : Int) else (4 : Int)), .agg 5 [.int .i64 (bif
 decide (i_1 < 1) then (0 : Int) else Ins.op i), .int .i64 (bif decide (i_1 < 1) then (0 : Int) else Ins.d i), .int .i64 (bif decide (i_1 < 1) then (0 : Int) else
 Ins.a i), .int .i64 (bif decide (i_1 < 1) then (0 : Int) else Ins.b i), .int .i64 (bif decide (i_1 < 1) then (0 : Int) else Ins.imm i)], .int .i64 (bif decide (i_1
 < 1) then Ins.b i else (0 : Int)), .int .i64 (bif decide (i_1 < 1) then pc else pc), .int .i64 (bif decide (i_1 < 1) then off else off)], .row false 9 2 fun i_1
 => .agg 9 [.int .i64 (bif decide (i_1 < 1) then (6 : Int) else (8 : Int)), .agg 5 [.int .i64 (bif decide (i_1 < 1) then (0 : Int) else (0 : Int)), .int .i64 (bif
 decide (i_1 < 1) then (0 : Int) else (0 : Int)), .int .i64 (bif decide (i_1 < 1) then (0 : Int) else (0 : Int)), .int .i64 (bif decide (i_1 < 1) then (0 : Int) else
 (0 : Int)), .int .i64 (bif decide (i_1 < 1) then (0 : Int) else (0 : Int))], .int .i64 (bif decide (i_1 < 1) then Ins.b i else Ins.b i), .int .i64 (bif decide (i_1
 < 1) then pc else pc), .int .i64 (bif decide (i_1 < 1) then off else off)]]) r else ResLe (.tup [.row false 9 1 fun i_1 => .agg 9 [.int .i64 4, e_Ins i, .int .i64
 0, .int .i64 pc, .int .i64 off], .row false 9 1 fun i_1 => .agg 9 [.int .i64 8, .agg 5 [.int .i64 0, .int .i64 0, .int .i64 0, .int .i64 0, .int .i64 0], .int .i64
 (Ins.b i), .int .i64 pc, .int .i64 off]]) r else bif decide (formI (Ins.op i) = 6) then ∃ (s : Ins), ArgsLe [e_Ins i] [e_Ins s] ∧ PreIs True ∧ ∀ (y : List Int),
 y = readsF s → ∃ (s : (Nat → Int) × List Int), ArgsLe [.tab 16 1 fun i => .int .i64 (o i), e_row 1 e_i64 y] [e_own (Prod.fst s), e_row 1 e_i64 (Prod.snd s)] ∧ PreIs
 (List.length (Prod.snd s) ≤ 1000000000 ∧ ∀ (x : Int), x ∈ Prod.snd s → x ≤ 15) ∧ ∀ (y : Bool), y = anyEB (Prod.fst s) (Prod.snd s) → bif !y then ResLe (.tup [.row
 false 9 1 fun i_1 => .agg 9 [.int .i64 9, e_Ins i, .int .i64 0, .int .i64 pc, .int .i64 off], .row false 9 1 fun i => .agg 9 [.int .i64 10, .agg 5 [.int .i64 0,
 .int .i64 0, .int .i64 0, .int .i64 0, .int .i64 0], .int .i64 0, .int .i64 pc, .int .i64 off]]) r else ∃ (s : Ins × (Nat → Int)), ArgsLe [e_Ins i, .tab 16 1 fun
 i => .int .i64 (o i)] [e_Ins (Prod.fst s), e_own (Prod.snd s)] ∧ ∀ (y : List Int), y = sentF (Prod.fst s) (Prod.snd s) → (y = [] → ∃ (s : Ins × (Nat → Int)), ArgsLe
 [e_Ins i, .tab 16 1 fun i => .int .i64 (o i)] [e_Ins (Prod.fst s), e_own (Prod.snd s)] ∧ ∀ (y : List Int), y = sentF (Prod.fst s) (Prod.snd s) → (y = [] → ResLe
 (.tup [.row false 9 1 fun i => .agg 9 [.int .i64 10, .agg 5 [.int .i64 0, .int .i64 0, .int .i64 0, .int .i64 0, .int .i64 0], .int .i64 0, .int .i64 pc, .int .i64
 off], .row false 9 1 fun i_1 => .agg 9 [.int .i64 9, e_Ins i, .int .i64 0, .int .i64 pc, .int .i64 off]]) r) ∧ (∀ (a : Int), y = [a] → ResLe (.tup [.row false 9
 1 fun i => .agg 9 [.int .i64 10, .agg 5 [.int .i64 0, .int .i64 0, .int .i64 0, .int .i64 0, .int .i64 0], .int .i64 0, .int .i64 pc, .int .i64 off], .row false
 9 2 fun i_1 => .agg 9 [.int .i64 (bif decide (i_1 < 1) then (6 : Int) else (9 : Int)), .agg 5 [.int .i64 (bif decide (i_1 < 1) then (0 : Int) else Ins.op i), .int
 .i64 (bif decide (i_1 < 1) then (0 : Int) else Ins.d i), .int .i64 (bif decide (i_1 < 1) then (0 : Int) else Ins.a i), .int .i64 (bif decide (i_1 < 1) then (0 :
 Int) else Ins.b i), .int .i64 (bif decide (i_1 < 1) then (0 : Int) else Ins.imm i)], .int .i64 (bif decide (i_1 < 1) then a else (0 : Int)), .int .i64 (bif decide
 (i_1 < 1) then pc else pc), .int .i64 (bif decide (i_1 < 1) then off else off)]]) r) ∧ ∀ (a b : Int), y = [a, b] → ResLe (.tup [.row false 9 1 fun i => .agg 9 [.int
 .i64 10, .agg 5 [.int .i64 0, .int .i64 0, .int .i64 0, .int .i64 0, .int .i64 0], .int .i64 0, .int .i64 pc, .int .i64 off], .row false 9 3 fun i_1 => .agg 9 [.int
 .i64 (bif decide (i_1 < 2) then bif decide (i_1 < 1) then (6 : Int) else (6 : Int) else (9 : Int)), .agg 5 [.int .i64 (bif decide (i_1 < 2) then bif decide (i_1
 < 1) then (0 : Int) else (0 : Int) else Ins.op i), .int .i64 (bif decide (i_1 < 2) then bif decide (i_1 < 1) then (0 : Int) else (0 : Int) else Ins.d i), .int .i64
 (bif decide (i_1 < 2) then bif decide (i_1 < 1) then (0 : Int) else (0 : Int) else Ins.a i), .int .i64 (bif decide (i_1 < 2) then bif decide (i_1 < 1) then (0 :
 Int) else (0 : Int) else Ins.b i), .int .i64 (bif decide (i_1 < 2) then bif decide (i_1 < 1) then (0 : Int) else (0 : Int) else Ins.imm i)], .int .i64 (bif decide
 (i_1 < 2) then bif decide (i_1 < 1) then a else b else (0 : Int)), .int .i64 (bif decide (i_1 < 2) then bif decide (i_1 < 1) then pc else pc else pc), .int .i64
 (bif decide (i_1 < 2) then bif decide (i_1 < 1) then off else off else off)]]) r) ∧ (∀ (a : Int), y = [a] → ∃ (s : Ins × (Nat → Int)), ArgsLe [e_Ins i, .tab 16 1
 fun i => .int .i64 (o i)] [e_Ins (Prod.fst s), e_own (Prod.snd s)] ∧ ∀ (y : List Int), y = sentF (Prod.fst s) (Prod.snd s) → (y = [] → ResLe (.tup [.row false 9
 2 fun i => .agg 9 [.int .i64 (bif decide (i < 1) then (5 : Int) else (10 : Int)), .agg 5 [.int .i64 (bif decide (i < 1) then (0 : Int) else (0 : Int)), .int .i64
 (bif decide (i < 1) then (0 : Int) else (0 : Int)), .int .i64 (bif decide (i < 1) then (0 : Int) else (0 : Int)), .int .i64 (bif decide (i < 1) then (0 : Int) else
 (0 : Int)), .int .i64 (bif decide (i < 1) then (0 : Int) else (0 : Int))], .int .i64 (bif decide (i < 1) then a else (0 : Int)), .int .i64 (bif decide (i < 1) then
 pc else pc), .int .i64 (bif decide (i < 1) then off else off)], .row false 9 1 fun i_1 => .agg 9 [.int .i64 9, e_Ins i, .int .i64 0, .int .i64 pc, .int .i64 off]])
 r) ∧ (∀ (a_3 : Int), y = [a_3] → ResLe (.tup [.row false 9 2 fun i => .agg 9 [.int .i64 (bif decide (i < 1) then (5 : Int) else (10 : Int)), .agg 5 [.int .i64 (bif
 decide (i < 1) then (0 : Int) else (0 : Int)), .int .i64 (bif decide (i < 1) then (0 : Int) else (0 : Int)), .int .i64 (bif decide (i < 1) then (0 : Int) else (0
 : Int)), .int .i64 (bif decide (i < 1) then (0 : Int) else (0 : Int)), .int .i64 (bif decide (i < 1) then (0 : Int) else (0 : Int))], .int .i64 (bif decide (i <
 1) then a else (0 : Int)), .int .i64 (bif decide (i < 1) then pc else pc), .int .i64 (bif decide (i < 1) then off else off)], .row false 9 2 fun i_1 => .agg 9 [.int
 .i64 (bif decide (i_1 < 1) then (6 : Int) else (9 : Int)), .agg 5 [.int .i64 (bif decide (i_1 < 1) then (0 : Int) else Ins.op i), .int .i64 (bif decide (i_1 < 1)
 then (0 : Int) else Ins.d i), .int .i64 (bif decide (i_1 < 1) then (0 : Int) else Ins.a i), .int .i64 (bif decide (i_1 < 1) then (0 : Int) else Ins.b i), .int .i64
 (bif decide (i_1 < 1) then (0 : Int) else Ins.imm i)], .int .i64 (bif decide (i_1 < 1) then a_3 else (0 : Int)), .int .i64 (bif decide (i_1 < 1) then pc else pc),
 .int .i64 (bif decide (i_1 < 1) then off else off)]]) r) ∧ ∀ (a_3 b : Int), y = [a_3, b] → ResLe (.tup [.row false 9 2 fun i => .agg 9 [.int .i64 (bif decide (i
 < 1) then (5 : Int) else (10 : Int)), .agg 5 [.int .i64 (bif decide (i < 1) then (0 : Int) else (0 : Int)), .int .i64 (bif decide (i < 1) then (0 : Int) else (0
 : Int)), .int .i64 (bif decide (i < 1) then (0 : Int) else (0 : Int)), .int .i64 (bif decide (i < 1) then (0 : Int) else (0 : Int)), .int .i64 (bif decide (i < 1)
 then (0 : Int) else (0 : Int))], .int .i64 (bif decide (i < 1) then a else (0 : Int)), .int .i64 (bif decide (i < 1) then pc else pc), .int .i64 (bif decide (i <
 1) then off else off)], .row false 9 3 fun i_1 => .agg 9 [.int .i64 (bif decide (i_1 < 2) then bif decide (i_1 < 1) then (6 : Int) else (6 : Int) else (9 : Int)),
 .agg 5 [.int .i64 (bif decide (i_1 < 2) then bif decide (i_1 < 1) then (0 : Int) else (0 : Int) else Ins.op i), .int .i64 (bif decide (i_1 < 2) then bif decide (i_1
 < 1) then (0 : Int) else (0 : Int) else Ins.d i), .int .i64 (bif decide (i_1 < 2) then bif decide (i_1 < 1) then (0 : Int) else (0 : Int) else Ins.a i), .int .i64
 (bif decide (i_1 < 2) then bif decide (i_1 < 1) then (0 : Int) else (0 : Int) else Ins.b i), .int .i64 (bif decide (i_1 < 2) then bif decide (i_1 < 1) then (0 :
 Int) else (0 : Int) else Ins.imm i)], .int .i64 (bif decide (i_1 < 2) then bif decide (i_1 < 1) then a_3 else b else (0 : Int)), .int .i64 (bif decide (i_1 < 2)
 then bif decide (i_1 < 1) then pc else pc else pc), .int .i64 (bif decide (i_1 < 2) then bif decide (i_1 < 1) then off else off else off)]]) r) ∧ ∀ (a b : Int),
 y = [a, b] → ∃ (s : Ins × (Nat → Int)), ArgsLe [e_Ins i, .tab 16 1 fun i => .int .i64 (o i)] [e_Ins (Prod.fst s), e_own (Prod.snd s)] ∧ ∀ (y : List Int), y = sentF
 (Prod.fst s) (Prod.snd s) → (y = [] → ResLe (.tup [.row false 9 3 fun i => .agg 9 [.int .i64 (bif decide (i < 2) then bif decide (i < 1) then (5 : Int) else (5 :
 Int) else (10 : Int)), .agg 5 [.int .i64 (bif decide (i < 2) then bif decide (i < 1) then (0 : Int) else (0 : Int) else (0 : Int)), .int .i64 (bif decide (i < 2)
 then bif decide (i < 1) then (0 : Int) else (0 : Int) else (0 : Int)), .int .i64 (bif decide (i < 2) then bif decide (i < 1) then (0 : Int) else (0 : Int) else (0
 : Int)), .int .i64 (bif decide (i < 2) then bif decide (i < 1) then (0 : Int) else (0 : Int) else (0 : Int)), .int .i64 (bif decide (i < 2) then bif decide (i <
 1) then (0 : Int) else (0 : Int) else (0 : Int))], .int .i64 (bif decide (i < 2) then bif decide (i < 1) then a else b else (0 : Int)), .int .i64 (bif decide (i
 < 2) then bif decide (i < 1) then pc else pc else pc), .int .i64 (bif decide (i < 2) then bif decide (i < 1) then off else off else off)], .row false 9 1 fun i_1
 => .agg 9 [.int .i64 9, e_Ins i, .int .i64 0, .int .i64 pc, .int .i64 off]]) r) ∧ (∀ (a_3 : Int), y = [a_3] → ResLe (.tup [.row false 9 3 fun i => .agg 9 [.int .i64
 (bif decide (i < 2) then bif decide (i < 1) then (5 : Int) else (5 : Int) else (10 : Int)), .agg 5 [.int .i64 (bif decide (i < 2) then bif decide (i < 1) then (0
 : Int) else (0 : Int) else (0 : Int)), .int .i64 (bif decide (i < 2) then bif decide (i < 1) then (0 : Int) else (0 : Int) else (0 : Int)), .int .i64 (bif decide
 (i < 2) then bif decide (i < 1) then (0 : Int) else (0 : Int) else (0 : Int)), .int .i64 (bif decide (i < 2) then bif decide (i < 1) then (0 : Int) else (0 : Int)
 else (0 : Int)), .int .i64 (bif decide (i < 2) then bif decide (i < 1) then (0 : Int) else (0 : Int) else (0 : Int))], .int .i64 (bif decide (i < 2) then bif decide
 (i < 1) then a else b else (0 : Int)), .int .i64 (bif decide (i < 2) then bif decide (i < 1) then pc else pc else pc), .int .i64 (bif decide (i < 2) then bif decide
 (i < 1) then off else off else off)], .row false 9 2 fun i_1 => .agg 9 [.int .i64 (bif decide (i_1 < 1) then (6 : Int) else (9 : Int)), .agg 5 [.int .i64 (bif decide
 (i_1 < 1) then (0 : Int) else Ins.op i), .int .i64 (bif decide (i_1 < 1) then (0 : Int) else Ins.d i), .int .i64 (bif decide (i_1 < 1) then (0 : Int) else Ins.a
 i), .int .i64 (bif decide (i_1 < 1) then (0 : Int) else Ins.b i), .int .i64 (bif decide (i_1 < 1) then (0 : Int) else Ins.imm i)], .int .i64 (bif decide (i_1 < 1)
 then a_3 else (0 : Int)), .int .i64 (bif decide (i_1 < 1) then pc else pc), .int .i64 (bif decide (i_1 < 1) then off else off)]]) r) ∧ ∀ (a_3 b_1 : Int), y = [a_3,
 b_1] → ResLe (.tup [.row false 9 3 fun i => .agg 9 [.int .i64 (bif decide (i < 2) then bif decide (i < 1) then (5 : Int) else (5 : Int) else (10 : Int)), .agg 5
 [.int .i64 (bif decide (i < 2) then bif decide (i < 1) then (0 : Int) else (0 : Int) else (0 : Int)), .int .i64 (bif decide (i < 2) then bif decide (i < 1) then
 (0 : Int) else (0 : Int) else (0 : Int)), .int .i64 (bif decide (i < 2) then bif decide (i < 1) then (0 : Int) else (0 : Int) else (0 : Int)), .int .i64 (bif decide
 (i < 2) then bif decide (i < 1) then (0 : Int) else (0 : Int) else (0 : Int)), .int .i64 (bif decide (i < 2) then bif decide (i < 1) then (0 : Int) else (0 : Int)
 else (0 : Int))], .int .i64 (bif decide (i < 2) then bif decide (i < 1) then a else b else (0 : Int)), .int .i64 (bif decide (i < 2) then bif decide (i < 1) then
 pc else pc else pc), .int .i64 (bif decide (i < 2) then bif decide (i < 1) then off else off else off)], .row false 9 3 fun i_1 => .agg 9 [.int .i64 (bif decide
 (i_1 < 2) then bif decide (i_1 < 1) then (6 : Int) else (6 : Int) else (9 : Int)), .agg 5 [.int .i64 (bif decide (i_1 < 2) then bif decide (i_1 < 1) then (0 : Int)
 else (0 : Int) else Ins.op i), .int .i64 (bif decide (i_1 < 2) then bif decide (i_1 < 1) then (0 : Int) else (0 : Int) else Ins.d i), .int .i64 (bif decide (i_1
 < 2) then bif decide (i_1 < 1) then (0 : Int) else (0 : Int) else Ins.a i), .int .i64 (bif decide (i_1 < 2) then bif decide (i_1 < 1) then (0 : Int) else (0 : Int)
 else Ins.b i), .int .i64 (bif decide (i_1 < 2) then bif decide (i_1 < 1) then (0 : Int) else (0 : Int) else Ins.imm i)], .int .i64 (bif decide (i_1 < 2) then bif
 decide (i_1 < 1) then a_3 else b_1 else (0 : Int)), .int .i64 (bif decide (i_1 < 2) then bif decide (i_1 < 1) then pc else pc else pc), .int .i64 (bif decide (i_1
 < 2) then bif decide (i_1 < 1) then off else off else off)]]) r else bif decide (formI (Ins.op i) = 7) then ResLe (.tup [.row false 9 1 fun i => .agg 9 [.int .i64
 11, .agg 5 [.int .i64 0, .int .i64 0, .int .i64 0, .int .i64 0, .int .i64 0], .int .i64 0, .int .i64 pc, .int .i64 off], .row false 9 1 fun i => .agg 9 [.int .i64
 11, .agg 5 [.int .i64 0, .int .i64 0, .int .i64 0, .int .i64 0, .int .i64 0], .int .i64 0, .int .i64 pc, .int .i64 off]]) r else bif decide (formI (Ins.op i) = 8)
 then ResLe (.tup [.row false 9 1 fun i => .agg 9 [.int .i64 12, .agg 5 [.int .i64 0, .int .i64 0, .int .i64 0, .int .i64 0, .int .i64 0], .int .i64 0, .int .i64
 pc, .int .i64 off], .row false 9 1 fun i => .agg 9 [.int .i64 12, .agg 5 [.int .i64 0, .int .i64 0, .int .i64 0, .int .i64 0, .int .i64 0], .int .i64 0, .int .i64
 pc, .int .i64 off]]) r else ResLe (.tup [.row true 0 0 fun x => .unk, .row true 0 0 fun x => .unk]) r) := by kernel_rfl
theorem sk_emit : SkOk Try.prog (69, emtS) := skOf_ok fun ⟨i, o, pc, off⟩ _ => by
  show Pure _ _ (cons [e_Ins i, e_own o, .int .i64 pc, .int .i64 off]) (con (e_cells (emitF i o pc off)))
  refine pureR (u := 80) (k := 20) mix TT3ok ?_
  refine Eq.mpr (r_emit i o pc off _) ?_
  unfold emitF
  cases hr : rightIns i with
  | false =>
    simp only [Bool.not_false, cond_true, if_true]
    exact ⟨lq_tup (lqs_cons lq_lit0 (lqs_cons lq_lit0 lqs_nil))⟩
  | true =>
  have hd : formI i.op = 4 → i.d ≤ 15 := fun h => by
    simp only [rightIns, Bool.and_eq_true] at hr
    have hb := hr.2.1
    simp only [regB, hasD, h, Bool.or_eq_true, Bool.and_eq_true, decide_eq_true_eq] at hb
    omega
  simp only [Bool.not_true, cond_false, Bool.true_eq_false, if_false]
  generalize formI i.op = f at hd
  by_cases hf : f = 1 ∨ f = 2 ∨ f = 3
  · rw [if_pos hf]
    rcases hf with rfl | rfl | rfl
    all_goals
      simp only [Int.reduceEq, decide_true, decide_false, cond_true, cond_false]
      refine ⟨(i, o), .rfl, ⟨trivial⟩, ?_⟩
      intro y hy
      replace hy : y = sideF i o := hy
      subst hy
      by_cases h1 : sideF i o = 1
      · simp only [h1, decide_true, cond_true, if_true]
        exact ⟨lq_tup (lqs_cons (by first | exact lq_lit0 | exact lq_lit1 (.refl _) | exact lq_lit2 (.refl _) (.refl _) | exact lq_lit3 (.refl _) (.refl _) (.refl _)) (lqs_cons (by first | exact lq_lit0 | exact lq_lit1 (.refl _) | exact lq_lit2 (.refl _) (.refl _) | exact lq_lit3 (.refl _) (.refl _) (.refl _)) lqs_nil))⟩
      · simp only [h1, decide_false, cond_false, if_false]
        refine ⟨(i, o), .rfl, ?_⟩
        intro y hy
        replace hy : y = sentF i o := hy
        subst hy
        refine ⟨fun e1 => ?_, fun a e1 => ?_, fun a b e1 => ?_⟩
        · refine ⟨(i, o), .rfl, ?_⟩
          intro y hy
          replace hy : y = sentF i o := hy
          subst hy
          refine ⟨fun e2 => ?_, fun c e2 => ?_, fun c d e2 => ?_⟩
          · rw [e1]; exact ⟨lq_tup (lqs_cons (by first | exact lq_lit0 | exact lq_lit1 (.refl _) | exact lq_lit2 (.refl _) (.refl _) | exact lq_lit3 (.refl _) (.refl _) (.refl _)) (lqs_cons (by first | exact lq_lit0 | exact lq_lit1 (.refl _) | exact lq_lit2 (.refl _) (.refl _) | exact lq_lit3 (.refl _) (.refl _) (.refl _)) lqs_nil))⟩
          · rw [e1] at e2; cases e2
          · rw [e1] at e2; cases e2
        · refine ⟨(i, o), .rfl, ?_⟩
          intro y hy
          replace hy : y = sentF i o := hy
          subst hy
          refine ⟨fun e2 => ?_, fun c e2 => ?_, fun c d e2 => ?_⟩
          · rw [e1] at e2; cases e2
          · rw [e1] at e2; cases e2; rw [e1]; exact ⟨lq_tup (lqs_cons (by first | exact lq_lit0 | exact lq_lit1 (.refl _) | exact lq_lit2 (.refl _) (.refl _) | exact lq_lit3 (.refl _) (.refl _) (.refl _)) (lqs_cons (by first | exact lq_lit0 | exact lq_lit1 (.refl _) | exact lq_lit2 (.refl _) (.refl _) | exact lq_lit3 (.refl _) (.refl _) (.refl _)) lqs_nil))⟩
          · rw [e1] at e2; cases e2
        · refine ⟨(i, o), .rfl, ?_⟩
          intro y hy
          replace hy : y = sentF i o := hy
          subst hy
          refine ⟨fun e2 => ?_, fun c e2 => ?_, fun c d e2 => ?_⟩
          · rw [e1] at e2; cases e2
          · rw [e1] at e2; cases e2
          · rw [e1] at e2; cases e2; rw [e1]; exact ⟨lq_tup (lqs_cons (by first | exact lq_lit0 | exact lq_lit1 (.refl _) | exact lq_lit2 (.refl _) (.refl _) | exact lq_lit3 (.refl _) (.refl _) (.refl _)) (lqs_cons (by first | exact lq_lit0 | exact lq_lit1 (.refl _) | exact lq_lit2 (.refl _) (.refl _) | exact lq_lit3 (.refl _) (.refl _) (.refl _)) lqs_nil))⟩
  rw [if_neg hf]
  have h1 : ¬ f = 1 := fun h => hf (.inl h)
  have h2 : ¬ f = 2 := fun h => hf (.inr (.inl h))
  have h3 : ¬ f = 3 := fun h => hf (.inr (.inr h))
  simp only [h1, h2, h3, decide_false, cond_false]
  by_cases h4 : f = 4
  · simp only [h4, decide_true, cond_true, if_true]
    refine ⟨(o, i.d), .rfl, ⟨hd h4⟩, ?_⟩
    intro y hy
    replace hy : y = onEB o i.d := hy
    subst hy
    cases onEB o i.d with
    | true => simp only [cond_true, if_true]; exact ⟨lq_tup (lqs_cons (by first | exact lq_lit0 | exact lq_lit1 (.refl _) | exact lq_lit2 (.refl _) (.refl _) | exact lq_lit3 (.refl _) (.refl _) (.refl _)) (lqs_cons (by first | exact lq_lit0 | exact lq_lit1 (.refl _) | exact lq_lit2 (.refl _) (.refl _) | exact lq_lit3 (.refl _) (.refl _) (.refl _)) lqs_nil))⟩
    | false => simp only [cond_false, Bool.false_eq_true, if_false]; exact ⟨lq_tup (lqs_cons (by first | exact lq_lit0 | exact lq_lit1 (.refl _) | exact lq_lit2 (.refl _) (.refl _) | exact lq_lit3 (.refl _) (.refl _) (.refl _)) (lqs_cons (by first | exact lq_lit0 | exact lq_lit1 (.refl _) | exact lq_lit2 (.refl _) (.refl _) | exact lq_lit3 (.refl _) (.refl _) (.refl _)) lqs_nil))⟩
  simp only [h4, decide_false, cond_false, if_false]
  by_cases h5 : f = 5
  · simp only [h5, decide_true, cond_true, if_true]
    refine ⟨(o, i.b), .rfl, ⟨trivial⟩, ?_⟩
    intro y hy
    replace hy : y = ownedF o i.b := hy
    subst hy
    by_cases g : ownedF o i.b = 1
    · simp only [g, decide_true, cond_true, if_true]; exact ⟨lq_tup (lqs_cons (by first | exact lq_lit0 | exact lq_lit1 (.refl _) | exact lq_lit2 (.refl _) (.refl _) | exact lq_lit3 (.refl _) (.refl _) (.refl _)) (lqs_cons (by first | exact lq_lit0 | exact lq_lit1 (.refl _) | exact lq_lit2 (.refl _) (.refl _) | exact lq_lit3 (.refl _) (.refl _) (.refl _)) lqs_nil))⟩
    · simp only [g, decide_false, cond_false, if_false]; exact ⟨lq_tup (lqs_cons (by first | exact lq_lit0 | exact lq_lit1 (.refl _) | exact lq_lit2 (.refl _) (.refl _) | exact lq_lit3 (.refl _) (.refl _) (.refl _)) (lqs_cons (by first | exact lq_lit0 | exact lq_lit1 (.refl _) | exact lq_lit2 (.refl _) (.refl _) | exact lq_lit3 (.refl _) (.refl _) (.refl _)) lqs_nil))⟩
  simp only [h5, decide_false, cond_false, if_false]
  by_cases h6 : f = 6
  · simp only [h6, decide_true, cond_true, if_true]
    refine ⟨i, .rfl, ⟨trivial⟩, ?_⟩
    rintro y rfl
    refine ⟨(o, readsF i), .rfl, ⟨by have := reads_ok (i := i); exact ⟨show (readsF i).length ≤ 1000000000 by omega, fun x hx => (this.2 x hx).2⟩⟩, ?_⟩
    intro y hy
    replace hy : y = anyEB o (readsF i) := hy
    subst hy
    cases anyEB o (readsF i) with
    | false => simp only [Bool.not_false, cond_true, if_true]; exact ⟨lq_tup (lqs_cons (by first | exact lq_lit0 | exact lq_lit1 (.refl _) | exact lq_lit2 (.refl _) (.refl _) | exact lq_lit3 (.refl _) (.refl _) (.refl _)) (lqs_cons (by first | exact lq_lit0 | exact lq_lit1 (.refl _) | exact lq_lit2 (.refl _) (.refl _) | exact lq_lit3 (.refl _) (.refl _) (.refl _)) lqs_nil))⟩
    | true =>
      simp only [Bool.not_true, cond_false, Bool.true_eq_false, if_false]
      refine ⟨(i, o), .rfl, ?_⟩
      intro y hy
      replace hy : y = sentF i o := hy
      subst hy
      refine ⟨fun e1 => ?_, fun a e1 => ?_, fun a b e1 => ?_⟩
      · refine ⟨(i, o), .rfl, ?_⟩
        intro y hy
        replace hy : y = sentF i o := hy
        subst hy
        refine ⟨fun e2 => ?_, fun c e2 => ?_, fun c d e2 => ?_⟩
        · rw [e1]; exact ⟨lq_tup (lqs_cons (by first | exact lq_lit0 | exact lq_lit1 (.refl _) | exact lq_lit2 (.refl _) (.refl _) | exact lq_lit3 (.refl _) (.refl _) (.refl _)) (lqs_cons (by first | exact lq_lit0 | exact lq_lit1 (.refl _) | exact lq_lit2 (.refl _) (.refl _) | exact lq_lit3 (.refl _) (.refl _) (.refl _)) lqs_nil))⟩
        · rw [e1] at e2; cases e2
        · rw [e1] at e2; cases e2
      · refine ⟨(i, o), .rfl, ?_⟩
        intro y hy
        replace hy : y = sentF i o := hy
        subst hy
        refine ⟨fun e2 => ?_, fun c e2 => ?_, fun c d e2 => ?_⟩
        · rw [e1] at e2; cases e2
        · rw [e1] at e2; cases e2; rw [e1]; exact ⟨lq_tup (lqs_cons (by first | exact lq_lit0 | exact lq_lit1 (.refl _) | exact lq_lit2 (.refl _) (.refl _) | exact lq_lit3 (.refl _) (.refl _) (.refl _)) (lqs_cons (by first | exact lq_lit0 | exact lq_lit1 (.refl _) | exact lq_lit2 (.refl _) (.refl _) | exact lq_lit3 (.refl _) (.refl _) (.refl _)) lqs_nil))⟩
        · rw [e1] at e2; cases e2
      · refine ⟨(i, o), .rfl, ?_⟩
        intro y hy
        replace hy : y = sentF i o := hy
        subst hy
        refine ⟨fun e2 => ?_, fun c e2 => ?_, fun c d e2 => ?_⟩
        · rw [e1] at e2; cases e2
        · rw [e1] at e2; cases e2
        · rw [e1] at e2; cases e2; rw [e1]; exact ⟨lq_tup (lqs_cons (by first | exact lq_lit0 | exact lq_lit1 (.refl _) | exact lq_lit2 (.refl _) (.refl _) | exact lq_lit3 (.refl _) (.refl _) (.refl _)) (lqs_cons (by first | exact lq_lit0 | exact lq_lit1 (.refl _) | exact lq_lit2 (.refl _) (.refl _) | exact lq_lit3 (.refl _) (.refl _) (.refl _)) lqs_nil))⟩
  simp only [h6, decide_false, cond_false, if_false]
  by_cases h7 : f = 7
  · simp only [h7, decide_true, cond_true, if_true]; exact ⟨lq_tup (lqs_cons (by first | exact lq_lit0 | exact lq_lit1 (.refl _) | exact lq_lit2 (.refl _) (.refl _) | exact lq_lit3 (.refl _) (.refl _) (.refl _)) (lqs_cons (by first | exact lq_lit0 | exact lq_lit1 (.refl _) | exact lq_lit2 (.refl _) (.refl _) | exact lq_lit3 (.refl _) (.refl _) (.refl _)) lqs_nil))⟩
  simp only [h7, decide_false, cond_false, if_false]
  by_cases h8 : f = 8
  · simp only [h8, decide_true, cond_true, if_true]; exact ⟨lq_tup (lqs_cons (by first | exact lq_lit0 | exact lq_lit1 (.refl _) | exact lq_lit2 (.refl _) (.refl _) | exact lq_lit3 (.refl _) (.refl _) (.refl _)) (lqs_cons (by first | exact lq_lit0 | exact lq_lit1 (.refl _) | exact lq_lit2 (.refl _) (.refl _) | exact lq_lit3 (.refl _) (.refl _) (.refl _)) lqs_nil))⟩
  simp only [h8, decide_false, cond_false, if_false]
  exact ⟨lq_tup (lqs_cons (by first | exact lq_lit0 | exact lq_lit1 (.refl _) | exact lq_lit2 (.refl _) (.refl _) | exact lq_lit3 (.refl _) (.refl _) (.refl _)) (lqs_cons (by first | exact lq_lit0 | exact lq_lit1 (.refl _) | exact lq_lit2 (.refl _) (.refl _) | exact lq_lit3 (.refl _) (.refl _) (.refl _)) lqs_nil))⟩
end Go.Proofs.Ythmlnmkbeohojaa

/- Where blocks begin. -/
namespace Go.Proofs.Ythmlnmkbeohojaa
open Go.Ra
set_option linter.unusedVariables false
set_option linter.unusedSimpArgs false
def TT4 : Tab := mkT2 qq cl_ref10 [(97, endsSp)] [] [(82, tgtS), (29, rprS)] []
/-- Does a block begin here, as far as the first so many instructions tell? -/
def leadB (p : Prog) (i j : Nat) : Bool := decide (j = 0) || (List.range i).any (fun m => decide (targetF p m = (j : Int)) || (endsB (ix p.code m) && decide (m + 1 = j ∧ m + 1 < p.code.length)))
def leadK (p : Prog) (k : Nat) : List Int := ((List.range k).filter (leadB p p.code.length)).map (fun j : Nat => (j : Int))
/-- Where blocks begin. -/
def leadersF (p : Prog) : List Int := if rightProg p then leadK p p.code.length else []
def ldrS : List XV → Option ((XV → Prop) → Prop) := skOf (fun p : Prog => [e_Prog p]) (fun p => p.wf) (fun p => leadersF p) (fun y => e_row 1 e_i64 y)
def ld1 (p : Prog) (g : Nat → Bool) (i : Nat) : XSt := ⟨[(4, .int .i64 i), (3, .sl 1 [] 0 0 p.code.length 1), (1, .ptr 0 [] 0)], [(1, some (.tab p.code.length 1 (fun j => .bool (g j)))), (0, some (e_Prog p))], 2⟩
def ld2 (p : Prog) (g : Nat → Bool) (out : List Int) (i : Nat) : XSt := ⟨[(7, .int .i64 i), (6, .sl 2 [] 0 0 out.length 1), (3, .sl 1 [] 0 0 p.code.length 1)], [(2, some (.tab out.length 1 (fun i => e_i64 (ix out i)))), (1, some (.tab p.code.length 1 (fun j => .bool (g j))))], 3⟩
theorem r_lead0 (p : Prog) (r : XV) : (goQ Try.prog TT4 [(.tmp 2)] r (.run c_ref10_Leaders) [] ⟨envX 0 [e_Prog p], [], 0⟩) = (∃ (s : Prog), ArgsLe [e_Prog p] [e_Prog s] ∧ PreIs (Prog.wf s) ∧ ∀ (y : Bool), y = rightProg s → bif !y then ResLe (.row true 0 0 fun x => .unk) r else bif decide
 (List.length (Prog.code p) * 1 ≤ 140737488355328) then bif decide (0 < (↑(List.length (Prog.code p)) : Int)) then bif decide (0 < List.length (Prog.code p)) then
 bif decide (0 < List.length (Prog.code p)) then LoopAt (Ok Try.prog (Tab.q TT4)) c_ref10_Leaders_l1 (XSt.mk [(4, .int .i64 0), (3, .sl 1 [] 0 0 (List.length (Prog.code
 p)) 1), (2, .row true 0 0 fun x => .unk), (1, .ptr 0 [] 0)] [(1, some (.tab (List.length (Prog.code p)) 1 fun j => .bool (bif Nat.beq j 0 then true else false))),
 (0, some (e_Prog p))] 2) [Frm.blk 0, Frm.seq c_ref10_Leaders_p2] (finQR [AR.tmp 2] r) else False else False else False else False) := by kernel_rfl
theorem r_lead1 (p : Prog) (g : Nat → Bool) (i : Nat) (r : XV) (A : XSt → Prop) : (goQ Try.prog TT4 [(.tmp 2)] r (.run c_ref10_Leaders_l1) [.lp c_ref10_Leaders_l1 A, .blk 0, .seq c_ref10_Leaders_p2] (ld1 p g i)) = (bif decide ((↑i : Int) < (↑(List.length (Prog.code p)) : Int)) then ∃ (s : Prog × Nat), ArgsLe [e_Prog p, .int .i64 (↑i : Int)] [e_Prog (Prod.fst s), .int .i64
 (↑(Prod.snd s) : Int)] ∧ PreIs (Prog.wf (Prod.fst s) ∧ Prod.snd s < List.length (Prog.code (Prod.fst s))) ∧ ∀ (y : Int), y = targetF (Prod.fst s) (Prod.snd s) →
 bif decide (y ≥ 0) then bif decide (0 ≤ y) then bif decide (y < (↑(List.length (Prog.code p)) : Int)) then bif Nat.beq (Int.toNat y * 1) (Int.toNat y * 1) then bif
 decide (Int.toNat y < List.length (Prog.code p)) then bif decide (Int.toNat y < List.length (Prog.code p)) then bif decide ((↑i : Int) < (↑(List.length (Prog.code
 p)) : Int)) then bif bif endsB (ix (Prog.code p) i) then endsB (ix (Prog.code p) i) else true then bif bif endsB (ix (Prog.code p) i) then decide (IntKind.wrap .i64
 ((↑i : Int) + (1 : Int)) < (↑(List.length (Prog.code p)) : Int)) else false then bif decide (0 ≤ IntKind.wrap .i64 ((↑i : Int) + (1 : Int))) then bif decide (IntKind.wrap
 .i64 ((↑i : Int) + (1 : Int)) < (↑(List.length (Prog.code p)) : Int)) then bif Nat.beq (Int.toNat (IntKind.wrap .i64 ((↑i : Int) + (1 : Int))) * 1) (Int.toNat (IntKind.wrap
 .i64 ((↑i : Int) + (1 : Int))) * 1) then bif decide (Int.toNat (IntKind.wrap .i64 ((↑i : Int) + (1 : Int))) < List.length (Prog.code p)) then bif decide (Int.toNat
 (IntKind.wrap .i64 ((↑i : Int) + (1 : Int))) < List.length (Prog.code p)) then A (XSt.mk [(4, .int .i64 (IntKind.wrap .i64 ((↑i : Int) + (1 : Int)))), (3, .sl 1
 [] 0 0 (List.length (Prog.code p)) 1), (1, .ptr 0 [] 0)] [(1, some (.tab (List.length (Prog.code p)) 1 fun j => .bool (bif Nat.beq j (Int.toNat (IntKind.wrap .i64
 ((↑i : Int) + (1 : Int)))) then true else bif Nat.beq j (Int.toNat y) then true else g j))), (0, some (e_Prog p))] 2) else False else False else False else False
 else False else A (XSt.mk [(4, .int .i64 (IntKind.wrap .i64 ((↑i : Int) + (1 : Int)))), (3, .sl 1 [] 0 0 (List.length (Prog.code p)) 1), (1, .ptr 0 [] 0)] [(1, some
 (.tab (List.length (Prog.code p)) 1 fun j => .bool (bif Nat.beq j (Int.toNat y) then true else g j))), (0, some (e_Prog p))] 2) else False else False else False
 else False else False else False else False else bif decide ((↑i : Int) < (↑(List.length (Prog.code p)) : Int)) then bif bif endsB (ix (Prog.code p) i) then endsB
 (ix (Prog.code p) i) else true then bif bif endsB (ix (Prog.code p) i) then decide (IntKind.wrap .i64 ((↑i : Int) + (1 : Int)) < (↑(List.length (Prog.code p)) :
 Int)) else false then bif decide (0 ≤ IntKind.wrap .i64 ((↑i : Int) + (1 : Int))) then bif decide (IntKind.wrap .i64 ((↑i : Int) + (1 : Int)) < (↑(List.length (Prog.code
 p)) : Int)) then bif Nat.beq (Int.toNat (IntKind.wrap .i64 ((↑i : Int) + (1 : Int))) * 1) (Int.toNat (IntKind.wrap .i64 ((↑i : Int) + (1 : Int))) * 1) then bif decide
 (Int.toNat (IntKind.wrap .i64 ((↑i : Int) + (1 : Int))) < List.length (Prog.code p)) then bif decide (Int.toNat (IntKind.wrap .i64 ((↑i : Int) + (1 : Int))) < List.length
 (Prog.code p)) then A (XSt.mk [(4, .int .i64 (IntKind.wrap .i64 ((↑i : Int) + (1 : Int)))), (3, .sl 1 [] 0 0 (List.length (Prog.code p)) 1), (1, .ptr 0 [] 0)] [(1,
 some (.tab (List.length (Prog.code p)) 1 fun j => .bool (bif Nat.beq j (Int.toNat (IntKind.wrap .i64 ((↑i : Int) + (1 : Int)))) then true else g j))), (0, some (e_Prog
 p))] 2) else False else False else False else False else False else A (XSt.mk [(4, .int .i64 (IntKind.wrap .i64 ((↑i : Int) + (1 : Int)))), (3, .sl 1 [] 0 0 (List.length
 (Prog.code p)) 1), (1, .ptr 0 [] 0)] [(1, some (.tab (List.length (Prog.code p)) 1 fun j => .bool (g j))), (0, some (e_Prog p))] 2) else False else False
else LoopAt
 (Ok Try.prog (Tab.q TT4)) c_ref10_Leaders_l2 (XSt.mk [(7, .int .i64 0), (6, .row true 0 0 fun x => .unk), (3, .sl 1 [] 0 0 (List.length (Prog.code p)) 1)] [(1, some
 (.tab (List.length (Prog.code p)) 1 fun j => .bool (g j))), (0, some (e_Prog p))] 2) [Frm.blk 2, Frm.seq c_ref10_Leaders_p1] (finQR [AR.tmp 2] r)) := by kernel_rfl 

theorem r_lead2 (p : Prog) (g : Nat → Bool) (out : List Int) (i : Nat) (r : XV) (A : XSt → Prop) : (goQ Try.prog TT4 [(.tmp 2)] r (.run c_ref10_Leaders_l2) [.lp c_ref10_Leaders_l2 A, .blk 2, .seq c_ref10_Leaders_p1] (ld2 p g out i)) = (bif decide ((↑i : Int) < (↑(List.length (Prog.code p)) : Int)) then bif decide ((↑i : Int) < (↑(List.length (Prog.code p)) : Int)) then bif Nat.beq (i * 1) (i
 * 1) then bif decide (i < List.length (Prog.code p)) then bif g i then bif decide (List.length out ≤ List.length out) then bif decide (pl (List.length out) 1 * 8
 ≤ 140737488355328) then A (XSt.mk [(7, .int .i64 (IntKind.wrap .i64 ((↑i : Int) + (1 : Int)))), (6, .sl 3 [] 0 0 (pl (List.length out) 1) 1), (3, .sl 1 [] 0 0 (List.length
 (Prog.code p)) 1)] [(3, some (.tab (pl (List.length out) 1) 1 fun i_1 => .int .i64 (bif decide (i_1 < List.length out) then ix out i_1 else (↑i : Int)))), (2, none),
 (1, some (.tab (List.length (Prog.code p)) 1 fun j => .bool (g j)))] 4) else False else False else A (XSt.mk [(7, .int .i64 (IntKind.wrap .i64 ((↑i : Int) + (1 :
 Int)))), (6, .sl 2 [] 0 0 (List.length out) 1), (3, .sl 1 [] 0 0 (List.length (Prog.code p)) 1)] [(2, some (.tab (List.length out) 1 fun i => e_i64 (ix out i))),
 (1, some (.tab (List.length (Prog.code p)) 1 fun j => .bool (g j)))] 3) else False else False else False
else bif decide (List.length out ≤ List.length out) then
 ResLe (e_row 1 e_i64 out) r else False) := by kernel_rfl
theorem TT4ok : TabOk Try.prog TT4 := mkT2_ok clok_ref10 ⟨sp_ends, trivial⟩ trivial ⟨sk_tgt, sk_rpr, trivial⟩ trivial
theorem tgt_lt {p : Prog} {n : Nat} (h : 0 ≤ targetF p n) : targetF p n < p.code.length := by
  unfold targetF at h ⊢
  split at h
  · omega
  · rename_i hn
    rw [if_neg hn]
    omega
theorem lead_step {p : Prog} {i j : Nat} : leadB p (i + 1) j = (leadB p i j || (decide (targetF p i = (j : Int)) || (endsB (ix p.code i) && decide (i + 1 = j ∧ i + 1 < p.code.length)))) := by
  unfold leadB
  rw [List.range_succ, List.any_append]
  simp [Bool.or_assoc]
theorem leadK_step {p : Prog} {k : Nat} : leadK p (k + 1) = if leadB p p.code.length k then leadK p k ++ [(k : Int)] else leadK p k := by
  unfold leadK
  rw [List.range_succ, List.filter_append, List.map_append]
  cases h : leadB p p.code.length k <;> simp [h]
theorem leadK_len {p : Prog} {k : Nat} : (leadK p k).length ≤ k := by
  unfold leadK
  rw [List.length_map]
  have := List.length_filter_le (leadB p p.code.length) (List.range k)
  simpa using this
theorem sk_ldr : SkOk Try.prog (88, ldrS) := skOf_ok fun p hw => by
  have hw : p.wf := hw
  have hl := hw.1.2
  refine pureQ mix TT4ok t_ref10_Leaders (Nat.le_of_ble_eq_true rfl) ?_
  refine Eq.mpr (r_lead0 p _) ?_
  refine ⟨p, .rfl, ⟨hw⟩, ?_⟩
  rintro y rfl
  unfold leadersF
  cases hr : rightProg p with
  | false => exact ⟨lq_lit0⟩
  | true =>
    have hn : 1 ≤ p.code.length ∧ p.code.length ≤ 2000 := by
      simp only [rightProg, Bool.and_eq_true, decide_eq_true_eq] at hr
      exact ⟨hr.1.1, hr.1.2.1⟩
    have b1 : p.code.length * 1 ≤ 140737488355328 := by omega
    have b2 : (0 : Int) < (p.code.length : Int) := by omega
    have b3 : 0 < p.code.length := by omega
    simp only [Bool.not_true, cond_false, b1, b2, b3, decide_true, cond_true, if_true]
    refine loopQ mix TT4ok (fun i : Nat => ld1 p (leadB p i) i) (fun i => i ≤ p.code.length) (fun i => p.code.length - i) 0 (Nat.zero_le _) (.of (weakX ⟨rfl, rfl, rfl, trivial⟩ ⟨congrArg some (con_tabC fun j hj => conB ?_), rfl, trivial⟩ (Nat.le_refl _))) ?_
    · rw [beq_dec]; simp [leadB]
    intro i hi
    refine Eq.mpr (r_lead1 p _ i _ _) ?_
    by_cases hlt : i < p.code.length
    · have h1 : (i : Int) < (p.code.length : Int) := by omega
      have w1 : IntKind.i64.wrap ((i : Int) + 1) = ((i + 1 : Nat) : Int) := wrap_i64 (by omega) (by omega)
      have h0 : (0 : Int) ≤ ((i + 1 : Nat) : Int) := by omega
      simp only [g1, g2, g3, g4, g5, g6, g7, allN_true, cond_true, Nat.le_refl, decide_true, pl_eq, h1, w1, h0, Int.toNat_natCast, Nat.beq_refl]
      refine ⟨(p, i), .rfl, ⟨hw, hlt⟩, ?_⟩
      intro y hy
      replace hy : y = targetF p i := hy
      subst hy
      have next : ∀ g : Nat → Bool, (∀ j, j < p.code.length → g j = leadB p (i + 1) j) → ∃ j, j ≤ p.code.length ∧ WeakE 2 (XSt.st (XSt.mk [(4, .int .i64 ((i + 1 : Nat) : Int)), (3, .sl 1 [] 0 0 p.code.length 1), (1, .ptr 0 [] 0)] [(1, some (.tab p.code.length 1 fun j => .bool (g j))), (0, some (e_Prog p))] 2)) (ld1 p (leadB p j) j).st ∧ p.code.length - j < p.code.length - i := fun g hg => by
        refine ⟨i + 1, hlt, .of (weakX ⟨rfl, rfl, rfl, trivial⟩ ⟨congrArg some (con_tabC fun j hj => conB (hg j hj)), rfl, trivial⟩ (Nat.le_refl _)), by omega⟩
      have tt : 0 ≤ targetF p i → ∀ j : Nat, decide (j = (targetF p i).toNat) = decide (targetF p i = (j : Int)) := fun h j => by
        rw [decide_eq_decide]; omega
      have tn : ¬ 0 ≤ targetF p i → ∀ j : Nat, decide (targetF p i = (j : Int)) = false := fun h j => decide_eq_false (by omega)
      by_cases hy : 0 ≤ targetF p i
      · have hy2 : targetF p i ≥ 0 := hy
        have hy3 := tgt_lt hy
        have hy4 : (targetF p i).toNat < p.code.length := by omega
        simp only [hy, hy2, hy3, hy4, decide_true, cond_true]
        simp only [band]
        by_cases he : endsB (ix p.code i) = true ∧ i + 1 < p.code.length
        · have he2 : ((i + 1 : Nat) : Int) < (p.code.length : Int) := by omega
          simp only [he.1, he.2, he2, decide_true, Bool.and_self, cond_true]
          refine next _ fun j hj => ?_
          rw [lead_step, he.1, beq_dec, beq_dec, tt hy]
          simp only [bor, he.2, and_true]
          rw [show decide (j = i + 1) = decide (i + 1 = j) from by rw [decide_eq_decide]; omega]
          cases leadB p i j <;> cases decide (i + 1 = j) <;> cases decide (targetF p i = (j : Int)) <;> rfl
        · have he2 : (endsB (ix p.code i) && decide (((i + 1 : Nat) : Int) < (p.code.length : Int))) = false := by
            rw [Bool.and_eq_false_iff, decide_eq_false_iff_not]
            by_cases h : endsB (ix p.code i) = true
            · exact .inr fun h2 => he ⟨h, by omega⟩
            · exact .inl (by simpa using h)
          simp only [he2, cond_false]
          refine next _ fun j hj => ?_
          have he3 : (endsB (ix p.code i) && decide (i + 1 = j ∧ i + 1 < p.code.length)) = false := by
            rw [Bool.and_eq_false_iff, decide_eq_false_iff_not]
            by_cases h : endsB (ix p.code i) = true
            · exact .inr fun h2 => he ⟨h, h2.2⟩
            · exact .inl (by simpa using h)
          rw [lead_step, he3, beq_dec, tt hy]
          simp only [bor]
          cases leadB p i j <;> cases decide (targetF p i = (j : Int)) <;> rfl
      · have hy2 : ¬ targetF p i ≥ 0 := hy
        simp only [hy2, decide_false, cond_false]
        simp only [band]
        by_cases he : endsB (ix p.code i) = true ∧ i + 1 < p.code.length
        · have he2 : ((i + 1 : Nat) : Int) < (p.code.length : Int) := by omega
          simp only [he.1, he.2, he2, decide_true, Bool.and_self, cond_true]
          refine next _ fun j hj => ?_
          rw [lead_step, he.1, beq_dec, tn hy]
          simp only [bor, he.2, and_true]
          rw [show decide (j = i + 1) = decide (i + 1 = j) from by rw [decide_eq_decide]; omega]
          cases leadB p i j <;> cases decide (i + 1 = j) <;> rfl
        · have he2 : (endsB (ix p.code i) && decide (((i + 1 : Nat) : Int) < (p.code.length : Int))) = false := by
            rw [Bool.and_eq_false_iff, decide_eq_false_iff_not]
            by_cases h : endsB (ix p.code i) = true
            · exact .inr fun h2 => he ⟨h, by omega⟩
            · exact .inl (by simpa using h)
          simp only [he2, cond_false]
          refine next _ fun j hj => ?_
          have he3 : (endsB (ix p.code i) && decide (i + 1 = j ∧ i + 1 < p.code.length)) = false := by
            rw [Bool.and_eq_false_iff, decide_eq_false_iff_not]
            by_cases h : endsB (ix p.code i) = true
            · exact .inr fun h2 => he ⟨h, h2.2⟩
            · exact .inl (by simpa using h)
          rw [lead_step, he3, tn hy]
          cases leadB p i j <;> rfl
    · have h1 : ¬ (i : Int) < (p.code.length : Int) := by omega
      simp only [h1, decide_false, cond_false]
      obtain rfl : i = p.code.length := by omega
      refine loopQ mix TT4ok (fun k : Nat => ld2 p (leadB p p.code.length) (leadK p k) k) (fun k => k ≤ p.code.length) (fun k => p.code.length - k) 0 (Nat.zero_le _) (weakK [(0, 0), (1, 1)] rfl rfl rfl rfl rfl ⟨k_is rfl rfl, k_nil rfl, .sl rfl, trivial⟩ ⟨⟨1, rfl⟩, .same rfl, trivial⟩) ?_
      intro k hk
      refine Eq.mpr (r_lead2 p _ _ k _ _) ?_
      have hkl := leadK_len (p := p) (k := k)
      by_cases hlt2 : k < p.code.length
      · have h2 : (k : Int) < (p.code.length : Int) := by omega
        have w1 : IntKind.i64.wrap ((k : Int) + 1) = ((k + 1 : Nat) : Int) := wrap_i64 (by omega) (by omega)
        have b : ((leadK p k).length + 1) * 8 ≤ 140737488355328 := by omega
        have st := leadK_step (p := p) (k := k)
        simp only [g1, g2, g3, g4, g5, g6, g7, allN_true, cond_true, Nat.le_refl, decide_true, pl_eq, h2, hlt2, w1, b, Nat.beq_refl]
        refine cnd2 (fun h => ?_) (fun h => ?_)
        · rw [if_pos h] at st
          refine ⟨k + 1, hlt2, ?_, by omega⟩
          rw [st]
          unfold ld2
          rw [app_len]
          exact weakK [(0, 0), (1, 1), (2, 3)] rfl rfl rfl rfl rfl ⟨k_is rfl rfl, .sl rfl, .sl rfl, trivial⟩ ⟨k_app (fun i hi => by simp only [hi, decide_true, cond_true]; rfl) (by simp; rfl) rfl, .same rfl, trivial⟩
        · rw [if_neg (by rw [h]; simp)] at st
          refine ⟨k + 1, hlt2, ?_, by omega⟩
          rw [st]
          exact .of (weakX ⟨rfl, rfl, rfl, trivial⟩ ⟨rfl, rfl, trivial⟩ (Nat.le_refl _))
      · have h2 : ¬ (k : Int) < (p.code.length : Int) := by omega
        simp only [h2, decide_false, cond_false, g1, g2, g3, g4, g5, g6, g7, allN_true, cond_true, Nat.le_refl, decide_true, pl_eq]
        obtain rfl : k = p.code.length := by omega
        exact .rfl
end Go.Proofs.Ythmlnmkbeohojaa

/- The blocks of a program, without cells. -/
namespace Go.Proofs.Ythmlnmkbeohojaa
open Go.Ra
set_option linter.unusedVariables false
set_option linter.unusedSimpArgs false
def TT5 : Tab := mkT2 qq cl_ref10 [] [] [(82, tgtS), (88, ldrS), (89, findS)] []
/-- A block that has no cells yet. -/
def e_blk0 (b : Block) : XV := .agg 6 [.int .i64 b.src, .int .i64 b.dst, .int .i64 b.next, .int .i64 b.taken, .row true 0 0 (fun _ => .unk), .row true 0 0 (fun _ => .unk)]
def cutTo (p : Prog) (l : List Int) (i : Nat) : Int := if i + 1 < l.length then ix l (i + 1) else p.code.length
def cutNx (p : Prog) (l : List Int) (i : Nat) : Int := if ¬ (ix p.code (cutTo p l i - 1).toNat).op = 40 ∧ ¬ (ix p.code (cutTo p l i - 1).toNat).op = 41 then findF l (cutTo p l i) else -1
def cutTk (p : Prog) (l : List Int) (i : Nat) : Int := if targetF p (cutTo p l i - 1).toNat ≥ 0 then findF l (targetF p (cutTo p l i - 1).toNat) else -1
def cutB (p : Prog) (l : List Int) (i : Nat) : Block := ⟨ix l i, cutTo p l i, cutNx p l i, cutTk p l i, [], []⟩
def cutK (p : Prog) (l : List Int) (k : Nat) : List Block := (List.range k).map (cutB p l)
/-- The blocks of a program, without cells. -/
def cutF (p : Prog) : List Block := cutK p (leadersF p) (leadersF p).length
def ctS (p : Prog) (l : List Int) (out : List Block) (i : Nat) : XSt := ⟨[(5, .int .i64 i), (4, .sl 1 [] 0 0 out.length 6), (3, e_row 1 e_i64 l), (1, .ptr 0 [] 0)], [(1, some (.tab out.length 6 (fun i => e_blk0 (ix out i)))), (0, some (e_Prog p))], 2⟩
def cutM : List XV → XSt → Option ((XV → XSt → Prop) → Prop) := mkOf (fun p : Prog => [e_Prog p]) (fun p => p.wf) (fun p => cutF p) (fun n y => .sl n [] 0 0 y.length 6) (fun y => .tab y.length 6 (fun i => e_blk0 (ix y i)))
theorem r_cut0 (p : Prog) (r t : XV) : (goM Try.prog TT5 [(.tmp 2)] r t (.run c_ref10_Cut) [] ⟨envX 0 [e_Prog p], [], 0⟩) = (∃ (s : Prog), ArgsLe [e_Prog p] [e_Prog s] ∧ PreIs (Prog.wf s) ∧ ∀ (y : List Int), y = leadersF s → LoopAt (Ok Try.prog (Tab.q TT5)) c_ref10_Cut_l1 (XSt.mk [(5,
 .int .i64 0), (4, .row true 0 0 fun x => .unk), (3, e_row 1 e_i64 y), (2, .row true 0 0 fun x => .unk), (1, .ptr 0 [] 0)] [(0, some (e_Prog p))] 1) [Frm.blk 0, Frm.seq
 c_ref10_Cut_p1] (finMR [AR.tmp 2] r t)) := by kernel_rfl
theorem r_cut1 (p : Prog) (l : List Int) (out : List Block) (i : Nat) (r t : XV) (A : XSt → Prop) : (goM Try.prog TT5 [(.tmp 2)] r t (.run c_ref10_Cut_l1) [.lp c_ref10_Cut_l1 A, .blk 0, .seq c_ref10_Cut_p1] (ctS p l out i)) = (bif decide ((↑i : Int) < (↑(List.length l) : Int)) then bif decide ((↑i : Int) < (↑(List.length l) : Int)) then bif decide (IntKind.wrap .i64 ((↑i : Int) + (1
 : Int)) < (↑(List.length l) : Int)) then bif decide (0 ≤ IntKind.wrap .i64 ((↑i : Int) + (1 : Int))) then bif decide (IntKind.wrap .i64 ((↑i : Int) + (1 : Int))
 < (↑(List.length l) : Int)) then bif decide (0 ≤ IntKind.wrap .i64 (ix l (Int.toNat (IntKind.wrap .i64 ((↑i : Int) + (1 : Int)))) - (1 : Int))) then bif decide (IntKind.wrap
 .i64 (ix l (Int.toNat (IntKind.wrap .i64 ((↑i : Int) + (1 : Int)))) - (1 : Int)) < (↑(List.length (Prog.code p)) : Int)) then bif bif decide ¬Ins.op (ix (Prog.code
 p) (Int.toNat (IntKind.wrap .i64 (ix l (Int.toNat (IntKind.wrap .i64 ((↑i : Int) + (1 : Int)))) - (1 : Int))))) = 40 then decide ¬Ins.op (ix (Prog.code p) (Int.toNat
 (IntKind.wrap .i64 (ix l (Int.toNat (IntKind.wrap .i64 ((↑i : Int) + (1 : Int)))) - (1 : Int))))) = 40 else true then bif bif decide ¬Ins.op (ix (Prog.code p) (Int.toNat
 (IntKind.wrap .i64 (ix l (Int.toNat (IntKind.wrap .i64 ((↑i : Int) + (1 : Int)))) - (1 : Int))))) = 40 then decide ¬Ins.op (ix (Prog.code p) (Int.toNat (IntKind.wrap
 .i64 (ix l (Int.toNat (IntKind.wrap .i64 ((↑i : Int) + (1 : Int)))) - (1 : Int))))) = 41 else false then ∃ (s : List Int × Int), ArgsLe [e_row 1 e_i64 l, .int .i64
 (ix l (Int.toNat (IntKind.wrap .i64 ((↑i : Int) + (1 : Int)))))] [e_row 1 e_i64 (Prod.fst s), .int .i64 (Prod.snd s)] ∧ PreIs (List.length (Prod.fst s) ≤ 1000000000)
 ∧ ∀ (y : Int), y = findF (Prod.fst s) (Prod.snd s) → ∃ (s : Prog × Nat), ArgsLe [e_Prog p, .int .i64 (IntKind.wrap .i64 (ix l (Int.toNat (IntKind.wrap .i64 ((↑i
 : Int) + (1 : Int)))) - (1 : Int)))] [e_Prog (Prod.fst s), .int .i64 (↑(Prod.snd s) : Int)] ∧ PreIs (Prog.wf (Prod.fst s) ∧ Prod.snd s < List.length (Prog.code (Prod.fst
 s))) ∧ ∀ (y_1 : Int), y_1 = targetF (Prod.fst s) (Prod.snd s) → bif decide (y_1 ≥ 0) then ∃ (s : List Int × Int), ArgsLe [e_row 1 e_i64 l, .int .i64 y_1] [e_row
 1 e_i64 (Prod.fst s), .int .i64 (Prod.snd s)] ∧ PreIs (List.length (Prod.fst s) ≤ 1000000000) ∧ ∀ (y_2 : Int), y_2 = findF (Prod.fst s) (Prod.snd s) → bif decide
 (List.length out ≤ List.length out) then bif decide (pl (List.length out) 1 * 80 ≤ 140737488355328) then A (XSt.mk [(5, .int .i64 (IntKind.wrap .i64 ((↑i : Int)
 + (1 : Int)))), (4, .sl 4 [] 0 0 (pl (List.length out) 1) 6), (3, e_row 1 e_i64 l), (1, .ptr 0 [] 0)] [(4, some (.tab (pl (List.length out) 1) 6 fun i_1 => .agg
 6 [.int .i64 (bif decide (i_1 < List.length out) then Block.src (ix out i_1) else ix l i), .int .i64 (bif decide (i_1 < List.length out) then Block.dst (ix out i_1)
 else ix l (Int.toNat (IntKind.wrap .i64 ((↑i : Int) + (1 : Int))))), .int .i64 (bif decide (i_1 < List.length out) then Block.next (ix out i_1) else y), .int .i64
 (bif decide (i_1 < List.length out) then Block.taken (ix out i_1) else y_2), .row (bif decide (i_1 < List.length out) then true else true) 0 (bif decide (i_1 < List.length
 out) then 0 else 0) fun i => XV.raw (bif decide (i_1 < List.length out) then con .unk else con ((fun x => .unk) i)), .row (bif decide (i_1 < List.length out) then
 true else true) 0 (bif decide (i_1 < List.length out) then 0 else 0) fun i => XV.raw (bif decide (i_1 < List.length out) then con .unk else con ((fun x => .unk)
 i))])), (3, some (e_Ins (ix (Prog.code p) (Int.toNat (IntKind.wrap .i64 (ix l (Int.toNat (IntKind.wrap .i64 ((↑i : Int) + (1 : Int)))) - (1 : Int))))))), (2, some
 (.agg 6 [.int .i64 (ix l i), .int .i64 (ix l (Int.toNat (IntKind.wrap .i64 ((↑i : Int) + (1 : Int))))), .int .i64 y, .int .i64 y_2, .row true 0 0 fun x => .unk,
 .row true 0 0 fun x => .unk])), (1, none), (0, some (e_Prog p))] 5) else False else False else bif decide (List.length out ≤ List.length out) then bif decide (pl
 (List.length out) 1 * 80 ≤ 140737488355328) then A (XSt.mk [(5, .int .i64 (IntKind.wrap .i64 ((↑i : Int) + (1 : Int)))), (4, .sl 4 [] 0 0 (pl (List.length out) 1)
 6), (3, e_row 1 e_i64 l), (1, .ptr 0 [] 0)] [(4, some (.tab (pl (List.length out) 1) 6 fun i_1 => .agg 6 [.int .i64 (bif decide (i_1 < List.length out) then Block.src
 (ix out i_1) else ix l i), .int .i64 (bif decide (i_1 < List.length out) then Block.dst (ix out i_1) else ix l (Int.toNat (IntKind.wrap .i64 ((↑i : Int) + (1 : Int))))),
 .int .i64 (bif decide (i_1 < List.length out) then Block.next (ix out i_1) else y), .int .i64 (bif decide (i_1 < List.length out) then Block.taken (ix out i_1) else
 (-1 : Int)), .row (bif decide (i_1 < List.length out) then true else true) 0 (bif decide (i_1 < List.length out) then 0 else 0) fun i => XV.raw (bif decide (i_1
 < List.length out) then con .unk else con ((fun x => .unk) i)), .row (bif decide (i_1 < List.length out) then true else true) 0 (bif decide (i_1 < List.length out)
 then 0 else 0) fun i => XV.raw (bif decide (i_1 < List.length out) then con .unk else con ((fun x => .unk) i))])), (3, some (e_Ins (ix (Prog.code p) (Int.toNat (IntKind.wrap
 .i64 (ix l (Int.toNat (IntKind.wrap .i64 ((↑i : Int) + (1 : Int)))) - (1 : Int))))))), (2, some (.agg 6 [.int .i64 (ix l i), .int .i64 (ix l (Int.toNat (IntKind.wrap
 .i64 ((↑i : Int) + (1 : Int))))), .int .i64 y, .int .i64 (-1 : Int), .row true 0 0 fun x => .unk, .row true 0 0 fun x => .unk])), (1, none), (0, some (e_Prog p))]
 5) else False else False else ∃ (s : Prog × Nat), ArgsLe [e_Prog p, .int .i64 (IntKind.wrap .i64 (ix l (Int.toNat (IntKind.wrap .i64 ((↑i : Int) + (1 : Int)))) -
 (1 : Int)))] [e_Prog (Prod.fst s), .int .i64 (↑(Prod.snd s) : Int)] ∧ PreIs (Prog.wf (Prod.fst s) ∧ Prod.snd s < List.length (Prog.code (Prod.fst s))) ∧ ∀ (y : Int),
 y = targetF (Prod.fst s) (Prod.snd s) → bif decide (y ≥ 0) then ∃ (s : List Int × Int), ArgsLe [e_row 1 e_i64 l, .int .i64 y] [e_row 1 e_i64 (Prod.fst s), .int .i64
 (Prod.snd s)] ∧ PreIs (List.length (Prod.fst s) ≤ 1000000000) ∧ ∀ (y : Int), y = findF (Prod.fst s) (Prod.snd s) → bif decide (List.length out ≤ List.length out)
 then bif decide (pl (List.length out) 1 * 80 ≤ 140737488355328) then A (XSt.mk [(5, .int .i64 (IntKind.wrap .i64 ((↑i : Int) + (1 : Int)))), (4, .sl 4 [] 0 0 (pl
 (List.length out) 1) 6), (3, e_row 1 e_i64 l), (1, .ptr 0 [] 0)] [(4, some (.tab (pl (List.length out) 1) 6 fun i_1 => .agg 6 [.int .i64 (bif decide (i_1 < List.length
 out) then Block.src (ix out i_1) else ix l i), .int .i64 (bif decide (i_1 < List.length out) then Block.dst (ix out i_1) else ix l (Int.toNat (IntKind.wrap .i64
 ((↑i : Int) + (1 : Int))))), .int .i64 (bif decide (i_1 < List.length out) then Block.next (ix out i_1) else (-1 : Int)), .int .i64 (bif decide (i_1 < List.length
 out) then Block.taken (ix out i_1) else y), .row (bif decide (i_1 < List.length out) then true else true) 0 (bif decide (i_1 < List.length out) then 0 else 0) fun
 i => XV.raw (bif decide (i_1 < List.length out) then con .unk else con ((fun x => .unk) i)), .row (bif decide (i_1 < List.length out) then true else true) 0 (bif
 decide (i_1 < List.length out) then 0 else 0) fun i => XV.raw (bif decide (i_1 < List.length out) then con .unk else con ((fun x => .unk) i))])), (3, some (e_Ins
 (ix (Prog.code p) (Int.toNat (IntKind.wrap .i64 (ix l (Int.toNat (IntKind.wrap .i64 ((↑i : Int) + (1 : Int)))) - (1 : Int))))))), (2, some (.agg 6 [.int .i64 (ix
 l i), .int .i64 (ix l (Int.toNat (IntKind.wrap .i64 ((↑i : Int) + (1 : Int))))), .int .i64 (-1 : Int), .int .i64 y, .row true 0 0 fun x => .unk, .row true 0 0 fun
 x => .unk])), (1, none), (0, some (e_Prog p))] 5) else False else False else bif decide (List.length out ≤ List.length out) then bif decide (pl (List.length out)
 1 * 80 ≤ 140737488355328) then A (XSt.mk [(5, .int .i64 (IntKind.wrap .i64 ((↑i : Int) + (1 : Int)))), (4, .sl 4 [] 0 0 (pl (List.length out) 1) 6), (3, e_row 1
 e_i64 l), (1, .ptr 0 [] 0)] [(4, some (.tab (pl (List.length out) 1) 6 fun i_1 => .agg 6 [.int .i64 (bif decide (i_1 < List.length out) then Block.src (ix out i_1)
 else ix l i), .int .i64 (bif decide (i_1 < List.length out) then Block.dst (ix out i_1) else ix l (Int.toNat (IntKind.wrap .i64 ((↑i : Int) + (1 : Int))))), .int
 .i64 (bif decide (i_1 < List.length out) then Block.next (ix out i_1) else (-1 : Int)), .int .i64 (bif decide (i_1 < List.length out) then Block.taken (ix out i_1)
 else (-1 : Int)), .row (bif decide (i_1 < List.length out) then true else true) 0 (bif decide (i_1 < List.length out) then 0 else 0) fun i => XV.raw (bif decide
 (i_1 < List.length out) then con .unk else con ((fun x => .unk) i)), .row (bif decide (i_1 < List.length out) then true else true) 0 (bif decide (i_1 < List.length
 out) then 0 else 0) fun i => XV.raw (bif decide (i_1 < List.length out) then con .unk else con ((fun x => .unk) i))])), (3, some (e_Ins (ix (Prog.code p) (Int.toNat
 (IntKind.wrap .i64 (ix l (Int.toNat (IntKind.wrap .i64 ((↑i : Int) + (1 : Int)))) - (1 : Int))))))), (2, some (.agg 6 [.int .i64 (ix l i), .int .i64 (ix l (Int.toNat
 (IntKind.wrap .i64 ((↑i : Int) + (1 : Int))))), .int .i64 (-1 : Int), .int .i64 (-1 : Int), .row true 0 0 fun x => .unk, .row true 0 0 fun x => .unk])), (1, none),
 (0, some (e_Prog p))] 5) else False else False else False else False else False else False else False else bif decide (0 ≤ IntKind.wrap .i64 ((↑(List.length (Prog.code
 p)) : Int) - (1 : Int))) then bif decide (IntKind.wrap .i64 ((↑(List.length (Prog.code p)) : Int) - (1 : Int)) < (↑(List.length (Prog.code p)) : Int)) then bif bif
 decide ¬Ins.op (ix (Prog.code p) (Int.toNat (IntKind.wrap .i64 ((↑(List.length (Prog.code p)) : Int) - (1 : Int))))) = 40 then decide ¬Ins.op (ix (Prog.code p) (Int.toNat
 (IntKind.wrap .i64 ((↑(List.length (Prog.code p)) : Int) - (1 : Int))))) = 40 else true then bif bif decide ¬Ins.op (ix (Prog.code p) (Int.toNat (IntKind.wrap .i64
 ((↑(List.length (Prog.code p)) : Int) - (1 : Int))))) = 40 then decide ¬Ins.op (ix (Prog.code p) (Int.toNat (IntKind.wrap .i64 ((↑(List.length (Prog.code p)) : Int)
 - (1 : Int))))) = 41 else false then ∃ (s : List Int × Int), ArgsLe [e_row 1 e_i64 l, .int .i64 (↑(List.length (Prog.code p)) : Int)] [e_row 1 e_i64 (Prod.fst s),
 .int .i64 (Prod.snd s)] ∧ PreIs (List.length (Prod.fst s) ≤ 1000000000) ∧ ∀ (y : Int), y = findF (Prod.fst s) (Prod.snd s) → ∃ (s : Prog × Nat), ArgsLe [e_Prog p,
 .int .i64 (IntKind.wrap .i64 ((↑(List.length (Prog.code p)) : Int) - (1 : Int)))] [e_Prog (Prod.fst s), .int .i64 (↑(Prod.snd s) : Int)] ∧ PreIs (Prog.wf (Prod.fst
 s) ∧ Prod.snd s < List.length (Prog.code (Prod.fst s))) ∧ ∀ (y_1 : Int), y_1 = targetF (Prod.fst s) (Prod.snd s) → bif decide (y_1 ≥ 0) then ∃ (s : List Int × Int),
 ArgsLe [e_row 1 e_i64 l, .int .i64 y_1] [e_row 1 e_i64 (Prod.fst s), .int .i64 (Prod.snd s)] ∧ PreIs (List.length (Prod.fst s) ≤ 1000000000) ∧ ∀ (y_2 : Int), y_2
 = findF (Prod.fst s) (Prod.snd s) → bif decide (List.length out ≤ List.length out) then bif decide (pl (List.length out) 1 * 80 ≤ 140737488355328) then A (XSt.mk
 [(5, .int .i64 (IntKind.wrap .i64 ((↑i : Int) + (1 : Int)))), (4, .sl 4 [] 0 0 (pl (List.length out) 1) 6), (3, e_row 1 e_i64 l), (1, .ptr 0 [] 0)] [(4, some (.tab
 (pl (List.length out) 1) 6 fun i_1 => .agg 6 [.int .i64 (bif decide (i_1 < List.length out) then Block.src (ix out i_1) else ix l i), .int .i64 (bif decide (i_1
 < List.length out) then Block.dst (ix out i_1) else (↑(List.length (Prog.code p)) : Int)), .int .i64 (bif decide (i_1 < List.length out) then Block.next (ix out
 i_1) else y), .int .i64 (bif decide (i_1 < List.length out) then Block.taken (ix out i_1) else y_2), .row (bif decide (i_1 < List.length out) then true else true)
 0 (bif decide (i_1 < List.length out) then 0 else 0) fun i => XV.raw (bif decide (i_1 < List.length out) then con .unk else con ((fun x => .unk) i)), .row (bif decide
 (i_1 < List.length out) then true else true) 0 (bif decide (i_1 < List.length out) then 0 else 0) fun i => XV.raw (bif decide (i_1 < List.length out) then con .unk
 else con ((fun x => .unk) i))])), (3, some (e_Ins (ix (Prog.code p) (Int.toNat (IntKind.wrap .i64 ((↑(List.length (Prog.code p)) : Int) - (1 : Int))))))), (2, some
 (.agg 6 [.int .i64 (ix l i), .int .i64 (↑(List.length (Prog.code p)) : Int), .int .i64 y, .int .i64 y_2, .row true 0 0 fun x => .unk, .row true 0 0 fun x => .unk])),
 (1, none), (0, some (e_Prog p))] 5) else False else False else bif decide (List.length out ≤ List.length out) then bif decide (pl (List.length out) 1 * 80 ≤ 140737488355328)
 then A (XSt.mk [(5, .int .i64 (IntKind.wrap .i64 ((↑i : Int) + (1 : Int)))), (4, .sl 4 [] 0 0 (pl (List.length out) 1) 6), (3, e_row 1 e_i64 l), (1, .ptr 0 [] 0)]
 [(4, some (.tab (pl (List.length out) 1) 6 fun i_1 => .agg 6 [.int .i64 (bif decide (i_1 < List.length out) then Block.src (ix out i_1) else ix l i), .int .i64 (bif
 decide (i_1 < List.length out) then Block.dst (ix out i_1) else (↑(List.length (Prog.code p)) : Int)), .int .i64 (bif decide (i_1 < List.length out) then Block.next
 (ix out i_1) else y), .int .i64 (bif decide (i_1 < List.length out) then Block.taken (ix out i_1) else (-1 : Int)), .row (bif decide (i_1 < List.length out) then
 true else true) 0 (bif decide (i_1 < List.length out) then 0 else 0) fun i => XV.raw (bif decide (i_1 < List.length out) then con .unk else con ((fun x => .unk)
 i)), .row (bif decide (i_1 < List.length out) then true else true) 0 (bif decide (i_1 < List.length out) then 0 else 0) fun i => XV.raw (bif decide (i_1 < List.length
 out) then con .unk else con ((fun x => .unk) i))])), (3, some (e_Ins (ix (Prog.code p) (Int.toNat (IntKind.wrap .i64 ((↑(List.length (Prog.code p)) : Int) - (1 :
 Int))))))), (2, some (.agg 6 [.int .i64 (ix l i), .int .i64 (↑(List.length (Prog.code p)) : Int), .int .i64 y, .int .i64 (-1 : Int), .row true 0 0 fun x => .unk,
 .row true 0 0 fun x => .unk])), (1, none), (0, some (e_Prog p))] 5) else False else False else ∃ (s : Prog × Nat), ArgsLe [e_Prog p, .int .i64 (IntKind.wrap .i64
 ((↑(List.length (Prog.code p)) : Int) - (1 : Int)))] [e_Prog (Prod.fst s), .int .i64 (↑(Prod.snd s) : Int)] ∧ PreIs (Prog.wf (Prod.fst s) ∧ Prod.snd s < List.length
 (Prog.code (Prod.fst s))) ∧ ∀ (y : Int), y = targetF (Prod.fst s) (Prod.snd s) → bif decide (y ≥ 0) then ∃ (s : List Int × Int), ArgsLe [e_row 1 e_i64 l, .int .i64
 y] [e_row 1 e_i64 (Prod.fst s), .int .i64 (Prod.snd s)] ∧ PreIs (List.length (Prod.fst s) ≤ 1000000000) ∧ ∀ (y : Int), y = findF (Prod.fst s) (Prod.snd s) → bif
 decide (List.length out ≤ List.length out) then bif decide (pl (List.length out) 1 * 80 ≤ 140737488355328) then A (XSt.mk [(5, .int .i64 (IntKind.wrap .i64 ((↑i
 : Int) + (1 : Int)))), (4, .sl 4 [] 0 0 (pl (List.length out) 1) 6), (3, e_row 1 e_i64 l), (1, .ptr 0 [] 0)] [(4, some (.tab (pl (List.length out) 1) 6 fun i_1 =>
 .agg 6 [.int .i64 (bif decide (i_1 < List.length out) then Block.src (ix out i_1) else ix l i), .int .i64 (bif decide (i_1 < List.length out) then Block.dst (ix
 out i_1) else (↑(List.length (Prog.code p)) : Int)), .int .i64 (bif decide (i_1 < List.length out) then Block.next (ix out i_1) else (-1 : Int)), .int .i64 (bif
 decide (i_1 < List.length out) then Block.taken (ix out i_1) else y), .row (bif decide (i_1 < List.length out) then true else true) 0 (bif decide (i_1 < List.length
 out) then 0 else 0) fun i => XV.raw (bif decide (i_1 < List.length out) then con .unk else con ((fun x => .unk) i)), .row (bif decide (i_1 < List.length out) then
 true else true) 0 (bif decide (i_1 < List.length out) then 0 else 0) fun i => XV.raw (bif decide (i_1 < List.length out) then con .unk else con ((fun x => .unk)
 i))])), (3, some (e_Ins (ix (Prog.code p) (Int.toNat (IntKind.wrap .i64 ((↑(List.length (Prog.code p)) : Int) - (1 : Int))))))), (2, some (.agg 6 [.int .i64 (ix
 l i), .int .i64 (↑(List.length (Prog.code p)) : Int), .int .i64 (-1 : Int), .int .i64 y, .row true 0 0 fun x => .unk, .row true 0 0 fun x => .unk])), (1, none),
 (0, some (e_Prog p))] 5) else False else False else bif decide (List.length out ≤ List.length out) then bif decide (pl (List.length out) 1 * 80 ≤ 140737488355328)
 then A (XSt.mk [(5, .int .i64 (IntKind.wrap .i64 ((↑i : Int) + (1 : Int)))), (4, .sl 4 [] 0 0 (pl (List.length out) 1) 6), (3, e_row 1 e_i64 l), (1, .ptr 0 [] 0)]
 [(4, some (.tab (pl (List.length out) 1) 6 fun i_1 => .agg 6 [.int .i64 (bif decide (i_1 < List.length out) then Block.src (ix out i_1) else ix l i), .int .i64 (bif
 decide (i_1 < List.length out) then Block.dst (ix out i_1) else (↑(List.length (Prog.code p)) : Int)), .int .i64 (bif decide (i_1 < List.length out) then Block.next
 (ix out i_1) else (-1 : Int)), .int .i64 (bif decide (i_1 < List.length out) then Block.taken (ix out i_1) else (-1 : Int)), .row (bif decide (i_1 < List.length
 out) then true else true) 0 (bif decide (i_1 < List.length out) then 0 else 0) fun i => XV.raw (bif decide (i_1 < List.length out) then con .unk else con ((fun x
 => .unk) i)), .row (bif decide (i_1 < List.length out) then true else true) 0 (bif decide (i_1 < List.length out) then 0 else 0) fun i => XV.raw (bif decide (i_1
 < List.length out) then con .unk else con ((fun x => .unk) i))])), (3, some (e_Ins (ix (Prog.code p) (Int.toNat (IntKind.wrap .i64 ((↑(List.length (Prog.code p))
 : Int) - (1 : Int))))))), (2, some (.agg 6 [.int .i64 (ix l i), .int .i64 (↑(List.length (Prog.code p)) : Int), .int .i64 (-1 : Int), .int .i64 (-1 : Int), .row
 true 0 0 fun x => .unk, .row true 0 0 fun x => .unk])), (1, none), (0, some (e_Prog p))] 5) else False else False else False else False else False else False
else
 MakesAt (.sl 1 [] 0 0 (List.length out) 6) (XSt.mk [(2, .sl 1 [] 0 0 (List.length out) 6), (71, .sl 1 [] 0 0 (List.length out) 6), (14, .bool (decide ((↑i : Int)
 < (↑(List.length l) : Int)))), (13, .int .i64 (↑(List.length l) : Int)), (12, e_row 1 e_i64 l), (11, .int .i64 (↑i : Int)), (5, .int .i64 (↑i : Int)), (4, .sl 1
 [] 0 0 (List.length out) 6), (3, e_row 1 e_i64 l), (1, .ptr 0 [] 0)] [(1, some (.tab (List.length out) 6 fun i => e_blk0 (ix out i))), (0, some (e_Prog p))] 2) r
 t) := by kernel_rfl
theorem TT5ok : TabOk Try.prog TT5 := mkT2_ok clok_ref10 trivial trivial ⟨sk_tgt, sk_ldr, sk_find, trivial⟩ trivial
/-- Blocks begin one behind the other, in the code. -/
theorem leadK_ok {p : Prog} {k : Nat} : (∀ x ∈ leadK p k, 0 ≤ x ∧ x < k) ∧ (leadK p k).Pairwise (· < ·) := by
  unfold leadK
  refine ⟨fun x hx => ?_, ?_⟩
  · obtain ⟨j, hj, rfl⟩ := List.mem_map.1 hx
    have := List.mem_range.1 (List.mem_filter.1 hj).1
    omega
  · rw [List.pairwise_map]
    refine ((List.pairwise_lt_range (n := k)).filter _).imp fun h => ?_
    omega
theorem lead_ok {p : Prog} : (∀ x ∈ leadersF p, 0 ≤ x ∧ x < p.code.length) ∧ (leadersF p).Pairwise (· < ·) ∧ (leadersF p).length ≤ 2000 := by
  unfold leadersF
  cases hr : rightProg p with
  | false => exact ⟨fun x hx => (by cases hx), .nil, Nat.zero_le _⟩
  | true =>
    simp only [rightProg, Bool.and_eq_true, decide_eq_true_eq] at hr
    have := leadK_len (p := p) (k := p.code.length)
    exact ⟨leadK_ok.1, leadK_ok.2, show (leadK p p.code.length).length ≤ 2000 by omega⟩
theorem pw_ix {l : List Int} (h : l.Pairwise (· < ·)) {i j : Nat} (hij : i < j) (hj : j < l.length) : ix l i < ix l j := by
  rw [ix_lt (by omega), ix_lt hj]
  exact List.pairwise_iff_getElem.1 h i j (by omega) hj hij
theorem cutTo_ok {p : Prog} {i : Nat} (h : i < (leadersF p).length) : 1 ≤ cutTo p (leadersF p) i ∧ cutTo p (leadersF p) i ≤ p.code.length ∧ ix (leadersF p) i < cutTo p (leadersF p) i := by
  have ok := lead_ok (p := p)
  have h1 := ok.1 _ (ix_mem h)
  unfold cutTo
  split
  · rename_i h2
    have h3 := pw_ix ok.2.1 (Nat.lt_succ_self i) h2
    have h4 := ok.1 _ (ix_mem h2)
    have h3 : ix (leadersF p) i < ix (leadersF p) (i + 1) := h3
    omega
  · omega
theorem cutK_step {p : Prog} {l : List Int} {k : Nat} : cutK p l (k + 1) = cutK p l k ++ [cutB p l k] := by
  unfold cutK
  rw [List.range_succ, List.map_append]
  rfl
theorem cutK_len {p : Prog} {l : List Int} {k : Nat} : (cutK p l k).length = k := by simp [cutK]
theorem mk_cut : GkOk Try.prog qq (68, cutM) := mkOf_ok (fun n y => rfl) fun p hw => by
  have hw : p.wf := hw
  have hl := hw.1.2
  refine makeG mix TT5ok t_ref10_Cut (Nat.le_of_ble_eq_true rfl) (con_sol _ (allN_iff.2 fun i _ => rfl)) rfl ?_
  refine Eq.mpr (r_cut0 p _ _) ?_
  refine ⟨p, .rfl, ⟨hw⟩, ?_⟩
  rintro l rfl
  unfold cutF
  have hok := lead_ok (p := p)
  have hto : ∀ i, i < (leadersF p).length → 1 ≤ cutTo p (leadersF p) i ∧ cutTo p (leadersF p) i ≤ p.code.length := fun i hi => ⟨(cutTo_ok hi).1, (cutTo_ok hi).2.1⟩
  generalize leadersF p = l at *
  refine loopM mix TT5ok (fun k : Nat => ctS p l (cutK p l k) k) (fun k => k ≤ l.length) (fun k => l.length - k) 0 (Nat.zero_le _) (weakK [(0, 0)] rfl rfl rfl rfl rfl ⟨k_is rfl rfl, k_nil rfl, k_is rfl rfl, .ptr rfl, trivial⟩ ⟨⟨6, rfl⟩, .same rfl, trivial⟩) ?_
  intro i hi
  refine Eq.mpr (r_cut1 p l _ i _ _ _) ?_
  have hkl := cutK_len (p := p) (l := l) (k := i)
  by_cases hlt : i < l.length
  · have h1 : (i : Int) < (l.length : Int) := by omega
    have w1 : IntKind.i64.wrap ((i : Int) + 1) = ((i + 1 : Nat) : Int) := wrap_i64 (by omega) (by omega)
    obtain ⟨t1, t2⟩ := hto i hlt
    have w2 : IntKind.i64.wrap (cutTo p l i - 1) = (((cutTo p l i - 1).toNat : Nat) : Int) := by rw [wrap_i64 (by omega) (by omega)]; omega
    have t3 : (cutTo p l i - 1).toNat < p.code.length := by omega
    have t4 : (0 : Int) ≤ (((cutTo p l i - 1).toNat : Nat) : Int) := by omega
    have t5 : (((cutTo p l i - 1).toNat : Nat) : Int) < (p.code.length : Int) := by omega
    have st := cutK_step (p := p) (l := l) (k := i)
    have b : (i + 1) * 80 ≤ 140737488355328 := by omega
    have next : ∀ (f : Nat → XV) (h2 h3 : XV), (∀ j, j < i → con (f j) = con (e_blk0 (ix (cutK p l i) j))) → con (f i) = con (e_blk0 (cutB p l i)) →
        ∃ j, j ≤ l.length ∧ WeakE 1 (XSt.st (XSt.mk [(5, .int .i64 ((i + 1 : Nat) : Int)), (4, .sl 4 [] 0 0 (i + 1) 6), (3, e_row 1 e_i64 l), (1, .ptr 0 [] 0)] [(4, some (.tab (i + 1) 6 f)), (3, some h3), (2, some h2), (1, none), (0, some (e_Prog p))] 5)) (ctS p l (cutK p l j) j).st ∧ l.length - j < l.length - i := fun f h2 h3 e1 e2 => by
      refine ⟨i + 1, hlt, ?_, by omega⟩
      rw [st]
      unfold ctS
      rw [app_len]
      have e1' : ∀ j, j < (cutK p l i).length → con (f j) = con (e_blk0 (ix (cutK p l i) j)) := fun j hj => e1 j (by omega)
      have e2' : con (f (cutK p l i).length) = con (e_blk0 (cutB p l i)) := by rw [hkl]; exact e2
      have := k_app (κ := kap [(0, 0), (1, 4)]) (es := 6) (f := f) (en := e_blk0) (l := cutK p l i) (x := cutB p l i) e1' e2' rfl
      rw [hkl] at this ⊢
      exact weakK [(0, 0), (1, 4)] rfl rfl rfl rfl rfl ⟨k_is rfl rfl, .sl rfl, k_is rfl rfl, .ptr rfl, trivial⟩ ⟨this, .same rfl, trivial⟩
    have fin : ∀ (to nx tk : Int) (f : Nat → XV), cutTo p l i = to → cutNx p l i = nx → cutTk p l i = tk → (∀ j, f j = .agg 6 [.int .i64 (bif decide (j < i) then (ix (cutK p l i) j).src else ix l i), .int .i64 (bif decide (j < i) then (ix (cutK p l i) j).dst else to), .int .i64 (bif decide (j < i) then (ix (cutK p l i) j).next else nx), .int .i64 (bif decide (j < i) then (ix (cutK p l i) j).taken else tk), .row (bif decide (j < i) then true else true) 0 (bif decide (j < i) then 0 else 0) (fun i_2 => .raw (bif decide (j < i) then con .unk else con ((fun _ => XV.unk) i_2))), .row (bif decide (j < i) then true else true) 0 (bif decide (j < i) then 0 else 0) (fun i_2 => .raw (bif decide (j < i) then con .unk else con ((fun _ => XV.unk) i_2)))]) →
        (∀ j, j < i → con (f j) = con (e_blk0 (ix (cutK p l i) j))) ∧ con (f i) = con (e_blk0 (cutB p l i)) := fun to nx tk f e1 e2 e3 e4 => by
      refine ⟨fun j hj => ?_, ?_⟩
      · rw [e4]
        simp only [hj, decide_true, cond_true]
        rfl
      · rw [e4]
        simp only [Nat.lt_irrefl, decide_false, cond_false]
        unfold cutB
        rw [e1, e2, e3]
        rfl
    have nx1 : ¬ (ix p.code (cutTo p l i - 1).toNat).op = 40 ∧ ¬ (ix p.code (cutTo p l i - 1).toNat).op = 41 → cutNx p l i = findF l (cutTo p l i) := fun h => by unfold cutNx; rw [if_pos h]
    have nx2 : ¬ (¬ (ix p.code (cutTo p l i - 1).toNat).op = 40 ∧ ¬ (ix p.code (cutTo p l i - 1).toNat).op = 41) → cutNx p l i = -1 := fun h => by unfold cutNx; rw [if_neg h]
    have tk1 : targetF p (cutTo p l i - 1).toNat ≥ 0 → cutTk p l i = findF l (targetF p (cutTo p l i - 1).toNat) := fun h => by unfold cutTk; rw [if_pos h]
    have tk2 : ¬ targetF p (cutTo p l i - 1).toNat ≥ 0 → cutTk p l i = -1 := fun h => by unfold cutTk; rw [if_neg h]
    have hl9 : l.length ≤ 1000000000 := by omega
    have cases2 : ∀ (Y N : Prop), (¬ (ix p.code (cutTo p l i - 1).toNat).op = 40 ∧ ¬ (ix p.code (cutTo p l i - 1).toNat).op = 41 → Y) → (¬ (¬ (ix p.code (cutTo p l i - 1).toNat).op = 40 ∧ ¬ (ix p.code (cutTo p l i - 1).toNat).op = 41) → N) → cond (bif decide (¬ (ix p.code (cutTo p l i - 1).toNat).op = 40) then decide (¬ (ix p.code (cutTo p l i - 1).toNat).op = 41) else false) Y N := fun Y N hY hN => by
      rw [band]
      refine cnd2 (fun h => hY ?_) (fun h => hN fun g => ?_)
      · simpa [Bool.and_eq_true, decide_eq_true_eq] using h
      · rw [decide_eq_true g.1, decide_eq_true g.2] at h; cases h
    by_cases ht : i + 1 < l.length
    · have ht' : ((i + 1 : Nat) : Int) < (l.length : Int) := by omega
      have ht0 : (0 : Int) ≤ ((i + 1 : Nat) : Int) := by omega
      have eT : ix l (i + 1) = cutTo p l i := by unfold cutTo; rw [if_pos ht]
      simp only [g1, g2, g3, g4, g5, g6, g7, allN_true, cond_true, Nat.le_refl, decide_true, pl_eq, h1, w1, ht', ht0, Int.toNat_natCast, eT, w2, t4, t5, hkl, b]
      refine cases2 _ _ (fun hY => ?_) (fun hN => ?_)
      · refine ⟨(l, cutTo p l i), .rfl, ⟨hl9⟩, fun y hy => ?_⟩
        replace hy : y = findF l (cutTo p l i) := hy
        subst hy
        refine ⟨(p, (cutTo p l i - 1).toNat), .rfl, ⟨hw, t3⟩, fun y hy => ?_⟩
        replace hy : y = targetF p (cutTo p l i - 1).toNat := hy
        subst hy
        refine cnd2 (fun g => ?_) (fun g => ?_) <;> simp only [decide_eq_true_eq, decide_eq_false_iff_not] at g
        · refine ⟨(l, _), .rfl, ⟨hl9⟩, fun y hy => ?_⟩
          replace hy : y = findF l (targetF p (cutTo p l i - 1).toNat) := hy
          subst hy
          obtain ⟨q1, q2⟩ := fin _ _ _ _ rfl (nx1 hY) (tk1 g) (fun _ => rfl)
          exact next _ _ _ q1 q2
        · obtain ⟨q1, q2⟩ := fin _ _ _ _ rfl (nx1 hY) (tk2 g) (fun _ => rfl)
          exact next _ _ _ q1 q2
      · refine ⟨(p, (cutTo p l i - 1).toNat), .rfl, ⟨hw, t3⟩, fun y hy => ?_⟩
        replace hy : y = targetF p (cutTo p l i - 1).toNat := hy
        subst hy
        refine cnd2 (fun g => ?_) (fun g => ?_) <;> simp only [decide_eq_true_eq, decide_eq_false_iff_not] at g
        · refine ⟨(l, _), .rfl, ⟨hl9⟩, fun y hy => ?_⟩
          replace hy : y = findF l (targetF p (cutTo p l i - 1).toNat) := hy
          subst hy
          obtain ⟨q1, q2⟩ := fin _ _ _ _ rfl (nx2 hN) (tk1 g) (fun _ => rfl)
          exact next _ _ _ q1 q2
        · obtain ⟨q1, q2⟩ := fin _ _ _ _ rfl (nx2 hN) (tk2 g) (fun _ => rfl)
          exact next _ _ _ q1 q2
    · have ht' : ¬ ((i + 1 : Nat) : Int) < (l.length : Int) := by omega
      have eT : (p.code.length : Int) = cutTo p l i := by unfold cutTo; rw [if_neg ht]
      have eN : IntKind.i64.wrap ((p.code.length : Int) - 1) = (((cutTo p l i - 1).toNat : Nat) : Int) := by rw [eT]; exact w2
      simp only [g1, g2, g3, g4, g5, g6, g7, allN_true, cond_true, Nat.le_refl, decide_true, pl_eq, h1, w1, ht', decide_false, cond_false, eN, Int.toNat_natCast, t4, t5, hkl, b]
      refine cases2 _ _ (fun hY => ?_) (fun hN => ?_)
      · refine ⟨(l, p.code.length), .rfl, ⟨hl9⟩, fun y hy => ?_⟩
        replace hy : y = findF l (p.code.length : Int) := hy
        rw [eT] at hy
        subst hy
        refine ⟨(p, (cutTo p l i - 1).toNat), .rfl, ⟨hw, t3⟩, fun y hy => ?_⟩
        replace hy : y = targetF p (cutTo p l i - 1).toNat := hy
        subst hy
        refine cnd2 (fun g => ?_) (fun g => ?_) <;> simp only [decide_eq_true_eq, decide_eq_false_iff_not] at g
        · refine ⟨(l, _), .rfl, ⟨hl9⟩, fun y hy => ?_⟩
          replace hy : y = findF l (targetF p (cutTo p l i - 1).toNat) := hy
          subst hy
          obtain ⟨q1, q2⟩ := fin _ _ _ _ eT.symm (nx1 hY) (tk1 g) (fun _ => rfl)
          exact next _ _ _ q1 q2
        · obtain ⟨q1, q2⟩ := fin _ _ _ _ eT.symm (nx1 hY) (tk2 g) (fun _ => rfl)
          exact next _ _ _ q1 q2
      · refine ⟨(p, (cutTo p l i - 1).toNat), .rfl, ⟨hw, t3⟩, fun y hy => ?_⟩
        replace hy : y = targetF p (cutTo p l i - 1).toNat := hy
        subst hy
        refine cnd2 (fun g => ?_) (fun g => ?_) <;> simp only [decide_eq_true_eq, decide_eq_false_iff_not] at g
        · refine ⟨(l, _), .rfl, ⟨hl9⟩, fun y hy => ?_⟩
          replace hy : y = findF l (targetF p (cutTo p l i - 1).toNat) := hy
          subst hy
          obtain ⟨q1, q2⟩ := fin _ _ _ _ eT.symm (nx2 hN) (tk1 g) (fun _ => rfl)
          exact next _ _ _ q1 q2
        · obtain ⟨q1, q2⟩ := fin _ _ _ _ eT.symm (nx2 hN) (tk2 g) (fun _ => rfl)
          exact next _ _ _ q1 q2
  · have h1 : ¬ (i : Int) < (l.length : Int) := by omega
    simp only [h1, decide_false, cond_false]
    obtain rfl : i = l.length := by omega
    exact ⟨.inl ⟨1, rfl, rfl⟩⟩
end Go.Proofs.Ythmlnmkbeohojaa

/- Which owners may be. -/
namespace Go.Proofs.Ythmlnmkbeohojaa
open Go.Ra
set_option linter.unusedVariables false
set_option linter.unusedSimpArgs false
def TT6 : Tab := mkT2 qq cl_ref10 [(65, formSp)] [] [(29, rprS), (70, redS), (86, onES), (87, anyES)] []
/-- May an instruction be, by these owners? -/
def clIns (o : Nat → Int) (x : Ins) : Bool := !((decide (formI x.op = 4) || decide (formI x.op = 5)) && onEB o x.a) && !(decide (formI x.op ≥ 1) && decide (formI x.op ≤ 3) && decide (x.d > 0) && decide (o x.d.toNat = 1) && anyEB o (readsF x))
/-- Which owners may be. -/
def closedF (p : Prog) (o : Nat → Int) : Bool := rightProg p && (decide (o 0 = 0) && (allN (fun i => decide (i = 0) || decide (o i = 1 ∨ o i = 2)) 16 && allN (fun n => clIns o (ix p.code n)) p.code.length))
def clsS : List XV → Option ((XV → Prop) → Prop) := skOf (fun q : Prog × (Nat → Int) => [e_Prog q.1, e_own q.2]) (fun q => q.1.wf) (fun q => closedF q.1 q.2) (fun y => .bool y)
def clS (k : Nat) (p : Prog) (o : Nat → Int) (i : Nat) : XSt := ⟨[(k, .int .i64 i), (3, .ptr 1 [] 0), (2, .ptr 0 [] 0)], [(1, some (e_own o)), (0, some (e_Prog p))], 2⟩
theorem r_cls0 (p : Prog) (o : Nat → Int) (r : XV) : (goQ Try.prog TT6 [(.tmp 4)] r (.run c_ref10_Closed) [] ⟨envX 0 [e_Prog p, e_own o], [], 0⟩) = (∃ (s : Prog), ArgsLe [e_Prog p] [e_Prog s] ∧ PreIs (Prog.wf s) ∧ ∀ (y : Bool), y = rightProg s → bif bif !y then true else !!y then bif bif !y then true else
 decide ¬o 0 = 0 then ResLe (.bool false) r else LoopAt (Ok Try.prog (Tab.q TT6)) c_ref10_Closed_l1 (XSt.mk [(5, .int .i64 1), (4, .bool false), (3, .ptr 1 [] 0),
 (2, .ptr 0 [] 0)] [(1, some (.tab 16 1 fun i => .int .i64 (o i))), (0, some (e_Prog p))] 2) [Frm.blk 0, Frm.seq c_ref10_Closed_p2] (finQR [AR.tmp 4] r) else False)
 := by kernel_rfl
theorem r_cls1 (p : Prog) (o : Nat → Int) (i : Nat) (r : XV) (A : XSt → Prop) : (goQ Try.prog TT6 [(.tmp 4)] r (.run c_ref10_Closed_l1) [.lp c_ref10_Closed_l1 A, .blk 0, .seq c_ref10_Closed_p2] (clS 5 p o i)) = (bif decide ((↑i : Int) < 16) then bif decide ((↑i : Int) < 16) then bif Nat.beq (i * 1) (i * 1) then bif decide (i < 16) then bif bif decide ((↑i : Int) < 16)
 then true else !decide ¬o i = 1 then bif bif Nat.beq (i * 1) (i * 1) then true else !decide ¬o i = 1 then bif bif decide (i < 16) then true else !decide ¬o i = 1
 then bif bif decide ¬o i = 1 then decide ¬o i = 1 else true then bif bif decide ¬o i = 1 then decide ¬o i = 2 else false then ResLe (.bool false) r else A (XSt.mk
 [(5, .int .i64 (IntKind.wrap .i64 ((↑i : Int) + (1 : Int)))), (3, .ptr 1 [] 0), (2, .ptr 0 [] 0)] [(1, some (e_own o)), (0, some (e_Prog p))] 2) else False else
 False else False else False else False else False else False
else LoopAt (Ok Try.prog (Tab.q TT6)) c_ref10_Closed_l2 (XSt.mk [(6, .int .i64 0), (3, .ptr 1 [] 0),
 (2, .ptr 0 [] 0)] [(1, some (e_own o)), (0, some (e_Prog p))] 2) [Frm.blk 2, Frm.seq c_ref10_Closed_p1] (finQR [AR.tmp 4] r)) := by kernel_rfl
theorem r_cls2 (p : Prog) (o : Nat → Int) (i : Nat) (r : XV) (A : XSt → Prop) : (goQ Try.prog TT6 [(.tmp 4)] r (.run c_ref10_Closed_l2) [.lp c_ref10_Closed_l2 A, .blk 2, .seq c_ref10_Closed_p1] (clS 6 p o i)) = (bif decide ((↑i : Int) < (↑(List.length (Prog.code p)) : Int)) then bif decide ((↑i : Int) < (↑(List.length (Prog.code p)) : Int)) then bif bif decide (formI
 (Ins.op (ix (Prog.code p) i)) = 4) then true else !decide (formI (Ins.op (ix (Prog.code p) i)) = 4) then bif bif decide (formI (Ins.op (ix (Prog.code p) i)) = 4)
 then true else decide (formI (Ins.op (ix (Prog.code p) i)) = 5) then ∃ (s : (Nat → Int) × Int), ArgsLe [.tab 16 1 fun i => .int .i64 (o i), .int .i64 (Ins.a (ix
 (Prog.code p) i))] [e_own (Prod.fst s), .int .i64 (Prod.snd s)] ∧ PreIs (Prod.snd s ≤ 15) ∧ ∀ (y : Bool), y = onEB (Prod.fst s) (Prod.snd s) → bif bif bif decide
 (formI (Ins.op (ix (Prog.code p) i)) = 4) then true else decide (formI (Ins.op (ix (Prog.code p) i)) = 5) then y else false then ResLe (.bool false) r else bif bif
 decide (formI (Ins.op (ix (Prog.code p) i)) ≥ 1) then decide (formI (Ins.op (ix (Prog.code p) i)) ≥ 1) else true then bif bif bif decide (formI (Ins.op (ix (Prog.code
 p) i)) ≥ 1) then decide (formI (Ins.op (ix (Prog.code p) i)) ≤ 3) else false then bif decide (formI (Ins.op (ix (Prog.code p) i)) ≥ 1) then decide (formI (Ins.op
 (ix (Prog.code p) i)) ≤ 3) else false else true then bif bif decide (0 ≤ Ins.d (ix (Prog.code p) i)) then true else !bif bif decide (formI (Ins.op (ix (Prog.code
 p) i)) ≥ 1) then decide (formI (Ins.op (ix (Prog.code p) i)) ≤ 3) else false then decide (Ins.d (ix (Prog.code p) i) > 0) else false then bif bif decide (Ins.d (ix
 (Prog.code p) i) < 16) then true else !bif bif decide (formI (Ins.op (ix (Prog.code p) i)) ≥ 1) then decide (formI (Ins.op (ix (Prog.code p) i)) ≤ 3) else false
 then decide (Ins.d (ix (Prog.code p) i) > 0) else false then bif bif Nat.beq (Int.toNat (Ins.d (ix (Prog.code p) i)) * 1) (Int.toNat (Ins.d (ix (Prog.code p) i))
 * 1) then true else !bif bif decide (formI (Ins.op (ix (Prog.code p) i)) ≥ 1) then decide (formI (Ins.op (ix (Prog.code p) i)) ≤ 3) else false then decide (Ins.d
 (ix (Prog.code p) i) > 0) else false then bif bif decide (Int.toNat (Ins.d (ix (Prog.code p) i)) < 16) then true else !bif bif decide (formI (Ins.op (ix (Prog.code
 p) i)) ≥ 1) then decide (formI (Ins.op (ix (Prog.code p) i)) ≤ 3) else false then decide (Ins.d (ix (Prog.code p) i) > 0) else false then bif bif bif bif decide
 (formI (Ins.op (ix (Prog.code p) i)) ≥ 1) then decide (formI (Ins.op (ix (Prog.code p) i)) ≤ 3) else false then decide (Ins.d (ix (Prog.code p) i) > 0) else false
 then bif bif decide (formI (Ins.op (ix (Prog.code p) i)) ≥ 1) then decide (formI (Ins.op (ix (Prog.code p) i)) ≤ 3) else false then decide (Ins.d (ix (Prog.code
 p) i) > 0) else false else true then bif bif bif bif decide (formI (Ins.op (ix (Prog.code p) i)) ≥ 1) then decide (formI (Ins.op (ix (Prog.code p) i)) ≤ 3) else
 false then decide (Ins.d (ix (Prog.code p) i) > 0) else false then decide (o (Int.toNat (Ins.d (ix (Prog.code p) i))) = 1) else false then ∃ (s : Ins), ArgsLe [e_Ins
 (ix (Prog.code p) i)] [e_Ins s] ∧ PreIs True ∧ ∀ (y : List Int), y = readsF s → ∃ (s : (Nat → Int) × List Int), ArgsLe [.tab 16 1 fun i => .int .i64 (o i), e_row
 1 e_i64 y] [e_own (Prod.fst s), e_row 1 e_i64 (Prod.snd s)] ∧ PreIs (List.length (Prod.snd s) ≤ 1000000000 ∧ ∀ (x : Int), x ∈ Prod.snd s → x ≤ 15) ∧ ∀ (y : Bool),
 y = anyEB (Prod.fst s) (Prod.snd s) → bif bif bif bif bif decide (formI (Ins.op (ix (Prog.code p) i)) ≥ 1) then decide (formI (Ins.op (ix (Prog.code p) i)) ≤ 3)
 else false then decide (Ins.d (ix (Prog.code p) i) > 0) else false then decide (o (Int.toNat (Ins.d (ix (Prog.code p) i))) = 1) else false then y else false then
 ResLe (.bool false) r else A (XSt.mk [(6, .int .i64 (IntKind.wrap .i64 ((↑i : Int) + (1 : Int)))), (3, .ptr 1 [] 0), (2, .ptr 0 [] 0)] [(2, some (e_Ins (ix (Prog.code
 p) i))), (1, some (e_own o)), (0, some (e_Prog p))] 3) else bif !bif bif bif decide (formI (Ins.op (ix (Prog.code p) i)) ≥ 1) then decide (formI (Ins.op (ix (Prog.code
 p) i)) ≤ 3) else false then decide (Ins.d (ix (Prog.code p) i) > 0) else false then decide (o (Int.toNat (Ins.d (ix (Prog.code p) i))) = 1) else false then A (XSt.mk
 [(6, .int .i64 (IntKind.wrap .i64 ((↑i : Int) + (1 : Int)))), (3, .ptr 1 [] 0), (2, .ptr 0 [] 0)] [(2, some (e_Ins (ix (Prog.code p) i))), (1, some (e_own o)), (0,
 some (e_Prog p))] 3) else False else False else False else False else False else False else False else False else bif !bif decide (formI (Ins.op (ix (Prog.code p)
 i)) = 4) then true else decide (formI (Ins.op (ix (Prog.code p) i)) = 5) then bif bif decide (formI (Ins.op (ix (Prog.code p) i)) ≥ 1) then decide (formI (Ins.op
 (ix (Prog.code p) i)) ≥ 1) else true then bif bif bif decide (formI (Ins.op (ix (Prog.code p) i)) ≥ 1) then decide (formI (Ins.op (ix (Prog.code p) i)) ≤ 3) else
 false then bif decide (formI (Ins.op (ix (Prog.code p) i)) ≥ 1) then decide (formI (Ins.op (ix (Prog.code p) i)) ≤ 3) else false else true then bif bif decide (0
 ≤ Ins.d (ix (Prog.code p) i)) then true else !bif bif decide (formI (Ins.op (ix (Prog.code p) i)) ≥ 1) then decide (formI (Ins.op (ix (Prog.code p) i)) ≤ 3) else
 false then decide (Ins.d (ix (Prog.code p) i) > 0) else false then bif bif decide (Ins.d (ix (Prog.code p) i) < 16) then true else !bif bif decide (formI (Ins.op
 (ix (Prog.code p) i)) ≥ 1) then decide (formI (Ins.op (ix (Prog.code p) i)) ≤ 3) else false then decide (Ins.d (ix (Prog.code p) i) > 0) else false then bif bif
 Nat.beq (Int.toNat (Ins.d (ix (Prog.code p) i)) * 1) (Int.toNat (Ins.d (ix (Prog.code p) i)) * 1) then true else !bif bif decide (formI (Ins.op (ix (Prog.code p)
 i)) ≥ 1) then decide (formI (Ins.op (ix (Prog.code p) i)) ≤ 3) else false then decide (Ins.d (ix (Prog.code p) i) > 0) else false then bif bif decide (Int.toNat
 (Ins.d (ix (Prog.code p) i)) < 16) then true else !bif bif decide (formI (Ins.op (ix (Prog.code p) i)) ≥ 1) then decide (formI (Ins.op (ix (Prog.code p) i)) ≤ 3)
 else false then decide (Ins.d (ix (Prog.code p) i) > 0) else false then bif bif bif bif decide (formI (Ins.op (ix (Prog.code p) i)) ≥ 1) then decide (formI (Ins.op
 (ix (Prog.code p) i)) ≤ 3) else false then decide (Ins.d (ix (Prog.code p) i) > 0) else false then bif bif decide (formI (Ins.op (ix (Prog.code p) i)) ≥ 1) then
 decide (formI (Ins.op (ix (Prog.code p) i)) ≤ 3) else false then decide (Ins.d (ix (Prog.code p) i) > 0) else false else true then bif bif bif bif decide (formI
 (Ins.op (ix (Prog.code p) i)) ≥ 1) then decide (formI (Ins.op (ix (Prog.code p) i)) ≤ 3) else false then decide (Ins.d (ix (Prog.code p) i) > 0) else false then
 decide (o (Int.toNat (Ins.d (ix (Prog.code p) i))) = 1) else false then ∃ (s : Ins), ArgsLe [e_Ins (ix (Prog.code p) i)] [e_Ins s] ∧ PreIs True ∧ ∀ (y : List Int),
 y = readsF s → ∃ (s : (Nat → Int) × List Int), ArgsLe [.tab 16 1 fun i => .int .i64 (o i), e_row 1 e_i64 y] [e_own (Prod.fst s), e_row 1 e_i64 (Prod.snd s)] ∧ PreIs
 (List.length (Prod.snd s) ≤ 1000000000 ∧ ∀ (x : Int), x ∈ Prod.snd s → x ≤ 15) ∧ ∀ (y : Bool), y = anyEB (Prod.fst s) (Prod.snd s) → bif bif bif bif bif decide (formI
 (Ins.op (ix (Prog.code p) i)) ≥ 1) then decide (formI (Ins.op (ix (Prog.code p) i)) ≤ 3) else false then decide (Ins.d (ix (Prog.code p) i) > 0) else false then
 decide (o (Int.toNat (Ins.d (ix (Prog.code p) i))) = 1) else false then y else false then ResLe (.bool false) r else A (XSt.mk [(6, .int .i64 (IntKind.wrap .i64
 ((↑i : Int) + (1 : Int)))), (3, .ptr 1 [] 0), (2, .ptr 0 [] 0)] [(2, some (e_Ins (ix (Prog.code p) i))), (1, some (e_own o)), (0, some (e_Prog p))] 3) else bif !bif
 bif bif decide (formI (Ins.op (ix (Prog.code p) i)) ≥ 1) then decide (formI (Ins.op (ix (Prog.code p) i)) ≤ 3) else false then decide (Ins.d (ix (Prog.code p) i)
 > 0) else false then decide (o (Int.toNat (Ins.d (ix (Prog.code p) i))) = 1) else false then A (XSt.mk [(6, .int .i64 (IntKind.wrap .i64 ((↑i : Int) + (1 : Int)))),
 (3, .ptr 1 [] 0), (2, .ptr 0 [] 0)] [(2, some (e_Ins (ix (Prog.code p) i))), (1, some (e_own o)), (0, some (e_Prog p))] 3) else False else False else False else
 False else False else False else False else False else False else False else False
else ResLe (.bool true) r) := by kernel_rfl
theorem TT6ok : TabOk Try.prog TT6 := mkT2_ok clok_ref10 ⟨sp_form, trivial⟩ trivial ⟨sk_rpr, sk_reads, sk_onE, sk_anyE, trivial⟩ trivial
/-- The registers of an instruction that may be. -/
theorem right_regs {i : Ins} (h : rightIns i = true) : (0 ≤ i.d ∧ i.d ≤ 15) ∧ (0 ≤ i.a ∧ i.a ≤ 15) ∧ (0 ≤ i.b ∧ i.b ≤ 15) := by
  simp only [rightIns, Bool.and_eq_true] at h
  obtain ⟨_, h1, h2, h3, _⟩ := h
  have key : ∀ n t, regB n t = true → 0 ≤ n ∧ n ≤ 15 := fun n t hb => by
    simp only [regB, Bool.or_eq_true, Bool.and_eq_true, decide_eq_true_eq] at hb
    omega
  exact ⟨key _ _ h1, key _ _ h2, key _ _ h3⟩
theorem right_all {p : Prog} (h : rightProg p = true) {n : Nat} (hn : n < p.code.length) : rightIns (ix p.code n) = true := by
  simp only [rightProg, Bool.and_eq_true] at h
  exact allN_iff.1 h.2.1 n hn
theorem sk_cls : SkOk Try.prog (67, clsS) := skOf_ok fun ⟨p, o⟩ hw => by
  have hw : p.wf := hw
  have hl := hw.1.2
  show Pure _ _ (cons [e_Prog p, e_own o]) (con (.bool (closedF p o)))
  refine pureQ mix TT6ok t_ref10_Closed (Nat.le_of_ble_eq_true rfl) ?_
  refine Eq.mpr (r_cls0 p o _) ?_
  refine ⟨p, .rfl, ⟨hw⟩, ?_⟩
  rintro y rfl
  simp only [g1, g2, g3, g4, g5, g6, g7, allN_true, cond_true, Nat.le_refl, decide_true, pl_eq]
  simp only [bor]
  cases hr : rightProg p with
  | false =>
    unfold closedF
    rw [hr]
    exact .rfl
  | true =>
  by_cases h0 : o 0 = 0
  case neg =>
    unfold closedF
    rw [hr, decide_eq_false h0]
    simp only [h0, Bool.not_true, not_false_eq_true, decide_true, Bool.or_true, cond_true]
    exact .rfl
  simp only [h0, Bool.not_true, not_true_eq_false, decide_false, Bool.or_false, cond_false]
  refine loopQ mix TT6ok (fun i : Nat => clS 5 p o i) (fun i => 1 ≤ i ∧ i ≤ 16 ∧ ∀ j, 1 ≤ j → j < i → (o j = 1 ∨ o j = 2)) (fun i => 16 - i) 1 ⟨Nat.le_refl _, by omega, fun j _ hj => by omega⟩ (.of (weakX ⟨rfl, rfl, rfl, trivial⟩ ⟨rfl, rfl, trivial⟩ (Nat.le_refl _))) ?_
  rintro i ⟨hi1, hi, hp⟩
  refine Eq.mpr (r_cls1 p o i _ _) ?_
  by_cases hlt : i < 16
  · have h1 : (i : Int) < 16 := by omega
    have w1 : IntKind.i64.wrap ((i : Int) + 1) = ((i + 1 : Nat) : Int) := wrap_i64 (by omega) (by omega)
    simp only [g1, g2, g3, g4, g5, g6, g7, allN_true, cond_true, Nat.le_refl, decide_true, pl_eq, h1, hlt, w1, Nat.beq_refl]
    rw [band]
    refine cnd2 (fun h => ?_) (fun h => ?_) <;> simp only [Bool.and_eq_true, Bool.and_eq_false_iff, decide_eq_true_eq, decide_eq_false_iff_not, Classical.not_not] at h
    · have : closedF p o = false := by
        unfold closedF
        have hf : allN (fun i => decide (i = 0) || decide (o i = 1 ∨ o i = 2)) 16 = false := allN_false hlt (by
          have : ¬ i = 0 := by omega
          simp [this, h.1, h.2])
        rw [hf]
        simp
      rw [this]
      exact .rfl
    · refine ⟨i + 1, ⟨by omega, hlt, fun j hj1 hj => ?_⟩, .of (weakX ⟨rfl, rfl, rfl, trivial⟩ ⟨rfl, rfl, trivial⟩ (Nat.le_refl _)), by omega⟩
      by_cases hji : j = i
      · subst hji; exact h
      · exact hp j hj1 (by omega)
  have h1 : ¬ (i : Int) < 16 := by omega
  simp only [h1, decide_false, cond_false]
  have ha : allN (fun i => decide (i = 0) || decide (o i = 1 ∨ o i = 2)) 16 = true := allN_iff.2 fun j hj => by
    by_cases hj0 : j = 0
    · simp [hj0]
    · simp only [decide_eq_true (hp j (by omega) (by omega)), Bool.or_true]
  have hcl : closedF p o = allN (fun n => clIns o (ix p.code n)) p.code.length := by
    unfold closedF
    rw [hr, decide_eq_true h0, ha]
    rfl
  clear hp hi hi1 hlt h1
  refine loopQ mix TT6ok (fun i : Nat => clS 6 p o i) (fun i => i ≤ p.code.length ∧ ∀ j, j < i → clIns o (ix p.code j) = true) (fun i => p.code.length - i) 0 ⟨Nat.zero_le _, fun j hj => by omega⟩ (.of (weakX ⟨rfl, rfl, rfl, trivial⟩ ⟨rfl, rfl, trivial⟩ (Nat.le_refl _))) ?_
  rintro i ⟨hi, hp⟩
  refine Eq.mpr (r_cls2 p o i _ _) ?_
  by_cases hlt : i < p.code.length
  · have h1 : (i : Int) < (p.code.length : Int) := by omega
    have w1 : IntKind.i64.wrap ((i : Int) + 1) = ((i + 1 : Nat) : Int) := wrap_i64 (by omega) (by omega)
    have hri := right_all hr hlt
    obtain ⟨⟨d1, d2⟩, ⟨a1, a2⟩, _⟩ := right_regs hri
    have bad : clIns o (ix p.code i) = false → ResLe (.bool false) (.bool (closedF p o)) := fun h => by
      rw [hcl, allN_false hlt h]; exact .rfl
    have next : clIns o (ix p.code i) = true → ∃ j, (j ≤ p.code.length ∧ ∀ k, k < j → clIns o (ix p.code k) = true) ∧ WeakE 2 (XSt.st (XSt.mk [(6, .int .i64 ((i + 1 : Nat) : Int)), (3, .ptr 1 [] 0), (2, .ptr 0 [] 0)] [(2, some (e_Ins (ix p.code i))), (1, some (e_own o)), (0, some (e_Prog p))] 3)) (clS 6 p o j).st ∧ p.code.length - j < p.code.length - i := fun h => by
      refine ⟨i + 1, ⟨hlt, fun j hj => ?_⟩, .ofL (weakT ⟨le_is rfl, le_is rfl, le_is rfl, trivial⟩ ⟨rfl, rfl, trivial⟩ (Nat.le_refl _) rfl), by omega⟩
      by_cases hji : j = i
      · subst hji; exact h
      · exact hp j (by omega)
    generalize ix p.code i = x at *
    have d3 : x.d < 16 := by omega
    have d4 : x.d.toNat < 16 := by omega
    simp only [g1, g2, g3, g4, g5, g6, g7, allN_true, cond_true, Nat.le_refl, decide_true, pl_eq, h1, w1, d1, d3, d4, Nat.beq_refl]
    simp only [bor, band]
    have part2 : ∀ (Y : Prop), (!((decide (formI x.op = 4) || decide (formI x.op = 5)) && onEB o x.a)) = true → (Y = (cond (decide (formI x.op ≥ 1) && decide (formI x.op ≤ 3) && decide (x.d > 0) && decide (o x.d.toNat = 1))
        (∃ s, ArgsLe [e_Ins x] [e_Ins s] ∧ PreIs True ∧ ∀ (y : List Int), y = readsF s → ∃ (s : (Nat → Int) × List Int), ArgsLe [.tab 16 1 fun i => .int .i64 (o i), e_row 1 e_i64 y] [e_own s.1, e_row 1 e_i64 s.2] ∧ PreIs (s.2.length ≤ 1000000000 ∧ ∀ x, x ∈ s.2 → x ≤ 15) ∧ ∀ (y : Bool), y = anyEB s.1 s.2 →
          cond (decide (formI x.op ≥ 1) && decide (formI x.op ≤ 3) && decide (x.d > 0) && decide (o x.d.toNat = 1) && y) (ResLe (.bool false) (.bool (closedF p o)))
            (∃ j, (j ≤ p.code.length ∧ ∀ k, k < j → clIns o (ix p.code k) = true) ∧ WeakE 2 (XSt.st (XSt.mk [(6, .int .i64 ((i + 1 : Nat) : Int)), (3, .ptr 1 [] 0), (2, .ptr 0 [] 0)] [(2, some (e_Ins x)), (1, some (e_own o)), (0, some (e_Prog p))] 3)) (clS 6 p o j).st ∧ p.code.length - j < p.code.length - i))
        (cond (!(decide (formI x.op ≥ 1) && decide (formI x.op ≤ 3) && decide (x.d > 0) && decide (o x.d.toNat = 1)))
          (∃ j, (j ≤ p.code.length ∧ ∀ k, k < j → clIns o (ix p.code k) = true) ∧ WeakE 2 (XSt.st (XSt.mk [(6, .int .i64 ((i + 1 : Nat) : Int)), (3, .ptr 1 [] 0), (2, .ptr 0 [] 0)] [(2, some (e_Ins x)), (1, some (e_own o)), (0, some (e_Prog p))] 3)) (clS 6 p o j).st ∧ p.code.length - j < p.code.length - i) False))) → Y := fun Y hA e => by
      rw [e]
      cases hc : (decide (formI x.op ≥ 1) && decide (formI x.op ≤ 3) && decide (x.d > 0) && decide (o x.d.toNat = 1)) with
      | false =>
        simp only [cond_false, Bool.not_false, cond_true]
        exact next (by unfold clIns; rw [hA, hc]; rfl)
      | true =>
        simp only [cond_true]
        refine ⟨x, .rfl, ⟨trivial⟩, ?_⟩
        rintro y rfl
        refine ⟨(o, readsF x), .rfl, ⟨by have := reads_ok (i := x); exact ⟨show (readsF x).length ≤ 1000000000 by omega, fun z hz => (this.2 z hz).2⟩⟩, ?_⟩
        intro y hy
        replace hy : y = anyEB o (readsF x) := hy
        subst hy
        refine cnd2 (fun h => bad ?_) (fun h => next ?_)
        · unfold clIns; rw [hA, hc]; simpa using h
        · unfold clIns; rw [hA, hc]; simpa using h
    cases hf : (decide (formI x.op = 4) || decide (formI x.op = 5)) with
    | true =>
      simp only [cond_true]
      refine ⟨(o, x.a), .rfl, ⟨a2⟩, ?_⟩
      intro y hy
      replace hy : y = onEB o x.a := hy
      subst hy
      refine cnd2 (fun h => bad ?_) (fun h => ?_)
      · unfold clIns; rw [hf]
        simp only [Bool.true_and] at h ⊢
        rw [h]; rfl
      · exact part2 _ (by rw [hf]; simpa using h) rfl
    | false =>
      simp only [cond_false, Bool.not_false, cond_true]
      exact part2 _ (by rw [hf]; rfl) rfl
  · have h1 : ¬ (i : Int) < (p.code.length : Int) := by omega
    simp only [h1, decide_false, cond_false]
    rw [hcl, allN_iff.2 fun j hj => hp j (by omega)]
    exact .rfl
end Go.Proofs.Ythmlnmkbeohojaa

/- The least owner. -/
namespace Go.Proofs.Ythmlnmkbeohojaa
open Go.Ra
set_option linter.unusedVariables false
set_option linter.unusedSimpArgs false
def TT7 : Tab := mkT2 qq cl_ref10 [(65, formSp)] [] [(29, rprS), (70, redS)] []
def owS (e : List (Nat × XV)) (p : Prog) (g : Nat → Int) : XSt := ⟨e ++ [(3, .ptr 2 [] 0), (2, .ptr 1 [] 0), (1, .ptr 0 [] 0)], [(2, some (.tab 16 1 (fun i => .int .i64 (g i)))), (1, some (.tab 16 1 (fun _ => .int .i64 0))), (0, some (e_Prog p))], 3⟩
def owS2 (l : List Int) (k i n : Nat) (x : Ins) (p : Prog) (g : Nat → Int) : XSt := ⟨[(10, .int .i64 k), (9, e_row 1 e_i64 l), (6, .int .i64 i), (5, .int .i64 n), (3, .ptr 2 [] 0), (2, .ptr 1 [] 0), (1, .ptr 0 [] 0)], [(3, some (e_Ins x)), (2, some (.tab 16 1 (fun i => .int .i64 (g i)))), (1, some (.tab 16 1 (fun _ => .int .i64 0))), (0, some (e_Prog p))], 4⟩
/-- One register more on A. -/
def setO (g : Nat → Int) (k : Nat) : Nat → Int := fun j => bif Nat.beq j k then 1 else g j
def ownA (x : Ins) (g : Nat → Int) : Nat → Int := if (decide (formI x.op = 4) || decide (formI x.op = 5)) && decide (x.a > 0) then setO g x.a.toNat else g
def ownR (l : List Int) (g : Nat → Int) : Nat → Int := l.foldl (fun g n => setO g n.toNat) g
def ownDB (x : Ins) (g : Nat → Int) : Bool := decide (formI x.op ≥ 1) && decide (formI x.op ≤ 3) && decide (x.d > 0) && decide (g x.d.toNat = 1)
def ownD (x : Ins) (g : Nat → Int) : Nat → Int := if ownDB x g then ownR (readsF x) g else g
def ownI (g : Nat → Int) (x : Ins) : Nat → Int := ownD x (ownA x g)
def ownK (p : Prog) (g : Nat → Int) (i : Nat) : Nat → Int := (p.code.take i).foldl ownI g
def own0 (i : Nat) : Nat → Int := fun j => bif decide (1 ≤ j) && decide (j < i) then 2 else 0
def ownN (p : Prog) : Nat → Nat → Int
  | 0 => own0 16
  | n + 1 => ownK p (ownN p n) p.code.length
/-- The least owner. -/
def ownerF (p : Prog) : Nat → Int := if rightProg p then ownN p 17 else fun _ => 0
def onrS : List XV → Option ((XV → Prop) → Prop) := skOf (fun p : Prog => [e_Prog p]) (fun p => p.wf) (fun p => ownerF p) (fun y => e_own y)
theorem r_own0 (p : Prog) (r : XV) : (goQ Try.prog TT7 [(.cell 2 .true 16)] r (.run c_ref10_Owner) [] ⟨envX 0 [e_Prog p], [], 0⟩) = (∃ (s : Prog), ArgsLe [e_Prog p] [e_Prog s] ∧ PreIs (Prog.wf s) ∧ ∀ (y : Bool), y = rightProg s → bif !y then ResLe (.tab 16 1 fun x => .int .i64 0) r else LoopAt
 (Ok Try.prog (Tab.q TT7)) c_ref10_Owner_l1 (XSt.mk [(4, .int .i64 1), (3, .ptr 2 [] 0), (2, .ptr 1 [] 0), (1, .ptr 0 [] 0)] [(2, some (.tab 16 1 fun x => .int .i64
 0)), (1, some (.tab 16 1 fun x => .int .i64 0)), (0, some (e_Prog p))] 3) [Frm.blk 0, Frm.seq c_ref10_Owner_p4] (finQR [AR.cell 2 true 16] r)) := by kernel_rfl
theorem r_own1 (p : Prog) (g : Nat → Int) (i : Nat) (r : XV) (A : XSt → Prop) : (goQ Try.prog TT7 [(.cell 2 .true 16)] r (.run c_ref10_Owner_l1) [.lp c_ref10_Owner_l1 A, .blk 0, .seq c_ref10_Owner_p4] (owS [(4, .int .i64 i)] p g)) = (bif decide ((↑i : Int) < 16) then bif decide ((↑i : Int) < 16) then bif Nat.beq (i * 1) (i * 1) then bif decide (i < 16) then bif decide (i < 16) then A (XSt.mk
 [(4, .int .i64 (IntKind.wrap .i64 ((↑i : Int) + (1 : Int)))), (3, .ptr 2 [] 0), (2, .ptr 1 [] 0), (1, .ptr 0 [] 0)] [(2, some (.tab 16 1 fun j => .int .i64 (bif
 Nat.beq j i then (2 : Int) else g j))), (1, some (.tab 16 1 fun x => .int .i64 0)), (0, some (e_Prog p))] 3) else False else False else False else False
else LoopAt
 (Ok Try.prog (Tab.q TT7)) c_ref10_Owner_l4 (XSt.mk [(5, .int .i64 0), (3, .ptr 2 [] 0), (2, .ptr 1 [] 0), (1, .ptr 0 [] 0)] [(2, some (.tab 16 1 fun i => .int .i64
 (g i))), (1, some (.tab 16 1 fun x => .int .i64 0)), (0, some (e_Prog p))] 3) [Frm.blk 2, Frm.seq c_ref10_Owner_p3] (finQR [AR.cell 2 true 16] r)) := by kernel_rfl 

theorem r_own4 (p : Prog) (g : Nat → Int) (n : Nat) (r : XV) (A : XSt → Prop) : (goQ Try.prog TT7 [(.cell 2 .true 16)] r (.run c_ref10_Owner_l4) [.lp c_ref10_Owner_l4 A, .blk 2, .seq c_ref10_Owner_p3] (owS [(5, .int .i64 n)] p g)) = (bif decide ((↑n : Int) < 17) then LoopAt (Ok Try.prog (Tab.q TT7)) c_ref10_Owner_l3 (XSt.mk [(6, .int .i64 0), (5, .int .i64 (↑n : Int)), (3, .ptr 2 [] 0), (2,
 .ptr 1 [] 0), (1, .ptr 0 [] 0)] [(2, some (.tab 16 1 fun i => .int .i64 (g i))), (1, some (.tab 16 1 fun x => .int .i64 0)), (0, some (e_Prog p))] 3) [Frm.blk 4,
 Frm.blk 3, Frm.seq c_ref10_Owner_p2, Frm.lp c_ref10_Owner_l4 A, Frm.blk 2, Frm.seq c_ref10_Owner_p3] (finQR [AR.cell 2 true 16] r)
else ResLe (.tab 16 1 fun i =>
 .int .i64 (g i)) r) := by kernel_rfl
theorem r_own3 (p : Prog) (g : Nat → Int) (n i : Nat) (r : XV) (A B : XSt → Prop) : (goQ Try.prog TT7 [(.cell 2 .true 16)] r (.run c_ref10_Owner_l3) [.lp c_ref10_Owner_l3 A, .blk 4, .blk 3, .seq c_ref10_Owner_p2, .lp c_ref10_Owner_l4 B, .blk 2, .seq c_ref10_Owner_p3] (owS [(6, .int .i64 i), (5, .int .i64 n)] p g)) = (bif decide ((↑i : Int) < (↑(List.length (Prog.code p)) : Int)) then bif decide ((↑i : Int) < (↑(List.length (Prog.code p)) : Int)) then bif bif decide (formI
 (Ins.op (ix (Prog.code p) i)) = 4) then true else !decide (formI (Ins.op (ix (Prog.code p) i)) = 4) then bif bif bif decide (formI (Ins.op (ix (Prog.code p) i))
 = 4) then true else decide (formI (Ins.op (ix (Prog.code p) i)) = 5) then bif decide (formI (Ins.op (ix (Prog.code p) i)) = 4) then true else decide (formI (Ins.op
 (ix (Prog.code p) i)) = 5) else true then bif bif bif decide (formI (Ins.op (ix (Prog.code p) i)) = 4) then true else decide (formI (Ins.op (ix (Prog.code p) i))
 = 5) then decide (Ins.a (ix (Prog.code p) i) > 0) else false then bif decide (0 ≤ Ins.a (ix (Prog.code p) i)) then bif decide (Ins.a (ix (Prog.code p) i) < 16) then
 bif Nat.beq (Int.toNat (Ins.a (ix (Prog.code p) i)) * 1) (Int.toNat (Ins.a (ix (Prog.code p) i)) * 1) then bif decide (Int.toNat (Ins.a (ix (Prog.code p) i)) < 16)
 then bif decide (Int.toNat (Ins.a (ix (Prog.code p) i)) < 16) then bif bif decide (formI (Ins.op (ix (Prog.code p) i)) ≥ 1) then decide (formI (Ins.op (ix (Prog.code
 p) i)) ≥ 1) else true then bif bif bif decide (formI (Ins.op (ix (Prog.code p) i)) ≥ 1) then decide (formI (Ins.op (ix (Prog.code p) i)) ≤ 3) else false then bif
 decide (formI (Ins.op (ix (Prog.code p) i)) ≥ 1) then decide (formI (Ins.op (ix (Prog.code p) i)) ≤ 3) else false else true then bif bif decide (0 ≤ Ins.d (ix (Prog.code
 p) i)) then true else !bif bif decide (formI (Ins.op (ix (Prog.code p) i)) ≥ 1) then decide (formI (Ins.op (ix (Prog.code p) i)) ≤ 3) else false then decide (Ins.d
 (ix (Prog.code p) i) > 0) else false then bif bif decide (Ins.d (ix (Prog.code p) i) < 16) then true else !bif bif decide (formI (Ins.op (ix (Prog.code p) i)) ≥
 1) then decide (formI (Ins.op (ix (Prog.code p) i)) ≤ 3) else false then decide (Ins.d (ix (Prog.code p) i) > 0) else false then bif bif Nat.beq (Int.toNat (Ins.d
 (ix (Prog.code p) i)) * 1) (Int.toNat (Ins.d (ix (Prog.code p) i)) * 1) then true else !bif bif decide (formI (Ins.op (ix (Prog.code p) i)) ≥ 1) then decide (formI
 (Ins.op (ix (Prog.code p) i)) ≤ 3) else false then decide (Ins.d (ix (Prog.code p) i) > 0) else false then bif bif decide (Int.toNat (Ins.d (ix (Prog.code p) i))
 < 16) then true else !bif bif decide (formI (Ins.op (ix (Prog.code p) i)) ≥ 1) then decide (formI (Ins.op (ix (Prog.code p) i)) ≤ 3) else false then decide (Ins.d
 (ix (Prog.code p) i) > 0) else false then bif bif bif bif decide (formI (Ins.op (ix (Prog.code p) i)) ≥ 1) then decide (formI (Ins.op (ix (Prog.code p) i)) ≤ 3)
 else false then decide (Ins.d (ix (Prog.code p) i) > 0) else false then bif bif decide (formI (Ins.op (ix (Prog.code p) i)) ≥ 1) then decide (formI (Ins.op (ix (Prog.code
 p) i)) ≤ 3) else false then decide (Ins.d (ix (Prog.code p) i) > 0) else false else true then bif bif bif bif decide (formI (Ins.op (ix (Prog.code p) i)) ≥ 1) then
 decide (formI (Ins.op (ix (Prog.code p) i)) ≤ 3) else false then decide (Ins.d (ix (Prog.code p) i) > 0) else false then decide ((bif Nat.beq (Int.toNat (Ins.d (ix
 (Prog.code p) i))) (Int.toNat (Ins.a (ix (Prog.code p) i))) then (1 : Int) else g (Int.toNat (Ins.d (ix (Prog.code p) i)))) = (1 : Int)) else false then ∃ (s : Ins),
 ArgsLe [e_Ins (ix (Prog.code p) i)] [e_Ins s] ∧ PreIs True ∧ ∀ (y : List Int), y = readsF s → LoopAt (Ok Try.prog (Tab.q TT7)) c_ref10_Owner_l2 (XSt.mk [(10, .int
 .i64 0), (9, e_row 1 e_i64 y), (6, .int .i64 (↑i : Int)), (5, .int .i64 (↑n : Int)), (3, .ptr 2 [] 0), (2, .ptr 1 [] 0), (1, .ptr 0 [] 0)] [(3, some (e_Ins (ix (Prog.code
 p) i))), (2, some (.tab 16 1 fun j => .int .i64 (bif Nat.beq j (Int.toNat (Ins.a (ix (Prog.code p) i))) then (1 : Int) else g j))), (1, some (.tab 16 1 fun x =>
 .int .i64 0)), (0, some (e_Prog p))] 4) [Frm.blk 6, Frm.blk 5, Frm.seq c_ref10_Owner_p1, Frm.lp c_ref10_Owner_l3 A, Frm.blk 4, Frm.blk 3, Frm.seq c_ref10_Owner_p2,
 Frm.lp c_ref10_Owner_l4 B, Frm.blk 2, Frm.seq c_ref10_Owner_p3] (finQR [AR.cell 2 true 16] r) else A (XSt.mk [(6, .int .i64 (IntKind.wrap .i64 ((↑i : Int) + (1 :
 Int)))), (5, .int .i64 (↑n : Int)), (3, .ptr 2 [] 0), (2, .ptr 1 [] 0), (1, .ptr 0 [] 0)] [(3, some (e_Ins (ix (Prog.code p) i))), (2, some (.tab 16 1 fun j => .int
 .i64 (bif Nat.beq j (Int.toNat (Ins.a (ix (Prog.code p) i))) then (1 : Int) else g j))), (1, some (.tab 16 1 fun x => .int .i64 0)), (0, some (e_Prog p))] 4) else
 False else False else False else False else False else False else False else False else False else False else False else False else bif bif decide (formI (Ins.op
 (ix (Prog.code p) i)) ≥ 1) then decide (formI (Ins.op (ix (Prog.code p) i)) ≥ 1) else true then bif bif bif decide (formI (Ins.op (ix (Prog.code p) i)) ≥ 1) then
 decide (formI (Ins.op (ix (Prog.code p) i)) ≤ 3) else false then bif decide (formI (Ins.op (ix (Prog.code p) i)) ≥ 1) then decide (formI (Ins.op (ix (Prog.code p)
 i)) ≤ 3) else false else true then bif bif decide (0 ≤ Ins.d (ix (Prog.code p) i)) then true else !bif bif decide (formI (Ins.op (ix (Prog.code p) i)) ≥ 1) then
 decide (formI (Ins.op (ix (Prog.code p) i)) ≤ 3) else false then decide (Ins.d (ix (Prog.code p) i) > 0) else false then bif bif decide (Ins.d (ix (Prog.code p)
 i) < 16) then true else !bif bif decide (formI (Ins.op (ix (Prog.code p) i)) ≥ 1) then decide (formI (Ins.op (ix (Prog.code p) i)) ≤ 3) else false then decide (Ins.d
 (ix (Prog.code p) i) > 0) else false then bif bif Nat.beq (Int.toNat (Ins.d (ix (Prog.code p) i)) * 1) (Int.toNat (Ins.d (ix (Prog.code p) i)) * 1) then true else
 !bif bif decide (formI (Ins.op (ix (Prog.code p) i)) ≥ 1) then decide (formI (Ins.op (ix (Prog.code p) i)) ≤ 3) else false then decide (Ins.d (ix (Prog.code p) i)
 > 0) else false then bif bif decide (Int.toNat (Ins.d (ix (Prog.code p) i)) < 16) then true else !bif bif decide (formI (Ins.op (ix (Prog.code p) i)) ≥ 1) then decide
 (formI (Ins.op (ix (Prog.code p) i)) ≤ 3) else false then decide (Ins.d (ix (Prog.code p) i) > 0) else false then bif bif bif bif decide (formI (Ins.op (ix (Prog.code
 p) i)) ≥ 1) then decide (formI (Ins.op (ix (Prog.code p) i)) ≤ 3) else false then decide (Ins.d (ix (Prog.code p) i) > 0) else false then bif bif decide (formI (Ins.op
 (ix (Prog.code p) i)) ≥ 1) then decide (formI (Ins.op (ix (Prog.code p) i)) ≤ 3) else false then decide (Ins.d (ix (Prog.code p) i) > 0) else false else true then
 bif bif bif bif decide (formI (Ins.op (ix (Prog.code p) i)) ≥ 1) then decide (formI (Ins.op (ix (Prog.code p) i)) ≤ 3) else false then decide (Ins.d (ix (Prog.code
 p) i) > 0) else false then decide (g (Int.toNat (Ins.d (ix (Prog.code p) i))) = 1) else false then ∃ (s : Ins), ArgsLe [e_Ins (ix (Prog.code p) i)] [e_Ins s] ∧ PreIs
 True ∧ ∀ (y : List Int), y = readsF s → LoopAt (Ok Try.prog (Tab.q TT7)) c_ref10_Owner_l2 (XSt.mk [(10, .int .i64 0), (9, e_row 1 e_i64 y), (6, .int .i64 (↑i : Int)),
 (5, .int .i64 (↑n : Int)), (3, .ptr 2 [] 0), (2, .ptr 1 [] 0), (1, .ptr 0 [] 0)] [(3, some (e_Ins (ix (Prog.code p) i))), (2, some (.tab 16 1 fun i => .int .i64
 (g i))), (1, some (.tab 16 1 fun x => .int .i64 0)), (0, some (e_Prog p))] 4) [Frm.blk 6, Frm.blk 5, Frm.seq c_ref10_Owner_p1, Frm.lp c_ref10_Owner_l3 A, Frm.blk
 4, Frm.blk 3, Frm.seq c_ref10_Owner_p2, Frm.lp c_ref10_Owner_l4 B, Frm.blk 2, Frm.seq c_ref10_Owner_p3] (finQR [AR.cell 2 true 16] r) else A (XSt.mk [(6, .int .i64
 (IntKind.wrap .i64 ((↑i : Int) + (1 : Int)))), (5, .int .i64 (↑n : Int)), (3, .ptr 2 [] 0), (2, .ptr 1 [] 0), (1, .ptr 0 [] 0)] [(3, some (e_Ins (ix (Prog.code p)
 i))), (2, some (.tab 16 1 fun i => .int .i64 (g i))), (1, some (.tab 16 1 fun x => .int .i64 0)), (0, some (e_Prog p))] 4) else False else False else False else
 False else False else False else False else False else False else False
else B (XSt.mk [(5, .int .i64 (IntKind.wrap .i64 ((↑n : Int) + (1 : Int)))), (3, .ptr 2 []
 0), (2, .ptr 1 [] 0), (1, .ptr 0 [] 0)] [(2, some (.tab 16 1 fun i => .int .i64 (g i))), (1, some (.tab 16 1 fun x => .int .i64 0)), (0, some (e_Prog p))] 3)) :=
 by kernel_rfl
theorem r_own2 (p : Prog) (g : Nat → Int) (l : List Int) (x : Ins) (k i n : Nat) (r : XV) (A C B : XSt → Prop) : (goQ Try.prog TT7 [(.cell 2 .true 16)] r (.run c_ref10_Owner_l2) [.lp c_ref10_Owner_l2 C, .blk 6, .blk 5, .seq c_ref10_Owner_p1, .lp c_ref10_Owner_l3 A, .blk 4, .blk 3, .seq c_ref10_Owner_p2, .lp c_ref10_Owner_l4 B, .blk 2, .seq c_ref10_Owner_p3] (owS2 l k i n x p g)) = (bif decide ((↑k : Int) < (↑(List.length l) : Int)) then bif decide ((↑k : Int) < (↑(List.length l) : Int)) then bif decide (0 ≤ ix l k) then bif decide (ix l
 k < 16) then bif Nat.beq (Int.toNat (ix l k) * 1) (Int.toNat (ix l k) * 1) then bif decide (Int.toNat (ix l k) < 16) then bif decide (Int.toNat (ix l k) < 16) then
 C (XSt.mk [(10, .int .i64 (IntKind.wrap .i64 ((↑k : Int) + (1 : Int)))), (9, e_row 1 e_i64 l), (6, .int .i64 (↑i : Int)), (5, .int .i64 (↑n : Int)), (3, .ptr 2 []
 0), (2, .ptr 1 [] 0), (1, .ptr 0 [] 0)] [(3, some (e_Ins x)), (2, some (.tab 16 1 fun j => .int .i64 (bif Nat.beq j (Int.toNat (ix l k)) then (1 : Int) else g j))),
 (1, some (.tab 16 1 fun x => .int .i64 0)), (0, some (e_Prog p))] 4) else False else False else False else False else False else False
else A (XSt.mk [(6, .int .i64
 (IntKind.wrap .i64 ((↑i : Int) + (1 : Int)))), (5, .int .i64 (↑n : Int)), (3, .ptr 2 [] 0), (2, .ptr 1 [] 0), (1, .ptr 0 [] 0)] [(3, some (e_Ins x)), (2, some (.tab
 16 1 fun i => .int .i64 (g i))), (1, some (.tab 16 1 fun x => .int .i64 0)), (0, some (e_Prog p))] 4)) := by kernel_rfl
theorem TT7ok : TabOk Try.prog TT7 := mkT2_ok clok_ref10 ⟨sp_form, trivial⟩ trivial ⟨sk_rpr, sk_reads, trivial⟩ trivial
theorem ownK_step {p : Prog} {g : Nat → Int} {i : Nat} (h : i < p.code.length) : ownK p g (i + 1) = ownI (ownK p g i) (ix p.code i) := by
  unfold ownK
  rw [List.take_succ_eq_append_getElem h, List.foldl_append, ix_lt h]
  rfl
theorem ownR_step {l : List Int} {g : Nat → Int} {k : Nat} (h : k < l.length) : ownR (l.take (k + 1)) g = setO (ownR (l.take k) g) (ix l k).toNat := by
  unfold ownR
  rw [List.take_succ_eq_append_getElem h, List.foldl_append, ix_lt h]
  rfl
theorem sk_owner : SkOk Try.prog (48, onrS) := skOf_ok fun p hw => by
  have hw : p.wf := hw
  have hl := hw.1.2
  show Pure _ _ (cons [e_Prog p]) (con (e_own (ownerF p)))
  refine pureQ mix TT7ok t_ref10_Owner (Nat.le_of_ble_eq_true rfl) ?_
  refine Eq.mpr (r_own0 p _) ?_
  refine ⟨p, .rfl, ⟨hw⟩, ?_⟩
  rintro y rfl
  unfold ownerF
  cases hr : rightProg p with
  | false => exact .rfl
  | true =>
  simp only [Bool.not_true, cond_false, if_true]
  refine loopQ mix TT7ok (fun i : Nat => owS [(4, .int .i64 i)] p (own0 i)) (fun i => 1 ≤ i ∧ i ≤ 16) (fun i => 16 - i) 1 ⟨Nat.le_refl _, by omega⟩ (.of (weakX ⟨rfl, rfl, rfl, rfl, trivial⟩ ⟨congrArg some (con_tabC fun j hj => by
    show con (.int .i64 0) = con (.int .i64 (bif decide (1 ≤ j) && decide (j < 1) then 2 else 0))
    by_cases h : 1 ≤ j
    · rw [decide_eq_false (show ¬ j < 1 by omega), Bool.and_false]; rfl
    · rw [decide_eq_false h]; rfl), rfl, rfl, trivial⟩ (Nat.le_refl _))) ?_
  rintro i ⟨hi1, hi⟩
  refine Eq.mpr (r_own1 p (own0 i) i _ _) ?_
  by_cases hlt : i < 16
  · have h1 : (i : Int) < 16 := by omega
    have w1 : IntKind.i64.wrap ((i : Int) + 1) = ((i + 1 : Nat) : Int) := wrap_i64 (by omega) (by omega)
    simp only [g1, g2, g3, g4, g5, g6, g7, allN_true, cond_true, Nat.le_refl, decide_true, pl_eq, h1, hlt, w1, Nat.beq_refl]
    refine ⟨i + 1, ⟨by omega, hlt⟩, .of (weakX ⟨rfl, rfl, rfl, rfl, trivial⟩ ⟨congrArg some (con_tabC fun j hj => ?_), rfl, rfl, trivial⟩ (Nat.le_refl _)), by omega⟩
    show con (.int .i64 (bif Nat.beq j i then 2 else bif decide (1 ≤ j) && decide (j < i) then 2 else 0)) = con (.int .i64 (bif decide (1 ≤ j) && decide (j < i + 1) then 2 else 0))
    rw [beq_dec]
    congr 2
    by_cases hji : j = i
    · subst hji
      rw [decide_eq_true hi1, decide_eq_true (Nat.lt_succ_self j)]; simp
    · rw [decide_eq_false hji]
      have : decide (j < i + 1) = decide (j < i) := decide_eq_decide.2 (by omega)
      rw [this]; rfl
  have h1 : ¬ (i : Int) < 16 := by omega
  obtain rfl : i = 16 := by omega
  simp only [h1, decide_false, cond_false]
  refine loopQ mix TT7ok (fun n : Nat => owS [(5, .int .i64 n)] p (ownN p n)) (fun n => n ≤ 17) (fun n => 17 - n) 0 (Nat.zero_le _) (.of (weakX ⟨rfl, rfl, rfl, rfl, trivial⟩ ⟨rfl, rfl, rfl, trivial⟩ (Nat.le_refl _))) ?_
  intro n hn
  refine Eq.mpr (r_own4 p (ownN p n) n _ _) ?_
  by_cases hlt : n < 17
  case neg =>
    have h1 : ¬ (n : Int) < 17 := by omega
    obtain rfl : n = 17 := by omega
    simp only [h1, decide_false, cond_false]
    exact .rfl
  have h2 : (n : Int) < 17 := by omega
  simp only [h2, decide_true, cond_true]
  refine loopQ mix TT7ok (fun i : Nat => owS [(6, .int .i64 i), (5, .int .i64 n)] p (ownK p (ownN p n) i)) (fun i => i ≤ p.code.length) (fun i => p.code.length - i) 0 (Nat.zero_le _) (.of (weakX ⟨rfl, rfl, rfl, rfl, rfl, trivial⟩ ⟨rfl, rfl, rfl, trivial⟩ (Nat.le_refl _))) ?_
  intro i hi
  refine Eq.mpr (r_own3 p _ n i _ _ _) ?_
  by_cases hli : i < p.code.length
  case neg =>
    have h1 : ¬ (i : Int) < (p.code.length : Int) := by omega
    obtain rfl : i = p.code.length := by omega
    have w1 : IntKind.i64.wrap ((n : Int) + 1) = ((n + 1 : Nat) : Int) := wrap_i64 (by omega) (by omega)
    simp only [h1, decide_false, cond_false, w1]
    exact ⟨n + 1, hlt, .of (weakX ⟨rfl, rfl, rfl, rfl, trivial⟩ ⟨rfl, rfl, rfl, trivial⟩ (Nat.le_refl _)), by omega⟩
  have h3 : (i : Int) < (p.code.length : Int) := by omega
  have w1 : IntKind.i64.wrap ((i : Int) + 1) = ((i + 1 : Nat) : Int) := wrap_i64 (by omega) (by omega)
  obtain ⟨⟨d1, d2⟩, ⟨a1, a2⟩, _⟩ := right_regs (right_all hr hli)
  have st := ownK_step (g := ownN p n) hli
  have next : ∀ g, g = ownI (ownK p (ownN p n) i) (ix p.code i) → ∃ j, j ≤ p.code.length ∧ WeakE 3 (XSt.st (XSt.mk [(6, .int .i64 ((i + 1 : Nat) : Int)), (5, .int .i64 ↑n), (3, .ptr 2 [] 0), (2, .ptr 1 [] 0), (1, .ptr 0 [] 0)] [(3, some (e_Ins (ix p.code i))), (2, some (.tab 16 1 fun i => .int .i64 (g i))), (1, some (.tab 16 1 fun x => .int .i64 0)), (0, some (e_Prog p))] 4)) (owS [(6, .int .i64 j), (5, .int .i64 n)] p (ownK p (ownN p n) j)).st ∧ p.code.length - j < p.code.length - i := fun g hg => by
    refine ⟨i + 1, hli, ?_, by omega⟩
    rw [st, hg]
    exact .ofL (weakT ⟨le_is rfl, le_is rfl, le_is rfl, le_is rfl, le_is rfl, trivial⟩ ⟨rfl, rfl, rfl, trivial⟩ (Nat.le_refl _) rfl)
  generalize hx : ix p.code i = x at *
  generalize ownK p (ownN p n) i = g at *
  have d3 : x.d < 16 := by omega
  have d4 : x.d.toNat < 16 := by omega
  have a3 : x.a < 16 := by omega
  have a4 : x.a.toNat < 16 := by omega
  simp only [g1, g2, g3, g4, g5, g6, g7, allN_true, cond_true, Nat.le_refl, decide_true, pl_eq, h3, w1, d1, d3, d4, a1, a3, a4, Nat.beq_refl]
  simp only [bor, band]
  have tail : ∀ (g' : Nat → Int) (L : List Int → Prop) (E : Prop), (ownDB x g' = true → L (readsF x)) → (ownDB x g' = false → E) →
      cond (decide (formI x.op ≥ 1) && decide (formI x.op ≤ 3) && decide (x.d > 0) && decide (g' x.d.toNat = 1)) (∃ s, ArgsLe [e_Ins x] [e_Ins s] ∧ PreIs True ∧ ∀ (y : List Int), y = readsF s → L y) E := fun g' L E hL hE =>
    cnd2 (fun h => ⟨x, .rfl, ⟨trivial⟩, fun y hy => by rw [show y = readsF x from hy]; exact hL h⟩) hE
  cases hA : (decide (formI x.op = 4) || decide (formI x.op = 5)) && decide (x.a > 0) with
  | true =>
    simp only [cond_true]
    have hG : ownA x g = setO g x.a.toNat := by unfold ownA; rw [hA]; rfl
    refine tail (setO g x.a.toNat) _ _ (fun hD => ?_) (fun hD => next _ ?_)
    · refine loopQ mix TT7ok (fun k : Nat => owS2 (readsF x) k i n x p (ownR ((readsF x).take k) (setO g x.a.toNat))) (fun k => k ≤ (readsF x).length) (fun k => (readsF x).length - k) 0 (Nat.zero_le _) (.of (weakX ⟨rfl, rfl, rfl, rfl, rfl, rfl, rfl, trivial⟩ ⟨rfl, rfl, rfl, rfl, trivial⟩ (Nat.le_refl _))) ?_
      intro k hk
      refine Eq.mpr (r_own2 p _ (readsF x) x k i n _ _ _ _) ?_
      have hrd := reads_ok (i := x)
      by_cases hlk : k < (readsF x).length
      · have k1 : (k : Int) < ((readsF x).length : Int) := by omega
        have w2 : IntKind.i64.wrap ((k : Int) + 1) = ((k + 1 : Nat) : Int) := wrap_i64 (by omega) (by omega)
        have hz := hrd.2 _ (ix_mem hlk)
        have k2 : 0 ≤ ix (readsF x) k := by omega
        have k3 : ix (readsF x) k < 16 := by omega
        have k4 : (ix (readsF x) k).toNat < 16 := by omega
        simp only [g1, g2, g3, g4, g5, g6, g7, allN_true, cond_true, Nat.le_refl, decide_true, pl_eq, k1, k2, k3, k4, w2, Nat.beq_refl]
        refine ⟨k + 1, hlk, ?_, by omega⟩
        rw [ownR_step hlk]
        exact .of (weakX ⟨rfl, rfl, rfl, rfl, rfl, rfl, rfl, trivial⟩ ⟨rfl, rfl, rfl, rfl, trivial⟩ (Nat.le_refl _))
      · have k1 : ¬ (k : Int) < ((readsF x).length : Int) := by omega
        obtain rfl : k = (readsF x).length := by omega
        simp only [k1, decide_false, cond_false, w1]
        refine next _ ?_
        rw [List.take_length]
        unfold ownI ownD
        rw [hG, hD]
        rfl
    · unfold ownI ownD
      rw [hG, hD]
      rfl
  | false =>
    simp only [cond_false]
    have hG : ownA x g = g := by unfold ownA; rw [hA]; rfl
    refine tail (g) _ _ (fun hD => ?_) (fun hD => next _ ?_)
    · refine loopQ mix TT7ok (fun k : Nat => owS2 (readsF x) k i n x p (ownR ((readsF x).take k) (g))) (fun k => k ≤ (readsF x).length) (fun k => (readsF x).length - k) 0 (Nat.zero_le _) (.of (weakX ⟨rfl, rfl, rfl, rfl, rfl, rfl, rfl, trivial⟩ ⟨rfl, rfl, rfl, rfl, trivial⟩ (Nat.le_refl _))) ?_
      intro k hk
      refine Eq.mpr (r_own2 p _ (readsF x) x k i n _ _ _ _) ?_
      have hrd := reads_ok (i := x)
      by_cases hlk : k < (readsF x).length
      · have k1 : (k : Int) < ((readsF x).length : Int) := by omega
        have w2 : IntKind.i64.wrap ((k : Int) + 1) = ((k + 1 : Nat) : Int) := wrap_i64 (by omega) (by omega)
        have hz := hrd.2 _ (ix_mem hlk)
        have k2 : 0 ≤ ix (readsF x) k := by omega
        have k3 : ix (readsF x) k < 16 := by omega
        have k4 : (ix (readsF x) k).toNat < 16 := by omega
        simp only [g1, g2, g3, g4, g5, g6, g7, allN_true, cond_true, Nat.le_refl, decide_true, pl_eq, k1, k2, k3, k4, w2, Nat.beq_refl]
        refine ⟨k + 1, hlk, ?_, by omega⟩
        rw [ownR_step hlk]
        exact .of (weakX ⟨rfl, rfl, rfl, rfl, rfl, rfl, rfl, trivial⟩ ⟨rfl, rfl, rfl, rfl, trivial⟩ (Nat.le_refl _))
      · have k1 : ¬ (k : Int) < ((readsF x).length : Int) := by omega
        obtain rfl : k = (readsF x).length := by omega
        simp only [k1, decide_false, cond_false, w1]
        refine next _ ?_
        rw [List.take_length]
        unfold ownI ownD
        rw [hG, hD]
        rfl
    · unfold ownI ownD
      rw [hG, hD]
      rfl
end Go.Proofs.Ythmlnmkbeohojaa

/- The split of a program by an owner. -/
namespace Go.Proofs.Ythmlnmkbeohojaa
open Go.Ra
set_option linter.unusedVariables false
set_option linter.unusedSimpArgs false
def TT8 : Tab := mkT2 qq cl_ref10 [] [] [(67, clsS), (69, emtS)] [(68, cutM)]
/-- Blocks, of which the cells' rows are told by functions. -/
def wTab (bl : List Block) (xA xE : Nat → Bool) (eA eE nA nE : Nat → Nat) (fA fE : Nat → Nat → XV) (j : Nat) : XV := .agg 6 [.int .i64 (ix bl j).src, .int .i64 (ix bl j).dst, .int .i64 (ix bl j).next, .int .i64 (ix bl j).taken, .row (xA j) (eA j) (nA j) (fA j), .row (xE j) (eE j) (nE j) (fE j)]
def wtS (p : Prog) (o : Nat → Int) (bl : List Block) (f : Nat → XV) (i : Nat) : XSt := ⟨[(7, .int .i64 i), (6, .ptr 4 [] 0), (4, .ptr 2 [] 0), (3, .ptr 1 [] 0), (2, .ptr 0 [] 0)], [(4, some (.agg 17 [.sl 3 [] 0 0 bl.length 6, .tab 16 1 fun i => .int .i64 (o i)])), (3, some (.tab bl.length 6 f)), (2, some (.agg 17 [.row true 0 0 fun x => .unk, .tab 16 1 fun x => .int .i64 0])), (1, some (.tab 16 1 fun i => .int .i64 (o i))), (0, some (e_Prog p))], 5⟩
def wiS (p : Prog) (o : Nat → Int) (bl : List Block) (f f' : Nat → XV) (i : Nat) (m : Nat) (ca ce : List Cell) : XSt := ⟨[(9, .int .i64 m), (8, .ptr 3 [1] (i * 6)), (7, .int .i64 i), (6, .ptr 4 [] 0), (4, .ptr 2 [] 0), (3, .ptr 1 [] 0), (2, .ptr 0 [] 0)], [(6, some (.tab ce.length 9 (fun k => e_Cell (ix ce k)))), (5, some (.tab ca.length 9 (fun k => e_Cell (ix ca k)))), (4, some (.agg 17 [.sl 3 [] 0 0 bl.length 6, .tab 16 1 fun i => .int .i64 (o i)])), (3, some (.agg (bl.length * 6) [.tab i 6 f, .agg 6 [.int .i64 (ix bl i).src, .int .i64 (ix bl i).dst, .int .i64 (ix bl i).next, .int .i64 (ix bl i).taken, .sl 5 [] 0 0 ca.length 9, .sl 6 [] 0 0 ce.length 9], .tab (bl.length - i - 1) 6 f'])), (2, some (.agg 17 [.row true 0 0 fun x => .unk, .tab 16 1 fun x => .int .i64 0])), (1, some (.tab 16 1 fun i => .int .i64 (o i))), (0, some (e_Prog p))], 7⟩
/-- A's cells of the first so many instructions of a block, and E's. -/
def emA (p : Prog) (o : Nat → Int) (b : Block) (k : Nat) : List Cell := (List.range k).flatMap fun j => (emitF (ix p.code (b.src.toNat + j)) o ((b.src.toNat + j : Nat) : Int) (j : Int)).1
def emE (p : Prog) (o : Nat → Int) (b : Block) (k : Nat) : List Cell := (List.range k).flatMap fun j => (emitF (ix p.code (b.src.toNat + j)) o ((b.src.toNat + j : Nat) : Int) (j : Int)).2
def blkN (b : Block) : Nat := (b.dst - b.src).toNat
def withB (p : Prog) (o : Nat → Int) (b : Block) : Block := ⟨b.src, b.dst, b.next, b.taken, emA p o b (blkN b), emE p o b (blkN b)⟩
/-- A program's split by an owner. -/
def withF (p : Prog) (o : Nat → Int) : Split × Int := if closedF p o then (⟨(cutF p).map (withB p o), o⟩, 0) else (⟨[], fun _ => 0⟩, 1)
def splitF (p : Prog) : Split × Int := withF p (ownerF p)
def e_SplitE (y : Split × Int) : XV := .tup [e_Split y.1, .int .i64 y.2]
def witS : List XV → Option ((XV → Prop) → Prop) := skOf (fun q : Prog × (Nat → Int) => [e_Prog q.1, e_own q.2]) (fun q => q.1.wf) (fun q => withF q.1 q.2) (fun y => e_SplitE y)
def splS : List XV → Option ((XV → Prop) → Prop) := skOf (fun p : Prog => [e_Prog p]) (fun p => p.wf) (fun p => splitF p) (fun y => e_SplitE y)
/-- The blocks, of which the first so many have their cells. -/
def wF (p : Prog) (o : Nat → Int) (bl : List Block) (i : Nat) : Nat → XV := wTab bl (fun j => !decide (j < i)) (fun j => !decide (j < i)) (fun j => bif decide (j < i) then 9 else 0) (fun j => bif decide (j < i) then 9 else 0)
  (fun j => bif decide (j < i) then (emA p o (ix bl j) (blkN (ix bl j))).length else 0) (fun j => bif decide (j < i) then (emE p o (ix bl j) (blkN (ix bl j))).length else 0)
  (fun j k => bif decide (j < i) then e_Cell (ix (emA p o (ix bl j) (blkN (ix bl j))) k) else .unk) (fun j k => bif decide (j < i) then e_Cell (ix (emE p o (ix bl j) (blkN (ix bl j))) k) else .unk)
def TT9 : Tab := mkT2 qq cl_ref10 [] [] [(48, onrS), (47, witS)] []
theorem r_with0 (p : Prog) (o : Nat → Int) (r : XV) : (goQ Try.prog TT8 [(.cell 4 .true 17), (.tmp 5)] r (.run c_ref10_With) [] ⟨envX 0 [e_Prog p, e_own o], [], 0⟩) = (∃ (s : Prog × (Nat → Int)), ArgsLe [e_Prog p, .tab 16 1 fun i => .int .i64 (o i)] [e_Prog (Prod.fst s), e_own (Prod.snd s)] ∧ PreIs (Prog.wf (Prod.fst s)) ∧
 ∀ (y : Bool), y = closedF (Prod.fst s) (Prod.snd s) → bif !y then ResLe (.tup [.agg 17 [.row true 0 0 fun x => .unk, .tab 16 1 fun x => .int .i64 0], .int .i64 1])
 r else ∃ (s : Prog), ArgsLe [e_Prog p] [e_Prog s] ∧ PreIs (Prog.wf s) ∧ ∀ (y : List Block), y = cutF s → LoopAt (Ok Try.prog (Tab.q TT8)) c_ref10_With_l2 (XSt.mk
 [(7, .int .i64 0), (6, .ptr 4 [] 0), (5, .int .i64 0), (4, .ptr 2 [] 0), (3, .ptr 1 [] 0), (2, .ptr 0 [] 0)] [(4, some (.agg 17 [.sl 3 [] 0 0 (List.length y) 6,
 .tab 16 1 fun i => .int .i64 (o i)])), (3, some (.tab (List.length y) 6 fun i => e_blk0 (ix y i))), (2, some (.agg 17 [.row true 0 0 fun x => .unk, .tab 16 1 fun
 x => .int .i64 0])), (1, some (.tab 16 1 fun i => .int .i64 (o i))), (0, some (e_Prog p))] 5) [Frm.blk 0, Frm.seq c_ref10_With_p2] (finQR [AR.cell 4 true 17, AR.tmp
 5] r)) := by kernel_rfl
theorem r_with2 (p : Prog) (o : Nat → Int) (bl : List Block) (xA xE : Nat → Bool) (eA eE nA nE : Nat → Nat) (fA fE : Nat → Nat → XV) (i : Nat) (r : XV) (B : XSt → Prop) : (goQ Try.prog TT8 [(.cell 4 .true 17), (.tmp 5)] r (.run c_ref10_With_l2) [.lp c_ref10_With_l2 B, .blk 0, .seq c_ref10_With_p2] (wtS p o bl (wTab bl xA xE eA eE nA nE fA fE) i)) = (bif decide ((↑i : Int) < (↑(List.length bl) : Int)) then bif decide ((↑i : Int) < (↑(List.length bl) : Int)) then bif Nat.beq (pl (i * 6) 0) (pl (i * 6) 0) then
 bif decide (i < List.length bl) then LoopAt (Ok Try.prog (Tab.q TT8)) c_ref10_With_l1 (XSt.mk [(9, .int .i64 (Block.src (ix bl i))), (8, .ptr 3 [i] (i * 6)), (7,
 .int .i64 (↑i : Int)), (6, .ptr 4 [] 0), (4, .ptr 2 [] 0), (3, .ptr 1 [] 0), (2, .ptr 0 [] 0)] [(4, some (.agg 17 [.sl 3 [] 0 0 (List.length bl) 6, .tab 16 1 fun
 i => .int .i64 (o i)])), (3, some (.tab (List.length bl) 6 fun j => .agg 6 [.int .i64 (Block.src (ix bl j)), .int .i64 (Block.dst (ix bl j)), .int .i64 (Block.next
 (ix bl j)), .int .i64 (Block.taken (ix bl j)), .row (xA j) (eA j) (nA j) fun a => fA j a, .row (xE j) (eE j) (nE j) fun a => fE j a])), (2, some (.agg 17 [.row true
 0 0 fun x => .unk, .tab 16 1 fun x => .int .i64 0])), (1, some (.tab 16 1 fun i => .int .i64 (o i))), (0, some (e_Prog p))] 5) [Frm.blk 2, Frm.blk 1, Frm.seq c_ref10_With_p1,
 Frm.lp c_ref10_With_l2 B, Frm.blk 0, Frm.seq c_ref10_With_p2] (finQR [AR.cell 4 true 17, AR.tmp 5] r) else False else False else False
else bif decide (List.length
 bl ≤ List.length bl) then ResLe (.tup [.agg 17 [.row false 6 (List.length bl) fun i => .agg 6 [.int .i64 (Block.src (ix bl i)), .int .i64 (Block.dst (ix bl i)),
 .int .i64 (Block.next (ix bl i)), .int .i64 (Block.taken (ix bl i)), .row (xA i) (eA i) (nA i) fun a => fA i a, .row (xE i) (eE i) (nE i) fun a => fE i a], .tab
 16 1 fun i => .int .i64 (o i)], .int .i64 0]) r else False) := by kernel_rfl
theorem r_with1 (p : Prog) (o : Nat → Int) (bl : List Block) (f f' : Nat → XV) (i m : Nat) (ca ce : List Cell) (r : XV) (A B : XSt → Prop) : (goQ Try.prog TT8 [(.cell 4 .true 17), (.tmp 5)] r (.run c_ref10_With_l1) [.lp c_ref10_With_l1 A, .blk 2, .blk 1, .seq c_ref10_With_p1, .lp c_ref10_With_l2 B, .blk 0, .seq c_ref10_With_p2] (wiS p o bl f f' i m ca ce)) = (bif Nat.beq (pl (sizesX (List.take 1 [.tab i 6 fun a => f a, .agg 6 [.int .i64 (Block.src (ix bl i)), .int .i64 (Block.dst (ix bl i)), .int .i64 (Block.next
 (ix bl i)), .int .i64 (Block.taken (ix bl i)), .sl 5 [] 0 0 (List.length ca) 9, .sl 6 [] 0 0 (List.length ce) 9], .tab (List.length bl - i - 1) 6 fun a => f' a]))
 1) (pl (i * 6) 1) then bif decide ((↑m : Int) < Block.dst (ix bl i)) then bif decide ((↑m : Int) < (↑(List.length (Prog.code p)) : Int)) then bif Nat.beq (pl (sizesX
 (List.take 1 [.tab i 6 fun a => f a, .agg 6 [.int .i64 (Block.src (ix bl i)), .int .i64 (Block.dst (ix bl i)), .int .i64 (Block.next (ix bl i)), .int .i64 (Block.taken
 (ix bl i)), .sl 5 [] 0 0 (List.length ca) 9, .sl 6 [] 0 0 (List.length ce) 9], .tab (List.length bl - i - 1) 6 fun a => f' a])) 0) (pl (i * 6) 0) then ∃ (s : Ins
 × (Nat → Int) × Int × Int), ArgsLe [e_Ins (ix (Prog.code p) m), .tab 16 1 fun i => .int .i64 (o i), .int .i64 (↑m : Int), .int .i64 (IntKind.wrap .i64 ((↑m : Int)
 - Block.src (ix bl i)))] [e_Ins (Prod.fst s), e_own (Prod.fst (Prod.snd s)), .int .i64 (Prod.fst (Prod.snd (Prod.snd s))), .int .i64 (Prod.snd (Prod.snd (Prod.snd
 s)))] ∧ PreIs True ∧ ∀ (y : List Cell × List Cell), y = emitF (Prod.fst s) (Prod.fst (Prod.snd s)) (Prod.fst (Prod.snd (Prod.snd s))) (Prod.snd (Prod.snd (Prod.snd
 s))) → bif Nat.beq (pl (sizesX (List.take 1 [.tab i 6 fun a => f a, .agg 6 [.int .i64 (Block.src (ix bl i)), .int .i64 (Block.dst (ix bl i)), .int .i64 (Block.next
 (ix bl i)), .int .i64 (Block.taken (ix bl i)), .sl 5 [] 0 0 (List.length ca) 9, .sl 6 [] 0 0 (List.length ce) 9], .tab (List.length bl - i - 1) 6 fun a => f' a]))
 4) (pl (i * 6) 4) then bif decide (List.length ca ≤ List.length ca) then bif decide (pl (List.length ca) (List.length (Prod.fst y)) * 72 ≤ 140737488355328) then
 bif Nat.beq (pl (sizesX (List.take 1 [.tab i 6 fun a => f a, .agg 6 [.int .i64 (Block.src (ix bl i)), .int .i64 (Block.dst (ix bl i)), .int .i64 (Block.next (ix
 bl i)), .int .i64 (Block.taken (ix bl i)), .sl 5 [] 0 0 (List.length ca) 9, .sl 6 [] 0 0 (List.length ce) 9], .tab (List.length bl - i - 1) 6 fun a => f' a])) 4)
 (pl (i * 6) 4) then bif Nat.beq (pl (sizesX (List.take 1 (List.set [.tab i 6 fun a => f a, .agg 6 [.int .i64 (Block.src (ix bl i)), .int .i64 (Block.dst (ix bl i)),
 .int .i64 (Block.next (ix bl i)), .int .i64 (Block.taken (ix bl i)), .sl 5 [] 0 0 (List.length ca) 9, .sl 6 [] 0 0 (List.length ce) 9], .tab (List.length bl - i
 - 1) 6 fun a => f' a] 1 (.agg 6 [.int .i64 (Block.src (ix bl i)), .int .i64 (Block.dst (ix bl i)), .int .i64 (Block.next (ix bl i)), .int .i64 (Block.taken (ix bl
 i)), .sl 7 [] 0 0 (pl (List.length ca) (List.length (Prod.fst y))) 9, .sl 6 [] 0 0 (List.length ce) 9])))) 5) (pl (i * 6) 5) then bif decide (List.length ce ≤ List.length
 ce) then bif decide (pl (List.length ce) (List.length (Prod.snd y)) * 72 ≤ 140737488355328) then bif Nat.beq (pl (sizesX (List.take 1 (List.set [.tab i 6 fun a =>
 f a, .agg 6 [.int .i64 (Block.src (ix bl i)), .int .i64 (Block.dst (ix bl i)), .int .i64 (Block.next (ix bl i)), .int .i64 (Block.taken (ix bl i)), .sl 5 [] 0 0
 (List.length ca) 9, .sl 6 [] 0 0 (List.length ce) 9], .tab (List.length bl - i - 1) 6 fun a => f' a] 1 (.agg 6 [.int .i64 (Block.src (ix bl i)), .int .i64 (Block.dst
 (ix bl i)), .int .i64 (Block.next (ix bl i)), .int .i64 (Block.taken (ix bl i)), .sl 7 [] 0 0 (pl (List.length ca) (List.length (Prod.fst y))) 9, .sl 6 [] 0 0 (List.length
 ce) 9])))) 5) (pl (i * 6) 5) then A (XSt.mk [(9, .int .i64 (IntKind.wrap .i64 ((↑m : Int) + (1 : Int)))), (8, .ptr 3 [1] (i * 6)), (7, .int .i64 (↑i : Int)), (6,
 .ptr 4 [] 0), (4, .ptr 2 [] 0), (3, .ptr 1 [] 0), (2, .ptr 0 [] 0)] [(8, some (.tab (pl (List.length ce) (List.length (Prod.snd y))) 9 fun i => .agg 9 [.int .i64
 (bif decide (i < List.length ce) then Cell.kind (ix ce i) else Cell.kind (ix (Prod.snd y) (i - List.length ce))), .agg 5 [.int .i64 (bif decide (i < List.length
 ce) then Ins.op (Cell.ins (ix ce i)) else Ins.op (Cell.ins (ix (Prod.snd y) (i - List.length ce)))), .int .i64 (bif decide (i < List.length ce) then Ins.d (Cell.ins
 (ix ce i)) else Ins.d (Cell.ins (ix (Prod.snd y) (i - List.length ce)))), .int .i64 (bif decide (i < List.length ce) then Ins.a (Cell.ins (ix ce i)) else Ins.a (Cell.ins
 (ix (Prod.snd y) (i - List.length ce)))), .int .i64 (bif decide (i < List.length ce) then Ins.b (Cell.ins (ix ce i)) else Ins.b (Cell.ins (ix (Prod.snd y) (i - List.length
 ce)))), .int .i64 (bif decide (i < List.length ce) then Ins.imm (Cell.ins (ix ce i)) else Ins.imm (Cell.ins (ix (Prod.snd y) (i - List.length ce))))], .int .i64
 (bif decide (i < List.length ce) then Cell.reg (ix ce i) else Cell.reg (ix (Prod.snd y) (i - List.length ce))), .int .i64 (bif decide (i < List.length ce) then Cell.pc
 (ix ce i) else Cell.pc (ix (Prod.snd y) (i - List.length ce))), .int .i64 (bif decide (i < List.length ce) then Cell.off (ix ce i) else Cell.off (ix (Prod.snd y)
 (i - List.length ce)))])), (7, some (.tab (pl (List.length ca) (List.length (Prod.fst y))) 9 fun i => .agg 9 [.int .i64 (bif decide (i < List.length ca) then Cell.kind
 (ix ca i) else Cell.kind (ix (Prod.fst y) (i - List.length ca))), .agg 5 [.int .i64 (bif decide (i < List.length ca) then Ins.op (Cell.ins (ix ca i)) else Ins.op
 (Cell.ins (ix (Prod.fst y) (i - List.length ca)))), .int .i64 (bif decide (i < List.length ca) then Ins.d (Cell.ins (ix ca i)) else Ins.d (Cell.ins (ix (Prod.fst
 y) (i - List.length ca)))), .int .i64 (bif decide (i < List.length ca) then Ins.a (Cell.ins (ix ca i)) else Ins.a (Cell.ins (ix (Prod.fst y) (i - List.length ca)))),
 .int .i64 (bif decide (i < List.length ca) then Ins.b (Cell.ins (ix ca i)) else Ins.b (Cell.ins (ix (Prod.fst y) (i - List.length ca)))), .int .i64 (bif decide (i
 < List.length ca) then Ins.imm (Cell.ins (ix ca i)) else Ins.imm (Cell.ins (ix (Prod.fst y) (i - List.length ca))))], .int .i64 (bif decide (i < List.length ca)
 then Cell.reg (ix ca i) else Cell.reg (ix (Prod.fst y) (i - List.length ca))), .int .i64 (bif decide (i < List.length ca) then Cell.pc (ix ca i) else Cell.pc (ix
 (Prod.fst y) (i - List.length ca))), .int .i64 (bif decide (i < List.length ca) then Cell.off (ix ca i) else Cell.off (ix (Prod.fst y) (i - List.length ca)))])),
 (6, none), (5, none), (4, some (.agg 17 [.sl 3 [] 0 0 (List.length bl) 6, .tab 16 1 fun i => .int .i64 (o i)])), (3, some (.agg (List.length bl * 6) [.tab i 6 fun
 a => f a, .agg 6 [.int .i64 (Block.src (ix bl i)), .int .i64 (Block.dst (ix bl i)), .int .i64 (Block.next (ix bl i)), .int .i64 (Block.taken (ix bl i)), .sl 7 []
 0 0 (pl (List.length ca) (List.length (Prod.fst y))) 9, .sl 8 [] 0 0 (pl (List.length ce) (List.length (Prod.snd y))) 9], .tab (List.length bl - i - 1) 6 fun a =>
 f' a])), (2, some (.agg 17 [.row true 0 0 fun x => .unk, .tab 16 1 fun x => .int .i64 0])), (1, some (.tab 16 1 fun i => .int .i64 (o i))), (0, some (e_Prog p))]
 9) else False else False else False else False else False else False else False else False else False else False else B (XSt.mk [(7, .int .i64 (IntKind.wrap .i64
 ((↑i : Int) + (1 : Int)))), (6, .ptr 4 [] 0), (4, .ptr 2 [] 0), (3, .ptr 1 [] 0), (2, .ptr 0 [] 0)] [(6, some (.tab (List.length ce) 9 fun k => e_Cell (ix ce k))),
 (5, some (.tab (List.length ca) 9 fun k => e_Cell (ix ca k))), (4, some (.agg 17 [.sl 3 [] 0 0 (List.length bl) 6, .tab 16 1 fun i => .int .i64 (o i)])), (3, some
 (.agg (List.length bl * 6) [.tab i 6 fun a => f a, .agg 6 [.int .i64 (Block.src (ix bl i)), .int .i64 (Block.dst (ix bl i)), .int .i64 (Block.next (ix bl i)), .int
 .i64 (Block.taken (ix bl i)), .sl 5 [] 0 0 (List.length ca) 9, .sl 6 [] 0 0 (List.length ce) 9], .tab (List.length bl - i - 1) 6 fun a => f' a])), (2, some (.agg
 17 [.row true 0 0 fun x => .unk, .tab 16 1 fun x => .int .i64 0])), (1, some (.tab 16 1 fun i => .int .i64 (o i))), (0, some (e_Prog p))] 7)
else False) := by kernel_rfl 

theorem TT8ok : TabOk Try.prog TT8 := mkT2_ok clok_ref10 trivial trivial ⟨sk_cls, sk_emit, trivial⟩ ⟨mk_cut, trivial⟩
theorem wF_lt {p : Prog} {o : Nat → Int} {bl : List Block} {i j : Nat} (h : j < i) : con (wF p o bl i j) = con (.agg 6 [.int .i64 (ix bl j).src, .int .i64 (ix bl j).dst, .int .i64 (ix bl j).next, .int .i64 (ix bl j).taken, e_row 9 e_Cell (emA p o (ix bl j) (blkN (ix bl j))), e_row 9 e_Cell (emE p o (ix bl j) (blkN (ix bl j)))]) := by
  unfold wF wTab
  simp only [h, decide_true, cond_true, Bool.not_true]
  rfl
theorem wF_ge {p : Prog} {o : Nat → Int} {bl : List Block} {i j : Nat} (h : ¬ j < i) : con (wF p o bl i j) = con (e_blk0 (ix bl j)) := by
  unfold wF wTab
  simp only [h, decide_false, cond_false, Bool.not_false]
  rfl
theorem sent_le {i : Ins} {o : Nat → Int} : (sentF i o).length ≤ 2 := by
  unfold sentF
  have := sent_len (o := o) (l := readsF i)
  have := (reads_ok (i := i)).1
  omega
theorem emit_len {i : Ins} {o : Nat → Int} {pc off : Int} : (emitF i o pc off).1.length ≤ 4 ∧ (emitF i o pc off).2.length ≤ 4 := by
  have := sent_le (i := i) (o := o)
  unfold emitF
  repeat' split
  all_goals (simp; try omega)
theorem flat_step {α : Type} {f : Nat → List α} {k : Nat} : (List.range (k + 1)).flatMap f = (List.range k).flatMap f ++ f k := by
  rw [List.range_succ, List.flatMap_append]
  simp
theorem flat_len {α : Type} {f : Nat → List α} (hf : ∀ j, (f j).length ≤ 4) : ∀ {k : Nat}, ((List.range k).flatMap f).length ≤ 4 * k
  | 0 => by simp
  | k + 1 => by
    rw [flat_step, List.length_append]
    have := flat_len hf (k := k)
    have := hf k
    omega
theorem cut_blk {p : Prog} {i : Nat} (h : i < (cutF p).length) : 0 ≤ (ix (cutF p) i).src ∧ (ix (cutF p) i).src < (ix (cutF p) i).dst ∧ (ix (cutF p) i).dst ≤ p.code.length := by
  unfold cutF at h ⊢
  rw [cutK_len] at h
  have e : ix (cutK p (leadersF p) (leadersF p).length) i = cutB p (leadersF p) i := by
    unfold cutK
    rw [ix_map (by simpa using h), ix_lt (by simpa using h)]
    simp
  rw [e]
  have h1 := cutTo_ok h
  have h2 := (lead_ok (p := p)).1 _ (ix_mem h)
  exact ⟨h2.1, h1.2.2, h1.2.1⟩
theorem cut_len {p : Prog} : (cutF p).length ≤ 2000 := by
  unfold cutF
  rw [cutK_len]
  exact (lead_ok (p := p)).2.2
theorem sk_with : SkOk Try.prog (47, witS) := skOf_ok fun ⟨p, o⟩ hw => by
  have hw : p.wf := hw
  have hl := hw.1.2
  show Pure _ _ (cons [e_Prog p, e_own o]) (con (e_SplitE (withF p o)))
  refine pureQ mix TT8ok t_ref10_With (Nat.le_of_ble_eq_true rfl) ?_
  refine Eq.mpr (r_with0 p o _) ?_
  refine ⟨(p, o), .rfl, ⟨hw⟩, ?_⟩
  intro y hy
  replace hy : y = closedF p o := hy
  subst hy
  unfold withF
  cases hc : closedF p o with
  | false => exact ⟨lq_tup (lqs_cons (lq_agg (lqs_cons lq_lit0 (lqs_cons (.refl _) lqs_nil))) (lqs_cons (.refl _) lqs_nil))⟩
  | true =>
  have hc2 : p.code.length ≤ 2000 := by
    simp only [closedF, rightProg, Bool.and_eq_true, decide_eq_true_eq] at hc
    omega
  refine ⟨p, .rfl, ⟨hw⟩, ?_⟩
  rintro bl rfl
  have hbl := fun i => cut_blk (p := p) (i := i)
  have hbn := cut_len (p := p)
  generalize cutF p = bl at *
  refine loopQ mix TT8ok (fun i : Nat => wtS p o bl (wF p o bl i) i) (fun i => i ≤ bl.length) (fun i => bl.length - i) 0 (Nat.zero_le _) (.of (weakX ⟨rfl, rfl, rfl, rfl, rfl, trivial⟩ ⟨rfl, congrArg some (con_tabC fun j hj => (wF_ge (Nat.not_lt_zero j)).symm), rfl, rfl, rfl, trivial⟩ (Nat.le_refl _))) ?_
  intro i hi
  refine Eq.mpr (r_with2 p o bl _ _ _ _ _ _ _ _ i _ _) ?_
  by_cases hlt : i < bl.length
  case neg =>
    have h1 : ¬ (i : Int) < (bl.length : Int) := by omega
    obtain rfl : i = bl.length := by omega
    simp only [h1, decide_false, cond_false, Nat.le_refl, decide_true, cond_true]
    refine ⟨lq_tup (lqs_cons (lq_agg (lqs_cons (lq_erow (by simp) (.inl rfl) fun j hj => ?_) (lqs_cons (.refl _) lqs_nil))) (lqs_cons (.refl _) lqs_nil))⟩
    show leQ _ (con (e_Block (ix (bl.map (withB p o)) j)))
    rw [ix_map hj]
    have e := wF_lt (p := p) (o := o) (bl := bl) hj
    show leQ (con (wF p o bl bl.length j)) _
    rw [e]
    exact .refl _
  have h1 : (i : Int) < (bl.length : Int) := by omega
  obtain ⟨b1, b2, b3⟩ := hbl i hlt
  simp only [h1, hlt, decide_true, cond_true, Nat.beq_refl]
  have hb0 : blkN (ix bl i) = ((ix bl i).dst - (ix bl i).src).toNat := rfl
  refine loopQ mix TT8ok (fun k : Nat => wiS p o bl (wF p o bl i) (fun j => wF p o bl i (i + 1 + j)) i ((ix bl i).src.toNat + k) (emA p o (ix bl i) k) (emE p o (ix bl i) k)) (fun k => k ≤ blkN (ix bl i)) (fun k => blkN (ix bl i) - k) 0 (Nat.zero_le _) (weakK [(0, 0), (1, 1), (2, 2), (3, 3), (4, 4)] rfl rfl rfl rfl rfl ⟨k_is (by
      show con (.int .i64 (ix bl i).src) = con (.int .i64 (((ix bl i).src.toNat + 0 : Nat) : Int))
      rw [show (((ix bl i).src.toNat + 0 : Nat) : Int) = (ix bl i).src by omega]) rfl, .ptr rfl, k_is rfl rfl, .ptr rfl, .ptr rfl, .ptr rfl, .ptr rfl, trivial⟩
    ⟨⟨9, rfl⟩, ⟨9, rfl⟩, .agg (.cons (.sl rfl) (.cons (k_is rfl rfl) .nil)), k_split hlt (.agg (.cons (k_is rfl rfl) (.cons (k_is rfl rfl) (.cons (k_is rfl rfl) (.cons (k_is rfl rfl) (.cons ?_ (.cons ?_ .nil))))))), k_is rfl rfl, k_is rfl rfl, k_is rfl rfl, trivial⟩) ?_
  · simp only [Nat.lt_irrefl, decide_false, cond_false, Bool.not_false]
    exact k_nil rfl
  · simp only [Nat.lt_irrefl, decide_false, cond_false, Bool.not_false]
    exact k_nil rfl
  intro k hk
  have hA := flat_len (f := fun j => (emitF (ix p.code ((ix bl i).src.toNat + j)) o (((ix bl i).src.toNat + j : Nat) : Int) (j : Int)).1) (fun j => emit_len.1) (k := k)
  have hE := flat_len (f := fun j => (emitF (ix p.code ((ix bl i).src.toNat + j)) o (((ix bl i).src.toNat + j : Nat) : Int) (j : Int)).2) (fun j => emit_len.2) (k := k)
  replace hA : (emA p o (ix bl i) k).length ≤ 4 * k := hA
  replace hE : (emE p o (ix bl i) k).length ≤ 4 * k := hE
  refine Eq.mpr (r_with1 p o bl _ _ i _ _ _ _ _ _) ?_
  simp only [List.take_succ_cons, List.take_zero, List.set_cons_succ, List.set_cons_zero, sizesX, XV.size, pl_eq, Nat.add_zero, Nat.beq_refl, cond_true]
  by_cases hlk : k < blkN (ix bl i)
  case neg =>
    have h2 : ¬ (((ix bl i).src.toNat + k : Nat) : Int) < (ix bl i).dst := by omega
    obtain rfl : k = blkN (ix bl i) := by omega
    have w3 : IntKind.i64.wrap ((i : Int) + 1) = ((i + 1 : Nat) : Int) := wrap_i64 (by omega) (by omega)
    simp only [h2, decide_false, cond_false, w3]
    refine ⟨i + 1, hlt, ?_, by omega⟩
    refine WeakE.trans (τ := XSt.st ⟨[(7, .int .i64 ((i + 1 : Nat) : Int)), (6, .ptr 4 [] 0), (4, .ptr 2 [] 0), (3, .ptr 1 [] 0), (2, .ptr 0 [] 0)], [(4, some (.agg 17 [.sl 3 [] 0 0 bl.length 6, .tab 16 1 fun i => .int .i64 (o i)])), (3, some (.agg (bl.length * 6) [.tab i 6 (wF p o bl i), .agg 6 [.int .i64 (ix bl i).src, .int .i64 (ix bl i).dst, .int .i64 (ix bl i).next, .int .i64 (ix bl i).taken, e_row 9 e_Cell (emA p o (ix bl i) (blkN (ix bl i))), e_row 9 e_Cell (emE p o (ix bl i) (blkN (ix bl i)))], .tab (bl.length - i - 1) 6 (fun j => wF p o bl i (i + 1 + j))])), (2, some (.agg 17 [.row true 0 0 fun x => .unk, .tab 16 1 fun x => .int .i64 0])), (1, some (.tab 16 1 fun i => .int .i64 (o i))), (0, some (e_Prog p))], 7⟩) ?_ ?_
    · exact WeakE.frz (frz_part (L := [5, 6]) rfl rfl ⟨rfl, .same, rfl, .agg (.cons .same (.cons (.agg (.cons .same (.cons .same (.cons .same (.cons .same (.cons (fz_row rfl rfl) (.cons (fz_row rfl rfl) .nil))))))) (.cons .same .nil))), rfl, .same, rfl, .same, rfl, .same, trivial⟩)
    · exact (weakK (τ := wtS p o bl (wF p o bl (i + 1)) (i + 1)) [(0, 0), (1, 1), (2, 2), (3, 3), (4, 4)] rfl rfl rfl rfl rfl ⟨k_is rfl rfl, .ptr rfl, .ptr rfl, .ptr rfl, .ptr rfl, trivial⟩ ⟨.agg (.cons (.sl rfl) (.cons (k_is rfl rfl) .nil)), k_join (by omega) rfl rfl (k_is rfl rfl) (fun j hj => by rw [wF_lt hj, wF_lt (Nat.lt_succ_of_lt hj)]) (wF_lt (Nat.lt_succ_self i)).symm (fun j hj => by rw [wF_ge (by omega), wF_ge (by omega)]), k_is rfl rfl, k_is rfl rfl, k_is rfl rfl, trivial⟩)
  have h2 : (((ix bl i).src.toNat + k : Nat) : Int) < (ix bl i).dst := by omega
  have h3 : (((ix bl i).src.toNat + k : Nat) : Int) < (p.code.length : Int) := by omega
  have w1 : IntKind.i64.wrap ((((ix bl i).src.toNat + k : Nat) : Int) - (ix bl i).src) = (k : Int) := by rw [wrap_i64 (by omega) (by omega)]; omega
  have w2 : IntKind.i64.wrap ((((ix bl i).src.toNat + k : Nat) : Int) + 1) = (((ix bl i).src.toNat + (k + 1) : Nat) : Int) := by rw [wrap_i64 (by omega) (by omega)]; omega
  simp only [h2, h3, w1, w2, decide_true, cond_true]
  refine ⟨(ix p.code ((ix bl i).src.toNat + k), o, (((ix bl i).src.toNat + k : Nat) : Int), (k : Int)), .rfl, ⟨trivial⟩, ?_⟩
  intro y hy
  replace hy : y = emitF (ix p.code ((ix bl i).src.toNat + k)) o (((ix bl i).src.toNat + k : Nat) : Int) (k : Int) := hy
  have hy1 : y.1.length ≤ 4 ∧ y.2.length ≤ 4 := by rw [hy]; exact emit_len
  have eA : emA p o (ix bl i) (k + 1) = emA p o (ix bl i) k ++ y.1 := by rw [hy]; exact flat_step
  have eE : emE p o (ix bl i) (k + 1) = emE p o (ix bl i) k ++ y.2 := by rw [hy]; exact flat_step
  have b4 : ((emA p o (ix bl i) k).length + y.1.length) * 72 ≤ 140737488355328 := by omega
  have b5 : ((emE p o (ix bl i) k).length + y.2.length) * 72 ≤ 140737488355328 := by omega
  simp only [Nat.le_refl, b4, b5, decide_true, cond_true]
  refine ⟨k + 1, hlk, ?_, by omega⟩
  rw [eA, eE]
  generalize emA p o (ix bl i) k = ca
  generalize emE p o (ix bl i) k = ce
  refine weakK [(0, 0), (1, 1), (2, 2), (3, 3), (4, 4), (5, 7), (6, 8)] rfl rfl rfl rfl rfl ⟨k_is rfl rfl, .ptr rfl, k_is rfl rfl, .ptr rfl, .ptr rfl, .ptr rfl, .ptr rfl, trivial⟩
    ⟨k_apps rfl ?_ ?_, k_apps rfl ?_ ?_, .agg (.cons (.sl rfl) (.cons (k_is rfl rfl) .nil)), .agg (.cons (k_is rfl rfl) (.cons (.agg (.cons (k_is rfl rfl) (.cons (k_is rfl rfl) (.cons (k_is rfl rfl) (.cons (k_is rfl rfl) (.cons ?_ (.cons ?_ .nil))))))) (.cons (k_is rfl rfl) .nil))), k_is rfl rfl, k_is rfl rfl, k_is rfl rfl, trivial⟩
  · intro j hj; simp only [hj, decide_true, cond_true]; rfl
  · intro j hj
    have : ¬ ce.length + j < ce.length := by omega
    simp only [this, decide_false, cond_false, Nat.add_sub_cancel_left]; rfl
  · intro j hj; simp only [hj, decide_true, cond_true]; rfl
  · intro j hj
    have : ¬ ca.length + j < ca.length := by omega
    simp only [this, decide_false, cond_false, Nat.add_sub_cancel_left]; rfl
  · rw [List.length_append]; exact .sl rfl
  · rw [List.length_append]; exact .sl rfl
theorem TT9ok : TabOk Try.prog TT9 := mkT2_ok clok_ref10 trivial trivial ⟨sk_owner, sk_with, trivial⟩ trivial
theorem r_split (p : Prog) (r : XV) : (quietGo TT9 80 (callI TT9 80 20) 19 [e_Prog p] (fun v => ResLe v r)) = (∃ (s : Prog), ArgsLe [e_Prog p] [e_Prog s] ∧ PreIs (Prog.wf s) ∧ ∀ (y : Nat → Int), y = ownerF s → ∃ (s : Prog × (Nat → Int)), ArgsLe [e_Prog p, .tab 16 1 fun
 i => .int .i64 (y i)] [e_Prog (Prod.fst s), e_own (Prod.snd s)] ∧ PreIs (Prog.wf (Prod.fst s)) ∧ ∀ (y : Split × Int), y = withF (Prod.fst s) (Prod.snd s) → ResLe
 (.tup [e_Split (Prod.fst y), .int .i64 (Prod.snd y)]) r) := by kernel_rfl
theorem sk_split : SkOk Try.prog (19, splS) := skOf_ok fun p hw => by
  have hw : p.wf := hw
  show Pure _ _ (cons [e_Prog p]) (con (e_SplitE (splitF p)))
  refine pureR (u := 80) (k := 20) mix TT9ok ?_
  refine Eq.mpr (r_split p _) ?_
  refine ⟨p, .rfl, ⟨hw⟩, ?_⟩
  intro y hy
  replace hy : y = ownerF p := hy
  subst hy
  refine ⟨(p, ownerF p), .rfl, ⟨hw⟩, ?_⟩
  intro y hy
  replace hy : y = withF p (ownerF p) := hy
  subst hy
  exact .rfl
end Go.Proofs.Ythmlnmkbeohojaa

/- Abstract code of the functions of bytes: printed by a program from what the given translation yields. -/
namespace Go.Proofs.Ythmlnmkbeohojaa
open Go.Ra
def c_bytes_Check : AC := (.seq (.ops [⟨(.some 6), (.mv (.c (.sc (.int .i64 0)))), .none⟩]) (.seq (.ops [⟨(.some 8), (.mv (.t 1)), .none⟩, ⟨(.some 9), (.conv .i64 (.t 8)), .none⟩, ⟨(.some 7), (.mv (.t 9)), .none⟩]) (.seq (.block 0 (.seq (.ops [⟨(.some 11), (.mv (.t 0)), .none⟩, ⟨(.some 12), (.bin .geq (.t 11) (.c (.sc (.int .i64 1)))), .none⟩, ⟨(.some 13), (.mv (.t 12)), .none⟩, ⟨(.some 14), (.mv (.t 7)), (.some (13, .true))⟩, ⟨(.some 15), (.mv (.t 0)), (.some (13, .true))⟩, ⟨(.some 16), (.bin .rem (.t 14) (.t 15)), (.some (13, .true))⟩, ⟨(.some 17), (.bin .neq (.t 16) (.c (.sc (.int .i64 0)))), (.some (13, .true))⟩, ⟨(.some 18), (.pick (.t 13) (.t 17) (.c (.sc (.bool .false)))), .none⟩, ⟨(.some 10), (.mv (.t 18)), .none⟩]) (.cond (.t 10) (.seq (.ops [⟨(.some 6), (.mv (.c (.sc (.int .i64 1)))), .none⟩]) .ret) (.seq (.ops [⟨(.some 20), (.mv (.t 0)), .none⟩, ⟨(.some 21), (.bin .gtr (.t 20) (.c (.sc (.int .i64 0)))), .none⟩, ⟨(.some 22), (.mv (.t 21)), .none⟩, ⟨(.some 23), (.mv (.t 0)), (.some (22, .true))⟩, ⟨(.some 24), (.mv (.t 2)), (.some (22, .true))⟩, ⟨(.some 25), (.bin .gtr (.t 23) (.t 24)), (.some (22, .true))⟩, ⟨(.some 26), (.mv (.t 25)), (.some (22, .true))⟩, ⟨(.some 27), (.mv (.t 7)), (.some (26, .false))⟩, ⟨(.some 28), (.mv (.t 2)), (.some (26, .false))⟩, ⟨(.some 29), (.mv (.t 0)), (.some (26, .false))⟩, ⟨(.some 30), (.bin .sub (.t 28) (.t 29)), (.some (26, .false))⟩, ⟨(.some 31), (.bin .gtr (.t 27) (.t 30)), (.some (26, .false))⟩, ⟨(.some 32), (.pick (.t 26) (.c (.sc (.bool .true))) (.t 31)), (.some (22, .true))⟩, ⟨(.some 33), (.pick (.t 22) (.t 32) (.c (.sc (.bool .false)))), .none⟩, ⟨(.some 34), (.mv (.t 33)), .none⟩, ⟨(.some 35), (.mv (.t 0)), (.some (34, .false))⟩, ⟨(.some 36), (.bin .leq (.t 35) (.c (.sc (.int .i64 0)))), (.some (34, .false))⟩, ⟨(.some 37), (.mv (.t 36)), (.some (34, .false))⟩, ⟨(.some 38), (.mv (.t 7)), (.some (37, .true))⟩, ⟨(.some 39), (.mv (.t 0)), (.some (37, .true))⟩, ⟨(.some 40), (.bin .add (.t 38) (.t 39)), (.some (37, .true))⟩, ⟨(.some 41), (.mv (.t 2)), (.some (37, .true))⟩, ⟨(.some 42), (.bin .gtr (.t 40) (.t 41)), (.some (37, .true))⟩, ⟨(.some 43), (.pick (.t 37) (.t 42) (.c (.sc (.bool .false)))), (.some (34, .false))⟩, ⟨(.some 44), (.pick (.t 34) (.c (.sc (.bool .true))) (.t 43)), .none⟩, ⟨(.some 19), (.mv (.t 44)), .none⟩]) (.cond (.t 19) (.seq (.ops [⟨(.some 6), (.mv (.c (.sc (.int .i64 2)))), .none⟩]) .ret) .skip))))) (.seq (.ops [⟨(.some 6), (.mv (.c (.sc (.int .i64 0)))), .none⟩]) .ret))))
theorem t_bytes_Check : trF Try.prog qq 83 = some (45, [(.tmp 6)], c_bytes_Check) := by kernel_rfl
def c_bytes_Size : AC := (.seq (.ops [⟨(.some 2), (.mv (.c (.sc (.int .i64 0)))), .none⟩]) (.seq (.seq (.ops [⟨(.some 3), (.mv (.t 0)), .none⟩]) (.block 0 (.seq (.seq (.ops [⟨(.some 5), (.bin .eql (.t 3) (.c (.sc (.int .i64 26)))), .none⟩, ⟨(.some 4), (.mv (.t 5)), .none⟩]) (.cond (.t 4) .skip (.ops [⟨(.some 6), (.bin .eql (.t 3) (.c (.sc (.int .i64 31)))), .none⟩, ⟨(.some 4), (.mv (.t 6)), .none⟩]))) (.cond (.t 4) (.seq (.ops [⟨(.some 2), (.mv (.c (.sc (.int .i64 4)))), .none⟩]) .ret) (.seq (.seq (.ops [⟨(.some 8), (.bin .eql (.t 3) (.c (.sc (.int .i64 27)))), .none⟩, ⟨(.some 7), (.mv (.t 8)), .none⟩]) (.cond (.t 7) .skip (.seq (.ops [⟨(.some 9), (.bin .eql (.t 3) (.c (.sc (.int .i64 28)))), .none⟩, ⟨(.some 7), (.mv (.t 9)), .none⟩]) (.cond (.t 7) .skip (.ops [⟨(.some 10), (.bin .eql (.t 3) (.c (.sc (.int .i64 32)))), .none⟩, ⟨(.some 7), (.mv (.t 10)), .none⟩]))))) (.cond (.t 7) (.seq (.ops [⟨(.some 2), (.mv (.c (.sc (.int .i64 2)))), .none⟩]) .ret) (.seq (.seq (.ops [⟨(.some 12), (.bin .eql (.t 3) (.c (.sc (.int .i64 29)))), .none⟩, ⟨(.some 11), (.mv (.t 12)), .none⟩]) (.cond (.t 11) .skip (.seq (.ops [⟨(.some 13), (.bin .eql (.t 3) (.c (.sc (.int .i64 30)))), .none⟩, ⟨(.some 11), (.mv (.t 13)), .none⟩]) (.cond (.t 11) .skip (.ops [⟨(.some 14), (.bin .eql (.t 3) (.c (.sc (.int .i64 33)))), .none⟩, ⟨(.some 11), (.mv (.t 14)), .none⟩]))))) (.cond (.t 11) (.seq (.ops [⟨(.some 2), (.mv (.c (.sc (.int .i64 1)))), .none⟩]) .ret) .skip)))))))) (.seq (.ops [⟨(.some 2), (.mv (.c (.sc (.int .i64 0)))), .none⟩]) .ret)))
theorem t_bytes_Size : trF Try.prog qq 85 = some (15, [(.tmp 2)], c_bytes_Size) := by kernel_rfl
/-- The functions of bytes. -/
def cl_bytes : CodeL := [(83, 45, [(.tmp 6)], c_bytes_Check), (85, 15, [(.tmp 2)], c_bytes_Size)]
theorem clok_bytes : AllL (fun p => trF Try.prog qq p.1 = some p.2) cl_bytes := ⟨t_bytes_Check, t_bytes_Size, trivial⟩
end Go.Proofs.Ythmlnmkbeohojaa

/- Abstract code of the functions of state: printed by a program from what the given translation yields. -/
namespace Go.Proofs.Ythmlnmkbeohojaa
open Go.Ra
def c_state_Config : AC := (.seq (.ops [⟨(.some 1), (.box (.t 0)), .none⟩, ⟨(.some 2), (.mv (.c (.sc (.bool .false)))), .none⟩]) (.seq (.ops [⟨(.some 3), (.fadr 0 0 1 (.t 1)), .none⟩, ⟨(.some 4), (.load .false 1 (.t 3)), .none⟩, ⟨(.some 5), (.fadr 1 1 1 (.t 1)), .none⟩, ⟨(.some 6), (.load .false 1 (.t 5)), .none⟩, ⟨(.some 7), (.fadr 2 2 1 (.t 1)), .none⟩, ⟨(.some 8), (.load .false 1 (.t 7)), .none⟩, ⟨(.some 9), (.fadr 3 3 1 (.t 1)), .none⟩, ⟨(.some 10), (.load .false 1 (.t 9)), .none⟩, ⟨(.some 11), (.fadr 4 4 1 (.t 1)), .none⟩, ⟨(.some 12), (.load .false 1 (.t 11)), .none⟩, ⟨(.some 13), (.fadr 5 5 1 (.t 1)), .none⟩, ⟨(.some 14), (.load .false 1 (.t 13)), .none⟩, ⟨(.some 15), (.fadr 7 7 1 (.t 1)), .none⟩, ⟨(.some 16), (.load .false 1 (.t 15)), .none⟩, ⟨(.some 17), (.fadr 8 8 1 (.t 1)), .none⟩, ⟨(.some 18), (.load .false 1 (.t 17)), .none⟩, ⟨(.some 19), (.bsl 1 [(.t 4), (.t 6), (.t 8), (.t 10), (.t 12), (.t 14), (.t 16), (.t 18)]), .none⟩, ⟨(.some 20), (.call 23 [(.c (.sc (.int .i64 1))), (.c (.sc (.int .i64 64))), (.t 19)]), .none⟩, ⟨(.some 21), (.mv (.t 20)), .none⟩, ⟨(.some 22), (.fadr 6 6 1 (.t 1)), (.some (21, .true))⟩, ⟨(.some 23), (.load .false 1 (.t 22)), (.some (21, .true))⟩, ⟨(.some 24), (.bsl 1 [(.t 23)]), (.some (21, .true))⟩, ⟨(.some 25), (.call 23 [(.c (.sc (.int .i64 1))), (.c (.sc (.int .i64 16))), (.t 24)]), (.some (21, .true))⟩, ⟨(.some 26), (.pick (.t 21) (.t 25) (.c (.sc (.bool .false)))), .none⟩, ⟨(.some 27), (.mv (.t 26)), .none⟩, ⟨(.some 28), (.fadr 9 9 1 (.t 1)), (.some (27, .true))⟩, ⟨(.some 29), (.load .false 1 (.t 28)), (.some (27, .true))⟩, ⟨(.some 30), (.bsl 1 [(.t 29)]), (.some (27, .true))⟩, ⟨(.some 31), (.call 23 [(.c (.sc (.int .i64 1))), (.c (.sc (.int .i64 1000))), (.t 30)]), (.some (27, .true))⟩, ⟨(.some 32), (.pick (.t 27) (.t 31) (.c (.sc (.bool .false)))), .none⟩, ⟨(.some 33), (.mv (.t 32)), .none⟩, ⟨(.some 34), (.fadr 10 10 1 (.t 1)), (.some (33, .true))⟩, ⟨(.some 35), (.load .false 1 (.t 34)), (.some (33, .true))⟩, ⟨(.some 36), (.fadr 11 11 1 (.t 1)), (.some (33, .true))⟩, ⟨(.some 37), (.load .false 1 (.t 36)), (.some (33, .true))⟩, ⟨(.some 38), (.bsl 1 [(.t 35), (.t 37)]), (.some (33, .true))⟩, ⟨(.some 39), (.call 23 [(.c (.sc (.int .i64 1))), (.c (.sc (.int .i64 50))), (.t 38)]), (.some (33, .true))⟩, ⟨(.some 40), (.pick (.t 33) (.t 39) (.c (.sc (.bool .false)))), .none⟩, ⟨(.some 2), (.mv (.t 40)), .none⟩]) .ret))
theorem t_state_Config : trF Try.prog qq 11 = some (41, [(.tmp 2)], c_state_Config) := by kernel_rfl
def c_state_First : AC := (.seq (.ops [⟨(.some 1), (.box (.t 0)), .none⟩, ⟨(.some 2), (.box (.c (.agg 92 [(.sc (.int .i64 0)), (.agg 38 [(.arr 16 1 [(.sc (.int .u32 0)), (.sc (.int .u32 0)), (.sc (.int .u32 0)), (.sc (.int .u32 0)), (.sc (.int .u32 0)), (.sc (.int .u32 0)), (.sc (.int .u32 0)), (.sc (.int .u32 0)), (.sc (.int .u32 0)), (.sc (.int .u32 0)), (.sc (.int .u32 0)), (.sc (.int .u32 0)), (.sc (.int .u32 0)), (.sc (.int .u32 0)), (.sc (.int .u32 0)), (.sc (.int .u32 0))]), (.arr 16 1 [(.sc (.int .i64 0)), (.sc (.int .i64 0)), (.sc (.int .i64 0)), (.sc (.int .i64 0)), (.sc (.int .i64 0)), (.sc (.int .i64 0)), (.sc (.int .i64 0)), (.sc (.int .i64 0)), (.sc (.int .i64 0)), (.sc (.int .i64 0)), (.sc (.int .i64 0)), (.sc (.int .i64 0)), (.sc (.int .i64 0)), (.sc (.int .i64 0)), (.sc (.int .i64 0)), (.sc (.int .i64 0))]), (.agg 3 [(.sc (.int .i64 0)), (.sc (.int .i64 0)), (.sc (.int .i64 0))]), (.sc (.int .i64 0)), (.sc (.bool .false)), (.sc (.int .i64 0))]), (.agg 38 [(.arr 16 1 [(.sc (.int .u32 0)), (.sc (.int .u32 0)), (.sc (.int .u32 0)), (.sc (.int .u32 0)), (.sc (.int .u32 0)), (.sc (.int .u32 0)), (.sc (.int .u32 0)), (.sc (.int .u32 0)), (.sc (.int .u32 0)), (.sc (.int .u32 0)), (.sc (.int .u32 0)), (.sc (.int .u32 0)), (.sc (.int .u32 0)), (.sc (.int .u32 0)), (.sc (.int .u32 0)), (.sc (.int .u32 0))]), (.arr 16 1 [(.sc (.int .i64 0)), (.sc (.int .i64 0)), (.sc (.int .i64 0)), (.sc (.int .i64 0)), (.sc (.int .i64 0)), (.sc (.int .i64 0)), (.sc (.int .i64 0)), (.sc (.int .i64 0)), (.sc (.int .i64 0)), (.sc (.int .i64 0)), (.sc (.int .i64 0)), (.sc (.int .i64 0)), (.sc (.int .i64 0)), (.sc (.int .i64 0)), (.sc (.int .i64 0)), (.sc (.int .i64 0))]), (.agg 3 [(.sc (.int .i64 0)), (.sc (.int .i64 0)), (.sc (.int .i64 0))]), (.sc (.int .i64 0)), (.sc (.bool .false)), (.sc (.int .i64 0))]), (.fro .true 0 []), (.fro .true 0 []), (.fro .true 0 []), (.fro .true 0 []), (.fro .true 0 []), (.fro .true 0 []), (.fro .true 0 []), (.fro .true 0 []), (.fro .true 0 []), (.agg 3 [(.sc (.int .i64 0)), (.sc (.int .i64 0)), (.sc (.int .i64 0))]), (.sc (.int .i64 0)), (.sc (.int .i64 0)), (.sc (.int .i64 0))]))), .none⟩]) (.seq (.seq (.ops [⟨(.some 3), (.load .true 3 (.t 1)), .none⟩, ⟨(.some 4), (.call 27 [(.t 3)]), .none⟩, ⟨(.some 5), (.un .not (.t 4)), .none⟩]) (.cond (.t 5) (.seq (.ops [⟨(.some 6), (.build 92 [(.sc (.int .i64 0)), (.agg 38 [(.arr 16 1 [(.sc (.int .u32 0)), (.sc (.int .u32 0)), (.sc (.int .u32 0)), (.sc (.int .u32 0)), (.sc (.int .u32 0)), (.sc (.int .u32 0)), (.sc (.int .u32 0)), (.sc (.int .u32 0)), (.sc (.int .u32 0)), (.sc (.int .u32 0)), (.sc (.int .u32 0)), (.sc (.int .u32 0)), (.sc (.int .u32 0)), (.sc (.int .u32 0)), (.sc (.int .u32 0)), (.sc (.int .u32 0))]), (.arr 16 1 [(.sc (.int .i64 0)), (.sc (.int .i64 0)), (.sc (.int .i64 0)), (.sc (.int .i64 0)), (.sc (.int .i64 0)), (.sc (.int .i64 0)), (.sc (.int .i64 0)), (.sc (.int .i64 0)), (.sc (.int .i64 0)), (.sc (.int .i64 0)), (.sc (.int .i64 0)), (.sc (.int .i64 0)), (.sc (.int .i64 0)), (.sc (.int .i64 0)), (.sc (.int .i64 0)), (.sc (.int .i64 0))]), (.agg 3 [(.sc (.int .i64 0)), (.sc (.int .i64 0)), (.sc (.int .i64 0))]), (.sc (.int .i64 0)), (.sc (.bool .false)), (.sc (.int .i64 0))]), (.agg 38 [(.arr 16 1 [(.sc (.int .u32 0)), (.sc (.int .u32 0)), (.sc (.int .u32 0)), (.sc (.int .u32 0)), (.sc (.int .u32 0)), (.sc (.int .u32 0)), (.sc (.int .u32 0)), (.sc (.int .u32 0)), (.sc (.int .u32 0)), (.sc (.int .u32 0)), (.sc (.int .u32 0)), (.sc (.int .u32 0)), (.sc (.int .u32 0)), (.sc (.int .u32 0)), (.sc (.int .u32 0)), (.sc (.int .u32 0))]), (.arr 16 1 [(.sc (.int .i64 0)), (.sc (.int .i64 0)), (.sc (.int .i64 0)), (.sc (.int .i64 0)), (.sc (.int .i64 0)), (.sc (.int .i64 0)), (.sc (.int .i64 0)), (.sc (.int .i64 0)), (.sc (.int .i64 0)), (.sc (.int .i64 0)), (.sc (.int .i64 0)), (.sc (.int .i64 0)), (.sc (.int .i64 0)), (.sc (.int .i64 0)), (.sc (.int .i64 0)), (.sc (.int .i64 0))]), (.agg 3 [(.sc (.int .i64 0)), (.sc (.int .i64 0)), (.sc (.int .i64 0))]), (.sc (.int .i64 0)), (.sc (.bool .false)), (.sc (.int .i64 0))]), (.fro .true 0 []), (.fro .true 0 []), (.fro .true 0 []), (.fro .true 0 []), (.fro .true 0 []), (.fro .true 0 []), (.fro .true 0 []), (.fro .true 0 []), (.fro .true 0 []), (.agg 3 [(.sc (.int .i64 0)), (.sc (.int .i64 0)), (.sc (.int .i64 0))]), (.sc (.int .i64 0)), (.sc (.int .i64 0)), (.sc (.int .i64 0))] []), .none⟩, ⟨.none, (.store 92 (.t 2) (.t 6)), .none⟩]) .ret) .skip)) (.seq (.ops [⟨(.some 7), (.load .true 3 (.t 1)), .none⟩, ⟨(.some 8), (.call 28 [(.t 7)]), .none⟩, ⟨(.some 9), (.build 92 [(.sc (.int .i64 0)), (.agg 38 [(.arr 16 1 [(.sc (.int .u32 0)), (.sc (.int .u32 0)), (.sc (.int .u32 0)), (.sc (.int .u32 0)), (.sc (.int .u32 0)), (.sc (.int .u32 0)), (.sc (.int .u32 0)), (.sc (.int .u32 0)), (.sc (.int .u32 0)), (.sc (.int .u32 0)), (.sc (.int .u32 0)), (.sc (.int .u32 0)), (.sc (.int .u32 0)), (.sc (.int .u32 0)), (.sc (.int .u32 0)), (.sc (.int .u32 0))]), (.arr 16 1 [(.sc (.int .i64 0)), (.sc (.int .i64 0)), (.sc (.int .i64 0)), (.sc (.int .i64 0)), (.sc (.int .i64 0)), (.sc (.int .i64 0)), (.sc (.int .i64 0)), (.sc (.int .i64 0)), (.sc (.int .i64 0)), (.sc (.int .i64 0)), (.sc (.int .i64 0)), (.sc (.int .i64 0)), (.sc (.int .i64 0)), (.sc (.int .i64 0)), (.sc (.int .i64 0)), (.sc (.int .i64 0))]), (.agg 3 [(.sc (.int .i64 0)), (.sc (.int .i64 0)), (.sc (.int .i64 0))]), (.sc (.int .i64 0)), (.sc (.bool .false)), (.sc (.int .i64 0))]), (.agg 38 [(.arr 16 1 [(.sc (.int .u32 0)), (.sc (.int .u32 0)), (.sc (.int .u32 0)), (.sc (.int .u32 0)), (.sc (.int .u32 0)), (.sc (.int .u32 0)), (.sc (.int .u32 0)), (.sc (.int .u32 0)), (.sc (.int .u32 0)), (.sc (.int .u32 0)), (.sc (.int .u32 0)), (.sc (.int .u32 0)), (.sc (.int .u32 0)), (.sc (.int .u32 0)), (.sc (.int .u32 0)), (.sc (.int .u32 0))]), (.arr 16 1 [(.sc (.int .i64 0)), (.sc (.int .i64 0)), (.sc (.int .i64 0)), (.sc (.int .i64 0)), (.sc (.int .i64 0)), (.sc (.int .i64 0)), (.sc (.int .i64 0)), (.sc (.int .i64 0)), (.sc (.int .i64 0)), (.sc (.int .i64 0)), (.sc (.int .i64 0)), (.sc (.int .i64 0)), (.sc (.int .i64 0)), (.sc (.int .i64 0)), (.sc (.int .i64 0)), (.sc (.int .i64 0))]), (.agg 3 [(.sc (.int .i64 0)), (.sc (.int .i64 0)), (.sc (.int .i64 0))]), (.sc (.int .i64 0)), (.sc (.bool .false)), (.sc (.int .i64 0))]), (.fro .true 0 []), (.fro .true 0 []), (.fro .true 0 []), (.fro .true 0 []), (.fro .true 0 []), (.fro .true 0 []), (.fro .true 0 []), (.fro .true 0 []), (.fro .true 0 []), (.agg 3 [(.sc (.int .i64 0)), (.sc (.int .i64 0)), (.sc (.int .i64 0))]), (.sc (.int .i64 0)), (.sc (.int .i64 0)), (.sc (.int .i64 0))] [(10, (.t 8))]), .none⟩, ⟨.none, (.store 92 (.t 2) (.t 9)), .none⟩]) .ret)))
theorem t_state_First : trF Try.prog qq 14 = some (10, [(.cell 2 .true 92)], c_state_First) := by kernel_rfl
def c_state_Right : AC := (.seq (.ops [⟨(.some 3), (.box (.t 0)), .none⟩, ⟨(.some 4), (.box (.t 1)), .none⟩, ⟨(.some 5), (.box (.t 2)), .none⟩, ⟨(.some 6), (.mv (.c (.sc (.bool .false)))), .none⟩]) (.seq (.ops [⟨(.some 7), (.load .true 12 (.t 3)), .none⟩, ⟨(.some 8), (.call 11 [(.t 7)]), .none⟩, ⟨(.some 9), (.mv (.t 8)), .none⟩, ⟨(.some 10), (.load .true 17 (.t 4)), (.some (9, .true))⟩, ⟨(.some 11), (.fadr 1 1 38 (.t 5)), (.some (9, .true))⟩, ⟨(.some 12), (.load .true 38 (.t 11)), (.some (9, .true))⟩, ⟨(.some 13), (.call 30 [(.t 10), (.t 12), (.c (.clo 31 []))]), (.some (9, .true))⟩, ⟨(.some 14), (.pick (.t 9) (.t 13) (.c (.sc (.bool .false)))), .none⟩, ⟨(.some 15), (.mv (.t 14)), .none⟩, ⟨(.some 16), (.load .true 17 (.t 4)), (.some (15, .true))⟩, ⟨(.some 17), (.fadr 2 39 38 (.t 5)), (.some (15, .true))⟩, ⟨(.some 18), (.load .true 38 (.t 17)), (.some (15, .true))⟩, ⟨(.some 19), (.call 30 [(.t 16), (.t 18), (.c (.clo 32 []))]), (.some (15, .true))⟩, ⟨(.some 20), (.pick (.t 15) (.t 19) (.c (.sc (.bool .false)))), .none⟩, ⟨(.some 21), (.mv (.t 20)), .none⟩, ⟨(.some 22), (.fadr 0 0 1 (.t 5)), (.some (21, .true))⟩, ⟨(.some 23), (.load .false 1 (.t 22)), (.some (21, .true))⟩, ⟨(.some 24), (.fadr 13 89 1 (.t 5)), (.some (21, .true))⟩, ⟨(.some 25), (.load .false 1 (.t 24)), (.some (21, .true))⟩, ⟨(.some 26), (.fadr 14 90 1 (.t 5)), (.some (21, .true))⟩, ⟨(.some 27), (.load .false 1 (.t 26)), (.some (21, .true))⟩, ⟨(.some 28), (.fadr 15 91 1 (.t 5)), (.some (21, .true))⟩, ⟨(.some 29), (.load .false 1 (.t 28)), (.some (21, .true))⟩, ⟨(.some 30), (.bsl 1 [(.t 23), (.t 25), (.t 27), (.t 29)]), (.some (21, .true))⟩, ⟨(.some 31), (.call 23 [(.c (.sc (.int .i64 0))), (.c (.sc (.int .i64 1099511627776))), (.t 30)]), (.some (21, .true))⟩, ⟨(.some 32), (.pick (.t 21) (.t 31) (.c (.sc (.bool .false)))), .none⟩, ⟨(.some 33), (.mv (.t 32)), .none⟩, ⟨(.some 34), (.load .true 12 (.t 3)), (.some (33, .true))⟩, ⟨(.some 35), (.load .true 92 (.t 5)), (.some (33, .true))⟩, ⟨(.some 36), (.call 33 [(.t 34), (.t 35)]), (.some (33, .true))⟩, ⟨(.some 37), (.pick (.t 33) (.t 36) (.c (.sc (.bool .false)))), .none⟩, ⟨(.some 38), (.mv (.t 37)), .none⟩, ⟨(.some 39), (.load .true 92 (.t 5)), (.some (38, .true))⟩, ⟨(.some 40), (.call 34 [(.t 39)]), (.some (38, .true))⟩, ⟨(.some 41), (.pick (.t 38) (.t 40) (.c (.sc (.bool .false)))), .none⟩, ⟨(.some 42), (.mv (.t 41)), .none⟩, ⟨(.some 43), (.fadr 12 86 3 (.t 5)), (.some (42, .true))⟩, ⟨(.some 44), (.load .true 3 (.t 43)), (.some (42, .true))⟩, ⟨(.some 45), (.call 35 [(.t 44)]), (.some (42, .true))⟩, ⟨(.some 46), (.pick (.t 42) (.t 45) (.c (.sc (.bool .false)))), .none⟩, ⟨(.some 6), (.mv (.t 46)), .none⟩]) .ret))
theorem t_state_Right : trF Try.prog qq 16 = some (47, [(.tmp 6)], c_state_Right) := by kernel_rfl
def c_state_Same : AC := (.seq (.ops [⟨(.some 2), (.box (.t 0)), .none⟩, ⟨(.some 3), (.box (.t 1)), .none⟩, ⟨(.some 4), (.mv (.c (.sc (.bool .false)))), .none⟩]) (.seq (.ops [⟨(.some 5), (.fadr 0 0 1 (.t 2)), .none⟩, ⟨(.some 6), (.load .false 1 (.t 5)), .none⟩, ⟨(.some 7), (.fadr 0 0 1 (.t 3)), .none⟩, ⟨(.some 8), (.load .false 1 (.t 7)), .none⟩, ⟨(.some 9), (.bin .eql (.t 6) (.t 8)), .none⟩, ⟨(.some 10), (.mv (.t 9)), .none⟩, ⟨(.some 11), (.fadr 1 1 38 (.t 2)), (.some (10, .true))⟩, ⟨(.some 12), (.load .true 38 (.t 11)), (.some (10, .true))⟩, ⟨(.some 13), (.fadr 1 1 38 (.t 3)), (.some (10, .true))⟩, ⟨(.some 14), (.load .true 38 (.t 13)), (.some (10, .true))⟩, ⟨(.some 15), (.eqs .false (.agg [(16, (.arr 16 1 .int)), (16, (.arr 16 1 .int)), (3, (.agg [(1, .int), (1, .int), (1, .int)])), (1, .int), (1, .bool), (1, .int)]) (.t 12) (.t 14)), (.some (10, .true))⟩, ⟨(.some 16), (.pick (.t 10) (.t 15) (.c (.sc (.bool .false)))), .none⟩, ⟨(.some 17), (.mv (.t 16)), .none⟩, ⟨(.some 18), (.fadr 2 39 38 (.t 2)), (.some (17, .true))⟩, ⟨(.some 19), (.load .true 38 (.t 18)), (.some (17, .true))⟩, ⟨(.some 20), (.fadr 2 39 38 (.t 3)), (.some (17, .true))⟩, ⟨(.some 21), (.load .true 38 (.t 20)), (.some (17, .true))⟩, ⟨(.some 22), (.eqs .false (.agg [(16, (.arr 16 1 .int)), (16, (.arr 16 1 .int)), (3, (.agg [(1, .int), (1, .int), (1, .int)])), (1, .int), (1, .bool), (1, .int)]) (.t 19) (.t 21)), (.some (17, .true))⟩, ⟨(.some 23), (.pick (.t 17) (.t 22) (.c (.sc (.bool .false)))), .none⟩, ⟨(.some 24), (.mv (.t 23)), .none⟩, ⟨(.some 25), (.fadr 12 86 3 (.t 2)), (.some (24, .true))⟩, ⟨(.some 26), (.load .true 3 (.t 25)), (.some (24, .true))⟩, ⟨(.some 27), (.fadr 12 86 3 (.t 3)), (.some (24, .true))⟩, ⟨(.some 28), (.load .true 3 (.t 27)), (.some (24, .true))⟩, ⟨(.some 29), (.eqs .false (.agg [(1, .int), (1, .int), (1, .int)]) (.t 26) (.t 28)), (.some (24, .true))⟩, ⟨(.some 30), (.pick (.t 24) (.t 29) (.c (.sc (.bool .false)))), .none⟩, ⟨(.some 31), (.mv (.t 30)), .none⟩, ⟨(.some 32), (.fadr 13 89 1 (.t 2)), (.some (31, .true))⟩, ⟨(.some 33), (.load .false 1 (.t 32)), (.some (31, .true))⟩, ⟨(.some 34), (.fadr 13 89 1 (.t 3)), (.some (31, .true))⟩, ⟨(.some 35), (.load .false 1 (.t 34)), (.some (31, .true))⟩, ⟨(.some 36), (.bin .eql (.t 33) (.t 35)), (.some (31, .true))⟩, ⟨(.some 37), (.pick (.t 31) (.t 36) (.c (.sc (.bool .false)))), .none⟩, ⟨(.some 38), (.mv (.t 37)), .none⟩, ⟨(.some 39), (.fadr 14 90 1 (.t 2)), (.some (38, .true))⟩, ⟨(.some 40), (.load .false 1 (.t 39)), (.some (38, .true))⟩, ⟨(.some 41), (.fadr 14 90 1 (.t 3)), (.some (38, .true))⟩, ⟨(.some 42), (.load .false 1 (.t 41)), (.some (38, .true))⟩, ⟨(.some 43), (.bin .eql (.t 40) (.t 42)), (.some (38, .true))⟩, ⟨(.some 44), (.pick (.t 38) (.t 43) (.c (.sc (.bool .false)))), .none⟩, ⟨(.some 45), (.mv (.t 44)), .none⟩, ⟨(.some 46), (.fadr 15 91 1 (.t 2)), (.some (45, .true))⟩, ⟨(.some 47), (.load .false 1 (.t 46)), (.some (45, .true))⟩, ⟨(.some 48), (.fadr 15 91 1 (.t 3)), (.some (45, .true))⟩, ⟨(.some 49), (.load .false 1 (.t 48)), (.some (45, .true))⟩, ⟨(.some 50), (.bin .eql (.t 47) (.t 49)), (.some (45, .true))⟩, ⟨(.some 51), (.pick (.t 45) (.t 50) (.c (.sc (.bool .false)))), .none⟩, ⟨(.some 52), (.mv (.t 51)), .none⟩, ⟨(.some 53), (.fadr 3 77 1 (.t 2)), (.some (52, .true))⟩, ⟨(.some 54), (.load .false 1 (.t 53)), (.some (52, .true))⟩, ⟨(.some 55), (.fadr 3 77 1 (.t 3)), (.some (52, .true))⟩, ⟨(.some 56), (.load .false 1 (.t 55)), (.some (52, .true))⟩, ⟨(.some 57), (.call 40 [(.t 54), (.t 56)]), (.some (52, .true))⟩, ⟨(.some 58), (.pick (.t 52) (.t 57) (.c (.sc (.bool .false)))), .none⟩, ⟨(.some 59), (.mv (.t 58)), .none⟩, ⟨(.some 60), (.fadr 4 78 1 (.t 2)), (.some (59, .true))⟩, ⟨(.some 61), (.load .false 1 (.t 60)), (.some (59, .true))⟩, ⟨(.some 62), (.fadr 4 78 1 (.t 3)), (.some (59, .true))⟩, ⟨(.some 63), (.load .false 1 (.t 62)), (.some (59, .true))⟩, ⟨(.some 64), (.call 41 [(.t 61), (.t 63)]), (.some (59, .true))⟩, ⟨(.some 65), (.pick (.t 59) (.t 64) (.c (.sc (.bool .false)))), .none⟩, ⟨(.some 66), (.mv (.t 65)), .none⟩, ⟨(.some 67), (.fadr 5 79 1 (.t 2)), (.some (66, .true))⟩, ⟨(.some 68), (.load .false 1 (.t 67)), (.some (66, .true))⟩, ⟨(.some 69), (.fadr 5 79 1 (.t 3)), (.some (66, .true))⟩, ⟨(.some 70), (.load .false 1 (.t 69)), (.some (66, .true))⟩, ⟨(.some 71), (.call 41 [(.t 68), (.t 70)]), (.some (66, .true))⟩, ⟨(.some 72), (.pick (.t 66) (.t 71) (.c (.sc (.bool .false)))), .none⟩, ⟨(.some 73), (.mv (.t 72)), .none⟩, ⟨(.some 74), (.fadr 6 80 1 (.t 2)), (.some (73, .true))⟩, ⟨(.some 75), (.load .false 1 (.t 74)), (.some (73, .true))⟩, ⟨(.some 76), (.fadr 6 80 1 (.t 3)), (.some (73, .true))⟩, ⟨(.some 77), (.load .false 1 (.t 76)), (.some (73, .true))⟩, ⟨(.some 78), (.call 42 [(.t 75), (.t 77)]), (.some (73, .true))⟩, ⟨(.some 79), (.pick (.t 73) (.t 78) (.c (.sc (.bool .false)))), .none⟩, ⟨(.some 80), (.mv (.t 79)), .none⟩, ⟨(.some 81), (.fadr 7 81 1 (.t 2)), (.some (80, .true))⟩, ⟨(.some 82), (.load .false 1 (.t 81)), (.some (80, .true))⟩, ⟨(.some 83), (.fadr 7 81 1 (.t 3)), (.some (80, .true))⟩, ⟨(.some 84), (.load .false 1 (.t 83)), (.some (80, .true))⟩, ⟨(.some 85), (.call 42 [(.t 82), (.t 84)]), (.some (80, .true))⟩, ⟨(.some 86), (.pick (.t 80) (.t 85) (.c (.sc (.bool .false)))), .none⟩, ⟨(.some 87), (.mv (.t 86)), .none⟩, ⟨(.some 88), (.fadr 8 82 1 (.t 2)), (.some (87, .true))⟩, ⟨(.some 89), (.load .false 1 (.t 88)), (.some (87, .true))⟩, ⟨(.some 90), (.fadr 8 82 1 (.t 3)), (.some (87, .true))⟩, ⟨(.some 91), (.load .false 1 (.t 90)), (.some (87, .true))⟩, ⟨(.some 92), (.call 43 [(.t 89), (.t 91)]), (.some (87, .true))⟩, ⟨(.some 93), (.pick (.t 87) (.t 92) (.c (.sc (.bool .false)))), .none⟩, ⟨(.some 94), (.mv (.t 93)), .none⟩, ⟨(.some 95), (.fadr 9 83 1 (.t 2)), (.some (94, .true))⟩, ⟨(.some 96), (.load .false 1 (.t 95)), (.some (94, .true))⟩, ⟨(.some 97), (.fadr 9 83 1 (.t 3)), (.some (94, .true))⟩, ⟨(.some 98), (.load .false 1 (.t 97)), (.some (94, .true))⟩, ⟨(.some 99), (.call 44 [(.t 96), (.t 98)]), (.some (94, .true))⟩, ⟨(.some 100), (.pick (.t 94) (.t 99) (.c (.sc (.bool .false)))), .none⟩, ⟨(.some 101), (.mv (.t 100)), .none⟩, ⟨(.some 102), (.fadr 10 84 1 (.t 2)), (.some (101, .true))⟩, ⟨(.some 103), (.load .false 1 (.t 102)), (.some (101, .true))⟩, ⟨(.some 104), (.fadr 10 84 1 (.t 3)), (.some (101, .true))⟩, ⟨(.some 105), (.load .false 1 (.t 104)), (.some (101, .true))⟩, ⟨(.some 106), (.call 45 [(.t 103), (.t 105)]), (.some (101, .true))⟩, ⟨(.some 107), (.pick (.t 101) (.t 106) (.c (.sc (.bool .false)))), .none⟩, ⟨(.some 108), (.mv (.t 107)), .none⟩, ⟨(.some 109), (.fadr 11 85 1 (.t 2)), (.some (108, .true))⟩, ⟨(.some 110), (.load .false 1 (.t 109)), (.some (108, .true))⟩, ⟨(.some 111), (.fadr 11 85 1 (.t 3)), (.some (108, .true))⟩, ⟨(.some 112), (.load .false 1 (.t 111)), (.some (108, .true))⟩, ⟨(.some 113), (.call 46 [(.t 110), (.t 112)]), (.some (108, .true))⟩, ⟨(.some 114), (.pick (.t 108) (.t 113) (.c (.sc (.bool .false)))), .none⟩, ⟨(.some 4), (.mv (.t 114)), .none⟩]) .ret))
theorem t_state_Same : trF Try.prog qq 18 = some (115, [(.tmp 4)], c_state_Same) := by kernel_rfl
def c_state_within : AC := (.seq (.ops [⟨(.some 3), (.box (.t 0)), .none⟩, ⟨(.some 4), (.box (.t 1)), .none⟩, ⟨(.some 6), (.mv (.c (.sc (.bool .false)))), .none⟩]) (.seq (.ops [⟨(.some 7), (.mv (.t 2)), .none⟩, ⟨(.some 8), (.mkf 51 [(.t 3), (.t 4)]), .none⟩, ⟨(.some 9), (.call 50 [(.t 7), (.t 8)]), .none⟩, ⟨(.some 10), (.un .not (.t 9)), .none⟩, ⟨(.some 6), (.mv (.t 10)), .none⟩]) .ret))
theorem t_state_within : trF Try.prog qq 23 = some (11, [(.tmp 6)], c_state_within) := by kernel_rfl
def c_state_side : AC := (.seq (.ops [⟨(.some 3), (.box (.t 0)), .none⟩, ⟨(.some 4), (.box (.t 1)), .none⟩, ⟨(.some 6), (.mv (.c (.sc (.bool .false)))), .none⟩]) (.seq (.seq (.ops [⟨(.some 7), (.fadr 2 32 3 (.t 4)), .none⟩, ⟨(.some 8), (.fadr 0 0 1 (.t 7)), .none⟩, ⟨(.some 9), (.load .false 1 (.t 8)), .none⟩, ⟨(.some 10), (.bin .lss (.t 9) (.c (.sc (.int .i64 0)))), .none⟩, ⟨(.some 11), (.mv (.t 10)), .none⟩, ⟨(.some 12), (.fadr 2 32 3 (.t 4)), (.some (11, .false))⟩, ⟨(.some 13), (.fadr 0 0 1 (.t 12)), (.some (11, .false))⟩, ⟨(.some 14), (.load .false 1 (.t 13)), (.some (11, .false))⟩, ⟨(.some 15), (.fadr 0 0 1 (.t 3)), (.some (11, .false))⟩, ⟨(.some 16), (.load .false 1 (.t 15)), (.some (11, .false))⟩, ⟨(.some 17), (.len .none (.t 16)), (.some (11, .false))⟩, ⟨(.some 18), (.bin .geq (.t 14) (.t 17)), (.some (11, .false))⟩, ⟨(.some 19), (.pick (.t 11) (.c (.sc (.bool .true))) (.t 18)), .none⟩]) (.cond (.t 19) (.seq (.ops [⟨(.some 6), (.mv (.c (.sc (.bool .false)))), .none⟩]) .ret) .skip)) (.seq (.ops [⟨(.some 20), (.mv (.t 2)), .none⟩, ⟨(.some 21), (.fadr 0 0 1 (.t 3)), .none⟩, ⟨(.some 22), (.load .false 1 (.t 21)), .none⟩, ⟨(.some 23), (.fadr 2 32 3 (.t 4)), .none⟩, ⟨(.some 24), (.fadr 0 0 1 (.t 23)), .none⟩, ⟨(.some 25), (.load .false 1 (.t 24)), .none⟩, ⟨(.some 26), (.iadr .none 6 (.t 22) (.t 25)), .none⟩, ⟨(.some 27), (.load .true 6 (.t 26)), .none⟩, ⟨(.some 28), (.callv (.t 20) [(.t 27)]), .none⟩, ⟨(.some 29), (.len .none (.t 28)), .none⟩, ⟨(.some 30), (.fadr 2 32 3 (.t 4)), .none⟩, ⟨(.some 31), (.fadr 1 1 1 (.t 30)), .none⟩, ⟨(.some 32), (.load .false 1 (.t 31)), .none⟩, ⟨(.some 33), (.bsl 1 [(.t 32)]), .none⟩, ⟨(.some 34), (.call 23 [(.c (.sc (.int .i64 0))), (.t 29), (.t 33)]), .none⟩, ⟨(.some 35), (.mv (.t 34)), .none⟩, ⟨(.some 36), (.fadr 2 32 3 (.t 4)), (.some (35, .true))⟩, ⟨(.some 37), (.fadr 2 2 1 (.t 36)), (.some (35, .true))⟩, ⟨(.some 38), (.load .false 1 (.t 37)), (.some (35, .true))⟩, ⟨(.some 39), (.fadr 3 35 1 (.t 4)), (.some (35, .true))⟩, ⟨(.some 40), (.load .false 1 (.t 39)), (.some (35, .true))⟩, ⟨(.some 41), (.fadr 5 37 1 (.t 4)), (.some (35, .true))⟩, ⟨(.some 42), (.load .false 1 (.t 41)), (.some (35, .true))⟩, ⟨(.some 43), (.bsl 1 [(.t 38), (.t 40), (.t 42)]), (.some (35, .true))⟩, ⟨(.some 44), (.call 23 [(.c (.sc (.int .i64 0))), (.c (.sc (.int .i64 1099511627776))), (.t 43)]), (.some (35, .true))⟩, ⟨(.some 45), (.pick (.t 35) (.t 44) (.c (.sc (.bool .false)))), .none⟩, ⟨(.some 46), (.mv (.t 45)), .none⟩, ⟨(.some 47), (.fadr 1 16 16 (.t 4)), (.some (46, .true))⟩, ⟨(.some 48), (.aslice 16 1 (.t 47) .none .none), (.some (46, .true))⟩, ⟨(.some 49), (.call 23 [(.c (.sc (.int .i64 (-1)))), (.c (.sc (.int .i64 1099511627776))), (.t 48)]), (.some (46, .true))⟩, ⟨(.some 50), (.pick (.t 46) (.t 49) (.c (.sc (.bool .false)))), .none⟩, ⟨(.some 6), (.mv (.t 50)), .none⟩]) .ret)))
theorem t_state_side : trF Try.prog qq 30 = some (51, [(.tmp 6)], c_state_side) := by kernel_rfl
def c_state_Right_1 : AC := (.seq (.ops [⟨(.some 1), (.box (.t 0)), .none⟩, ⟨(.some 2), (.mv (.c (.fro .true 0 []))), .none⟩]) (.seq (.ops [⟨(.some 3), (.fadr 4 4 1 (.t 1)), .none⟩, ⟨(.some 4), (.load .false 1 (.t 3)), .none⟩, ⟨(.some 2), (.mv (.t 4)), .none⟩]) .ret))
theorem t_state_Right_1 : trF Try.prog qq 31 = some (5, [(.tmp 2)], c_state_Right_1) := by kernel_rfl
def c_state_Right_2 : AC := (.seq (.ops [⟨(.some 1), (.box (.t 0)), .none⟩, ⟨(.some 2), (.mv (.c (.fro .true 0 []))), .none⟩]) (.seq (.ops [⟨(.some 3), (.fadr 5 5 1 (.t 1)), .none⟩, ⟨(.some 4), (.load .false 1 (.t 3)), .none⟩, ⟨(.some 2), (.mv (.t 4)), .none⟩]) .ret))
theorem t_state_Right_2 : trF Try.prog qq 32 = some (5, [(.tmp 2)], c_state_Right_2) := by kernel_rfl
def c_state_queues : AC := (.seq (.ops [⟨(.some 2), (.box (.t 0)), .none⟩, ⟨(.some 3), (.box (.t 1)), .none⟩, ⟨(.some 4), (.mv (.c (.sc (.bool .false)))), .none⟩]) (.seq (.ops [⟨(.some 5), (.fadr 3 77 1 (.t 3)), .none⟩, ⟨(.some 6), (.load .false 1 (.t 5)), .none⟩, ⟨(.some 7), (.len .none (.t 6)), .none⟩, ⟨(.some 8), (.fadr 0 0 1 (.t 2)), .none⟩, ⟨(.some 9), (.load .false 1 (.t 8)), .none⟩, ⟨(.some 10), (.bin .leq (.t 7) (.t 9)), .none⟩, ⟨(.some 11), (.mv (.t 10)), .none⟩, ⟨(.some 12), (.fadr 4 78 1 (.t 3)), (.some (11, .true))⟩, ⟨(.some 13), (.load .false 1 (.t 12)), (.some (11, .true))⟩, ⟨(.some 14), (.len .none (.t 13)), (.some (11, .true))⟩, ⟨(.some 15), (.fadr 1 1 1 (.t 2)), (.some (11, .true))⟩, ⟨(.some 16), (.load .false 1 (.t 15)), (.some (11, .true))⟩, ⟨(.some 17), (.bin .leq (.t 14) (.t 16)), (.some (11, .true))⟩, ⟨(.some 18), (.pick (.t 11) (.t 17) (.c (.sc (.bool .false)))), .none⟩, ⟨(.some 19), (.mv (.t 18)), .none⟩, ⟨(.some 20), (.fadr 5 79 1 (.t 3)), (.some (19, .true))⟩, ⟨(.some 21), (.load .false 1 (.t 20)), (.some (19, .true))⟩, ⟨(.some 22), (.len .none (.t 21)), (.some (19, .true))⟩, ⟨(.some 23), (.fadr 2 2 1 (.t 2)), (.some (19, .true))⟩, ⟨(.some 24), (.load .false 1 (.t 23)), (.some (19, .true))⟩, ⟨(.some 25), (.bin .leq (.t 22) (.t 24)), (.some (19, .true))⟩, ⟨(.some 26), (.pick (.t 19) (.t 25) (.c (.sc (.bool .false)))), .none⟩, ⟨(.some 27), (.mv (.t 26)), .none⟩, ⟨(.some 28), (.fadr 6 80 1 (.t 3)), (.some (27, .true))⟩, ⟨(.some 29), (.load .false 1 (.t 28)), (.some (27, .true))⟩, ⟨(.some 30), (.len .none (.t 29)), (.some (27, .true))⟩, ⟨(.some 31), (.fadr 3 3 1 (.t 2)), (.some (27, .true))⟩, ⟨(.some 32), (.load .false 1 (.t 31)), (.some (27, .true))⟩, ⟨(.some 33), (.bin .leq (.t 30) (.t 32)), (.some (27, .true))⟩, ⟨(.some 34), (.pick (.t 27) (.t 33) (.c (.sc (.bool .false)))), .none⟩, ⟨(.some 35), (.mv (.t 34)), .none⟩, ⟨(.some 36), (.fadr 7 81 1 (.t 3)), (.some (35, .true))⟩, ⟨(.some 37), (.load .false 1 (.t 36)), (.some (35, .true))⟩, ⟨(.some 38), (.len .none (.t 37)), (.some (35, .true))⟩, ⟨(.some 39), (.fadr 4 4 1 (.t 2)), (.some (35, .true))⟩, ⟨(.some 40), (.load .false 1 (.t 39)), (.some (35, .true))⟩, ⟨(.some 41), (.bin .leq (.t 38) (.t 40)), (.some (35, .true))⟩, ⟨(.some 42), (.pick (.t 35) (.t 41) (.c (.sc (.bool .false)))), .none⟩, ⟨(.some 43), (.mv (.t 42)), .none⟩, ⟨(.some 44), (.fadr 8 82 1 (.t 3)), (.some (43, .true))⟩, ⟨(.some 45), (.load .false 1 (.t 44)), (.some (43, .true))⟩, ⟨(.some 46), (.len .none (.t 45)), (.some (43, .true))⟩, ⟨(.some 47), (.fadr 5 5 1 (.t 2)), (.some (43, .true))⟩, ⟨(.some 48), (.load .false 1 (.t 47)), (.some (43, .true))⟩, ⟨(.some 49), (.bin .leq (.t 46) (.t 48)), (.some (43, .true))⟩, ⟨(.some 50), (.pick (.t 43) (.t 49) (.c (.sc (.bool .false)))), .none⟩, ⟨(.some 51), (.mv (.t 50)), .none⟩, ⟨(.some 52), (.fadr 9 83 1 (.t 3)), (.some (51, .true))⟩, ⟨(.some 53), (.load .false 1 (.t 52)), (.some (51, .true))⟩, ⟨(.some 54), (.len .none (.t 53)), (.some (51, .true))⟩, ⟨(.some 55), (.fadr 7 7 1 (.t 2)), (.some (51, .true))⟩, ⟨(.some 56), (.load .false 1 (.t 55)), (.some (51, .true))⟩, ⟨(.some 57), (.bin .leq (.t 54) (.t 56)), (.some (51, .true))⟩, ⟨(.some 58), (.pick (.t 51) (.t 57) (.c (.sc (.bool .false)))), .none⟩, ⟨(.some 59), (.mv (.t 58)), .none⟩, ⟨(.some 60), (.fadr 10 84 1 (.t 3)), (.some (59, .true))⟩, ⟨(.some 61), (.load .false 1 (.t 60)), (.some (59, .true))⟩, ⟨(.some 62), (.len .none (.t 61)), (.some (59, .true))⟩, ⟨(.some 63), (.bin .leq (.t 62) (.c (.sc (.int .i64 65536)))), (.some (59, .true))⟩, ⟨(.some 64), (.pick (.t 59) (.t 63) (.c (.sc (.bool .false)))), .none⟩, ⟨(.some 4), (.mv (.t 64)), .none⟩]) .ret))
theorem t_state_queues : trF Try.prog qq 33 = some (65, [(.tmp 4)], c_state_queues) := by kernel_rfl
def c_state_stores_l1 : AC := (.seq (.ops [⟨(.some 9), (.bin .lss (.t 8) (.t 7)), .none⟩]) (.seq (.cond (.t 9) .skip (.exit 0)) (.seq (.block 1 (.seq (.ops [⟨(.some 10), (.mv (.t 8)), .none⟩, ⟨(.some 11), (.iadr .none 5 (.t 6) (.t 8)), .none⟩, ⟨(.some 12), (.load .true 5 (.t 11)), .none⟩, ⟨(.some 4), (.box (.c (.agg 5 [(.sc (.int .i64 0)), (.sc (.int .i64 0)), (.sc (.int .i64 0)), (.sc (.bool .false)), (.sc (.int .u32 0))]))), .none⟩, ⟨(.some 3), (.mv (.t 10)), .none⟩, ⟨.none, (.store 5 (.t 4) (.t 12)), .none⟩]) (.seq (.ops [⟨(.some 13), (.fadr 10 84 1 (.t 1)), .none⟩, ⟨(.some 14), (.load .false 1 (.t 13)), .none⟩, ⟨(.some 15), (.fadr 0 0 1 (.t 4)), .none⟩, ⟨(.some 16), (.load .false 1 (.t 15)), .none⟩, ⟨(.some 17), (.fadr 1 1 1 (.t 4)), .none⟩, ⟨(.some 18), (.load .false 1 (.t 17)), .none⟩, ⟨(.some 19), (.call 59 [(.t 14), (.t 16), (.t 18)]), .none⟩, ⟨(.some 20), (.un .not (.t 19)), .none⟩, ⟨(.some 21), (.mv (.t 20)), .none⟩, ⟨(.some 22), (.fadr 2 2 1 (.t 4)), (.some (21, .false))⟩, ⟨(.some 23), (.load .false 1 (.t 22)), (.some (21, .false))⟩, ⟨(.some 24), (.bsl 1 [(.t 23)]), (.some (21, .false))⟩, ⟨(.some 25), (.call 23 [(.c (.sc (.int .i64 0))), (.c (.sc (.int .i64 1099511627776))), (.t 24)]), (.some (21, .false))⟩, ⟨(.some 26), (.un .not (.t 25)), (.some (21, .false))⟩, ⟨(.some 27), (.pick (.t 21) (.c (.sc (.bool .true))) (.t 26)), .none⟩, ⟨(.some 28), (.mv (.t 27)), .none⟩, ⟨(.some 29), (.fadr 3 3 1 (.t 4)), (.some (28, .false))⟩, ⟨(.some 30), (.load .false 1 (.t 29)), (.some (28, .false))⟩, ⟨(.some 31), (.mv (.t 30)), (.some (28, .false))⟩, ⟨(.some 32), (.mv (.t 3)), (.some (31, .true))⟩, ⟨(.some 33), (.bin .gtr (.t 32) (.c (.sc (.int .i64 0)))), (.some (31, .true))⟩, ⟨(.some 34), (.pick (.t 31) (.t 33) (.c (.sc (.bool .false)))), (.some (28, .false))⟩, ⟨(.some 35), (.pick (.t 28) (.c (.sc (.bool .true))) (.t 34)), .none⟩]) (.cond (.t 35) (.seq (.ops [⟨(.some 2), (.mv (.c (.sc (.bool .false)))), .none⟩]) .ret) .skip)))) (.ops [⟨(.some 36), (.bin .add (.t 8) (.c (.sc (.int .i64 1)))), .none⟩, ⟨(.some 8), (.mv (.t 36)), .none⟩]))))
def c_state_stores_p1 : AC := (.seq (.ops [⟨(.some 37), (.fadr 9 83 1 (.t 1)), .none⟩, ⟨(.some 38), (.load .false 1 (.t 37)), .none⟩, ⟨(.some 39), (.mkf 61 [(.t 1)]), .none⟩, ⟨(.some 40), (.call 60 [(.t 38), (.t 39)]), .none⟩, ⟨(.some 41), (.un .not (.t 40)), .none⟩, ⟨(.some 42), (.mv (.t 41)), .none⟩, ⟨(.some 43), (.load .true 92 (.t 1)), (.some (42, .true))⟩, ⟨(.some 44), (.call 63 [(.t 43)]), (.some (42, .true))⟩, ⟨(.some 45), (.pick (.t 42) (.t 44) (.c (.sc (.bool .false)))), .none⟩, ⟨(.some 2), (.mv (.t 45)), .none⟩]) .ret)
def c_state_stores : AC := (.seq (.ops [⟨(.some 1), (.box (.t 0)), .none⟩, ⟨(.some 2), (.mv (.c (.sc (.bool .false)))), .none⟩]) (.seq (.seq (.ops [⟨(.some 5), (.fadr 8 82 1 (.t 1)), .none⟩, ⟨(.some 6), (.load .false 1 (.t 5)), .none⟩, ⟨(.some 7), (.len .none (.t 6)), .none⟩, ⟨(.some 8), (.mv (.c (.sc (.int .i64 0)))), .none⟩]) (.block 0 (.loop c_state_stores_l1))) c_state_stores_p1))
theorem t_state_stores : trF Try.prog qq 34 = some (46, [(.tmp 2)], c_state_stores) := by kernel_rfl
def c_state_trap : AC := (.seq (.ops [⟨(.some 1), (.box (.t 0)), .none⟩, ⟨(.some 2), (.mv (.c (.sc (.bool .false)))), .none⟩]) (.seq (.seq (.ops [⟨(.some 3), (.fadr 0 0 1 (.t 1)), .none⟩, ⟨(.some 4), (.load .false 1 (.t 3)), .none⟩, ⟨(.some 5), (.bin .eql (.t 4) (.c (.sc (.int .i64 0)))), .none⟩]) (.cond (.t 5) (.seq (.ops [⟨(.some 6), (.fadr 1 1 1 (.t 1)), .none⟩, ⟨(.some 7), (.load .false 1 (.t 6)), .none⟩, ⟨(.some 8), (.bin .eql (.t 7) (.c (.sc (.int .i64 0)))), .none⟩, ⟨(.some 9), (.mv (.t 8)), .none⟩, ⟨(.some 10), (.fadr 2 2 1 (.t 1)), (.some (9, .true))⟩, ⟨(.some 11), (.load .false 1 (.t 10)), (.some (9, .true))⟩, ⟨(.some 12), (.bin .eql (.t 11) (.c (.sc (.int .i64 0)))), (.some (9, .true))⟩, ⟨(.some 13), (.pick (.t 9) (.t 12) (.c (.sc (.bool .false)))), .none⟩, ⟨(.some 2), (.mv (.t 13)), .none⟩]) .ret) .skip)) (.seq (.ops [⟨(.some 14), (.fadr 0 0 1 (.t 1)), .none⟩, ⟨(.some 15), (.load .false 1 (.t 14)), .none⟩, ⟨(.some 16), (.bsl 1 [(.t 15)]), .none⟩, ⟨(.some 17), (.call 23 [(.c (.sc (.int .i64 1))), (.c (.sc (.int .i64 4))), (.t 16)]), .none⟩, ⟨(.some 18), (.mv (.t 17)), .none⟩, ⟨(.some 19), (.fadr 1 1 1 (.t 1)), (.some (18, .true))⟩, ⟨(.some 20), (.load .false 1 (.t 19)), (.some (18, .true))⟩, ⟨(.some 21), (.fadr 2 2 1 (.t 1)), (.some (18, .true))⟩, ⟨(.some 22), (.load .false 1 (.t 21)), (.some (18, .true))⟩, ⟨(.some 23), (.bsl 1 [(.t 20), (.t 22)]), (.some (18, .true))⟩, ⟨(.some 24), (.call 23 [(.c (.sc (.int .i64 0))), (.c (.sc (.int .i64 1099511627776))), (.t 23)]), (.some (18, .true))⟩, ⟨(.some 25), (.pick (.t 18) (.t 24) (.c (.sc (.bool .false)))), .none⟩, ⟨(.some 2), (.mv (.t 25)), .none⟩]) .ret)))
theorem t_state_trap : trF Try.prog qq 35 = some (26, [(.tmp 2)], c_state_trap) := by kernel_rfl
def c_state_within_1 : AC := (.seq (.ops [⟨(.some 4), (.mv (.c (.sc (.bool .false)))), .none⟩]) (.seq (.ops [⟨(.some 5), (.mv (.t 0)), .none⟩, ⟨(.some 6), (.load .false 1 (.t 1)), .none⟩, ⟨(.some 7), (.bin .lss (.t 5) (.t 6)), .none⟩, ⟨(.some 8), (.mv (.t 7)), .none⟩, ⟨(.some 9), (.mv (.t 0)), (.some (8, .false))⟩, ⟨(.some 10), (.load .false 1 (.t 2)), (.some (8, .false))⟩, ⟨(.some 11), (.bin .gtr (.t 9) (.t 10)), (.some (8, .false))⟩, ⟨(.some 12), (.pick (.t 8) (.c (.sc (.bool .true))) (.t 11)), .none⟩, ⟨(.some 4), (.mv (.t 12)), .none⟩]) .ret))
theorem t_state_within_1 : trF Try.prog qq 51 = some (13, [(.tmp 4)], c_state_within_1) := by kernel_rfl
def c_state_place : AC := (.seq (.ops [⟨(.some 6), (.mv (.c (.sc (.bool .false)))), .none⟩]) (.seq (.ops [⟨(.some 7), (.mv (.t 2)), .none⟩, ⟨(.some 8), (.bin .eql (.t 7) (.c (.sc (.int .i64 1)))), .none⟩, ⟨(.some 9), (.mv (.t 8)), .none⟩, ⟨(.some 10), (.mv (.t 2)), (.some (9, .false))⟩, ⟨(.some 11), (.bin .eql (.t 10) (.c (.sc (.int .i64 2)))), (.some (9, .false))⟩, ⟨(.some 12), (.pick (.t 9) (.c (.sc (.bool .true))) (.t 11)), .none⟩, ⟨(.some 13), (.mv (.t 12)), .none⟩, ⟨(.some 14), (.mv (.t 2)), (.some (13, .false))⟩, ⟨(.some 15), (.bin .eql (.t 14) (.c (.sc (.int .i64 4)))), (.some (13, .false))⟩, ⟨(.some 16), (.pick (.t 13) (.c (.sc (.bool .true))) (.t 15)), .none⟩, ⟨(.some 17), (.mv (.t 16)), .none⟩, ⟨(.some 18), (.mv (.t 1)), (.some (17, .true))⟩, ⟨(.some 19), (.bin .geq (.t 18) (.c (.sc (.int .i64 0)))), (.some (17, .true))⟩, ⟨(.some 20), (.pick (.t 17) (.t 19) (.c (.sc (.bool .false)))), .none⟩, ⟨(.some 21), (.mv (.t 20)), .none⟩, ⟨(.some 22), (.mv (.t 1)), (.some (21, .true))⟩, ⟨(.some 23), (.mv (.t 0)), (.some (21, .true))⟩, ⟨(.some 24), (.len .none (.t 23)), (.some (21, .true))⟩, ⟨(.some 25), (.bin .leq (.t 22) (.t 24)), (.some (21, .true))⟩, ⟨(.some 26), (.pick (.t 21) (.t 25) (.c (.sc (.bool .false)))), .none⟩, ⟨(.some 27), (.mv (.t 26)), .none⟩, ⟨(.some 28), (.mv (.t 2)), (.some (27, .true))⟩, ⟨(.some 29), (.mv (.t 1)), (.some (27, .true))⟩, ⟨(.some 30), (.conv .u32 (.t 29)), (.some (27, .true))⟩, ⟨(.some 31), (.mv (.t 0)), (.some (27, .true))⟩, ⟨(.some 32), (.len .none (.t 31)), (.some (27, .true))⟩, ⟨(.some 33), (.call 83 [(.t 28), (.t 30), (.t 32)]), (.some (27, .true))⟩, ⟨(.some 34), (.bin .eql (.t 33) (.c (.sc (.int .i64 0)))), (.some (27, .true))⟩, ⟨(.some 35), (.pick (.t 27) (.t 34) (.c (.sc (.bool .false)))), .none⟩, ⟨(.some 6), (.mv (.t 35)), .none⟩]) .ret))
theorem t_state_place : trF Try.prog qq 59 = some (36, [(.tmp 6)], c_state_place) := by kernel_rfl
def c_state_stores_1 : AC := (.seq (.ops [⟨(.some 2), (.box (.t 0)), .none⟩, ⟨(.some 3), (.mv (.c (.sc (.bool .false)))), .none⟩]) (.seq (.ops [⟨(.some 4), (.fadr 10 84 1 (.t 1)), .none⟩, ⟨(.some 5), (.load .false 1 (.t 4)), .none⟩, ⟨(.some 6), (.load .true 8 (.t 2)), .none⟩, ⟨(.some 7), (.call 62 [(.t 5), (.t 6)]), .none⟩, ⟨(.some 8), (.un .not (.t 7)), .none⟩, ⟨(.some 3), (.mv (.t 8)), .none⟩]) .ret))
theorem t_state_stores_1 : trF Try.prog qq 61 = some (9, [(.tmp 3)], c_state_stores_1) := by kernel_rfl
def c_state_request : AC := (.seq (.ops [⟨(.some 3), (.box (.t 1)), .none⟩, ⟨(.some 4), (.mv (.c (.sc (.bool .false)))), .none⟩]) (.seq (.ops [⟨(.some 5), (.mv (.c (.sc (.int .i64 26)))), .none⟩, ⟨(.some 6), (.mv (.c (.sc (.int .i64 30)))), .none⟩]) (.seq (.seq (.ops [⟨(.some 7), (.fadr 0 0 1 (.t 3)), .none⟩, ⟨(.some 8), (.load .false 1 (.t 7)), .none⟩]) (.cond (.t 8) (.ops [⟨(.some 5), (.mv (.c (.sc (.int .i64 31)))), .none⟩, ⟨(.some 6), (.mv (.c (.sc (.int .i64 33)))), .none⟩]) .skip)) (.seq (.ops [⟨(.some 9), (.fadr 3 3 1 (.t 3)), .none⟩, ⟨(.some 10), (.load .false 1 (.t 9)), .none⟩, ⟨(.some 11), (.fadr 1 1 1 (.t 3)), .none⟩, ⟨(.some 12), (.load .false 1 (.t 11)), .none⟩, ⟨(.some 13), (.call 85 [(.t 12)]), .none⟩, ⟨(.some 14), (.bin .eql (.t 10) (.t 13)), .none⟩, ⟨(.some 15), (.mv (.t 14)), .none⟩, ⟨(.some 16), (.mv (.t 5)), (.some (15, .true))⟩, ⟨(.some 17), (.mv (.t 6)), (.some (15, .true))⟩, ⟨(.some 18), (.fadr 1 1 1 (.t 3)), (.some (15, .true))⟩, ⟨(.some 19), (.load .false 1 (.t 18)), (.some (15, .true))⟩, ⟨(.some 20), (.bsl 1 [(.t 19)]), (.some (15, .true))⟩, ⟨(.some 21), (.call 23 [(.t 16), (.t 17), (.t 20)]), (.some (15, .true))⟩, ⟨(.some 22), (.pick (.t 15) (.t 21) (.c (.sc (.bool .false)))), .none⟩, ⟨(.some 23), (.mv (.t 22)), .none⟩, ⟨(.some 24), (.mv (.t 0)), (.some (23, .true))⟩, ⟨(.some 25), (.fadr 2 2 1 (.t 3)), (.some (23, .true))⟩, ⟨(.some 26), (.load .false 1 (.t 25)), (.some (23, .true))⟩, ⟨(.some 27), (.fadr 3 3 1 (.t 3)), (.some (23, .true))⟩, ⟨(.some 28), (.load .false 1 (.t 27)), (.some (23, .true))⟩, ⟨(.some 29), (.call 59 [(.t 24), (.t 26), (.t 28)]), (.some (23, .true))⟩, ⟨(.some 30), (.pick (.t 23) (.t 29) (.c (.sc (.bool .false)))), .none⟩, ⟨(.some 31), (.mv (.t 30)), .none⟩, ⟨(.some 32), (.fadr 5 5 1 (.t 3)), (.some (31, .true))⟩, ⟨(.some 33), (.load .false 1 (.t 32)), (.some (31, .true))⟩, ⟨(.some 34), (.bsl 1 [(.t 33)]), (.some (31, .true))⟩, ⟨(.some 35), (.call 23 [(.c (.sc (.int .i64 0))), (.c (.sc (.int .i64 1000))), (.t 34)]), (.some (31, .true))⟩, ⟨(.some 36), (.pick (.t 31) (.t 35) (.c (.sc (.bool .false)))), .none⟩, ⟨(.some 37), (.mv (.t 36)), .none⟩, ⟨(.some 38), (.fadr 6 6 1 (.t 3)), (.some (37, .true))⟩, ⟨(.some 39), (.load .false 1 (.t 38)), (.some (37, .true))⟩, ⟨(.some 40), (.bsl 1 [(.t 39)]), (.some (37, .true))⟩, ⟨(.some 41), (.call 23 [(.c (.sc (.int .i64 (-1)))), (.c (.sc (.int .i64 15))), (.t 40)]), (.some (37, .true))⟩, ⟨(.some 42), (.pick (.t 37) (.t 41) (.c (.sc (.bool .false)))), .none⟩, ⟨(.some 4), (.mv (.t 42)), .none⟩]) .ret))))
theorem t_state_request : trF Try.prog qq 62 = some (43, [(.tmp 4)], c_state_request) := by kernel_rfl
def c_state_sent_l1 : AC := (.seq (.ops [⟨(.some 10), (.bin .lss (.t 9) (.t 8)), .none⟩]) (.seq (.cond (.t 10) .skip (.exit 0)) (.seq (.block 1 (.seq (.ops [⟨(.some 11), (.iadr .none 8 (.t 7) (.t 9)), .none⟩, ⟨(.some 12), (.load .true 8 (.t 11)), .none⟩, ⟨(.some 5), (.box (.c (.agg 8 [(.sc (.bool .false)), (.sc (.int .i64 0)), (.sc (.int .i64 0)), (.sc (.int .i64 0)), (.sc (.int .u32 0)), (.sc (.int .i64 0)), (.sc (.int .i64 0)), (.sc (.int .i64 0))]))), .none⟩, ⟨.none, (.store 8 (.t 5) (.t 12)), .none⟩]) (.seq (.seq (.ops [⟨(.some 13), (.fadr 0 0 1 (.t 5)), .none⟩, ⟨(.some 14), (.load .false 1 (.t 13)), .none⟩, ⟨(.some 15), (.un .not (.t 14)), .none⟩]) (.cond (.t 15) (.exit 1) .skip)) (.seq (.ops [⟨(.some 16), (.mv (.t 3)), .none⟩, ⟨(.some 17), (.bin .add (.t 16) (.c (.sc (.int .i64 1)))), .none⟩, ⟨(.some 3), (.mv (.t 17)), .none⟩]) (.seq (.ops [⟨(.some 18), (.fadr 8 82 1 (.t 1)), .none⟩, ⟨(.some 19), (.load .false 1 (.t 18)), .none⟩, ⟨(.some 20), (.len .none (.t 19)), .none⟩, ⟨(.some 21), (.bin .eql (.t 20) (.c (.sc (.int .i64 0)))), .none⟩, ⟨(.some 22), (.mv (.t 21)), .none⟩, ⟨(.some 23), (.fadr 2 2 1 (.t 5)), (.some (22, .false))⟩, ⟨(.some 24), (.load .false 1 (.t 23)), (.some (22, .false))⟩, ⟨(.some 25), (.fadr 8 82 1 (.t 1)), (.some (22, .false))⟩, ⟨(.some 26), (.load .false 1 (.t 25)), (.some (22, .false))⟩, ⟨(.some 27), (.iadr .none 5 (.t 26) (.c (.sc (.int .i64 0)))), (.some (22, .false))⟩, ⟨(.some 28), (.fadr 0 0 1 (.t 27)), (.some (22, .false))⟩, ⟨(.some 29), (.load .false 1 (.t 28)), (.some (22, .false))⟩, ⟨(.some 30), (.bin .neq (.t 24) (.t 29)), (.some (22, .false))⟩, ⟨(.some 31), (.pick (.t 22) (.c (.sc (.bool .true))) (.t 30)), .none⟩, ⟨(.some 32), (.mv (.t 31)), .none⟩, ⟨(.some 33), (.fadr 3 3 1 (.t 5)), (.some (32, .false))⟩, ⟨(.some 34), (.load .false 1 (.t 33)), (.some (32, .false))⟩, ⟨(.some 35), (.fadr 8 82 1 (.t 1)), (.some (32, .false))⟩, ⟨(.some 36), (.load .false 1 (.t 35)), (.some (32, .false))⟩, ⟨(.some 37), (.iadr .none 5 (.t 36) (.c (.sc (.int .i64 0)))), (.some (32, .false))⟩, ⟨(.some 38), (.fadr 1 1 1 (.t 37)), (.some (32, .false))⟩, ⟨(.some 39), (.load .false 1 (.t 38)), (.some (32, .false))⟩, ⟨(.some 40), (.bin .neq (.t 34) (.t 39)), (.some (32, .false))⟩, ⟨(.some 41), (.pick (.t 32) (.c (.sc (.bool .true))) (.t 40)), .none⟩]) (.cond (.t 41) (.seq (.ops [⟨(.some 2), (.mv (.c (.sc (.bool .false)))), .none⟩]) .ret) .skip)))))) (.ops [⟨(.some 42), (.bin .add (.t 9) (.c (.sc (.int .i64 1)))), .none⟩, ⟨(.some 9), (.mv (.t 42)), .none⟩]))))
def c_state_sent_p1 : AC := (.seq (.seq (.ops [⟨(.some 43), (.fadr 8 82 1 (.t 1)), .none⟩, ⟨(.some 44), (.load .false 1 (.t 43)), .none⟩, ⟨(.some 45), (.len .none (.t 44)), .none⟩, ⟨(.some 46), (.bin .gtr (.t 45) (.c (.sc (.int .i64 0)))), .none⟩, ⟨(.some 47), (.mv (.t 46)), .none⟩, ⟨(.some 48), (.fadr 8 82 1 (.t 1)), (.some (47, .true))⟩, ⟨(.some 49), (.load .false 1 (.t 48)), (.some (47, .true))⟩, ⟨(.some 50), (.iadr .none 5 (.t 49) (.c (.sc (.int .i64 0)))), (.some (47, .true))⟩, ⟨(.some 51), (.fadr 3 3 1 (.t 50)), (.some (47, .true))⟩, ⟨(.some 52), (.load .false 1 (.t 51)), (.some (47, .true))⟩, ⟨(.some 53), (.pick (.t 47) (.t 52) (.c (.sc (.bool .false)))), .none⟩]) (.cond (.t 53) (.seq (.ops [⟨(.some 54), (.mv (.t 3)), .none⟩, ⟨(.some 55), (.bin .eql (.t 54) (.c (.sc (.int .i64 1)))), .none⟩, ⟨(.some 2), (.mv (.t 55)), .none⟩]) .ret) .skip)) (.seq (.ops [⟨(.some 56), (.mv (.t 3)), .none⟩, ⟨(.some 57), (.bin .eql (.t 56) (.c (.sc (.int .i64 0)))), .none⟩, ⟨(.some 2), (.mv (.t 57)), .none⟩]) .ret))
def c_state_sent : AC := (.seq (.ops [⟨(.some 1), (.box (.t 0)), .none⟩, ⟨(.some 2), (.mv (.c (.sc (.bool .false)))), .none⟩]) (.seq (.ops [⟨(.some 3), (.mv (.c (.sc (.int .i64 0)))), .none⟩]) (.seq (.seq (.ops [⟨(.some 6), (.fadr 9 83 1 (.t 1)), .none⟩, ⟨(.some 7), (.load .false 1 (.t 6)), .none⟩, ⟨(.some 8), (.len .none (.t 7)), .none⟩, ⟨(.some 9), (.mv (.c (.sc (.int .i64 0)))), .none⟩]) (.block 0 (.loop c_state_sent_l1))) c_state_sent_p1)))
theorem t_state_sent : trF Try.prog qq 63 = some (58, [(.tmp 2)], c_state_sent) := by kernel_rfl
/-- The functions of state. -/
def cl_state : CodeL := [(11, 41, [(.tmp 2)], c_state_Config), (14, 10, [(.cell 2 .true 92)], c_state_First), (16, 47, [(.tmp 6)], c_state_Right), (18, 115, [(.tmp 4)], c_state_Same), (23, 11, [(.tmp 6)], c_state_within), (30, 51, [(.tmp 6)], c_state_side), (31, 5, [(.tmp 2)], c_state_Right_1), (32, 5, [(.tmp 2)], c_state_Right_2), (33, 65, [(.tmp 4)], c_state_queues), (34, 46, [(.tmp 2)], c_state_stores), (35, 26, [(.tmp 2)], c_state_trap), (51, 13, [(.tmp 4)], c_state_within_1), (59, 36, [(.tmp 6)], c_state_place), (61, 9, [(.tmp 3)], c_state_stores_1), (62, 43, [(.tmp 4)], c_state_request), (63, 58, [(.tmp 2)], c_state_sent)]
theorem clok_state : AllL (fun p => trF Try.prog qq p.1 = some p.2) cl_state := ⟨t_state_Config, t_state_First, t_state_Right, t_state_Same, t_state_within, t_state_side, t_state_Right_1, t_state_Right_2, t_state_queues, t_state_stores, t_state_trap, t_state_within_1, t_state_place, t_state_stores_1, t_state_request, t_state_sent, trivial⟩
end Go.Proofs.Ythmlnmkbeohojaa

/- Abstract code of the functions of slices: printed by a program from what the given translation yields. -/
namespace Go.Proofs.Ythmlnmkbeohojaa
open Go.Ra
def c_slices_Equal_Slot_Slot_l1 : AC := (.seq (.ops [⟨(.some 14), (.bin .lss (.t 13) (.t 12)), .none⟩]) (.seq (.cond (.t 14) .skip (.exit 0)) (.seq (.block 1 (.seq (.ops [⟨(.some 15), (.mv (.t 13)), .none⟩, ⟨(.some 5), (.mv (.t 15)), .none⟩]) (.seq (.ops [⟨(.some 16), (.mv (.t 0)), .none⟩, ⟨(.some 17), (.mv (.t 5)), .none⟩, ⟨(.some 18), (.iadr .none 3 (.t 16) (.t 17)), .none⟩, ⟨(.some 19), (.load .true 3 (.t 18)), .none⟩, ⟨(.some 20), (.mv (.t 1)), .none⟩, ⟨(.some 21), (.mv (.t 5)), .none⟩, ⟨(.some 22), (.iadr .none 3 (.t 20) (.t 21)), .none⟩, ⟨(.some 23), (.load .true 3 (.t 22)), .none⟩, ⟨(.some 24), (.eqs .true (.agg [(1, .int), (1, .bool), (1, .int)]) (.t 19) (.t 23)), .none⟩]) (.cond (.t 24) (.seq (.ops [⟨(.some 4), (.mv (.c (.sc (.bool .false)))), .none⟩]) .ret) .skip)))) (.ops [⟨(.some 25), (.bin .add (.t 13) (.c (.sc (.int .i64 1)))), .none⟩, ⟨(.some 13), (.mv (.t 25)), .none⟩]))))
def c_slices_Equal_Slot_Slot_p1 : AC := (.seq (.ops [⟨(.some 4), (.mv (.c (.sc (.bool .true)))), .none⟩]) .ret)
def c_slices_Equal_Slot_Slot : AC := (.seq (.ops [⟨(.some 4), (.mv (.c (.sc (.bool .false)))), .none⟩]) (.seq (.seq (.ops [⟨(.some 6), (.mv (.t 0)), .none⟩, ⟨(.some 7), (.len .none (.t 6)), .none⟩, ⟨(.some 8), (.mv (.t 1)), .none⟩, ⟨(.some 9), (.len .none (.t 8)), .none⟩, ⟨(.some 10), (.bin .neq (.t 7) (.t 9)), .none⟩]) (.cond (.t 10) (.seq (.ops [⟨(.some 4), (.mv (.c (.sc (.bool .false)))), .none⟩]) .ret) .skip)) (.seq (.seq (.ops [⟨(.some 11), (.mv (.t 0)), .none⟩, ⟨(.some 12), (.len .none (.t 11)), .none⟩, ⟨(.some 13), (.mv (.c (.sc (.int .i64 0)))), .none⟩]) (.block 0 (.loop c_slices_Equal_Slot_Slot_l1))) c_slices_Equal_Slot_Slot_p1)))
theorem t_slices_Equal_Slot_Slot : trF Try.prog qq 40 = some (26, [(.tmp 4)], c_slices_Equal_Slot_Slot) := by kernel_rfl
def c_slices_Equal_uint32_uint32_l1 : AC := (.seq (.ops [⟨(.some 14), (.bin .lss (.t 13) (.t 12)), .none⟩]) (.seq (.cond (.t 14) .skip (.exit 0)) (.seq (.block 1 (.seq (.ops [⟨(.some 15), (.mv (.t 13)), .none⟩, ⟨(.some 5), (.mv (.t 15)), .none⟩]) (.seq (.ops [⟨(.some 16), (.mv (.t 0)), .none⟩, ⟨(.some 17), (.mv (.t 5)), .none⟩, ⟨(.some 18), (.iadr .none 1 (.t 16) (.t 17)), .none⟩, ⟨(.some 19), (.load .false 1 (.t 18)), .none⟩, ⟨(.some 20), (.mv (.t 1)), .none⟩, ⟨(.some 21), (.mv (.t 5)), .none⟩, ⟨(.some 22), (.iadr .none 1 (.t 20) (.t 21)), .none⟩, ⟨(.some 23), (.load .false 1 (.t 22)), .none⟩, ⟨(.some 24), (.bin .neq (.t 19) (.t 23)), .none⟩]) (.cond (.t 24) (.seq (.ops [⟨(.some 4), (.mv (.c (.sc (.bool .false)))), .none⟩]) .ret) .skip)))) (.ops [⟨(.some 25), (.bin .add (.t 13) (.c (.sc (.int .i64 1)))), .none⟩, ⟨(.some 13), (.mv (.t 25)), .none⟩]))))
def c_slices_Equal_uint32_uint32_p1 : AC := (.seq (.ops [⟨(.some 4), (.mv (.c (.sc (.bool .true)))), .none⟩]) .ret)
def c_slices_Equal_uint32_uint32 : AC := (.seq (.ops [⟨(.some 4), (.mv (.c (.sc (.bool .false)))), .none⟩]) (.seq (.seq (.ops [⟨(.some 6), (.mv (.t 0)), .none⟩, ⟨(.some 7), (.len .none (.t 6)), .none⟩, ⟨(.some 8), (.mv (.t 1)), .none⟩, ⟨(.some 9), (.len .none (.t 8)), .none⟩, ⟨(.some 10), (.bin .neq (.t 7) (.t 9)), .none⟩]) (.cond (.t 10) (.seq (.ops [⟨(.some 4), (.mv (.c (.sc (.bool .false)))), .none⟩]) .ret) .skip)) (.seq (.seq (.ops [⟨(.some 11), (.mv (.t 0)), .none⟩, ⟨(.some 12), (.len .none (.t 11)), .none⟩, ⟨(.some 13), (.mv (.c (.sc (.int .i64 0)))), .none⟩]) (.block 0 (.loop c_slices_Equal_uint32_uint32_l1))) c_slices_Equal_uint32_uint32_p1)))
theorem t_slices_Equal_uint32_uint32 : trF Try.prog qq 41 = some (26, [(.tmp 4)], c_slices_Equal_uint32_uint32) := by kernel_rfl
def c_slices_Equal_bool_bool_l1 : AC := (.seq (.ops [⟨(.some 14), (.bin .lss (.t 13) (.t 12)), .none⟩]) (.seq (.cond (.t 14) .skip (.exit 0)) (.seq (.block 1 (.seq (.ops [⟨(.some 15), (.mv (.t 13)), .none⟩, ⟨(.some 5), (.mv (.t 15)), .none⟩]) (.seq (.ops [⟨(.some 16), (.mv (.t 0)), .none⟩, ⟨(.some 17), (.mv (.t 5)), .none⟩, ⟨(.some 18), (.iadr .none 1 (.t 16) (.t 17)), .none⟩, ⟨(.some 19), (.load .false 1 (.t 18)), .none⟩, ⟨(.some 20), (.mv (.t 1)), .none⟩, ⟨(.some 21), (.mv (.t 5)), .none⟩, ⟨(.some 22), (.iadr .none 1 (.t 20) (.t 21)), .none⟩, ⟨(.some 23), (.load .false 1 (.t 22)), .none⟩, ⟨(.some 24), (.eqs .true .bool (.t 19) (.t 23)), .none⟩]) (.cond (.t 24) (.seq (.ops [⟨(.some 4), (.mv (.c (.sc (.bool .false)))), .none⟩]) .ret) .skip)))) (.ops [⟨(.some 25), (.bin .add (.t 13) (.c (.sc (.int .i64 1)))), .none⟩, ⟨(.some 13), (.mv (.t 25)), .none⟩]))))
def c_slices_Equal_bool_bool_p1 : AC := (.seq (.ops [⟨(.some 4), (.mv (.c (.sc (.bool .true)))), .none⟩]) .ret)
def c_slices_Equal_bool_bool : AC := (.seq (.ops [⟨(.some 4), (.mv (.c (.sc (.bool .false)))), .none⟩]) (.seq (.seq (.ops [⟨(.some 6), (.mv (.t 0)), .none⟩, ⟨(.some 7), (.len .none (.t 6)), .none⟩, ⟨(.some 8), (.mv (.t 1)), .none⟩, ⟨(.some 9), (.len .none (.t 8)), .none⟩, ⟨(.some 10), (.bin .neq (.t 7) (.t 9)), .none⟩]) (.cond (.t 10) (.seq (.ops [⟨(.some 4), (.mv (.c (.sc (.bool .false)))), .none⟩]) .ret) .skip)) (.seq (.seq (.ops [⟨(.some 11), (.mv (.t 0)), .none⟩, ⟨(.some 12), (.len .none (.t 11)), .none⟩, ⟨(.some 13), (.mv (.c (.sc (.int .i64 0)))), .none⟩]) (.block 0 (.loop c_slices_Equal_bool_bool_l1))) c_slices_Equal_bool_bool_p1)))
theorem t_slices_Equal_bool_bool : trF Try.prog qq 42 = some (26, [(.tmp 4)], c_slices_Equal_bool_bool) := by kernel_rfl
def c_slices_Equal_Entry_Entry_l1 : AC := (.seq (.ops [⟨(.some 14), (.bin .lss (.t 13) (.t 12)), .none⟩]) (.seq (.cond (.t 14) .skip (.exit 0)) (.seq (.block 1 (.seq (.ops [⟨(.some 15), (.mv (.t 13)), .none⟩, ⟨(.some 5), (.mv (.t 15)), .none⟩]) (.seq (.ops [⟨(.some 16), (.mv (.t 0)), .none⟩, ⟨(.some 17), (.mv (.t 5)), .none⟩, ⟨(.some 18), (.iadr .none 5 (.t 16) (.t 17)), .none⟩, ⟨(.some 19), (.load .true 5 (.t 18)), .none⟩, ⟨(.some 20), (.mv (.t 1)), .none⟩, ⟨(.some 21), (.mv (.t 5)), .none⟩, ⟨(.some 22), (.iadr .none 5 (.t 20) (.t 21)), .none⟩, ⟨(.some 23), (.load .true 5 (.t 22)), .none⟩, ⟨(.some 24), (.eqs .true (.agg [(1, .int), (1, .int), (1, .int), (1, .bool), (1, .int)]) (.t 19) (.t 23)), .none⟩]) (.cond (.t 24) (.seq (.ops [⟨(.some 4), (.mv (.c (.sc (.bool .false)))), .none⟩]) .ret) .skip)))) (.ops [⟨(.some 25), (.bin .add (.t 13) (.c (.sc (.int .i64 1)))), .none⟩, ⟨(.some 13), (.mv (.t 25)), .none⟩]))))
def c_slices_Equal_Entry_Entry_p1 : AC := (.seq (.ops [⟨(.some 4), (.mv (.c (.sc (.bool .true)))), .none⟩]) .ret)
def c_slices_Equal_Entry_Entry : AC := (.seq (.ops [⟨(.some 4), (.mv (.c (.sc (.bool .false)))), .none⟩]) (.seq (.seq (.ops [⟨(.some 6), (.mv (.t 0)), .none⟩, ⟨(.some 7), (.len .none (.t 6)), .none⟩, ⟨(.some 8), (.mv (.t 1)), .none⟩, ⟨(.some 9), (.len .none (.t 8)), .none⟩, ⟨(.some 10), (.bin .neq (.t 7) (.t 9)), .none⟩]) (.cond (.t 10) (.seq (.ops [⟨(.some 4), (.mv (.c (.sc (.bool .false)))), .none⟩]) .ret) .skip)) (.seq (.seq (.ops [⟨(.some 11), (.mv (.t 0)), .none⟩, ⟨(.some 12), (.len .none (.t 11)), .none⟩, ⟨(.some 13), (.mv (.c (.sc (.int .i64 0)))), .none⟩]) (.block 0 (.loop c_slices_Equal_Entry_Entry_l1))) c_slices_Equal_Entry_Entry_p1)))
theorem t_slices_Equal_Entry_Entry : trF Try.prog qq 43 = some (26, [(.tmp 4)], c_slices_Equal_Entry_Entry) := by kernel_rfl
def c_slices_Equal_Request_Request_l1 : AC := (.seq (.ops [⟨(.some 14), (.bin .lss (.t 13) (.t 12)), .none⟩]) (.seq (.cond (.t 14) .skip (.exit 0)) (.seq (.block 1 (.seq (.ops [⟨(.some 15), (.mv (.t 13)), .none⟩, ⟨(.some 5), (.mv (.t 15)), .none⟩]) (.seq (.ops [⟨(.some 16), (.mv (.t 0)), .none⟩, ⟨(.some 17), (.mv (.t 5)), .none⟩, ⟨(.some 18), (.iadr .none 8 (.t 16) (.t 17)), .none⟩, ⟨(.some 19), (.load .true 8 (.t 18)), .none⟩, ⟨(.some 20), (.mv (.t 1)), .none⟩, ⟨(.some 21), (.mv (.t 5)), .none⟩, ⟨(.some 22), (.iadr .none 8 (.t 20) (.t 21)), .none⟩, ⟨(.some 23), (.load .true 8 (.t 22)), .none⟩, ⟨(.some 24), (.eqs .true (.agg [(1, .bool), (1, .int), (1, .int), (1, .int), (1, .int), (1, .int), (1, .int), (1, .int)]) (.t 19) (.t 23)), .none⟩]) (.cond (.t 24) (.seq (.ops [⟨(.some 4), (.mv (.c (.sc (.bool .false)))), .none⟩]) .ret) .skip)))) (.ops [⟨(.some 25), (.bin .add (.t 13) (.c (.sc (.int .i64 1)))), .none⟩, ⟨(.some 13), (.mv (.t 25)), .none⟩]))))
def c_slices_Equal_Request_Request_p1 : AC := (.seq (.ops [⟨(.some 4), (.mv (.c (.sc (.bool .true)))), .none⟩]) .ret)
def c_slices_Equal_Request_Request : AC := (.seq (.ops [⟨(.some 4), (.mv (.c (.sc (.bool .false)))), .none⟩]) (.seq (.seq (.ops [⟨(.some 6), (.mv (.t 0)), .none⟩, ⟨(.some 7), (.len .none (.t 6)), .none⟩, ⟨(.some 8), (.mv (.t 1)), .none⟩, ⟨(.some 9), (.len .none (.t 8)), .none⟩, ⟨(.some 10), (.bin .neq (.t 7) (.t 9)), .none⟩]) (.cond (.t 10) (.seq (.ops [⟨(.some 4), (.mv (.c (.sc (.bool .false)))), .none⟩]) .ret) .skip)) (.seq (.seq (.ops [⟨(.some 11), (.mv (.t 0)), .none⟩, ⟨(.some 12), (.len .none (.t 11)), .none⟩, ⟨(.some 13), (.mv (.c (.sc (.int .i64 0)))), .none⟩]) (.block 0 (.loop c_slices_Equal_Request_Request_l1))) c_slices_Equal_Request_Request_p1)))
theorem t_slices_Equal_Request_Request : trF Try.prog qq 44 = some (26, [(.tmp 4)], c_slices_Equal_Request_Request) := by kernel_rfl
def c_slices_Equal_byte_byte_l1 : AC := (.seq (.ops [⟨(.some 14), (.bin .lss (.t 13) (.t 12)), .none⟩]) (.seq (.cond (.t 14) .skip (.exit 0)) (.seq (.block 1 (.seq (.ops [⟨(.some 15), (.mv (.t 13)), .none⟩, ⟨(.some 5), (.mv (.t 15)), .none⟩]) (.seq (.ops [⟨(.some 16), (.mv (.t 0)), .none⟩, ⟨(.some 17), (.mv (.t 5)), .none⟩, ⟨(.some 18), (.iadr .none 1 (.t 16) (.t 17)), .none⟩, ⟨(.some 19), (.load .false 1 (.t 18)), .none⟩, ⟨(.some 20), (.mv (.t 1)), .none⟩, ⟨(.some 21), (.mv (.t 5)), .none⟩, ⟨(.some 22), (.iadr .none 1 (.t 20) (.t 21)), .none⟩, ⟨(.some 23), (.load .false 1 (.t 22)), .none⟩, ⟨(.some 24), (.bin .neq (.t 19) (.t 23)), .none⟩]) (.cond (.t 24) (.seq (.ops [⟨(.some 4), (.mv (.c (.sc (.bool .false)))), .none⟩]) .ret) .skip)))) (.ops [⟨(.some 25), (.bin .add (.t 13) (.c (.sc (.int .i64 1)))), .none⟩, ⟨(.some 13), (.mv (.t 25)), .none⟩]))))
def c_slices_Equal_byte_byte_p1 : AC := (.seq (.ops [⟨(.some 4), (.mv (.c (.sc (.bool .true)))), .none⟩]) .ret)
def c_slices_Equal_byte_byte : AC := (.seq (.ops [⟨(.some 4), (.mv (.c (.sc (.bool .false)))), .none⟩]) (.seq (.seq (.ops [⟨(.some 6), (.mv (.t 0)), .none⟩, ⟨(.some 7), (.len .none (.t 6)), .none⟩, ⟨(.some 8), (.mv (.t 1)), .none⟩, ⟨(.some 9), (.len .none (.t 8)), .none⟩, ⟨(.some 10), (.bin .neq (.t 7) (.t 9)), .none⟩]) (.cond (.t 10) (.seq (.ops [⟨(.some 4), (.mv (.c (.sc (.bool .false)))), .none⟩]) .ret) .skip)) (.seq (.seq (.ops [⟨(.some 11), (.mv (.t 0)), .none⟩, ⟨(.some 12), (.len .none (.t 11)), .none⟩, ⟨(.some 13), (.mv (.c (.sc (.int .i64 0)))), .none⟩]) (.block 0 (.loop c_slices_Equal_byte_byte_l1))) c_slices_Equal_byte_byte_p1)))
theorem t_slices_Equal_byte_byte : trF Try.prog qq 45 = some (26, [(.tmp 4)], c_slices_Equal_byte_byte) := by kernel_rfl
def c_slices_Equal_Write_Write_l1 : AC := (.seq (.ops [⟨(.some 14), (.bin .lss (.t 13) (.t 12)), .none⟩]) (.seq (.cond (.t 14) .skip (.exit 0)) (.seq (.block 1 (.seq (.ops [⟨(.some 15), (.mv (.t 13)), .none⟩, ⟨(.some 5), (.mv (.t 15)), .none⟩]) (.seq (.ops [⟨(.some 16), (.mv (.t 0)), .none⟩, ⟨(.some 17), (.mv (.t 5)), .none⟩, ⟨(.some 18), (.iadr .none 3 (.t 16) (.t 17)), .none⟩, ⟨(.some 19), (.load .true 3 (.t 18)), .none⟩, ⟨(.some 20), (.mv (.t 1)), .none⟩, ⟨(.some 21), (.mv (.t 5)), .none⟩, ⟨(.some 22), (.iadr .none 3 (.t 20) (.t 21)), .none⟩, ⟨(.some 23), (.load .true 3 (.t 22)), .none⟩, ⟨(.some 24), (.eqs .true (.agg [(1, .int), (1, .int), (1, .int)]) (.t 19) (.t 23)), .none⟩]) (.cond (.t 24) (.seq (.ops [⟨(.some 4), (.mv (.c (.sc (.bool .false)))), .none⟩]) .ret) .skip)))) (.ops [⟨(.some 25), (.bin .add (.t 13) (.c (.sc (.int .i64 1)))), .none⟩, ⟨(.some 13), (.mv (.t 25)), .none⟩]))))
def c_slices_Equal_Write_Write_p1 : AC := (.seq (.ops [⟨(.some 4), (.mv (.c (.sc (.bool .true)))), .none⟩]) .ret)
def c_slices_Equal_Write_Write : AC := (.seq (.ops [⟨(.some 4), (.mv (.c (.sc (.bool .false)))), .none⟩]) (.seq (.seq (.ops [⟨(.some 6), (.mv (.t 0)), .none⟩, ⟨(.some 7), (.len .none (.t 6)), .none⟩, ⟨(.some 8), (.mv (.t 1)), .none⟩, ⟨(.some 9), (.len .none (.t 8)), .none⟩, ⟨(.some 10), (.bin .neq (.t 7) (.t 9)), .none⟩]) (.cond (.t 10) (.seq (.ops [⟨(.some 4), (.mv (.c (.sc (.bool .false)))), .none⟩]) .ret) .skip)) (.seq (.seq (.ops [⟨(.some 11), (.mv (.t 0)), .none⟩, ⟨(.some 12), (.len .none (.t 11)), .none⟩, ⟨(.some 13), (.mv (.c (.sc (.int .i64 0)))), .none⟩]) (.block 0 (.loop c_slices_Equal_Write_Write_l1))) c_slices_Equal_Write_Write_p1)))
theorem t_slices_Equal_Write_Write : trF Try.prog qq 46 = some (26, [(.tmp 4)], c_slices_Equal_Write_Write) := by kernel_rfl
def c_slices_ContainsFunc_int_int : AC := (.seq (.ops [⟨(.some 4), (.mv (.c (.sc (.bool .false)))), .none⟩]) (.seq (.ops [⟨(.some 5), (.mv (.t 0)), .none⟩, ⟨(.some 6), (.mv (.t 1)), .none⟩, ⟨(.some 7), (.call 71 [(.t 5), (.t 6)]), .none⟩, ⟨(.some 8), (.bin .geq (.t 7) (.c (.sc (.int .i64 0)))), .none⟩, ⟨(.some 4), (.mv (.t 8)), .none⟩]) .ret))
theorem t_slices_ContainsFunc_int_int : trF Try.prog qq 50 = some (9, [(.tmp 4)], c_slices_ContainsFunc_int_int) := by kernel_rfl
def c_slices_ContainsFunc_Ins_Ins : AC := (.seq (.ops [⟨(.some 4), (.mv (.c (.sc (.bool .false)))), .none⟩]) (.seq (.ops [⟨(.some 5), (.mv (.t 0)), .none⟩, ⟨(.some 6), (.mv (.t 1)), .none⟩, ⟨(.some 7), (.call 78 [(.t 5), (.t 6)]), .none⟩, ⟨(.some 8), (.bin .geq (.t 7) (.c (.sc (.int .i64 0)))), .none⟩, ⟨(.some 4), (.mv (.t 8)), .none⟩]) .ret))
theorem t_slices_ContainsFunc_Ins_Ins : trF Try.prog qq 55 = some (9, [(.tmp 4)], c_slices_ContainsFunc_Ins_Ins) := by kernel_rfl
def c_slices_ContainsFunc_Request_Request : AC := (.seq (.ops [⟨(.some 4), (.mv (.c (.sc (.bool .false)))), .none⟩]) (.seq (.ops [⟨(.some 5), (.mv (.t 0)), .none⟩, ⟨(.some 6), (.mv (.t 1)), .none⟩, ⟨(.some 7), (.call 84 [(.t 5), (.t 6)]), .none⟩, ⟨(.some 8), (.bin .geq (.t 7) (.c (.sc (.int .i64 0)))), .none⟩, ⟨(.some 4), (.mv (.t 8)), .none⟩]) .ret))
theorem t_slices_ContainsFunc_Request_Request : trF Try.prog qq 60 = some (9, [(.tmp 4)], c_slices_ContainsFunc_Request_Request) := by kernel_rfl
def c_slices_IndexFunc_int_int_l1 : AC := (.seq (.ops [⟨(.some 9), (.bin .lss (.t 8) (.t 7)), .none⟩]) (.seq (.cond (.t 9) .skip (.exit 0)) (.seq (.block 1 (.seq (.ops [⟨(.some 10), (.mv (.t 8)), .none⟩, ⟨(.some 5), (.mv (.t 10)), .none⟩]) (.seq (.ops [⟨(.some 11), (.mv (.t 1)), .none⟩, ⟨(.some 12), (.mv (.t 0)), .none⟩, ⟨(.some 13), (.mv (.t 5)), .none⟩, ⟨(.some 14), (.iadr .none 1 (.t 12) (.t 13)), .none⟩, ⟨(.some 15), (.load .false 1 (.t 14)), .none⟩, ⟨(.some 16), (.callv (.t 11) [(.t 15)]), .none⟩]) (.cond (.t 16) (.seq (.ops [⟨(.some 17), (.mv (.t 5)), .none⟩, ⟨(.some 4), (.mv (.t 17)), .none⟩]) .ret) .skip)))) (.ops [⟨(.some 18), (.bin .add (.t 8) (.c (.sc (.int .i64 1)))), .none⟩, ⟨(.some 8), (.mv (.t 18)), .none⟩]))))
def c_slices_IndexFunc_int_int_p1 : AC := (.seq (.ops [⟨(.some 4), (.mv (.c (.sc (.int .i64 (-1))))), .none⟩]) .ret)
def c_slices_IndexFunc_int_int : AC := (.seq (.ops [⟨(.some 4), (.mv (.c (.sc (.int .i64 0)))), .none⟩]) (.seq (.seq (.ops [⟨(.some 6), (.mv (.t 0)), .none⟩, ⟨(.some 7), (.len .none (.t 6)), .none⟩, ⟨(.some 8), (.mv (.c (.sc (.int .i64 0)))), .none⟩]) (.block 0 (.loop c_slices_IndexFunc_int_int_l1))) c_slices_IndexFunc_int_int_p1))
theorem t_slices_IndexFunc_int_int : trF Try.prog qq 71 = some (19, [(.tmp 4)], c_slices_IndexFunc_int_int) := by kernel_rfl
def c_slices_IndexFunc_Ins_Ins_l1 : AC := (.seq (.ops [⟨(.some 9), (.bin .lss (.t 8) (.t 7)), .none⟩]) (.seq (.cond (.t 9) .skip (.exit 0)) (.seq (.block 1 (.seq (.ops [⟨(.some 10), (.mv (.t 8)), .none⟩, ⟨(.some 5), (.mv (.t 10)), .none⟩]) (.seq (.ops [⟨(.some 11), (.mv (.t 1)), .none⟩, ⟨(.some 12), (.mv (.t 0)), .none⟩, ⟨(.some 13), (.mv (.t 5)), .none⟩, ⟨(.some 14), (.iadr .none 5 (.t 12) (.t 13)), .none⟩, ⟨(.some 15), (.load .true 5 (.t 14)), .none⟩, ⟨(.some 16), (.callv (.t 11) [(.t 15)]), .none⟩]) (.cond (.t 16) (.seq (.ops [⟨(.some 17), (.mv (.t 5)), .none⟩, ⟨(.some 4), (.mv (.t 17)), .none⟩]) .ret) .skip)))) (.ops [⟨(.some 18), (.bin .add (.t 8) (.c (.sc (.int .i64 1)))), .none⟩, ⟨(.some 8), (.mv (.t 18)), .none⟩]))))
def c_slices_IndexFunc_Ins_Ins_p1 : AC := (.seq (.ops [⟨(.some 4), (.mv (.c (.sc (.int .i64 (-1))))), .none⟩]) .ret)
def c_slices_IndexFunc_Ins_Ins : AC := (.seq (.ops [⟨(.some 4), (.mv (.c (.sc (.int .i64 0)))), .none⟩]) (.seq (.seq (.ops [⟨(.some 6), (.mv (.t 0)), .none⟩, ⟨(.some 7), (.len .none (.t 6)), .none⟩, ⟨(.some 8), (.mv (.c (.sc (.int .i64 0)))), .none⟩]) (.block 0 (.loop c_slices_IndexFunc_Ins_Ins_l1))) c_slices_IndexFunc_Ins_Ins_p1))
theorem t_slices_IndexFunc_Ins_Ins : trF Try.prog qq 78 = some (19, [(.tmp 4)], c_slices_IndexFunc_Ins_Ins) := by kernel_rfl
def c_slices_IndexFunc_Request_Request_l1 : AC := (.seq (.ops [⟨(.some 9), (.bin .lss (.t 8) (.t 7)), .none⟩]) (.seq (.cond (.t 9) .skip (.exit 0)) (.seq (.block 1 (.seq (.ops [⟨(.some 10), (.mv (.t 8)), .none⟩, ⟨(.some 5), (.mv (.t 10)), .none⟩]) (.seq (.ops [⟨(.some 11), (.mv (.t 1)), .none⟩, ⟨(.some 12), (.mv (.t 0)), .none⟩, ⟨(.some 13), (.mv (.t 5)), .none⟩, ⟨(.some 14), (.iadr .none 8 (.t 12) (.t 13)), .none⟩, ⟨(.some 15), (.load .true 8 (.t 14)), .none⟩, ⟨(.some 16), (.callv (.t 11) [(.t 15)]), .none⟩]) (.cond (.t 16) (.seq (.ops [⟨(.some 17), (.mv (.t 5)), .none⟩, ⟨(.some 4), (.mv (.t 17)), .none⟩]) .ret) .skip)))) (.ops [⟨(.some 18), (.bin .add (.t 8) (.c (.sc (.int .i64 1)))), .none⟩, ⟨(.some 8), (.mv (.t 18)), .none⟩]))))
def c_slices_IndexFunc_Request_Request_p1 : AC := (.seq (.ops [⟨(.some 4), (.mv (.c (.sc (.int .i64 (-1))))), .none⟩]) .ret)
def c_slices_IndexFunc_Request_Request : AC := (.seq (.ops [⟨(.some 4), (.mv (.c (.sc (.int .i64 0)))), .none⟩]) (.seq (.seq (.ops [⟨(.some 6), (.mv (.t 0)), .none⟩, ⟨(.some 7), (.len .none (.t 6)), .none⟩, ⟨(.some 8), (.mv (.c (.sc (.int .i64 0)))), .none⟩]) (.block 0 (.loop c_slices_IndexFunc_Request_Request_l1))) c_slices_IndexFunc_Request_Request_p1))
theorem t_slices_IndexFunc_Request_Request : trF Try.prog qq 84 = some (19, [(.tmp 4)], c_slices_IndexFunc_Request_Request) := by kernel_rfl
/-- The functions of slices. -/
def cl_slices : CodeL := [(40, 26, [(.tmp 4)], c_slices_Equal_Slot_Slot), (41, 26, [(.tmp 4)], c_slices_Equal_uint32_uint32), (42, 26, [(.tmp 4)], c_slices_Equal_bool_bool), (43, 26, [(.tmp 4)], c_slices_Equal_Entry_Entry), (44, 26, [(.tmp 4)], c_slices_Equal_Request_Request), (45, 26, [(.tmp 4)], c_slices_Equal_byte_byte), (46, 26, [(.tmp 4)], c_slices_Equal_Write_Write), (50, 9, [(.tmp 4)], c_slices_ContainsFunc_int_int), (55, 9, [(.tmp 4)], c_slices_ContainsFunc_Ins_Ins), (60, 9, [(.tmp 4)], c_slices_ContainsFunc_Request_Request), (71, 19, [(.tmp 4)], c_slices_IndexFunc_int_int), (78, 19, [(.tmp 4)], c_slices_IndexFunc_Ins_Ins), (84, 19, [(.tmp 4)], c_slices_IndexFunc_Request_Request)]
theorem clok_slices : AllL (fun p => trF Try.prog qq p.1 = some p.2) cl_slices := ⟨t_slices_Equal_Slot_Slot, t_slices_Equal_uint32_uint32, t_slices_Equal_bool_bool, t_slices_Equal_Entry_Entry, t_slices_Equal_Request_Request, t_slices_Equal_byte_byte, t_slices_Equal_Write_Write, t_slices_ContainsFunc_int_int, t_slices_ContainsFunc_Ins_Ins, t_slices_ContainsFunc_Request_Request, t_slices_IndexFunc_int_int, t_slices_IndexFunc_Ins_Ins, t_slices_IndexFunc_Request_Request, trivial⟩
end Go.Proofs.Ythmlnmkbeohojaa

