/- Texts put together. -/
import Derived.Test.YthmlnmkbeohojaaPk4
/- Which owners may be. -/
namespace Go.Proofs.Ythmlnmkbeohojaa
open Go.Ra
set_option linter.unusedVariables false
set_option linter.unusedSimpArgs false
def TT6 : Tab := mkT2 qq cl_ref10 [(65, formSp)] [] [(29, rprS), (70, redS), (86, onES), (87, anyES)] []
/-- May an instruction be, by these owners? -/
def clIns (o : Nat → Int) (x : Ins) : Bool := !((decide (formI x.op = 4) || decide (formI x.op = 5)) && onEB o x.a) && !(decide (formI x.op ≥ 1) && decide (formI x.op ≤ 3) && decide (x.d > 0) && decide (o x.d.toNat = 1) && anyEB o (readsF x))
/-- Which owners may be. -/
def closedF (p : Prog) (o : Nat → Int) : Bool := rightProg p && (decide (o 0 = 0) && (allN (fun i => decide (i = 0) || decide (o i = 1 ∨ o i = 2)) 16 && allN (fun n => clIns o (ix p.code n)) p.code.length))
def clsS : List XV → Option ((XV → Prop) → Prop) := skOf (fun q : Prog × (Nat → Int) => [e_Prog q.1, e_own q.2]) (fun q => q.1.wf) (fun q => closedF q.1 q.2) (fun y => .bool y)
def clS (k : Nat) (p : Prog) (o : Nat → Int) (i : Nat) : XSt := ⟨[(k, .int .i64 i), (3, .ptr 1 [] 0), (2, .ptr 0 [] 0)], [(1, some (e_own o)), (0, some (e_Prog p))], 2⟩
theorem r_cls0 (p : Prog) (o : Nat → Int) (r : XV) : (goQ Try.prog TT6 [(.tmp 4)] r (.run c_ref10_Closed) [] ⟨envX 0 [e_Prog p, e_own o], [], 0⟩) = (∃ (s : Prog), ArgsLe [e_Prog p] [e_Prog s] ∧ PreIs (Prog.wf s) ∧ ∀ (y : Bool), y = rightProg s → bif bif !y then true else !!y then bif bif !y then true else
 decide ¬o 0 = 0 then ResLe (.bool false) r else LoopAt (Ok Try.prog (Tab.q TT6)) c_ref10_Closed_l1 (XSt.mk [(5, .int .i64 1), (4, .bool false), (3, .ptr 1 [] 0),
 (2, .ptr 0 [] 0)] [(1, some (.tab 16 1 fun i => .int .i64 (o i))), (0, some (e_Prog p))] 2) [Frm.blk 0, Frm.seq c_ref10_Closed_p2] (finQR [AR.tmp 4] r) else False)
 := by kernel_rfl
theorem r_cls1 (p : Prog) (o : Nat → Int) (i : Nat) (r : XV) (A : XSt → Prop) : (goQ Try.prog TT6 [(.tmp 4)] r (.run c_ref10_Closed_l1) [.lp c_ref10_Closed_l1 A, .blk 0, .seq c_ref10_Closed_p2] (clS 5 p o i)) = (bif decide ((↑i : Int) < 16) then bif decide ((↑i : Int) < 16) then bif Nat.beq (i * 1) (i * 1) then bif decide (i < 16) then bif bif decide ((↑i : Int) < 16)
 then true else !decide ¬o i = 1 then bif bif Nat.beq (i * 1) (i * 1) then true else !decide ¬o i = 1 then bif bif decide (i < 16) then true else !decide ¬o i = 1
 then bif bif decide ¬o i = 1 then decide ¬o i = 1 else true then bif bif decide ¬o i = 1 then decide ¬o i = 2 else false then ResLe (.bool false) r else A (XSt.mk
 [(5, .int .i64 (IntKind.wrap .i64 ((↑i : Int) + (1 : Int)))), (3, .ptr 1 [] 0), (2, .ptr 0 [] 0)] [(1, some (e_own o)), (0, some (e_Prog p))] 2) else False else
 False else False else False else False else False else False
else LoopAt (Ok Try.prog (Tab.q TT6)) c_ref10_Closed_l2 (XSt.mk [(6, .int .i64 0), (3, .ptr 1 [] 0),
 (2, .ptr 0 [] 0)] [(1, some (e_own o)), (0, some (e_Prog p))] 2) [Frm.blk 2, Frm.seq c_ref10_Closed_p1] (finQR [AR.tmp 4] r)) := by kernel_rfl
theorem r_cls2 (p : Prog) (o : Nat → Int) (i : Nat) (r : XV) (A : XSt → Prop) : (goQ Try.prog TT6 [(.tmp 4)] r (.run c_ref10_Closed_l2) [.lp c_ref10_Closed_l2 A, .blk 2, .seq c_ref10_Closed_p1] (clS 6 p o i)) = (bif decide ((↑i : Int) < (↑(List.length (Prog.code p)) : Int)) then bif decide ((↑i : Int) < (↑(List.length (Prog.code p)) : Int)) then bif bif decide (formI
 (Ins.op (ix (Prog.code p) i)) = 4) then true else !decide (formI (Ins.op (ix (Prog.code p) i)) = 4) then bif bif decide (formI (Ins.op (ix (Prog.code p) i)) = 4)
 then true else decide (formI (Ins.op (ix (Prog.code p) i)) = 5) then ∃ (s : (Nat → Int) × Int), ArgsLe [.tab 16 1 fun i => .int .i64 (o i), .int .i64 (Ins.a (ix
 (Prog.code p) i))] [e_own (Prod.fst s), .int .i64 (Prod.snd s)] ∧ PreIs (Prod.snd s ≤ 15) ∧ ∀ (y : Bool), y = onEB (Prod.fst s) (Prod.snd s) → bif bif bif decide
 (formI (Ins.op (ix (Prog.code p) i)) = 4) then true else decide (formI (Ins.op (ix (Prog.code p) i)) = 5) then y else false then ResLe (.bool false) r else bif bif
 decide (formI (Ins.op (ix (Prog.code p) i)) ≥ 1) then decide (formI (Ins.op (ix (Prog.code p) i)) ≥ 1) else true then bif bif bif decide (formI (Ins.op (ix (Prog.code
 p) i)) ≥ 1) then decide (formI (Ins.op (ix (Prog.code p) i)) ≤ 3) else false then bif decide (formI (Ins.op (ix (Prog.code p) i)) ≥ 1) then decide (formI (Ins.op
 (ix (Prog.code p) i)) ≤ 3) else false else true then bif bif decide (0 ≤ Ins.d (ix (Prog.code p) i)) then true else !bif bif decide (formI (Ins.op (ix (Prog.code
 p) i)) ≥ 1) then decide (formI (Ins.op (ix (Prog.code p) i)) ≤ 3) else false then decide (Ins.d (ix (Prog.code p) i) > 0) else false then bif bif decide (Ins.d (ix
 (Prog.code p) i) < 16) then true else !bif bif decide (formI (Ins.op (ix (Prog.code p) i)) ≥ 1) then decide (formI (Ins.op (ix (Prog.code p) i)) ≤ 3) else false
 then decide (Ins.d (ix (Prog.code p) i) > 0) else false then bif bif Nat.beq (Int.toNat (Ins.d (ix (Prog.code p) i)) * 1) (Int.toNat (Ins.d (ix (Prog.code p) i))
 * 1) then true else !bif bif decide (formI (Ins.op (ix (Prog.code p) i)) ≥ 1) then decide (formI (Ins.op (ix (Prog.code p) i)) ≤ 3) else false then decide (Ins.d
 (ix (Prog.code p) i) > 0) else false then bif bif decide (Int.toNat (Ins.d (ix (Prog.code p) i)) < 16) then true else !bif bif decide (formI (Ins.op (ix (Prog.code
 p) i)) ≥ 1) then decide (formI (Ins.op (ix (Prog.code p) i)) ≤ 3) else false then decide (Ins.d (ix (Prog.code p) i) > 0) else false then bif bif bif bif decide
 (formI (Ins.op (ix (Prog.code p) i)) ≥ 1) then decide (formI (Ins.op (ix (Prog.code p) i)) ≤ 3) else false then decide (Ins.d (ix (Prog.code p) i) > 0) else false
 then bif bif decide (formI (Ins.op (ix (Prog.code p) i)) ≥ 1) then decide (formI (Ins.op (ix (Prog.code p) i)) ≤ 3) else false then decide (Ins.d (ix (Prog.code
 p) i) > 0) else false else true then bif bif bif bif decide (formI (Ins.op (ix (Prog.code p) i)) ≥ 1) then decide (formI (Ins.op (ix (Prog.code p) i)) ≤ 3) else
 false then decide (Ins.d (ix (Prog.code p) i) > 0) else false then decide (o (Int.toNat (Ins.d (ix (Prog.code p) i))) = 1) else false then ∃ (s : Ins), ArgsLe [e_Ins
 (ix (Prog.code p) i)] [e_Ins s] ∧ PreIs True ∧ ∀ (y : List Int), y = readsF s → ∃ (s : (Nat → Int) × List Int), ArgsLe [.tab 16 1 fun i => .int .i64 (o i), e_row
 1 e_i64 y] [e_own (Prod.fst s), e_row 1 e_i64 (Prod.snd s)] ∧ PreIs (List.length (Prod.snd s) ≤ 1000000000 ∧ ∀ (x : Int), x ∈ Prod.snd s → x ≤ 15) ∧ ∀ (y : Bool),
 y = anyEB (Prod.fst s) (Prod.snd s) → bif bif bif bif bif decide (formI (Ins.op (ix (Prog.code p) i)) ≥ 1) then decide (formI (Ins.op (ix (Prog.code p) i)) ≤ 3)
 else false then decide (Ins.d (ix (Prog.code p) i) > 0) else false then decide (o (Int.toNat (Ins.d (ix (Prog.code p) i))) = 1) else false then y else false then
 ResLe (.bool false) r else A (XSt.mk [(6, .int .i64 (IntKind.wrap .i64 ((↑i : Int) + (1 : Int)))), (3, .ptr 1 [] 0), (2, .ptr 0 [] 0)] [(2, some (e_Ins (ix (Prog.code
 p) i))), (1, some (e_own o)), (0, some (e_Prog p))] 3) else bif !bif bif bif decide (formI (Ins.op (ix (Prog.code p) i)) ≥ 1) then decide (formI (Ins.op (ix (Prog.code
 p) i)) ≤ 3) else false then decide (Ins.d (ix (Prog.code p) i) > 0) else false then decide (o (Int.toNat (Ins.d (ix (Prog.code p) i))) = 1) else false then A (XSt.mk
 [(6, .int .i64 (IntKind.wrap .i64 ((↑i : Int) + (1 : Int)))), (3, .ptr 1 [] 0), (2, .ptr 0 [] 0)] [(2, some (e_Ins (ix (Prog.code p) i))), (1, some (e_own o)), (0,
 some (e_Prog p))] 3) else False else False else False else False else False else False else False else False else bif !bif decide (formI (Ins.op (ix (Prog.code p)
 i)) = 4) then true else decide (formI (Ins.op (ix (Prog.code p) i)) = 5) then bif bif decide (formI (Ins.op (ix (Prog.code p) i)) ≥ 1) then decide (formI (Ins.op
 (ix (Prog.code p) i)) ≥ 1) else true then bif bif bif decide (formI (Ins.op (ix (Prog.code p) i)) ≥ 1) then decide (formI (Ins.op (ix (Prog.code p) i)) ≤ 3) else
 false then bif decide (formI (Ins.op (ix (Prog.code p) i)) ≥ 1) then decide (formI (Ins.op (ix (Prog.code p) i)) ≤ 3) else false else true then bif bif decide (0
 ≤ Ins.d (ix (Prog.code p) i)) then true else !bif bif decide (formI (Ins.op (ix (Prog.code p) i)) ≥ 1) then decide (formI (Ins.op (ix (Prog.code p) i)) ≤ 3) else
 false then decide (Ins.d (ix (Prog.code p) i) > 0) else false then bif bif decide (Ins.d (ix (Prog.code p) i) < 16) then true else !bif bif decide (formI (Ins.op
 (ix (Prog.code p) i)) ≥ 1) then decide (formI (Ins.op (ix (Prog.code p) i)) ≤ 3) else false then decide (Ins.d (ix (Prog.code p) i) > 0) else false then bif bif
 Nat.beq (Int.toNat (Ins.d (ix (Prog.code p) i)) * 1) (Int.toNat (Ins.d (ix (Prog.code p) i)) * 1) then true else !bif bif decide (formI (Ins.op (ix (Prog.code p)
 i)) ≥ 1) then decide (formI (Ins.op (ix (Prog.code p) i)) ≤ 3) else false then decide (Ins.d (ix (Prog.code p) i) > 0) else false then bif bif decide (Int.toNat
 (Ins.d (ix (Prog.code p) i)) < 16) then true else !bif bif decide (formI (Ins.op (ix (Prog.code p) i)) ≥ 1) then decide (formI (Ins.op (ix (Prog.code p) i)) ≤ 3)
 else false then decide (Ins.d (ix (Prog.code p) i) > 0) else false then bif bif bif bif decide (formI (Ins.op (ix (Prog.code p) i)) ≥ 1) then decide (formI (Ins.op
 (ix (Prog.code p) i)) ≤ 3) else false then decide (Ins.d (ix (Prog.code p) i) > 0) else false then bif bif decide (formI (Ins.op (ix (Prog.code p) i)) ≥ 1) then
 decide (formI (Ins.op (ix (Prog.code p) i)) ≤ 3) else false then decide (Ins.d (ix (Prog.code p) i) > 0) else false else true then bif bif bif bif decide (formI
 (Ins.op (ix (Prog.code p) i)) ≥ 1) then decide (formI (Ins.op (ix (Prog.code p) i)) ≤ 3) else false then decide (Ins.d (ix (Prog.code p) i) > 0) else false then
 decide (o (Int.toNat (Ins.d (ix (Prog.code p) i))) = 1) else false then ∃ (s : Ins), ArgsLe [e_Ins (ix (Prog.code p) i)] [e_Ins s] ∧ PreIs True ∧ ∀ (y : List Int),
 y = readsF s → ∃ (s : (Nat → Int) × List Int), ArgsLe [.tab 16 1 fun i => .int .i64 (o i), e_row 1 e_i64 y] [e_own (Prod.fst s), e_row 1 e_i64 (Prod.snd s)] ∧ PreIs
 (List.length (Prod.snd s) ≤ 1000000000 ∧ ∀ (x : Int), x ∈ Prod.snd s → x ≤ 15) ∧ ∀ (y : Bool), y = anyEB (Prod.fst s) (Prod.snd s) → bif bif bif bif bif decide (formI
 (Ins.op (ix (Prog.code p) i)) ≥ 1) then decide (formI (Ins.op (ix (Prog.code p) i)) ≤ 3) else false then decide (Ins.d (ix (Prog.code p) i) > 0) else false then
 decide (o (Int.toNat (Ins.d (ix (Prog.code p) i))) = 1) else false then y else false then ResLe (.bool false) r else A (XSt.mk [(6, .int .i64 (IntKind.wrap .i64
 ((↑i : Int) + (1 : Int)))), (3, .ptr 1 [] 0), (2, .ptr 0 [] 0)] [(2, some (e_Ins (ix (Prog.code p) i))), (1, some (e_own o)), (0, some (e_Prog p))] 3) else bif !bif
 bif bif decide (formI (Ins.op (ix (Prog.code p) i)) ≥ 1) then decide (formI (Ins.op (ix (Prog.code p) i)) ≤ 3) else false then decide (Ins.d (ix (Prog.code p) i)
 > 0) else false then decide (o (Int.toNat (Ins.d (ix (Prog.code p) i))) = 1) else false then A (XSt.mk [(6, .int .i64 (IntKind.wrap .i64 ((↑i : Int) + (1 : Int)))),
 (3, .ptr 1 [] 0), (2, .ptr 0 [] 0)] [(2, some (e_Ins (ix (Prog.code p) i))), (1, some (e_own o)), (0, some (e_Prog p))] 3) else False else False else False else
 False else False else False else False else False else False else False else False
else ResLe (.bool true) r) := by kernel_rfl
theorem TT6ok : TabOk Try.prog TT6 := mkT2_ok clok_ref10 ⟨sp_form, trivial⟩ trivial ⟨sk_rpr, sk_reads, sk_onE, sk_anyE, trivial⟩ trivial
/-- The registers of an instruction that may be. -/
theorem right_regs {i : Ins} (h : rightIns i = true) : (0 ≤ i.d ∧ i.d ≤ 15) ∧ (0 ≤ i.a ∧ i.a ≤ 15) ∧ (0 ≤ i.b ∧ i.b ≤ 15) := by
  simp only [rightIns, Bool.and_eq_true] at h
  obtain ⟨_, h1, h2, h3, _⟩ := h
  have key : ∀ n t, regB n t = true → 0 ≤ n ∧ n ≤ 15 := fun n t hb => by
    simp only [regB, Bool.or_eq_true, Bool.and_eq_true, decide_eq_true_eq] at hb
    omega
  exact ⟨key _ _ h1, key _ _ h2, key _ _ h3⟩
theorem right_all {p : Prog} (h : rightProg p = true) {n : Nat} (hn : n < p.code.length) : rightIns (ix p.code n) = true := by
  simp only [rightProg, Bool.and_eq_true] at h
  exact allN_iff.1 h.2.1 n hn
theorem sk_cls : SkOk Try.prog (67, clsS) := skOf_ok fun ⟨p, o⟩ hw => by
  have hw : p.wf := hw
  have hl := hw.1.2
  show Pure _ _ (cons [e_Prog p, e_own o]) (con (.bool (closedF p o)))
  refine pureQ mix TT6ok t_ref10_Closed (Nat.le_of_ble_eq_true rfl) ?_
  refine Eq.mpr (r_cls0 p o _) ?_
  refine ⟨p, .rfl, ⟨hw⟩, ?_⟩
  rintro y rfl
  simp only [g1, g2, g3, g4, g5, g6, g7, allN_true, cond_true, Nat.le_refl, decide_true, pl_eq]
  simp only [bor]
  cases hr : rightProg p with
  | false =>
    unfold closedF
    rw [hr]
    exact .rfl
  | true =>
  by_cases h0 : o 0 = 0
  case neg =>
    unfold closedF
    rw [hr, decide_eq_false h0]
    simp only [h0, Bool.not_true, not_false_eq_true, decide_true, Bool.or_true, cond_true]
    exact .rfl
  simp only [h0, Bool.not_true, not_true_eq_false, decide_false, Bool.or_false, cond_false]
  refine loopQ mix TT6ok (fun i : Nat => clS 5 p o i) (fun i => 1 ≤ i ∧ i ≤ 16 ∧ ∀ j, 1 ≤ j → j < i → (o j = 1 ∨ o j = 2)) (fun i => 16 - i) 1 ⟨Nat.le_refl _, by omega, fun j _ hj => by omega⟩ (.of (weakX ⟨rfl, rfl, rfl, trivial⟩ ⟨rfl, rfl, trivial⟩ (Nat.le_refl _))) ?_
  rintro i ⟨hi1, hi, hp⟩
  refine Eq.mpr (r_cls1 p o i _ _) ?_
  by_cases hlt : i < 16
  · have h1 : (i : Int) < 16 := by omega
    have w1 : IntKind.i64.wrap ((i : Int) + 1) = ((i + 1 : Nat) : Int) := wrap_i64 (by omega) (by omega)
    simp only [g1, g2, g3, g4, g5, g6, g7, allN_true, cond_true, Nat.le_refl, decide_true, pl_eq, h1, hlt, w1, Nat.beq_refl]
    rw [band]
    refine cnd2 (fun h => ?_) (fun h => ?_) <;> simp only [Bool.and_eq_true, Bool.and_eq_false_iff, decide_eq_true_eq, decide_eq_false_iff_not, Classical.not_not] at h
    · have : closedF p o = false := by
        unfold closedF
        have hf : allN (fun i => decide (i = 0) || decide (o i = 1 ∨ o i = 2)) 16 = false := allN_false hlt (by
          have : ¬ i = 0 := by omega
          simp [this, h.1, h.2])
        rw [hf]
        simp
      rw [this]
      exact .rfl
    · refine ⟨i + 1, ⟨by omega, hlt, fun j hj1 hj => ?_⟩, .of (weakX ⟨rfl, rfl, rfl, trivial⟩ ⟨rfl, rfl, trivial⟩ (Nat.le_refl _)), by omega⟩
      by_cases hji : j = i
      · subst hji; exact h
      · exact hp j hj1 (by omega)
  have h1 : ¬ (i : Int) < 16 := by omega
  simp only [h1, decide_false, cond_false]
  have ha : allN (fun i => decide (i = 0) || decide (o i = 1 ∨ o i = 2)) 16 = true := allN_iff.2 fun j hj => by
    by_cases hj0 : j = 0
    · simp [hj0]
    · simp only [decide_eq_true (hp j (by omega) (by omega)), Bool.or_true]
  have hcl : closedF p o = allN (fun n => clIns o (ix p.code n)) p.code.length := by
    unfold closedF
    rw [hr, decide_eq_true h0, ha]
    rfl
  clear hp hi hi1 hlt h1
  refine loopQ mix TT6ok (fun i : Nat => clS 6 p o i) (fun i => i ≤ p.code.length ∧ ∀ j, j < i → clIns o (ix p.code j) = true) (fun i => p.code.length - i) 0 ⟨Nat.zero_le _, fun j hj => by omega⟩ (.of (weakX ⟨rfl, rfl, rfl, trivial⟩ ⟨rfl, rfl, trivial⟩ (Nat.le_refl _))) ?_
  rintro i ⟨hi, hp⟩
  refine Eq.mpr (r_cls2 p o i _ _) ?_
  by_cases hlt : i < p.code.length
  · have h1 : (i : Int) < (p.code.length : Int) := by omega
    have w1 : IntKind.i64.wrap ((i : Int) + 1) = ((i + 1 : Nat) : Int) := wrap_i64 (by omega) (by omega)
    have hri := right_all hr hlt
    obtain ⟨⟨d1, d2⟩, ⟨a1, a2⟩, _⟩ := right_regs hri
    have bad : clIns o (ix p.code i) = false → ResLe (.bool false) (.bool (closedF p o)) := fun h => by
      rw [hcl, allN_false hlt h]; exact .rfl
    have next : clIns o (ix p.code i) = true → ∃ j, (j ≤ p.code.length ∧ ∀ k, k < j → clIns o (ix p.code k) = true) ∧ WeakE 2 (XSt.st (XSt.mk [(6, .int .i64 ((i + 1 : Nat) : Int)), (3, .ptr 1 [] 0), (2, .ptr 0 [] 0)] [(2, some (e_Ins (ix p.code i))), (1, some (e_own o)), (0, some (e_Prog p))] 3)) (clS 6 p o j).st ∧ p.code.length - j < p.code.length - i := fun h => by
      refine ⟨i + 1, ⟨hlt, fun j hj => ?_⟩, .ofL (weakT ⟨le_is rfl, le_is rfl, le_is rfl, trivial⟩ ⟨rfl, rfl, trivial⟩ (Nat.le_refl _) rfl), by omega⟩
      by_cases hji : j = i
      · subst hji; exact h
      · exact hp j (by omega)
    generalize ix p.code i = x at *
    have d3 : x.d < 16 := by omega
    have d4 : x.d.toNat < 16 := by omega
    simp only [g1, g2, g3, g4, g5, g6, g7, allN_true, cond_true, Nat.le_refl, decide_true, pl_eq, h1, w1, d1, d3, d4, Nat.beq_refl]
    simp only [bor, band]
    have part2 : ∀ (Y : Prop), (!((decide (formI x.op = 4) || decide (formI x.op = 5)) && onEB o x.a)) = true → (Y = (cond (decide (formI x.op ≥ 1) && decide (formI x.op ≤ 3) && decide (x.d > 0) && decide (o x.d.toNat = 1))
        (∃ s, ArgsLe [e_Ins x] [e_Ins s] ∧ PreIs True ∧ ∀ (y : List Int), y = readsF s → ∃ (s : (Nat → Int) × List Int), ArgsLe [.tab 16 1 fun i => .int .i64 (o i), e_row 1 e_i64 y] [e_own s.1, e_row 1 e_i64 s.2] ∧ PreIs (s.2.length ≤ 1000000000 ∧ ∀ x, x ∈ s.2 → x ≤ 15) ∧ ∀ (y : Bool), y = anyEB s.1 s.2 →
          cond (decide (formI x.op ≥ 1) && decide (formI x.op ≤ 3) && decide (x.d > 0) && decide (o x.d.toNat = 1) && y) (ResLe (.bool false) (.bool (closedF p o)))
            (∃ j, (j ≤ p.code.length ∧ ∀ k, k < j → clIns o (ix p.code k) = true) ∧ WeakE 2 (XSt.st (XSt.mk [(6, .int .i64 ((i + 1 : Nat) : Int)), (3, .ptr 1 [] 0), (2, .ptr 0 [] 0)] [(2, some (e_Ins x)), (1, some (e_own o)), (0, some (e_Prog p))] 3)) (clS 6 p o j).st ∧ p.code.length - j < p.code.length - i))
        (cond (!(decide (formI x.op ≥ 1) && decide (formI x.op ≤ 3) && decide (x.d > 0) && decide (o x.d.toNat = 1)))
          (∃ j, (j ≤ p.code.length ∧ ∀ k, k < j → clIns o (ix p.code k) = true) ∧ WeakE 2 (XSt.st (XSt.mk [(6, .int .i64 ((i + 1 : Nat) : Int)), (3, .ptr 1 [] 0), (2, .ptr 0 [] 0)] [(2, some (e_Ins x)), (1, some (e_own o)), (0, some (e_Prog p))] 3)) (clS 6 p o j).st ∧ p.code.length - j < p.code.length - i) False))) → Y := fun Y hA e => by
      rw [e]
      cases hc : (decide (formI x.op ≥ 1) && decide (formI x.op ≤ 3) && decide (x.d > 0) && decide (o x.d.toNat = 1)) with
      | false =>
        simp only [cond_false, Bool.not_false, cond_true]
        exact next (by unfold clIns; rw [hA, hc]; rfl)
      | true =>
        simp only [cond_true]
        refine ⟨x, .rfl, ⟨trivial⟩, ?_⟩
        rintro y rfl
        refine ⟨(o, readsF x), .rfl, ⟨by have := reads_ok (i := x); exact ⟨show (readsF x).length ≤ 1000000000 by omega, fun z hz => (this.2 z hz).2⟩⟩, ?_⟩
        intro y hy
        replace hy : y = anyEB o (readsF x) := hy
        subst hy
        refine cnd2 (fun h => bad ?_) (fun h => next ?_)
        · unfold clIns; rw [hA, hc]; simpa using h
        · unfold clIns; rw [hA, hc]; simpa using h
    cases hf : (decide (formI x.op = 4) || decide (formI x.op = 5)) with
    | true =>
      simp only [cond_true]
      refine ⟨(o, x.a), .rfl, ⟨a2⟩, ?_⟩
      intro y hy
      replace hy : y = onEB o x.a := hy
      subst hy
      refine cnd2 (fun h => bad ?_) (fun h => ?_)
      · unfold clIns; rw [hf]
        simp only [Bool.true_and] at h ⊢
        rw [h]; rfl
      · exact part2 _ (by rw [hf]; simpa using h) rfl
    | false =>
      simp only [cond_false, Bool.not_false, cond_true]
      exact part2 _ (by rw [hf]; rfl) rfl
  · have h1 : ¬ (i : Int) < (p.code.length : Int) := by omega
    simp only [h1, decide_false, cond_false]
    rw [hcl, allN_iff.2 fun j hj => hp j (by omega)]
    exact .rfl
end Go.Proofs.Ythmlnmkbeohojaa

/- The least owner. -/
namespace Go.Proofs.Ythmlnmkbeohojaa
open Go.Ra
set_option linter.unusedVariables false
set_option linter.unusedSimpArgs false
def TT7 : Tab := mkT2 qq cl_ref10 [(65, formSp)] [] [(29, rprS), (70, redS)] []
def owS (e : List (Nat × XV)) (p : Prog) (g : Nat → Int) : XSt := ⟨e ++ [(3, .ptr 2 [] 0), (2, .ptr 1 [] 0), (1, .ptr 0 [] 0)], [(2, some (.tab 16 1 (fun i => .int .i64 (g i)))), (1, some (.tab 16 1 (fun _ => .int .i64 0))), (0, some (e_Prog p))], 3⟩
def owS2 (l : List Int) (k i n : Nat) (x : Ins) (p : Prog) (g : Nat → Int) : XSt := ⟨[(10, .int .i64 k), (9, e_row 1 e_i64 l), (6, .int .i64 i), (5, .int .i64 n), (3, .ptr 2 [] 0), (2, .ptr 1 [] 0), (1, .ptr 0 [] 0)], [(3, some (e_Ins x)), (2, some (.tab 16 1 (fun i => .int .i64 (g i)))), (1, some (.tab 16 1 (fun _ => .int .i64 0))), (0, some (e_Prog p))], 4⟩
/-- One register more on A. -/
def setO (g : Nat → Int) (k : Nat) : Nat → Int := fun j => bif Nat.beq j k then 1 else g j
def ownA (x : Ins) (g : Nat → Int) : Nat → Int := if (decide (formI x.op = 4) || decide (formI x.op = 5)) && decide (x.a > 0) then setO g x.a.toNat else g
def ownR (l : List Int) (g : Nat → Int) : Nat → Int := l.foldl (fun g n => setO g n.toNat) g
def ownDB (x : Ins) (g : Nat → Int) : Bool := decide (formI x.op ≥ 1) && decide (formI x.op ≤ 3) && decide (x.d > 0) && decide (g x.d.toNat = 1)
def ownD (x : Ins) (g : Nat → Int) : Nat → Int := if ownDB x g then ownR (readsF x) g else g
def ownI (g : Nat → Int) (x : Ins) : Nat → Int := ownD x (ownA x g)
def ownK (p : Prog) (g : Nat → Int) (i : Nat) : Nat → Int := (p.code.take i).foldl ownI g
def own0 (i : Nat) : Nat → Int := fun j => bif decide (1 ≤ j) && decide (j < i) then 2 else 0
def ownN (p : Prog) : Nat → Nat → Int
  | 0 => own0 16
  | n + 1 => ownK p (ownN p n) p.code.length
/-- The least owner. -/
def ownerF (p : Prog) : Nat → Int := if rightProg p then ownN p 17 else fun _ => 0
def onrS : List XV → Option ((XV → Prop) → Prop) := skOf (fun p : Prog => [e_Prog p]) (fun p => p.wf) (fun p => ownerF p) (fun y => e_own y)
theorem r_own0 (p : Prog) (r : XV) : (goQ Try.prog TT7 [(.cell 2 .true 16)] r (.run c_ref10_Owner) [] ⟨envX 0 [e_Prog p], [], 0⟩) = (∃ (s : Prog), ArgsLe [e_Prog p] [e_Prog s] ∧ PreIs (Prog.wf s) ∧ ∀ (y : Bool), y = rightProg s → bif !y then ResLe (.tab 16 1 fun x => .int .i64 0) r else LoopAt
 (Ok Try.prog (Tab.q TT7)) c_ref10_Owner_l1 (XSt.mk [(4, .int .i64 1), (3, .ptr 2 [] 0), (2, .ptr 1 [] 0), (1, .ptr 0 [] 0)] [(2, some (.tab 16 1 fun x => .int .i64
 0)), (1, some (.tab 16 1 fun x => .int .i64 0)), (0, some (e_Prog p))] 3) [Frm.blk 0, Frm.seq c_ref10_Owner_p4] (finQR [AR.cell 2 true 16] r)) := by kernel_rfl
theorem r_own1 (p : Prog) (g : Nat → Int) (i : Nat) (r : XV) (A : XSt → Prop) : (goQ Try.prog TT7 [(.cell 2 .true 16)] r (.run c_ref10_Owner_l1) [.lp c_ref10_Owner_l1 A, .blk 0, .seq c_ref10_Owner_p4] (owS [(4, .int .i64 i)] p g)) = (bif decide ((↑i : Int) < 16) then bif decide ((↑i : Int) < 16) then bif Nat.beq (i * 1) (i * 1) then bif decide (i < 16) then bif decide (i < 16) then A (XSt.mk
 [(4, .int .i64 (IntKind.wrap .i64 ((↑i : Int) + (1 : Int)))), (3, .ptr 2 [] 0), (2, .ptr 1 [] 0), (1, .ptr 0 [] 0)] [(2, some (.tab 16 1 fun j => .int .i64 (bif
 Nat.beq j i then (2 : Int) else g j))), (1, some (.tab 16 1 fun x => .int .i64 0)), (0, some (e_Prog p))] 3) else False else False else False else False
else LoopAt
 (Ok Try.prog (Tab.q TT7)) c_ref10_Owner_l4 (XSt.mk [(5, .int .i64 0), (3, .ptr 2 [] 0), (2, .ptr 1 [] 0), (1, .ptr 0 [] 0)] [(2, some (.tab 16 1 fun i => .int .i64
 (g i))), (1, some (.tab 16 1 fun x => .int .i64 0)), (0, some (e_Prog p))] 3) [Frm.blk 2, Frm.seq c_ref10_Owner_p3] (finQR [AR.cell 2 true 16] r)) := by kernel_rfl 

theorem r_own4 (p : Prog) (g : Nat → Int) (n : Nat) (r : XV) (A : XSt → Prop) : (goQ Try.prog TT7 [(.cell 2 .true 16)] r (.run c_ref10_Owner_l4) [.lp c_ref10_Owner_l4 A, .blk 2, .seq c_ref10_Owner_p3] (owS [(5, .int .i64 n)] p g)) = (bif decide ((↑n : Int) < 17) then LoopAt (Ok Try.prog (Tab.q TT7)) c_ref10_Owner_l3 (XSt.mk [(6, .int .i64 0), (5, .int .i64 (↑n : Int)), (3, .ptr 2 [] 0), (2,
 .ptr 1 [] 0), (1, .ptr 0 [] 0)] [(2, some (.tab 16 1 fun i => .int .i64 (g i))), (1, some (.tab 16 1 fun x => .int .i64 0)), (0, some (e_Prog p))] 3) [Frm.blk 4,
 Frm.blk 3, Frm.seq c_ref10_Owner_p2, Frm.lp c_ref10_Owner_l4 A, Frm.blk 2, Frm.seq c_ref10_Owner_p3] (finQR [AR.cell 2 true 16] r)
else ResLe (.tab 16 1 fun i =>
 .int .i64 (g i)) r) := by kernel_rfl
theorem r_own3 (p : Prog) (g : Nat → Int) (n i : Nat) (r : XV) (A B : XSt → Prop) : (goQ Try.prog TT7 [(.cell 2 .true 16)] r (.run c_ref10_Owner_l3) [.lp c_ref10_Owner_l3 A, .blk 4, .blk 3, .seq c_ref10_Owner_p2, .lp c_ref10_Owner_l4 B, .blk 2, .seq c_ref10_Owner_p3] (owS [(6, .int .i64 i), (5, .int .i64 n)] p g)) = (bif decide ((↑i : Int) < (↑(List.length (Prog.code p)) : Int)) then bif decide ((↑i : Int) < (↑(List.length (Prog.code p)) : Int)) then bif bif decide (formI
 (Ins.op (ix (Prog.code p) i)) = 4) then true else !decide (formI (Ins.op (ix (Prog.code p) i)) = 4) then bif bif bif decide (formI (Ins.op (ix (Prog.code p) i))
 = 4) then true else decide (formI (Ins.op (ix (Prog.code p) i)) = 5) then bif decide (formI (Ins.op (ix (Prog.code p) i)) = 4) then true else decide (formI (Ins.op
 (ix (Prog.code p) i)) = 5) else true then bif bif bif decide (formI (Ins.op (ix (Prog.code p) i)) = 4) then true else decide (formI (Ins.op (ix (Prog.code p) i))
 = 5) then decide (Ins.a (ix (Prog.code p) i) > 0) else false then bif decide (0 ≤ Ins.a (ix (Prog.code p) i)) then bif decide (Ins.a (ix (Prog.code p) i) < 16) then
 bif Nat.beq (Int.toNat (Ins.a (ix (Prog.code p) i)) * 1) (Int.toNat (Ins.a (ix (Prog.code p) i)) * 1) then bif decide (Int.toNat (Ins.a (ix (Prog.code p) i)) < 16)
 then bif decide (Int.toNat (Ins.a (ix (Prog.code p) i)) < 16) then bif bif decide (formI (Ins.op (ix (Prog.code p) i)) ≥ 1) then decide (formI (Ins.op (ix (Prog.code
 p) i)) ≥ 1) else true then bif bif bif decide (formI (Ins.op (ix (Prog.code p) i)) ≥ 1) then decide (formI (Ins.op (ix (Prog.code p) i)) ≤ 3) else false then bif
 decide (formI (Ins.op (ix (Prog.code p) i)) ≥ 1) then decide (formI (Ins.op (ix (Prog.code p) i)) ≤ 3) else false else true then bif bif decide (0 ≤ Ins.d (ix (Prog.code
 p) i)) then true else !bif bif decide (formI (Ins.op (ix (Prog.code p) i)) ≥ 1) then decide (formI (Ins.op (ix (Prog.code p) i)) ≤ 3) else false then decide (Ins.d
 (ix (Prog.code p) i) > 0) else false then bif bif decide (Ins.d (ix (Prog.code p) i) < 16) then true else !bif bif decide (formI (Ins.op (ix (Prog.code p) i)) ≥
 1) then decide (formI (Ins.op (ix (Prog.code p) i)) ≤ 3) else false then decide (Ins.d (ix (Prog.code p) i) > 0) else false then bif bif Nat.beq (Int.toNat (Ins.d
 (ix (Prog.code p) i)) * 1) (Int.toNat (Ins.d (ix (Prog.code p) i)) * 1) then true else !bif bif decide (formI (Ins.op (ix (Prog.code p) i)) ≥ 1) then decide (formI
 (Ins.op (ix (Prog.code p) i)) ≤ 3) else false then decide (Ins.d (ix (Prog.code p) i) > 0) else false then bif bif decide (Int.toNat (Ins.d (ix (Prog.code p) i))
 < 16) then true else !bif bif decide (formI (Ins.op (ix (Prog.code p) i)) ≥ 1) then decide (formI (Ins.op (ix (Prog.code p) i)) ≤ 3) else false then decide (Ins.d
 (ix (Prog.code p) i) > 0) else false then bif bif bif bif decide (formI (Ins.op (ix (Prog.code p) i)) ≥ 1) then decide (formI (Ins.op (ix (Prog.code p) i)) ≤ 3)
 else false then decide (Ins.d (ix (Prog.code p) i) > 0) else false then bif bif decide (formI (Ins.op (ix (Prog.code p) i)) ≥ 1) then decide (formI (Ins.op (ix (Prog.code
 p) i)) ≤ 3) else false then decide (Ins.d (ix (Prog.code p) i) > 0) else false else true then bif bif bif bif decide (formI (Ins.op (ix (Prog.code p) i)) ≥ 1) then
 decide (formI (Ins.op (ix (Prog.code p) i)) ≤ 3) else false then decide (Ins.d (ix (Prog.code p) i) > 0) else false then decide ((bif Nat.beq (Int.toNat (Ins.d (ix
 (Prog.code p) i))) (Int.toNat (Ins.a (ix (Prog.code p) i))) then (1 : Int) else g (Int.toNat (Ins.d (ix (Prog.code p) i)))) = (1 : Int)) else false then ∃ (s : Ins),
 ArgsLe [e_Ins (ix (Prog.code p) i)] [e_Ins s] ∧ PreIs True ∧ ∀ (y : List Int), y = readsF s → LoopAt (Ok Try.prog (Tab.q TT7)) c_ref10_Owner_l2 (XSt.mk [(10, .int
 .i64 0), (9, e_row 1 e_i64 y), (6, .int .i64 (↑i : Int)), (5, .int .i64 (↑n : Int)), (3, .ptr 2 [] 0), (2, .ptr 1 [] 0), (1, .ptr 0 [] 0)] [(3, some (e_Ins (ix (Prog.code
 p) i))), (2, some (.tab 16 1 fun j => .int .i64 (bif Nat.beq j (Int.toNat (Ins.a (ix (Prog.code p) i))) then (1 : Int) else g j))), (1, some (.tab 16 1 fun x =>
 .int .i64 0)), (0, some (e_Prog p))] 4) [Frm.blk 6, Frm.blk 5, Frm.seq c_ref10_Owner_p1, Frm.lp c_ref10_Owner_l3 A, Frm.blk 4, Frm.blk 3, Frm.seq c_ref10_Owner_p2,
 Frm.lp c_ref10_Owner_l4 B, Frm.blk 2, Frm.seq c_ref10_Owner_p3] (finQR [AR.cell 2 true 16] r) else A (XSt.mk [(6, .int .i64 (IntKind.wrap .i64 ((↑i : Int) + (1 :
 Int)))), (5, .int .i64 (↑n : Int)), (3, .ptr 2 [] 0), (2, .ptr 1 [] 0), (1, .ptr 0 [] 0)] [(3, some (e_Ins (ix (Prog.code p) i))), (2, some (.tab 16 1 fun j => .int
 .i64 (bif Nat.beq j (Int.toNat (Ins.a (ix (Prog.code p) i))) then (1 : Int) else g j))), (1, some (.tab 16 1 fun x => .int .i64 0)), (0, some (e_Prog p))] 4) else
 False else False else False else False else False else False else False else False else False else False else False else False else bif bif decide (formI (Ins.op
 (ix (Prog.code p) i)) ≥ 1) then decide (formI (Ins.op (ix (Prog.code p) i)) ≥ 1) else true then bif bif bif decide (formI (Ins.op (ix (Prog.code p) i)) ≥ 1) then
 decide (formI (Ins.op (ix (Prog.code p) i)) ≤ 3) else false then bif decide (formI (Ins.op (ix (Prog.code p) i)) ≥ 1) then decide (formI (Ins.op (ix (Prog.code p)
 i)) ≤ 3) else false else true then bif bif decide (0 ≤ Ins.d (ix (Prog.code p) i)) then true else !bif bif decide (formI (Ins.op (ix (Prog.code p) i)) ≥ 1) then
 decide (formI (Ins.op (ix (Prog.code p) i)) ≤ 3) else false then decide (Ins.d (ix (Prog.code p) i) > 0) else false then bif bif decide (Ins.d (ix (Prog.code p)
 i) < 16) then true else !bif bif decide (formI (Ins.op (ix (Prog.code p) i)) ≥ 1) then decide (formI (Ins.op (ix (Prog.code p) i)) ≤ 3) else false then decide (Ins.d
 (ix (Prog.code p) i) > 0) else false then bif bif Nat.beq (Int.toNat (Ins.d (ix (Prog.code p) i)) * 1) (Int.toNat (Ins.d (ix (Prog.code p) i)) * 1) then true else
 !bif bif decide (formI (Ins.op (ix (Prog.code p) i)) ≥ 1) then decide (formI (Ins.op (ix (Prog.code p) i)) ≤ 3) else false then decide (Ins.d (ix (Prog.code p) i)
 > 0) else false then bif bif decide (Int.toNat (Ins.d (ix (Prog.code p) i)) < 16) then true else !bif bif decide (formI (Ins.op (ix (Prog.code p) i)) ≥ 1) then decide
 (formI (Ins.op (ix (Prog.code p) i)) ≤ 3) else false then decide (Ins.d (ix (Prog.code p) i) > 0) else false then bif bif bif bif decide (formI (Ins.op (ix (Prog.code
 p) i)) ≥ 1) then decide (formI (Ins.op (ix (Prog.code p) i)) ≤ 3) else false then decide (Ins.d (ix (Prog.code p) i) > 0) else false then bif bif decide (formI (Ins.op
 (ix (Prog.code p) i)) ≥ 1) then decide (formI (Ins.op (ix (Prog.code p) i)) ≤ 3) else false then decide (Ins.d (ix (Prog.code p) i) > 0) else false else true then
 bif bif bif bif decide (formI (Ins.op (ix (Prog.code p) i)) ≥ 1) then decide (formI (Ins.op (ix (Prog.code p) i)) ≤ 3) else false then decide (Ins.d (ix (Prog.code
 p) i) > 0) else false then decide (g (Int.toNat (Ins.d (ix (Prog.code p) i))) = 1) else false then ∃ (s : Ins), ArgsLe [e_Ins (ix (Prog.code p) i)] [e_Ins s] ∧ PreIs
 True ∧ ∀ (y : List Int), y = readsF s → LoopAt (Ok Try.prog (Tab.q TT7)) c_ref10_Owner_l2 (XSt.mk [(10, .int .i64 0), (9, e_row 1 e_i64 y), (6, .int .i64 (↑i : Int)),
 (5, .int .i64 (↑n : Int)), (3, .ptr 2 [] 0), (2, .ptr 1 [] 0), (1, .ptr 0 [] 0)] [(3, some (e_Ins (ix (Prog.code p) i))), (2, some (.tab 16 1 fun i => .int .i64
 (g i))), (1, some (.tab 16 1 fun x => .int .i64 0)), (0, some (e_Prog p))] 4) [Frm.blk 6, Frm.blk 5, Frm.seq c_ref10_Owner_p1, Frm.lp c_ref10_Owner_l3 A, Frm.blk
 4, Frm.blk 3, Frm.seq c_ref10_Owner_p2, Frm.lp c_ref10_Owner_l4 B, Frm.blk 2, Frm.seq c_ref10_Owner_p3] (finQR [AR.cell 2 true 16] r) else A (XSt.mk [(6, .int .i64
 (IntKind.wrap .i64 ((↑i : Int) + (1 : Int)))), (5, .int .i64 (↑n : Int)), (3, .ptr 2 [] 0), (2, .ptr 1 [] 0), (1, .ptr 0 [] 0)] [(3, some (e_Ins (ix (Prog.code p)
 i))), (2, some (.tab 16 1 fun i => .int .i64 (g i))), (1, some (.tab 16 1 fun x => .int .i64 0)), (0, some (e_Prog p))] 4) else False else False else False else
 False else False else False else False else False else False else False
else B (XSt.mk [(5, .int .i64 (IntKind.wrap .i64 ((↑n : Int) + (1 : Int)))), (3, .ptr 2 []
 0), (2, .ptr 1 [] 0), (1, .ptr 0 [] 0)] [(2, some (.tab 16 1 fun i => .int .i64 (g i))), (1, some (.tab 16 1 fun x => .int .i64 0)), (0, some (e_Prog p))] 3)) :=
 by kernel_rfl
theorem r_own2 (p : Prog) (g : Nat → Int) (l : List Int) (x : Ins) (k i n : Nat) (r : XV) (A C B : XSt → Prop) : (goQ Try.prog TT7 [(.cell 2 .true 16)] r (.run c_ref10_Owner_l2) [.lp c_ref10_Owner_l2 C, .blk 6, .blk 5, .seq c_ref10_Owner_p1, .lp c_ref10_Owner_l3 A, .blk 4, .blk 3, .seq c_ref10_Owner_p2, .lp c_ref10_Owner_l4 B, .blk 2, .seq c_ref10_Owner_p3] (owS2 l k i n x p g)) = (bif decide ((↑k : Int) < (↑(List.length l) : Int)) then bif decide ((↑k : Int) < (↑(List.length l) : Int)) then bif decide (0 ≤ ix l k) then bif decide (ix l
 k < 16) then bif Nat.beq (Int.toNat (ix l k) * 1) (Int.toNat (ix l k) * 1) then bif decide (Int.toNat (ix l k) < 16) then bif decide (Int.toNat (ix l k) < 16) then
 C (XSt.mk [(10, .int .i64 (IntKind.wrap .i64 ((↑k : Int) + (1 : Int)))), (9, e_row 1 e_i64 l), (6, .int .i64 (↑i : Int)), (5, .int .i64 (↑n : Int)), (3, .ptr 2 []
 0), (2, .ptr 1 [] 0), (1, .ptr 0 [] 0)] [(3, some (e_Ins x)), (2, some (.tab 16 1 fun j => .int .i64 (bif Nat.beq j (Int.toNat (ix l k)) then (1 : Int) else g j))),
 (1, some (.tab 16 1 fun x => .int .i64 0)), (0, some (e_Prog p))] 4) else False else False else False else False else False else False
else A (XSt.mk [(6, .int .i64
 (IntKind.wrap .i64 ((↑i : Int) + (1 : Int)))), (5, .int .i64 (↑n : Int)), (3, .ptr 2 [] 0), (2, .ptr 1 [] 0), (1, .ptr 0 [] 0)] [(3, some (e_Ins x)), (2, some (.tab
 16 1 fun i => .int .i64 (g i))), (1, some (.tab 16 1 fun x => .int .i64 0)), (0, some (e_Prog p))] 4)) := by kernel_rfl
theorem TT7ok : TabOk Try.prog TT7 := mkT2_ok clok_ref10 ⟨sp_form, trivial⟩ trivial ⟨sk_rpr, sk_reads, trivial⟩ trivial
theorem ownK_step {p : Prog} {g : Nat → Int} {i : Nat} (h : i < p.code.length) : ownK p g (i + 1) = ownI (ownK p g i) (ix p.code i) := by
  unfold ownK
  rw [List.take_succ_eq_append_getElem h, List.foldl_append, ix_lt h]
  rfl
theorem ownR_step {l : List Int} {g : Nat → Int} {k : Nat} (h : k < l.length) : ownR (l.take (k + 1)) g = setO (ownR (l.take k) g) (ix l k).toNat := by
  unfold ownR
  rw [List.take_succ_eq_append_getElem h, List.foldl_append, ix_lt h]
  rfl
theorem sk_owner : SkOk Try.prog (48, onrS) := skOf_ok fun p hw => by
  have hw : p.wf := hw
  have hl := hw.1.2
  show Pure _ _ (cons [e_Prog p]) (con (e_own (ownerF p)))
  refine pureQ mix TT7ok t_ref10_Owner (Nat.le_of_ble_eq_true rfl) ?_
  refine Eq.mpr (r_own0 p _) ?_
  refine ⟨p, .rfl, ⟨hw⟩, ?_⟩
  rintro y rfl
  unfold ownerF
  cases hr : rightProg p with
  | false => exact .rfl
  | true =>
  simp only [Bool.not_true, cond_false, if_true]
  refine loopQ mix TT7ok (fun i : Nat => owS [(4, .int .i64 i)] p (own0 i)) (fun i => 1 ≤ i ∧ i ≤ 16) (fun i => 16 - i) 1 ⟨Nat.le_refl _, by omega⟩ (.of (weakX ⟨rfl, rfl, rfl, rfl, trivial⟩ ⟨congrArg some (con_tabC fun j hj => by
    show con (.int .i64 0) = con (.int .i64 (bif decide (1 ≤ j) && decide (j < 1) then 2 else 0))
    by_cases h : 1 ≤ j
    · rw [decide_eq_false (show ¬ j < 1 by omega), Bool.and_false]; rfl
    · rw [decide_eq_false h]; rfl), rfl, rfl, trivial⟩ (Nat.le_refl _))) ?_
  rintro i ⟨hi1, hi⟩
  refine Eq.mpr (r_own1 p (own0 i) i _ _) ?_
  by_cases hlt : i < 16
  · have h1 : (i : Int) < 16 := by omega
    have w1 : IntKind.i64.wrap ((i : Int) + 1) = ((i + 1 : Nat) : Int) := wrap_i64 (by omega) (by omega)
    simp only [g1, g2, g3, g4, g5, g6, g7, allN_true, cond_true, Nat.le_refl, decide_true, pl_eq, h1, hlt, w1, Nat.beq_refl]
    refine ⟨i + 1, ⟨by omega, hlt⟩, .of (weakX ⟨rfl, rfl, rfl, rfl, trivial⟩ ⟨congrArg some (con_tabC fun j hj => ?_), rfl, rfl, trivial⟩ (Nat.le_refl _)), by omega⟩
    show con (.int .i64 (bif Nat.beq j i then 2 else bif decide (1 ≤ j) && decide (j < i) then 2 else 0)) = con (.int .i64 (bif decide (1 ≤ j) && decide (j < i + 1) then 2 else 0))
    rw [beq_dec]
    congr 2
    by_cases hji : j = i
    · subst hji
      rw [decide_eq_true hi1, decide_eq_true (Nat.lt_succ_self j)]; simp
    · rw [decide_eq_false hji]
      have : decide (j < i + 1) = decide (j < i) := decide_eq_decide.2 (by omega)
      rw [this]; rfl
  have h1 : ¬ (i : Int) < 16 := by omega
  obtain rfl : i = 16 := by omega
  simp only [h1, decide_false, cond_false]
  refine loopQ mix TT7ok (fun n : Nat => owS [(5, .int .i64 n)] p (ownN p n)) (fun n => n ≤ 17) (fun n => 17 - n) 0 (Nat.zero_le _) (.of (weakX ⟨rfl, rfl, rfl, rfl, trivial⟩ ⟨rfl, rfl, rfl, trivial⟩ (Nat.le_refl _))) ?_
  intro n hn
  refine Eq.mpr (r_own4 p (ownN p n) n _ _) ?_
  by_cases hlt : n < 17
  case neg =>
    have h1 : ¬ (n : Int) < 17 := by omega
    obtain rfl : n = 17 := by omega
    simp only [h1, decide_false, cond_false]
    exact .rfl
  have h2 : (n : Int) < 17 := by omega
  simp only [h2, decide_true, cond_true]
  refine loopQ mix TT7ok (fun i : Nat => owS [(6, .int .i64 i), (5, .int .i64 n)] p (ownK p (ownN p n) i)) (fun i => i ≤ p.code.length) (fun i => p.code.length - i) 0 (Nat.zero_le _) (.of (weakX ⟨rfl, rfl, rfl, rfl, rfl, trivial⟩ ⟨rfl, rfl, rfl, trivial⟩ (Nat.le_refl _))) ?_
  intro i hi
  refine Eq.mpr (r_own3 p _ n i _ _ _) ?_
  by_cases hli : i < p.code.length
  case neg =>
    have h1 : ¬ (i : Int) < (p.code.length : Int) := by omega
    obtain rfl : i = p.code.length := by omega
    have w1 : IntKind.i64.wrap ((n : Int) + 1) = ((n + 1 : Nat) : Int) := wrap_i64 (by omega) (by omega)
    simp only [h1, decide_false, cond_false, w1]
    exact ⟨n + 1, hlt, .of (weakX ⟨rfl, rfl, rfl, rfl, trivial⟩ ⟨rfl, rfl, rfl, trivial⟩ (Nat.le_refl _)), by omega⟩
  have h3 : (i : Int) < (p.code.length : Int) := by omega
  have w1 : IntKind.i64.wrap ((i : Int) + 1) = ((i + 1 : Nat) : Int) := wrap_i64 (by omega) (by omega)
  obtain ⟨⟨d1, d2⟩, ⟨a1, a2⟩, _⟩ := right_regs (right_all hr hli)
  have st := ownK_step (g := ownN p n) hli
  have next : ∀ g, g = ownI (ownK p (ownN p n) i) (ix p.code i) → ∃ j, j ≤ p.code.length ∧ WeakE 3 (XSt.st (XSt.mk [(6, .int .i64 ((i + 1 : Nat) : Int)), (5, .int .i64 ↑n), (3, .ptr 2 [] 0), (2, .ptr 1 [] 0), (1, .ptr 0 [] 0)] [(3, some (e_Ins (ix p.code i))), (2, some (.tab 16 1 fun i => .int .i64 (g i))), (1, some (.tab 16 1 fun x => .int .i64 0)), (0, some (e_Prog p))] 4)) (owS [(6, .int .i64 j), (5, .int .i64 n)] p (ownK p (ownN p n) j)).st ∧ p.code.length - j < p.code.length - i := fun g hg => by
    refine ⟨i + 1, hli, ?_, by omega⟩
    rw [st, hg]
    exact .ofL (weakT ⟨le_is rfl, le_is rfl, le_is rfl, le_is rfl, le_is rfl, trivial⟩ ⟨rfl, rfl, rfl, trivial⟩ (Nat.le_refl _) rfl)
  generalize hx : ix p.code i = x at *
  generalize ownK p (ownN p n) i = g at *
  have d3 : x.d < 16 := by omega
  have d4 : x.d.toNat < 16 := by omega
  have a3 : x.a < 16 := by omega
  have a4 : x.a.toNat < 16 := by omega
  simp only [g1, g2, g3, g4, g5, g6, g7, allN_true, cond_true, Nat.le_refl, decide_true, pl_eq, h3, w1, d1, d3, d4, a1, a3, a4, Nat.beq_refl]
  simp only [bor, band]
  have tail : ∀ (g' : Nat → Int) (L : List Int → Prop) (E : Prop), (ownDB x g' = true → L (readsF x)) → (ownDB x g' = false → E) →
      cond (decide (formI x.op ≥ 1) && decide (formI x.op ≤ 3) && decide (x.d > 0) && decide (g' x.d.toNat = 1)) (∃ s, ArgsLe [e_Ins x] [e_Ins s] ∧ PreIs True ∧ ∀ (y : List Int), y = readsF s → L y) E := fun g' L E hL hE =>
    cnd2 (fun h => ⟨x, .rfl, ⟨trivial⟩, fun y hy => by rw [show y = readsF x from hy]; exact hL h⟩) hE
  cases hA : (decide (formI x.op = 4) || decide (formI x.op = 5)) && decide (x.a > 0) with
  | true =>
    simp only [cond_true]
    have hG : ownA x g = setO g x.a.toNat := by unfold ownA; rw [hA]; rfl
    refine tail (setO g x.a.toNat) _ _ (fun hD => ?_) (fun hD => next _ ?_)
    · refine loopQ mix TT7ok (fun k : Nat => owS2 (readsF x) k i n x p (ownR ((readsF x).take k) (setO g x.a.toNat))) (fun k => k ≤ (readsF x).length) (fun k => (readsF x).length - k) 0 (Nat.zero_le _) (.of (weakX ⟨rfl, rfl, rfl, rfl, rfl, rfl, rfl, trivial⟩ ⟨rfl, rfl, rfl, rfl, trivial⟩ (Nat.le_refl _))) ?_
      intro k hk
      refine Eq.mpr (r_own2 p _ (readsF x) x k i n _ _ _ _) ?_
      have hrd := reads_ok (i := x)
      by_cases hlk : k < (readsF x).length
      · have k1 : (k : Int) < ((readsF x).length : Int) := by omega
        have w2 : IntKind.i64.wrap ((k : Int) + 1) = ((k + 1 : Nat) : Int) := wrap_i64 (by omega) (by omega)
        have hz := hrd.2 _ (ix_mem hlk)
        have k2 : 0 ≤ ix (readsF x) k := by omega
        have k3 : ix (readsF x) k < 16 := by omega
        have k4 : (ix (readsF x) k).toNat < 16 := by omega
        simp only [g1, g2, g3, g4, g5, g6, g7, allN_true, cond_true, Nat.le_refl, decide_true, pl_eq, k1, k2, k3, k4, w2, Nat.beq_refl]
        refine ⟨k + 1, hlk, ?_, by omega⟩
        rw [ownR_step hlk]
        exact .of (weakX ⟨rfl, rfl, rfl, rfl, rfl, rfl, rfl, trivial⟩ ⟨rfl, rfl, rfl, rfl, trivial⟩ (Nat.le_refl _))
      · have k1 : ¬ (k : Int) < ((readsF x).length : Int) := by omega
        obtain rfl : k = (readsF x).length := by omega
        simp only [k1, decide_false, cond_false, w1]
        refine next _ ?_
        rw [List.take_length]
        unfold ownI ownD
        rw [hG, hD]
        rfl
    · unfold ownI ownD
      rw [hG, hD]
      rfl
  | false =>
    simp only [cond_false]
    have hG : ownA x g = g := by unfold ownA; rw [hA]; rfl
    refine tail (g) _ _ (fun hD => ?_) (fun hD => next _ ?_)
    · refine loopQ mix TT7ok (fun k : Nat => owS2 (readsF x) k i n x p (ownR ((readsF x).take k) (g))) (fun k => k ≤ (readsF x).length) (fun k => (readsF x).length - k) 0 (Nat.zero_le _) (.of (weakX ⟨rfl, rfl, rfl, rfl, rfl, rfl, rfl, trivial⟩ ⟨rfl, rfl, rfl, rfl, trivial⟩ (Nat.le_refl _))) ?_
      intro k hk
      refine Eq.mpr (r_own2 p _ (readsF x) x k i n _ _ _ _) ?_
      have hrd := reads_ok (i := x)
      by_cases hlk : k < (readsF x).length
      · have k1 : (k : Int) < ((readsF x).length : Int) := by omega
        have w2 : IntKind.i64.wrap ((k : Int) + 1) = ((k + 1 : Nat) : Int) := wrap_i64 (by omega) (by omega)
        have hz := hrd.2 _ (ix_mem hlk)
        have k2 : 0 ≤ ix (readsF x) k := by omega
        have k3 : ix (readsF x) k < 16 := by omega
        have k4 : (ix (readsF x) k).toNat < 16 := by omega
        simp only [g1, g2, g3, g4, g5, g6, g7, allN_true, cond_true, Nat.le_refl, decide_true, pl_eq, k1, k2, k3, k4, w2, Nat.beq_refl]
        refine ⟨k + 1, hlk, ?_, by omega⟩
        rw [ownR_step hlk]
        exact .of (weakX ⟨rfl, rfl, rfl, rfl, rfl, rfl, rfl, trivial⟩ ⟨rfl, rfl, rfl, rfl, trivial⟩ (Nat.le_refl _))
      · have k1 : ¬ (k : Int) < ((readsF x).length : Int) := by omega
        obtain rfl : k = (readsF x).length := by omega
        simp only [k1, decide_false, cond_false, w1]
        refine next _ ?_
        rw [List.take_length]
        unfold ownI ownD
        rw [hG, hD]
        rfl
    · unfold ownI ownD
      rw [hG, hD]
      rfl
end Go.Proofs.Ythmlnmkbeohojaa

/- The split of a program by an owner. -/
namespace Go.Proofs.Ythmlnmkbeohojaa
open Go.Ra
set_option linter.unusedVariables false
set_option linter.unusedSimpArgs false
def TT8 : Tab := mkT2 qq cl_ref10 [] [] [(67, clsS), (69, emtS)] [(68, cutM)]
/-- Blocks, of which the cells' rows are told by functions. -/
def wTab (bl : List Block) (xA xE : Nat → Bool) (eA eE nA nE : Nat → Nat) (fA fE : Nat → Nat → XV) (j : Nat) : XV := .agg 6 [.int .i64 (ix bl j).src, .int .i64 (ix bl j).dst, .int .i64 (ix bl j).next, .int .i64 (ix bl j).taken, .row (xA j) (eA j) (nA j) (fA j), .row (xE j) (eE j) (nE j) (fE j)]
def wtS (p : Prog) (o : Nat → Int) (bl : List Block) (f : Nat → XV) (i : Nat) : XSt := ⟨[(7, .int .i64 i), (6, .ptr 4 [] 0), (4, .ptr 2 [] 0), (3, .ptr 1 [] 0), (2, .ptr 0 [] 0)], [(4, some (.agg 17 [.sl 3 [] 0 0 bl.length 6, .tab 16 1 fun i => .int .i64 (o i)])), (3, some (.tab bl.length 6 f)), (2, some (.agg 17 [.row true 0 0 fun x => .unk, .tab 16 1 fun x => .int .i64 0])), (1, some (.tab 16 1 fun i => .int .i64 (o i))), (0, some (e_Prog p))], 5⟩
def wiS (p : Prog) (o : Nat → Int) (bl : List Block) (f f' : Nat → XV) (i : Nat) (m : Nat) (ca ce : List Cell) : XSt := ⟨[(9, .int .i64 m), (8, .ptr 3 [1] (i * 6)), (7, .int .i64 i), (6, .ptr 4 [] 0), (4, .ptr 2 [] 0), (3, .ptr 1 [] 0), (2, .ptr 0 [] 0)], [(6, some (.tab ce.length 9 (fun k => e_Cell (ix ce k)))), (5, some (.tab ca.length 9 (fun k => e_Cell (ix ca k)))), (4, some (.agg 17 [.sl 3 [] 0 0 bl.length 6, .tab 16 1 fun i => .int .i64 (o i)])), (3, some (.agg (bl.length * 6) [.tab i 6 f, .agg 6 [.int .i64 (ix bl i).src, .int .i64 (ix bl i).dst, .int .i64 (ix bl i).next, .int .i64 (ix bl i).taken, .sl 5 [] 0 0 ca.length 9, .sl 6 [] 0 0 ce.length 9], .tab (bl.length - i - 1) 6 f'])), (2, some (.agg 17 [.row true 0 0 fun x => .unk, .tab 16 1 fun x => .int .i64 0])), (1, some (.tab 16 1 fun i => .int .i64 (o i))), (0, some (e_Prog p))], 7⟩
/-- A's cells of the first so many instructions of a block, and E's. -/
def emA (p : Prog) (o : Nat → Int) (b : Block) (k : Nat) : List Cell := (List.range k).flatMap fun j => (emitF (ix p.code (b.src.toNat + j)) o ((b.src.toNat + j : Nat) : Int) (j : Int)).1
def emE (p : Prog) (o : Nat → Int) (b : Block) (k : Nat) : List Cell := (List.range k).flatMap fun j => (emitF (ix p.code (b.src.toNat + j)) o ((b.src.toNat + j : Nat) : Int) (j : Int)).2
def blkN (b : Block) : Nat := (b.dst - b.src).toNat
def withB (p : Prog) (o : Nat → Int) (b : Block) : Block := ⟨b.src, b.dst, b.next, b.taken, emA p o b (blkN b), emE p o b (blkN b)⟩
/-- A program's split by an owner. -/
def withF (p : Prog) (o : Nat → Int) : Split × Int := if closedF p o then (⟨(cutF p).map (withB p o), o⟩, 0) else (⟨[], fun _ => 0⟩, 1)
def splitF (p : Prog) : Split × Int := withF p (ownerF p)
def e_SplitE (y : Split × Int) : XV := .tup [e_Split y.1, .int .i64 y.2]
def witS : List XV → Option ((XV → Prop) → Prop) := skOf (fun q : Prog × (Nat → Int) => [e_Prog q.1, e_own q.2]) (fun q => q.1.wf) (fun q => withF q.1 q.2) (fun y => e_SplitE y)
def splS : List XV → Option ((XV → Prop) → Prop) := skOf (fun p : Prog => [e_Prog p]) (fun p => p.wf) (fun p => splitF p) (fun y => e_SplitE y)
/-- The blocks, of which the first so many have their cells. -/
def wF (p : Prog) (o : Nat → Int) (bl : List Block) (i : Nat) : Nat → XV := wTab bl (fun j => !decide (j < i)) (fun j => !decide (j < i)) (fun j => bif decide (j < i) then 9 else 0) (fun j => bif decide (j < i) then 9 else 0)
  (fun j => bif decide (j < i) then (emA p o (ix bl j) (blkN (ix bl j))).length else 0) (fun j => bif decide (j < i) then (emE p o (ix bl j) (blkN (ix bl j))).length else 0)
  (fun j k => bif decide (j < i) then e_Cell (ix (emA p o (ix bl j) (blkN (ix bl j))) k) else .unk) (fun j k => bif decide (j < i) then e_Cell (ix (emE p o (ix bl j) (blkN (ix bl j))) k) else .unk)
def TT9 : Tab := mkT2 qq cl_ref10 [] [] [(48, onrS), (47, witS)] []
theorem r_with0 (p : Prog) (o : Nat → Int) (r : XV) : (goQ Try.prog TT8 [(.cell 4 .true 17), (.tmp 5)] r (.run c_ref10_With) [] ⟨envX 0 [e_Prog p, e_own o], [], 0⟩) = (∃ (s : Prog × (Nat → Int)), ArgsLe [e_Prog p, .tab 16 1 fun i => .int .i64 (o i)] [e_Prog (Prod.fst s), e_own (Prod.snd s)] ∧ PreIs (Prog.wf (Prod.fst s)) ∧
 ∀ (y : Bool), y = closedF (Prod.fst s) (Prod.snd s) → bif !y then ResLe (.tup [.agg 17 [.row true 0 0 fun x => .unk, .tab 16 1 fun x => .int .i64 0], .int .i64 1])
 r else ∃ (s : Prog), ArgsLe [e_Prog p] [e_Prog s] ∧ PreIs (Prog.wf s) ∧ ∀ (y : List Block), y = cutF s → LoopAt (Ok Try.prog (Tab.q TT8)) c_ref10_With_l2 (XSt.mk
 [(7, .int .i64 0), (6, .ptr 4 [] 0), (5, .int .i64 0), (4, .ptr 2 [] 0), (3, .ptr 1 [] 0), (2, .ptr 0 [] 0)] [(4, some (.agg 17 [.sl 3 [] 0 0 (List.length y) 6,
 .tab 16 1 fun i => .int .i64 (o i)])), (3, some (.tab (List.length y) 6 fun i => e_blk0 (ix y i))), (2, some (.agg 17 [.row true 0 0 fun x => .unk, .tab 16 1 fun
 x => .int .i64 0])), (1, some (.tab 16 1 fun i => .int .i64 (o i))), (0, some (e_Prog p))] 5) [Frm.blk 0, Frm.seq c_ref10_With_p2] (finQR [AR.cell 4 true 17, AR.tmp
 5] r)) := by kernel_rfl
theorem r_with2 (p : Prog) (o : Nat → Int) (bl : List Block) (xA xE : Nat → Bool) (eA eE nA nE : Nat → Nat) (fA fE : Nat → Nat → XV) (i : Nat) (r : XV) (B : XSt → Prop) : (goQ Try.prog TT8 [(.cell 4 .true 17), (.tmp 5)] r (.run c_ref10_With_l2) [.lp c_ref10_With_l2 B, .blk 0, .seq c_ref10_With_p2] (wtS p o bl (wTab bl xA xE eA eE nA nE fA fE) i)) = (bif decide ((↑i : Int) < (↑(List.length bl) : Int)) then bif decide ((↑i : Int) < (↑(List.length bl) : Int)) then bif Nat.beq (pl (i * 6) 0) (pl (i * 6) 0) then
 bif decide (i < List.length bl) then LoopAt (Ok Try.prog (Tab.q TT8)) c_ref10_With_l1 (XSt.mk [(9, .int .i64 (Block.src (ix bl i))), (8, .ptr 3 [i] (i * 6)), (7,
 .int .i64 (↑i : Int)), (6, .ptr 4 [] 0), (4, .ptr 2 [] 0), (3, .ptr 1 [] 0), (2, .ptr 0 [] 0)] [(4, some (.agg 17 [.sl 3 [] 0 0 (List.length bl) 6, .tab 16 1 fun
 i => .int .i64 (o i)])), (3, some (.tab (List.length bl) 6 fun j => .agg 6 [.int .i64 (Block.src (ix bl j)), .int .i64 (Block.dst (ix bl j)), .int .i64 (Block.next
 (ix bl j)), .int .i64 (Block.taken (ix bl j)), .row (xA j) (eA j) (nA j) fun a => fA j a, .row (xE j) (eE j) (nE j) fun a => fE j a])), (2, some (.agg 17 [.row true
 0 0 fun x => .unk, .tab 16 1 fun x => .int .i64 0])), (1, some (.tab 16 1 fun i => .int .i64 (o i))), (0, some (e_Prog p))] 5) [Frm.blk 2, Frm.blk 1, Frm.seq c_ref10_With_p1,
 Frm.lp c_ref10_With_l2 B, Frm.blk 0, Frm.seq c_ref10_With_p2] (finQR [AR.cell 4 true 17, AR.tmp 5] r) else False else False else False
else bif decide (List.length
 bl ≤ List.length bl) then ResLe (.tup [.agg 17 [.row false 6 (List.length bl) fun i => .agg 6 [.int .i64 (Block.src (ix bl i)), .int .i64 (Block.dst (ix bl i)),
 .int .i64 (Block.next (ix bl i)), .int .i64 (Block.taken (ix bl i)), .row (xA i) (eA i) (nA i) fun a => fA i a, .row (xE i) (eE i) (nE i) fun a => fE i a], .tab
 16 1 fun i => .int .i64 (o i)], .int .i64 0]) r else False) := by kernel_rfl
theorem r_with1 (p : Prog) (o : Nat → Int) (bl : List Block) (f f' : Nat → XV) (i m : Nat) (ca ce : List Cell) (r : XV) (A B : XSt → Prop) : (goQ Try.prog TT8 [(.cell 4 .true 17), (.tmp 5)] r (.run c_ref10_With_l1) [.lp c_ref10_With_l1 A, .blk 2, .blk 1, .seq c_ref10_With_p1, .lp c_ref10_With_l2 B, .blk 0, .seq c_ref10_With_p2] (wiS p o bl f f' i m ca ce)) = (bif Nat.beq (pl (sizesX (List.take 1 [.tab i 6 fun a => f a, .agg 6 [.int .i64 (Block.src (ix bl i)), .int .i64 (Block.dst (ix bl i)), .int .i64 (Block.next
 (ix bl i)), .int .i64 (Block.taken (ix bl i)), .sl 5 [] 0 0 (List.length ca) 9, .sl 6 [] 0 0 (List.length ce) 9], .tab (List.length bl - i - 1) 6 fun a => f' a]))
 1) (pl (i * 6) 1) then bif decide ((↑m : Int) < Block.dst (ix bl i)) then bif decide ((↑m : Int) < (↑(List.length (Prog.code p)) : Int)) then bif Nat.beq (pl (sizesX
 (List.take 1 [.tab i 6 fun a => f a, .agg 6 [.int .i64 (Block.src (ix bl i)), .int .i64 (Block.dst (ix bl i)), .int .i64 (Block.next (ix bl i)), .int .i64 (Block.taken
 (ix bl i)), .sl 5 [] 0 0 (List.length ca) 9, .sl 6 [] 0 0 (List.length ce) 9], .tab (List.length bl - i - 1) 6 fun a => f' a])) 0) (pl (i * 6) 0) then ∃ (s : Ins
 × (Nat → Int) × Int × Int), ArgsLe [e_Ins (ix (Prog.code p) m), .tab 16 1 fun i => .int .i64 (o i), .int .i64 (↑m : Int), .int .i64 (IntKind.wrap .i64 ((↑m : Int)
 - Block.src (ix bl i)))] [e_Ins (Prod.fst s), e_own (Prod.fst (Prod.snd s)), .int .i64 (Prod.fst (Prod.snd (Prod.snd s))), .int .i64 (Prod.snd (Prod.snd (Prod.snd
 s)))] ∧ PreIs True ∧ ∀ (y : List Cell × List Cell), y = emitF (Prod.fst s) (Prod.fst (Prod.snd s)) (Prod.fst (Prod.snd (Prod.snd s))) (Prod.snd (Prod.snd (Prod.snd
 s))) → bif Nat.beq (pl (sizesX (List.take 1 [.tab i 6 fun a => f a, .agg 6 [.int .i64 (Block.src (ix bl i)), .int .i64 (Block.dst (ix bl i)), .int .i64 (Block.next
 (ix bl i)), .int .i64 (Block.taken (ix bl i)), .sl 5 [] 0 0 (List.length ca) 9, .sl 6 [] 0 0 (List.length ce) 9], .tab (List.length bl - i - 1) 6 fun a => f' a]))
 4) (pl (i * 6) 4) then bif decide (List.length ca ≤ List.length ca) then bif decide (pl (List.length ca) (List.length (Prod.fst y)) * 72 ≤ 140737488355328) then
 bif Nat.beq (pl (sizesX (List.take 1 [.tab i 6 fun a => f a, .agg 6 [.int .i64 (Block.src (ix bl i)), .int .i64 (Block.dst (ix bl i)), .int .i64 (Block.next (ix
 bl i)), .int .i64 (Block.taken (ix bl i)), .sl 5 [] 0 0 (List.length ca) 9, .sl 6 [] 0 0 (List.length ce) 9], .tab (List.length bl - i - 1) 6 fun a => f' a])) 4)
 (pl (i * 6) 4) then bif Nat.beq (pl (sizesX (List.take 1 (List.set [.tab i 6 fun a => f a, .agg 6 [.int .i64 (Block.src (ix bl i)), .int .i64 (Block.dst (ix bl i)),
 .int .i64 (Block.next (ix bl i)), .int .i64 (Block.taken (ix bl i)), .sl 5 [] 0 0 (List.length ca) 9, .sl 6 [] 0 0 (List.length ce) 9], .tab (List.length bl - i
 - 1) 6 fun a => f' a] 1 (.agg 6 [.int .i64 (Block.src (ix bl i)), .int .i64 (Block.dst (ix bl i)), .int .i64 (Block.next (ix bl i)), .int .i64 (Block.taken (ix bl
 i)), .sl 7 [] 0 0 (pl (List.length ca) (List.length (Prod.fst y))) 9, .sl 6 [] 0 0 (List.length ce) 9])))) 5) (pl (i * 6) 5) then bif decide (List.length ce ≤ List.length
 ce) then bif decide (pl (List.length ce) (List.length (Prod.snd y)) * 72 ≤ 140737488355328) then bif Nat.beq (pl (sizesX (List.take 1 (List.set [.tab i 6 fun a =>
 f a, .agg 6 [.int .i64 (Block.src (ix bl i)), .int .i64 (Block.dst (ix bl i)), .int .i64 (Block.next (ix bl i)), .int .i64 (Block.taken (ix bl i)), .sl 5 [] 0 0
 (List.length ca) 9, .sl 6 [] 0 0 (List.length ce) 9], .tab (List.length bl - i - 1) 6 fun a => f' a] 1 (.agg 6 [.int .i64 (Block.src (ix bl i)), .int .i64 (Block.dst
 (ix bl i)), .int .i64 (Block.next (ix bl i)), .int .i64 (Block.taken (ix bl i)), .sl 7 [] 0 0 (pl (List.length ca) (List.length (Prod.fst y))) 9, .sl 6 [] 0 0 (List.length
 ce) 9])))) 5) (pl (i * 6) 5) then A (XSt.mk [(9, .int .i64 (IntKind.wrap .i64 ((↑m : Int) + (1 : Int)))), (8, .ptr 3 [1] (i * 6)), (7, .int .i64 (↑i : Int)), (6,
 .ptr 4 [] 0), (4, .ptr 2 [] 0), (3, .ptr 1 [] 0), (2, .ptr 0 [] 0)] [(8, some (.tab (pl (List.length ce) (List.length (Prod.snd y))) 9 fun i => .agg 9 [.int .i64
 (bif decide (i < List.length ce) then Cell.kind (ix ce i) else Cell.kind (ix (Prod.snd y) (i - List.length ce))), .agg 5 [.int .i64 (bif decide (i < List.length
 ce) then Ins.op (Cell.ins (ix ce i)) else Ins.op (Cell.ins (ix (Prod.snd y) (i - List.length ce)))), .int .i64 (bif decide (i < List.length ce) then Ins.d (Cell.ins
 (ix ce i)) else Ins.d (Cell.ins (ix (Prod.snd y) (i - List.length ce)))), .int .i64 (bif decide (i < List.length ce) then Ins.a (Cell.ins (ix ce i)) else Ins.a (Cell.ins
 (ix (Prod.snd y) (i - List.length ce)))), .int .i64 (bif decide (i < List.length ce) then Ins.b (Cell.ins (ix ce i)) else Ins.b (Cell.ins (ix (Prod.snd y) (i - List.length
 ce)))), .int .i64 (bif decide (i < List.length ce) then Ins.imm (Cell.ins (ix ce i)) else Ins.imm (Cell.ins (ix (Prod.snd y) (i - List.length ce))))], .int .i64
 (bif decide (i < List.length ce) then Cell.reg (ix ce i) else Cell.reg (ix (Prod.snd y) (i - List.length ce))), .int .i64 (bif decide (i < List.length ce) then Cell.pc
 (ix ce i) else Cell.pc (ix (Prod.snd y) (i - List.length ce))), .int .i64 (bif decide (i < List.length ce) then Cell.off (ix ce i) else Cell.off (ix (Prod.snd y)
 (i - List.length ce)))])), (7, some (.tab (pl (List.length ca) (List.length (Prod.fst y))) 9 fun i => .agg 9 [.int .i64 (bif decide (i < List.length ca) then Cell.kind
 (ix ca i) else Cell.kind (ix (Prod.fst y) (i - List.length ca))), .agg 5 [.int .i64 (bif decide (i < List.length ca) then Ins.op (Cell.ins (ix ca i)) else Ins.op
 (Cell.ins (ix (Prod.fst y) (i - List.length ca)))), .int .i64 (bif decide (i < List.length ca) then Ins.d (Cell.ins (ix ca i)) else Ins.d (Cell.ins (ix (Prod.fst
 y) (i - List.length ca)))), .int .i64 (bif decide (i < List.length ca) then Ins.a (Cell.ins (ix ca i)) else Ins.a (Cell.ins (ix (Prod.fst y) (i - List.length ca)))),
 .int .i64 (bif decide (i < List.length ca) then Ins.b (Cell.ins (ix ca i)) else Ins.b (Cell.ins (ix (Prod.fst y) (i - List.length ca)))), .int .i64 (bif decide (i
 < List.length ca) then Ins.imm (Cell.ins (ix ca i)) else Ins.imm (Cell.ins (ix (Prod.fst y) (i - List.length ca))))], .int .i64 (bif decide (i < List.length ca)
 then Cell.reg (ix ca i) else Cell.reg (ix (Prod.fst y) (i - List.length ca))), .int .i64 (bif decide (i < List.length ca) then Cell.pc (ix ca i) else Cell.pc (ix
 (Prod.fst y) (i - List.length ca))), .int .i64 (bif decide (i < List.length ca) then Cell.off (ix ca i) else Cell.off (ix (Prod.fst y) (i - List.length ca)))])),
 (6, none), (5, none), (4, some (.agg 17 [.sl 3 [] 0 0 (List.length bl) 6, .tab 16 1 fun i => .int .i64 (o i)])), (3, some (.agg (List.length bl * 6) [.tab i 6 fun
 a => f a, .agg 6 [.int .i64 (Block.src (ix bl i)), .int .i64 (Block.dst (ix bl i)), .int .i64 (Block.next (ix bl i)), .int .i64 (Block.taken (ix bl i)), .sl 7 []
 0 0 (pl (List.length ca) (List.length (Prod.fst y))) 9, .sl 8 [] 0 0 (pl (List.length ce) (List.length (Prod.snd y))) 9], .tab (List.length bl - i - 1) 6 fun a =>
 f' a])), (2, some (.agg 17 [.row true 0 0 fun x => .unk, .tab 16 1 fun x => .int .i64 0])), (1, some (.tab 16 1 fun i => .int .i64 (o i))), (0, some (e_Prog p))]
 9) else False else False else False else False else False else False else False else False else False else False else B (XSt.mk [(7, .int .i64 (IntKind.wrap .i64
 ((↑i : Int) + (1 : Int)))), (6, .ptr 4 [] 0), (4, .ptr 2 [] 0), (3, .ptr 1 [] 0), (2, .ptr 0 [] 0)] [(6, some (.tab (List.length ce) 9 fun k => e_Cell (ix ce k))),
 (5, some (.tab (List.length ca) 9 fun k => e_Cell (ix ca k))), (4, some (.agg 17 [.sl 3 [] 0 0 (List.length bl) 6, .tab 16 1 fun i => .int .i64 (o i)])), (3, some
 (.agg (List.length bl * 6) [.tab i 6 fun a => f a, .agg 6 [.int .i64 (Block.src (ix bl i)), .int .i64 (Block.dst (ix bl i)), .int .i64 (Block.next (ix bl i)), .int
 .i64 (Block.taken (ix bl i)), .sl 5 [] 0 0 (List.length ca) 9, .sl 6 [] 0 0 (List.length ce) 9], .tab (List.length bl - i - 1) 6 fun a => f' a])), (2, some (.agg
 17 [.row true 0 0 fun x => .unk, .tab 16 1 fun x => .int .i64 0])), (1, some (.tab 16 1 fun i => .int .i64 (o i))), (0, some (e_Prog p))] 7)
else False) := by kernel_rfl 

theorem TT8ok : TabOk Try.prog TT8 := mkT2_ok clok_ref10 trivial trivial ⟨sk_cls, sk_emit, trivial⟩ ⟨mk_cut, trivial⟩
theorem wF_lt {p : Prog} {o : Nat → Int} {bl : List Block} {i j : Nat} (h : j < i) : con (wF p o bl i j) = con (.agg 6 [.int .i64 (ix bl j).src, .int .i64 (ix bl j).dst, .int .i64 (ix bl j).next, .int .i64 (ix bl j).taken, e_row 9 e_Cell (emA p o (ix bl j) (blkN (ix bl j))), e_row 9 e_Cell (emE p o (ix bl j) (blkN (ix bl j)))]) := by
  unfold wF wTab
  simp only [h, decide_true, cond_true, Bool.not_true]
  rfl
theorem wF_ge {p : Prog} {o : Nat → Int} {bl : List Block} {i j : Nat} (h : ¬ j < i) : con (wF p o bl i j) = con (e_blk0 (ix bl j)) := by
  unfold wF wTab
  simp only [h, decide_false, cond_false, Bool.not_false]
  rfl
theorem sent_le {i : Ins} {o : Nat → Int} : (sentF i o).length ≤ 2 := by
  unfold sentF
  have := sent_len (o := o) (l := readsF i)
  have := (reads_ok (i := i)).1
  omega
theorem emit_len {i : Ins} {o : Nat → Int} {pc off : Int} : (emitF i o pc off).1.length ≤ 4 ∧ (emitF i o pc off).2.length ≤ 4 := by
  have := sent_le (i := i) (o := o)
  unfold emitF
  repeat' split
  all_goals (simp; try omega)
theorem flat_step {α : Type} {f : Nat → List α} {k : Nat} : (List.range (k + 1)).flatMap f = (List.range k).flatMap f ++ f k := by
  rw [List.range_succ, List.flatMap_append]
  simp
theorem flat_len {α : Type} {f : Nat → List α} (hf : ∀ j, (f j).length ≤ 4) : ∀ {k : Nat}, ((List.range k).flatMap f).length ≤ 4 * k
  | 0 => by simp
  | k + 1 => by
    rw [flat_step, List.length_append]
    have := flat_len hf (k := k)
    have := hf k
    omega
theorem cut_blk {p : Prog} {i : Nat} (h : i < (cutF p).length) : 0 ≤ (ix (cutF p) i).src ∧ (ix (cutF p) i).src < (ix (cutF p) i).dst ∧ (ix (cutF p) i).dst ≤ p.code.length := by
  unfold cutF at h ⊢
  rw [cutK_len] at h
  have e : ix (cutK p (leadersF p) (leadersF p).length) i = cutB p (leadersF p) i := by
    unfold cutK
    rw [ix_map (by simpa using h), ix_lt (by simpa using h)]
    simp
  rw [e]
  have h1 := cutTo_ok h
  have h2 := (lead_ok (p := p)).1 _ (ix_mem h)
  exact ⟨h2.1, h1.2.2, h1.2.1⟩
theorem cut_len {p : Prog} : (cutF p).length ≤ 2000 := by
  unfold cutF
  rw [cutK_len]
  exact (lead_ok (p := p)).2.2
theorem sk_with : SkOk Try.prog (47, witS) := skOf_ok fun ⟨p, o⟩ hw => by
  have hw : p.wf := hw
  have hl := hw.1.2
  show Pure _ _ (cons [e_Prog p, e_own o]) (con (e_SplitE (withF p o)))
  refine pureQ mix TT8ok t_ref10_With (Nat.le_of_ble_eq_true rfl) ?_
  refine Eq.mpr (r_with0 p o _) ?_
  refine ⟨(p, o), .rfl, ⟨hw⟩, ?_⟩
  intro y hy
  replace hy : y = closedF p o := hy
  subst hy
  unfold withF
  cases hc : closedF p o with
  | false => exact ⟨lq_tup (lqs_cons (lq_agg (lqs_cons lq_lit0 (lqs_cons (.refl _) lqs_nil))) (lqs_cons (.refl _) lqs_nil))⟩
  | true =>
  have hc2 : p.code.length ≤ 2000 := by
    simp only [closedF, rightProg, Bool.and_eq_true, decide_eq_true_eq] at hc
    omega
  refine ⟨p, .rfl, ⟨hw⟩, ?_⟩
  rintro bl rfl
  have hbl := fun i => cut_blk (p := p) (i := i)
  have hbn := cut_len (p := p)
  generalize cutF p = bl at *
  refine loopQ mix TT8ok (fun i : Nat => wtS p o bl (wF p o bl i) i) (fun i => i ≤ bl.length) (fun i => bl.length - i) 0 (Nat.zero_le _) (.of (weakX ⟨rfl, rfl, rfl, rfl, rfl, trivial⟩ ⟨rfl, congrArg some (con_tabC fun j hj => (wF_ge (Nat.not_lt_zero j)).symm), rfl, rfl, rfl, trivial⟩ (Nat.le_refl _))) ?_
  intro i hi
  refine Eq.mpr (r_with2 p o bl _ _ _ _ _ _ _ _ i _ _) ?_
  by_cases hlt : i < bl.length
  case neg =>
    have h1 : ¬ (i : Int) < (bl.length : Int) := by omega
    obtain rfl : i = bl.length := by omega
    simp only [h1, decide_false, cond_false, Nat.le_refl, decide_true, cond_true]
    refine ⟨lq_tup (lqs_cons (lq_agg (lqs_cons (lq_erow (by simp) (.inl rfl) fun j hj => ?_) (lqs_cons (.refl _) lqs_nil))) (lqs_cons (.refl _) lqs_nil))⟩
    show leQ _ (con (e_Block (ix (bl.map (withB p o)) j)))
    rw [ix_map hj]
    have e := wF_lt (p := p) (o := o) (bl := bl) hj
    show leQ (con (wF p o bl bl.length j)) _
    rw [e]
    exact .refl _
  have h1 : (i : Int) < (bl.length : Int) := by omega
  obtain ⟨b1, b2, b3⟩ := hbl i hlt
  simp only [h1, hlt, decide_true, cond_true, Nat.beq_refl]
  have hb0 : blkN (ix bl i) = ((ix bl i).dst - (ix bl i).src).toNat := rfl
  refine loopQ mix TT8ok (fun k : Nat => wiS p o bl (wF p o bl i) (fun j => wF p o bl i (i + 1 + j)) i ((ix bl i).src.toNat + k) (emA p o (ix bl i) k) (emE p o (ix bl i) k)) (fun k => k ≤ blkN (ix bl i)) (fun k => blkN (ix bl i) - k) 0 (Nat.zero_le _) (weakK [(0, 0), (1, 1), (2, 2), (3, 3), (4, 4)] rfl rfl rfl rfl rfl ⟨k_is (by
      show con (.int .i64 (ix bl i).src) = con (.int .i64 (((ix bl i).src.toNat + 0 : Nat) : Int))
      rw [show (((ix bl i).src.toNat + 0 : Nat) : Int) = (ix bl i).src by omega]) rfl, .ptr rfl, k_is rfl rfl, .ptr rfl, .ptr rfl, .ptr rfl, .ptr rfl, trivial⟩
    ⟨⟨9, rfl⟩, ⟨9, rfl⟩, .agg (.cons (.sl rfl) (.cons (k_is rfl rfl) .nil)), k_split hlt (.agg (.cons (k_is rfl rfl) (.cons (k_is rfl rfl) (.cons (k_is rfl rfl) (.cons (k_is rfl rfl) (.cons ?_ (.cons ?_ .nil))))))), k_is rfl rfl, k_is rfl rfl, k_is rfl rfl, trivial⟩) ?_
  · simp only [Nat.lt_irrefl, decide_false, cond_false, Bool.not_false]
    exact k_nil rfl
  · simp only [Nat.lt_irrefl, decide_false, cond_false, Bool.not_false]
    exact k_nil rfl
  intro k hk
  have hA := flat_len (f := fun j => (emitF (ix p.code ((ix bl i).src.toNat + j)) o (((ix bl i).src.toNat + j : Nat) : Int) (j : Int)).1) (fun j => emit_len.1) (k := k)
  have hE := flat_len (f := fun j => (emitF (ix p.code ((ix bl i).src.toNat + j)) o (((ix bl i).src.toNat + j : Nat) : Int) (j : Int)).2) (fun j => emit_len.2) (k := k)
  replace hA : (emA p o (ix bl i) k).length ≤ 4 * k := hA
  replace hE : (emE p o (ix bl i) k).length ≤ 4 * k := hE
  refine Eq.mpr (r_with1 p o bl _ _ i _ _ _ _ _ _) ?_
  simp only [List.take_succ_cons, List.take_zero, List.set_cons_succ, List.set_cons_zero, sizesX, XV.size, pl_eq, Nat.add_zero, Nat.beq_refl, cond_true]
  by_cases hlk : k < blkN (ix bl i)
  case neg =>
    have h2 : ¬ (((ix bl i).src.toNat + k : Nat) : Int) < (ix bl i).dst := by omega
    obtain rfl : k = blkN (ix bl i) := by omega
    have w3 : IntKind.i64.wrap ((i : Int) + 1) = ((i + 1 : Nat) : Int) := wrap_i64 (by omega) (by omega)
    simp only [h2, decide_false, cond_false, w3]
    refine ⟨i + 1, hlt, ?_, by omega⟩
    refine WeakE.trans (τ := XSt.st ⟨[(7, .int .i64 ((i + 1 : Nat) : Int)), (6, .ptr 4 [] 0), (4, .ptr 2 [] 0), (3, .ptr 1 [] 0), (2, .ptr 0 [] 0)], [(4, some (.agg 17 [.sl 3 [] 0 0 bl.length 6, .tab 16 1 fun i => .int .i64 (o i)])), (3, some (.agg (bl.length * 6) [.tab i 6 (wF p o bl i), .agg 6 [.int .i64 (ix bl i).src, .int .i64 (ix bl i).dst, .int .i64 (ix bl i).next, .int .i64 (ix bl i).taken, e_row 9 e_Cell (emA p o (ix bl i) (blkN (ix bl i))), e_row 9 e_Cell (emE p o (ix bl i) (blkN (ix bl i)))], .tab (bl.length - i - 1) 6 (fun j => wF p o bl i (i + 1 + j))])), (2, some (.agg 17 [.row true 0 0 fun x => .unk, .tab 16 1 fun x => .int .i64 0])), (1, some (.tab 16 1 fun i => .int .i64 (o i))), (0, some (e_Prog p))], 7⟩) ?_ ?_
    · exact WeakE.frz (frz_part (L := [5, 6]) rfl rfl ⟨rfl, .same, rfl, .agg (.cons .same (.cons (.agg (.cons .same (.cons .same (.cons .same (.cons .same (.cons (fz_row rfl rfl) (.cons (fz_row rfl rfl) .nil))))))) (.cons .same .nil))), rfl, .same, rfl, .same, rfl, .same, trivial⟩)
    · exact (weakK (τ := wtS p o bl (wF p o bl (i + 1)) (i + 1)) [(0, 0), (1, 1), (2, 2), (3, 3), (4, 4)] rfl rfl rfl rfl rfl ⟨k_is rfl rfl, .ptr rfl, .ptr rfl, .ptr rfl, .ptr rfl, trivial⟩ ⟨.agg (.cons (.sl rfl) (.cons (k_is rfl rfl) .nil)), k_join (by omega) rfl rfl (k_is rfl rfl) (fun j hj => by rw [wF_lt hj, wF_lt (Nat.lt_succ_of_lt hj)]) (wF_lt (Nat.lt_succ_self i)).symm (fun j hj => by rw [wF_ge (by omega), wF_ge (by omega)]), k_is rfl rfl, k_is rfl rfl, k_is rfl rfl, trivial⟩)
  have h2 : (((ix bl i).src.toNat + k : Nat) : Int) < (ix bl i).dst := by omega
  have h3 : (((ix bl i).src.toNat + k : Nat) : Int) < (p.code.length : Int) := by omega
  have w1 : IntKind.i64.wrap ((((ix bl i).src.toNat + k : Nat) : Int) - (ix bl i).src) = (k : Int) := by rw [wrap_i64 (by omega) (by omega)]; omega
  have w2 : IntKind.i64.wrap ((((ix bl i).src.toNat + k : Nat) : Int) + 1) = (((ix bl i).src.toNat + (k + 1) : Nat) : Int) := by rw [wrap_i64 (by omega) (by omega)]; omega
  simp only [h2, h3, w1, w2, decide_true, cond_true]
  refine ⟨(ix p.code ((ix bl i).src.toNat + k), o, (((ix bl i).src.toNat + k : Nat) : Int), (k : Int)), .rfl, ⟨trivial⟩, ?_⟩
  intro y hy
  replace hy : y = emitF (ix p.code ((ix bl i).src.toNat + k)) o (((ix bl i).src.toNat + k : Nat) : Int) (k : Int) := hy
  have hy1 : y.1.length ≤ 4 ∧ y.2.length ≤ 4 := by rw [hy]; exact emit_len
  have eA : emA p o (ix bl i) (k + 1) = emA p o (ix bl i) k ++ y.1 := by rw [hy]; exact flat_step
  have eE : emE p o (ix bl i) (k + 1) = emE p o (ix bl i) k ++ y.2 := by rw [hy]; exact flat_step
  have b4 : ((emA p o (ix bl i) k).length + y.1.length) * 72 ≤ 140737488355328 := by omega
  have b5 : ((emE p o (ix bl i) k).length + y.2.length) * 72 ≤ 140737488355328 := by omega
  simp only [Nat.le_refl, b4, b5, decide_true, cond_true]
  refine ⟨k + 1, hlk, ?_, by omega⟩
  rw [eA, eE]
  generalize emA p o (ix bl i) k = ca
  generalize emE p o (ix bl i) k = ce
  refine weakK [(0, 0), (1, 1), (2, 2), (3, 3), (4, 4), (5, 7), (6, 8)] rfl rfl rfl rfl rfl ⟨k_is rfl rfl, .ptr rfl, k_is rfl rfl, .ptr rfl, .ptr rfl, .ptr rfl, .ptr rfl, trivial⟩
    ⟨k_apps rfl ?_ ?_, k_apps rfl ?_ ?_, .agg (.cons (.sl rfl) (.cons (k_is rfl rfl) .nil)), .agg (.cons (k_is rfl rfl) (.cons (.agg (.cons (k_is rfl rfl) (.cons (k_is rfl rfl) (.cons (k_is rfl rfl) (.cons (k_is rfl rfl) (.cons ?_ (.cons ?_ .nil))))))) (.cons (k_is rfl rfl) .nil))), k_is rfl rfl, k_is rfl rfl, k_is rfl rfl, trivial⟩
  · intro j hj; simp only [hj, decide_true, cond_true]; rfl
  · intro j hj
    have : ¬ ce.length + j < ce.length := by omega
    simp only [this, decide_false, cond_false, Nat.add_sub_cancel_left]; rfl
  · intro j hj; simp only [hj, decide_true, cond_true]; rfl
  · intro j hj
    have : ¬ ca.length + j < ca.length := by omega
    simp only [this, decide_false, cond_false, Nat.add_sub_cancel_left]; rfl
  · rw [List.length_append]; exact .sl rfl
  · rw [List.length_append]; exact .sl rfl
theorem TT9ok : TabOk Try.prog TT9 := mkT2_ok clok_ref10 trivial trivial ⟨sk_owner, sk_with, trivial⟩ trivial
theorem r_split (p : Prog) (r : XV) : (quietGo TT9 80 (callI TT9 80 20) 19 [e_Prog p] (fun v => ResLe v r)) = (∃ (s : Prog), ArgsLe [e_Prog p] [e_Prog s] ∧ PreIs (Prog.wf s) ∧ ∀ (y : Nat → Int), y = ownerF s → ∃ (s : Prog × (Nat → Int)), ArgsLe [e_Prog p, .tab 16 1 fun
 i => .int .i64 (y i)] [e_Prog (Prod.fst s), e_own (Prod.snd s)] ∧ PreIs (Prog.wf (Prod.fst s)) ∧ ∀ (y : Split × Int), y = withF (Prod.fst s) (Prod.snd s) → ResLe
 (.tup [e_Split (Prod.fst y), .int .i64 (Prod.snd y)]) r) := by kernel_rfl
theorem sk_split : SkOk Try.prog (19, splS) := skOf_ok fun p hw => by
  have hw : p.wf := hw
  show Pure _ _ (cons [e_Prog p]) (con (e_SplitE (splitF p)))
  refine pureR (u := 80) (k := 20) mix TT9ok ?_
  refine Eq.mpr (r_split p _) ?_
  refine ⟨p, .rfl, ⟨hw⟩, ?_⟩
  intro y hy
  replace hy : y = ownerF p := hy
  subst hy
  refine ⟨(p, ownerF p), .rfl, ⟨hw⟩, ?_⟩
  intro y hy
  replace hy : y = withF p (ownerF p) := hy
  subst hy
  exact .rfl
end Go.Proofs.Ythmlnmkbeohojaa

/- Which programs may be, as package image tells. -/
namespace Go.Proofs.Ythmlnmkbeohojaa
open Go.Ra
set_option linter.unusedVariables false
set_option linter.unusedSimpArgs false
def TI0 : Tab := mkT2 qq cl_isa [] [] [] []
def h1Sp (f : Int → Bool) : List XV → Option (List Bool × XV)
  | [.int .i64 a] => some ([], .bool (f a))
  | _ => none
def inW (n : Int) (t : Bool) (lo hi : Int) : Bool := bif t then decide (lo ≤ n ∧ n ≤ hi) else decide (n = 0)
def inwSp : List XV → Option (List Bool × XV)
  | [.int .i64 n, .bool t, .int .i64 lo, .int .i64 hi] => some ([], .bool (inW n t lo hi))
  | _ => none
def TI1 : Tab := mkT2 qq cl_isa [(72, formSp), (74, h1Sp hasD), (75, h1Sp hasA), (76, h1Sp hasB), (77, h1Sp hasI), (73, inwSp)] [] [] []
def TI2 : Tab := mkT2 qq (cl_image ++ cl_slices) [(53, rtSp), (72, formSp)] [] [] []
def wrgF (i : Ins) : Bool := !rightIns i
def idiS : List XV → Option ((XV → Prop) → Prop) := skOf (fun l : List Ins => [e_row 5 e_Ins l, .clo 52 []]) (fun l => l.length ≤ 1000000000) (fun l => idxF wrgF l) (fun y => .int .i64 y)
/-- Does an instruction lead into the code, if it leads anywhere? -/
def jmpOk (p : Prog) (i : Nat) : Bool := !((decide (formI (ix p.code i).op = 6) || decide (formI (ix p.code i).op = 7)) && (decide ((ix p.code i).imm < -(i : Int)) || decide ((ix p.code i).imm ≥ (p.code.length : Int) - i)))
def jmpsF (p : Prog) : Bool := allN (jmpOk p) p.code.length
def imtS : List XV → Option ((XV → Prop) → Prop) := skOf (fun p : Prog => [e_Prog p]) (fun p => p.wf) (fun p => (if jmpsF p then 0 else 4 : Int)) (fun y => .int .i64 y)
def TI3 : Tab := mkT2 qq (cl_image ++ cl_slices) [] [] [(78, idiS), (56, imtS)] []
theorem TI0ok : TabOk Try.prog TI0 := mkT2_ok clok_isa trivial trivial trivial trivial
theorem r_iform (a : Int) (K : XV → Prop) : (quietGo TI0 80 (callI TI0 80 20) 72 [.int .i64 a] K) = (bif bif decide (a < 1) then true else !decide (a < 1) then bif bif decide (a < 1) then true else decide (a > 41) then K (.int .i64 0) else bif decide (a ≤ 16)
 then K (.int .i64 1) else bif decide (a ≤ 24) then K (.int .i64 2) else bif decide (a = 25) then K (.int .i64 3) else bif decide (a ≤ 30) then K (.int .i64 4) else
 bif decide (a ≤ 33) then K (.int .i64 5) else bif decide (a ≤ 39) then K (.int .i64 6) else bif decide (a = 40) then K (.int .i64 7) else K (.int .i64 8)
else False)
 := by kernel_rfl
theorem r_ihd (a : Int) (K : XV → Prop) : (quietGo TI0 80 (callI TI0 80 20) 74 [.int .i64 a] K) = (bif bif decide (a ≥ 1) then decide (a ≥ 1) else true then K (.bool (bif decide (a ≥ 1) then decide (a ≤ 4) else false)) else False) := by kernel_rfl
theorem r_iha (a : Int) (K : XV → Prop) : (quietGo TI0 80 (callI TI0 80 20) 75 [.int .i64 a] K) = (bif bif decide (a = 1) then true else !decide (a = 1) then bif bif bif decide (a = 1) then true else decide (a = 2) then true else !bif decide (a = 1) then true
 else decide (a = 2) then bif bif bif bif decide (a = 1) then true else decide (a = 2) then true else decide (a = 4) then true else !bif bif decide (a = 1) then true
 else decide (a = 2) then true else decide (a = 4) then bif bif bif bif bif decide (a = 1) then true else decide (a = 2) then true else decide (a = 4) then true else
 decide (a = 5) then true else !bif bif bif decide (a = 1) then true else decide (a = 2) then true else decide (a = 4) then true else decide (a = 5) then K (.bool
 (bif bif bif bif decide (a = 1) then true else decide (a = 2) then true else decide (a = 4) then true else decide (a = 5) then true else decide (a = 6))) else False
 else False else False
else False) := by kernel_rfl
theorem r_ihb (a : Int) (K : XV → Prop) : (quietGo TI0 80 (callI TI0 80 20) 76 [.int .i64 a] K) = (bif bif decide (a = 1) then true else !decide (a = 1) then bif bif bif decide (a = 1) then true else decide (a = 5) then true else !bif decide (a = 1) then true
 else decide (a = 5) then K (.bool (bif bif decide (a = 1) then true else decide (a = 5) then true else decide (a = 6))) else False
else False) := by kernel_rfl
theorem r_ihi (a : Int) (K : XV → Prop) : (quietGo TI0 80 (callI TI0 80 20) 77 [.int .i64 a] K) = (bif bif decide (a ≥ 2) then decide (a ≥ 2) else true then K (.bool (bif decide (a ≥ 2) then decide (a ≤ 7) else false)) else False) := by kernel_rfl
theorem r_iwi (n : Int) (t : Bool) (lo hi : Int) (K : XV → Prop) : (quietGo TI0 80 (callI TI0 80 20) 73 [.int .i64 n, .bool t, .int .i64 lo, .int .i64 hi] K) = (bif !t then K (.bool (decide (n = 0))) else bif bif decide (n ≥ lo) then decide (n ≥ lo) else true then K (.bool (bif decide (n ≥ lo) then decide (n ≤ hi) else
 false)) else False) := by kernel_rfl
theorem r_irt (i : Ins) (K : XV → Prop) : (quietGo TI1 80 (callI TI1 80 20) 53 [e_Ins i] K) = (bif bif decide (Ins.op i = 22) then true else !decide (Ins.op i = 22) then bif bif bif decide (Ins.op i = 22) then true else decide (Ins.op i = 23) then true
 else !bif decide (Ins.op i = 22) then true else decide (Ins.op i = 23) then bif bif bif decide (Ins.op i = 22) then true else decide (Ins.op i = 23) then true else
 decide (Ins.op i = 24) then bif bif decide (formI (Ins.op i) > 0) then decide (formI (Ins.op i) > 0) else true then bif bif bif decide (formI (Ins.op i) > 0) then
 inW (Ins.d i) (hasD (formI (Ins.op i))) (0 : Int) (15 : Int) else false then bif decide (formI (Ins.op i) > 0) then inW (Ins.d i) (hasD (formI (Ins.op i))) (0 :
 Int) (15 : Int) else false else true then bif bif bif bif decide (formI (Ins.op i) > 0) then inW (Ins.d i) (hasD (formI (Ins.op i))) (0 : Int) (15 : Int) else false
 then inW (Ins.a i) (hasA (formI (Ins.op i))) (0 : Int) (15 : Int) else false then bif bif decide (formI (Ins.op i) > 0) then inW (Ins.d i) (hasD (formI (Ins.op i)))
 (0 : Int) (15 : Int) else false then inW (Ins.a i) (hasA (formI (Ins.op i))) (0 : Int) (15 : Int) else false else true then bif bif bif bif bif decide (formI (Ins.op
 i) > 0) then inW (Ins.d i) (hasD (formI (Ins.op i))) (0 : Int) (15 : Int) else false then inW (Ins.a i) (hasA (formI (Ins.op i))) (0 : Int) (15 : Int) else false
 then inW (Ins.b i) (hasB (formI (Ins.op i))) (0 : Int) (15 : Int) else false then bif bif bif decide (formI (Ins.op i) > 0) then inW (Ins.d i) (hasD (formI (Ins.op
 i))) (0 : Int) (15 : Int) else false then inW (Ins.a i) (hasA (formI (Ins.op i))) (0 : Int) (15 : Int) else false then inW (Ins.b i) (hasB (formI (Ins.op i))) (0
 : Int) (15 : Int) else false else true then K (.bool (bif bif bif bif decide (formI (Ins.op i) > 0) then inW (Ins.d i) (hasD (formI (Ins.op i))) (0 : Int) (15 :
 Int) else false then inW (Ins.a i) (hasA (formI (Ins.op i))) (0 : Int) (15 : Int) else false then inW (Ins.b i) (hasB (formI (Ins.op i))) (0 : Int) (15 : Int) else
 false then inW (Ins.imm i) (hasI (formI (Ins.op i))) (0 : Int) (31 : Int) else false)) else False else False else False else False else bif bif decide (formI (Ins.op
 i) > 0) then decide (formI (Ins.op i) > 0) else true then bif bif bif decide (formI (Ins.op i) > 0) then inW (Ins.d i) (hasD (formI (Ins.op i))) (0 : Int) (15 :
 Int) else false then bif decide (formI (Ins.op i) > 0) then inW (Ins.d i) (hasD (formI (Ins.op i))) (0 : Int) (15 : Int) else false else true then bif bif bif bif
 decide (formI (Ins.op i) > 0) then inW (Ins.d i) (hasD (formI (Ins.op i))) (0 : Int) (15 : Int) else false then inW (Ins.a i) (hasA (formI (Ins.op i))) (0 : Int)
 (15 : Int) else false then bif bif decide (formI (Ins.op i) > 0) then inW (Ins.d i) (hasD (formI (Ins.op i))) (0 : Int) (15 : Int) else false then inW (Ins.a i)
 (hasA (formI (Ins.op i))) (0 : Int) (15 : Int) else false else true then bif bif bif bif bif decide (formI (Ins.op i) > 0) then inW (Ins.d i) (hasD (formI (Ins.op
 i))) (0 : Int) (15 : Int) else false then inW (Ins.a i) (hasA (formI (Ins.op i))) (0 : Int) (15 : Int) else false then inW (Ins.b i) (hasB (formI (Ins.op i))) (0
 : Int) (15 : Int) else false then bif bif bif decide (formI (Ins.op i) > 0) then inW (Ins.d i) (hasD (formI (Ins.op i))) (0 : Int) (15 : Int) else false then inW
 (Ins.a i) (hasA (formI (Ins.op i))) (0 : Int) (15 : Int) else false then inW (Ins.b i) (hasB (formI (Ins.op i))) (0 : Int) (15 : Int) else false else true then K
 (.bool (bif bif bif bif decide (formI (Ins.op i) > 0) then inW (Ins.d i) (hasD (formI (Ins.op i))) (0 : Int) (15 : Int) else false then inW (Ins.a i) (hasA (formI
 (Ins.op i))) (0 : Int) (15 : Int) else false then inW (Ins.b i) (hasB (formI (Ins.op i))) (0 : Int) (15 : Int) else false then inW (Ins.imm i) (hasI (formI (Ins.op
 i))) (-8192 : Int) (8191 : Int) else false)) else False else False else False else False else False
else False) := by kernel_rfl
theorem h1_ok {f : Int → Bool} {n : Nat} (h : ∀ a, Pure Try.prog n (cons [.int .i64 a]) (con (.bool (f a)))) : SpOk Try.prog (n, h1Sp f) := by
  intro args nd v ha hn
  simp only [h1Sp] at ha
  split at ha <;> simp only [Option.some.injEq, Prod.mk.injEq, reduceCtorEq] at ha
  obtain ⟨hnd, rfl⟩ := ha
  exact h _
theorem sp_iform : SpOk Try.prog (72, formSp) := by
  intro args nd v ha hn
  simp only [formSp] at ha
  split at ha <;> simp only [Option.some.injEq, Prod.mk.injEq, reduceCtorEq] at ha
  obtain ⟨hnd, rfl⟩ := ha
  clear hnd hn
  rename_i a
  refine pureX (u := 80) (k := 20) mix TI0ok ?_
  rw [r_iform]
  unfold formI
  simp only [g1, g2, g3, g4, g5, g6, g7, allN_true, cond_true, Nat.le_refl, decide_true, pl_eq]
  by_cases h0 : a < 1 ∨ a > 41
  · rw [if_pos h0]
    rcases h0 with h | h <;> simp [h]
  · rw [if_neg h0]
    have h1 : ¬ a < 1 := fun h => h0 (.inl h)
    have h2 : ¬ a > 41 := fun h => h0 (.inr h)
    simp only [h1, h2, decide_false, cond_false]
    by_cases h3 : a ≤ 16
    · simp [h3]
    by_cases h4 : a ≤ 24
    · simp [h3, h4]
    by_cases h5 : a = 25
    · simp [h5]
    by_cases h6 : a ≤ 30
    · simp [h3, h4, h5, h6]
    by_cases h7 : a ≤ 33
    · simp [h3, h4, h5, h6, h7]
    by_cases h8 : a ≤ 39
    · simp [h3, h4, h5, h6, h7, h8]
    by_cases h9 : a = 40
    · simp [h9]
    simp [h3, h4, h5, h6, h7, h8, h9]
theorem sp_ihd : SpOk Try.prog (74, h1Sp hasD) := h1_ok fun a => by
  refine pureX (u := 80) (k := 20) mix TI0ok ?_
  rw [r_ihd]
  simp only [g1, g2, g3, g4, g5, g6, g7, allN_true, cond_true, Nat.le_refl, decide_true, pl_eq, bor, band]
  refine conB ?_
  unfold hasD
  rw [Bool.eq_iff_iff]
  simp
  omega
theorem sp_iha : SpOk Try.prog (75, h1Sp hasA) := h1_ok fun a => by
  refine pureX (u := 80) (k := 20) mix TI0ok ?_
  rw [r_iha]
  simp only [g1, g2, g3, g4, g5, g6, g7, allN_true, cond_true, Nat.le_refl, decide_true, pl_eq]
  simp only [bor, band]
  refine conB ?_
  unfold hasA
  rw [Bool.eq_iff_iff]
  simp
  omega
theorem sp_ihb : SpOk Try.prog (76, h1Sp hasB) := h1_ok fun a => by
  refine pureX (u := 80) (k := 20) mix TI0ok ?_
  rw [r_ihb]
  simp only [g1, g2, g3, g4, g5, g6, g7, allN_true, cond_true, Nat.le_refl, decide_true, pl_eq]
  simp only [bor, band]
  refine conB ?_
  unfold hasB
  rw [Bool.eq_iff_iff]
  simp
  omega
theorem sp_ihi : SpOk Try.prog (77, h1Sp hasI) := h1_ok fun a => by
  refine pureX (u := 80) (k := 20) mix TI0ok ?_
  rw [r_ihi]
  simp only [g1, g2, g3, g4, g5, g6, g7, allN_true, cond_true, Nat.le_refl, decide_true, pl_eq]
  simp only [bor, band]
  refine conB ?_
  unfold hasI
  rw [Bool.eq_iff_iff]
  simp
  omega
theorem sp_iwi : SpOk Try.prog (73, inwSp) := by
  intro args nd v ha hn
  simp only [inwSp] at ha
  split at ha <;> simp only [Option.some.injEq, Prod.mk.injEq, reduceCtorEq] at ha
  obtain ⟨hnd, rfl⟩ := ha
  clear hnd hn
  rename_i n t lo hi
  refine pureX (u := 80) (k := 20) mix TI0ok ?_
  rw [r_iwi]
  cases t with
  | false => exact conB (by rfl)
  | true =>
    simp only [g1, g2, g3, g4, g5, g6, g7, allN_true, cond_true, Nat.le_refl, decide_true, pl_eq, Bool.not_true]
    simp only [bor, band]
    refine conB ?_
    unfold inW
    rw [Bool.eq_iff_iff]
    simp
theorem reg_in {n : Int} {t : Bool} : regB n t = inW n t 0 15 := by
  unfold regB inW
  rw [Bool.eq_iff_iff]
  cases t <;> simp
  omega
theorem TI1ok : TabOk Try.prog TI1 := mkT2_ok clok_isa ⟨sp_iform, sp_ihd, sp_iha, sp_ihb, sp_ihi, sp_iwi, trivial⟩ trivial trivial trivial
theorem form_ge {a : Int} : 0 ≤ formI a := by
  unfold formI
  repeat' split
  all_goals omega
theorem sp_irt : SpOk Try.prog (53, rtSp) := by
  intro args nd v ha hn
  simp only [rtSp] at ha
  split at ha <;> simp only [Option.some.injEq, Prod.mk.injEq, reduceCtorEq] at ha
  obtain ⟨hnd, rfl⟩ := ha
  clear hnd hn
  rename_i op d a b m
  refine pureX (u := 80) (k := 20) mix TI1ok ?_
  refine Eq.mpr (r_irt ⟨op, d, a, b, m⟩ _) ?_
  simp only [g1, g2, g3, g4, g5, g6, g7, allN_true, cond_true, Nat.le_refl, decide_true, pl_eq]
  simp only [bor, band]
  unfold rightIns
  dsimp only
  have fg := form_ge (a := op)
  generalize formI op = f at *
  simp only [reg_in]
  refine cnd2 (fun h => conB ?_) (fun h => conB ?_) <;> simp only [Bool.or_eq_true, Bool.or_eq_false_iff, decide_eq_true_eq, decide_eq_false_iff_not] at h
  · have h' : op = 22 ∨ op = 23 ∨ op = 24 := by omega
    rw [if_pos h']
    have e0 : decide (f > 0) = decide (¬ f = 0) := decide_eq_decide.2 (by omega)
    have e1 : inW m (hasI f) 0 31 = ((hasI f || decide (m = 0)) && decide (0 ≤ m ∧ m ≤ 31)) := by
      unfold inW
      rw [Bool.eq_iff_iff]
      cases hasI f <;> simp
      omega
    rw [e0, e1]
    simp only [Bool.and_assoc]
  · have h' : ¬ (op = 22 ∨ op = 23 ∨ op = 24) := by omega
    rw [if_neg h']
    have e0 : decide (f > 0) = decide (¬ f = 0) := decide_eq_decide.2 (by omega)
    have e1 : inW m (hasI f) (-8192) 8191 = ((hasI f || decide (m = 0)) && decide (-8192 ≤ m ∧ m ≤ 8191)) := by
      unfold inW
      rw [Bool.eq_iff_iff]
      cases hasI f <;> simp
      omega
    rw [e0, e1]
    simp only [Bool.and_assoc]
theorem r_im0 (l : List Ins) (r : XV) : (goQ Try.prog TI2 [(.tmp 4)] r (.run c_slices_IndexFunc_Ins_Ins) [] ⟨envX 0 [e_row 5 e_Ins l, .clo 52 []], [], 0⟩) = (LoopAt (Ok Try.prog (Tab.q TI2)) c_slices_IndexFunc_Ins_Ins_l1 (XSt.mk [(8, .int .i64 0), (7, .int .i64 (↑(List.length l) : Int)), (4, .int .i64 0), (0, e_row
 5 e_Ins l), (1, .clo 52 [])] [] 0) [Frm.blk 0, Frm.seq c_slices_IndexFunc_Ins_Ins_p1] (finQR [AR.tmp 4] r)) := by kernel_rfl
theorem r_im1 (l : List Ins) (i : Nat) (r : XV) (A : XSt → Prop) : (goQ Try.prog TI2 [(.tmp 4)] r (.run c_slices_IndexFunc_Ins_Ins_l1) [.lp c_slices_IndexFunc_Ins_Ins_l1 A, .blk 0, .seq c_slices_IndexFunc_Ins_Ins_p1] ⟨[(0, e_row 5 e_Ins l), (1, .clo 52 []), (8, .int .i64 i), (7, .int .i64 l.length)], [], 0⟩) = (bif decide ((↑i : Int) < (↑(List.length l) : Int)) then bif decide ((↑i : Int) < (↑(List.length l) : Int)) then bif !rightIns (ix l i) then ResLe (.int .i64
 (↑i : Int)) r else A (XSt.mk [(8, .int .i64 (IntKind.wrap .i64 ((↑i : Int) + (1 : Int)))), (0, e_row 5 e_Ins l), (1, .clo 52 []), (7, .int .i64 (↑(List.length l)
 : Int))] [] 0) else False
else ResLe (.int .i64 (-1 : Int)) r) := by kernel_rfl
theorem r_it0 (p : Prog) (r : XV) : (goQ Try.prog TI2 [(.tmp 2)] r (.run c_image_Targets) [] ⟨envX 0 [e_Prog p], [], 0⟩) = (LoopAt (Ok Try.prog (Tab.q TI2)) c_image_Targets_l1 (XSt.mk [(10, .int .i64 0), (9, .int .i64 (↑(List.length (Prog.code p)) : Int)), (8, e_row 5 e_Ins (Prog.code
 p)), (2, .int .i64 0), (1, .ptr 0 [] 0)] [(0, some (e_Prog p))] 1) [Frm.blk 0, Frm.seq c_image_Targets_p1] (finQR [AR.tmp 2] r)) := by kernel_rfl
theorem r_it1 (p : Prog) (i : Nat) (r : XV) (A : XSt → Prop) : (goQ Try.prog TI2 [(.tmp 2)] r (.run c_image_Targets_l1) [.lp c_image_Targets_l1 A, .blk 0, .seq c_image_Targets_p1] ⟨[(10, .int .i64 i), (9, .int .i64 p.code.length), (8, e_row 5 e_Ins p.code), (1, .ptr 0 [] 0)], [(0, some (e_Prog p))], 1⟩) = (bif decide ((↑i : Int) < (↑(List.length (Prog.code p)) : Int)) then bif decide ((↑i : Int) < (↑(List.length (Prog.code p)) : Int)) then bif decide ((↑i : Int)
 < (↑(List.length (Prog.code p)) : Int)) then bif decide ((↑i : Int) < (↑(List.length (Prog.code p)) : Int)) then bif bif decide (formI (Ins.op (ix (Prog.code p)
 i)) = 6) then true else !decide (formI (Ins.op (ix (Prog.code p) i)) = 6) then bif bif bif decide (formI (Ins.op (ix (Prog.code p) i)) = 6) then true else decide
 (formI (Ins.op (ix (Prog.code p) i)) = 7) then true else !bif decide (formI (Ins.op (ix (Prog.code p) i)) = 6) then true else decide (formI (Ins.op (ix (Prog.code
 p) i)) = 7) then bif bif bif decide (Ins.imm (ix (Prog.code p) i) < IntKind.wrap .i64 ((0 : Int) - (↑i : Int))) then true else bif bif decide (formI (Ins.op (ix
 (Prog.code p) i)) = 6) then true else decide (formI (Ins.op (ix (Prog.code p) i)) = 7) then !decide (Ins.imm (ix (Prog.code p) i) < IntKind.wrap .i64 ((0 : Int)
 - (↑i : Int))) else false then true else !bif decide (formI (Ins.op (ix (Prog.code p) i)) = 6) then true else decide (formI (Ins.op (ix (Prog.code p) i)) = 7) then
 bif bif bif decide (formI (Ins.op (ix (Prog.code p) i)) = 6) then true else decide (formI (Ins.op (ix (Prog.code p) i)) = 7) then bif decide (formI (Ins.op (ix (Prog.code
 p) i)) = 6) then true else decide (formI (Ins.op (ix (Prog.code p) i)) = 7) else true then bif bif bif decide (formI (Ins.op (ix (Prog.code p) i)) = 6) then true
 else decide (formI (Ins.op (ix (Prog.code p) i)) = 7) then bif decide (Ins.imm (ix (Prog.code p) i) < IntKind.wrap .i64 ((0 : Int) - (↑i : Int))) then true else
 decide (Ins.imm (ix (Prog.code p) i) ≥ IntKind.wrap .i64 ((↑(List.length (Prog.code p)) : Int) - (↑i : Int))) else false then ResLe (.int .i64 4) r else A (XSt.mk
 [(10, .int .i64 (IntKind.wrap .i64 ((↑i : Int) + (1 : Int)))), (9, .int .i64 (↑(List.length (Prog.code p)) : Int)), (8, e_row 5 e_Ins (Prog.code p)), (1, .ptr 0
 [] 0)] [(1, some (e_Ins (ix (Prog.code p) i))), (0, some (e_Prog p))] 2) else False else False else False else False else False else False else False
else ResLe
 (.int .i64 0) r) := by kernel_rfl
theorem TI2ok : TabOk Try.prog TI2 := mkT2_ok (clok_image.app clok_slices) ⟨sp_irt, sp_iform, trivial⟩ trivial trivial trivial
theorem sk_idi : SkOk Try.prog (78, idiS) := skOf_ok fun l h => by
  have hl : l.length ≤ 1000000000 := h
  show Pure _ _ (cons [e_row 5 e_Ins l, .clo 52 []]) (con (.int .i64 (idxF wrgF l)))
  refine pureQ mix TI2ok t_slices_IndexFunc_Ins_Ins (Nat.le_of_ble_eq_true rfl) ?_
  refine Eq.mpr (r_im0 l _) ?_
  refine loopQ mix TI2ok (fun i : Nat => ⟨[(0, e_row 5 e_Ins l), (1, .clo 52 []), (8, .int .i64 i), (7, .int .i64 l.length)], [], 0⟩) (fun i => i ≤ l.length ∧ ∀ j, j < i → wrgF (ix l j) = false) (fun i => l.length - i) 0 ⟨Nat.zero_le _, fun j hj => by omega⟩ (.of (weakX ⟨rfl, rfl, rfl, rfl, trivial⟩ trivial (Nat.le_refl _))) ?_
  rintro i ⟨hi1, hp⟩
  refine Eq.mpr (r_im1 l i _ _) ?_
  by_cases hlt : i < l.length
  · have h1 : (i : Int) < (l.length : Int) := by omega
    have w1 : IntKind.i64.wrap ((i : Int) + 1) = ((i + 1 : Nat) : Int) := wrap_i64 (by omega) (by omega)
    simp only [g1, g2, g3, g4, g5, g6, g7, allN_true, cond_true, Nat.le_refl, decide_true, pl_eq, h1, w1]
    refine cnd2 (fun h => ?_) (fun h => ?_)
    · have e : idxF wrgF l = i := idxF_some hlt h hp
      rw [e]; exact .rfl
    · refine ⟨i + 1, ⟨hlt, fun j hj => ?_⟩, .of (weakX ⟨rfl, rfl, rfl, rfl, trivial⟩ trivial (Nat.le_refl _)), by omega⟩
      by_cases hji : j = i
      · subst hji; exact h
      · exact hp j (by omega)
  · have h1 : ¬ (i : Int) < (l.length : Int) := by omega
    simp only [h1, decide_false, cond_false]
    have e : idxF wrgF l = -1 := idxF_none fun j hj => hp j (by omega)
    rw [e]; exact .rfl
theorem tgt_eq {p : Prog} {i : Nat} (h : i < p.code.length) (hr : rightIns (ix p.code i) = true) : tgtOk p i = jmpOk p i := by
  have him : decide (formI (ix p.code i).op = 6) || decide (formI (ix p.code i).op = 7) = true → -8192 ≤ (ix p.code i).imm ∧ (ix p.code i).imm ≤ 8191 := fun hc => by
    simp only [rightIns, Bool.and_eq_true] at hr
    obtain ⟨_, _, _, _, _, h5⟩ := hr
    split at h5 <;> simp at h5 <;> omega
  unfold tgtOk targetF jmpOk
  rw [Bool.eq_iff_iff]
  cases hc : (decide (formI (ix p.code i).op = 6) || decide (formI (ix p.code i).op = 7)) with
  | false => simp
  | true =>
    have := him (by simpa using hc)
    split <;> simp at * <;> omega
theorem tgs_eq {p : Prog} (h : allN (fun n => rightIns (ix p.code n)) p.code.length = true) : tgsOk p = jmpsF p := by
  unfold tgsOk jmpsF
  rw [Bool.eq_iff_iff, allN_iff, allN_iff]
  have h := allN_iff.1 h
  exact ⟨fun g i hi => by rw [← tgt_eq hi (h i hi)]; exact g i hi, fun g i hi => by rw [tgt_eq hi (h i hi)]; exact g i hi⟩
theorem g8 (a b : Bool) : (a || b && !a || !b) = true := by cases a <;> cases b <;> rfl
theorem sk_imt : SkOk Try.prog (56, imtS) := skOf_ok fun p hw => by
  have hw : p.wf := hw
  have hl := hw.1.2
  refine pureQ mix TI2ok t_image_Targets (Nat.le_of_ble_eq_true rfl) ?_
  refine Eq.mpr (r_it0 p _) ?_
  refine loopQ mix TI2ok (fun i : Nat => ⟨[(10, .int .i64 i), (9, .int .i64 p.code.length), (8, e_row 5 e_Ins p.code), (1, .ptr 0 [] 0)], [(0, some (e_Prog p))], 1⟩) (fun i => i ≤ p.code.length ∧ ∀ j, j < i → jmpOk p j = true) (fun i => p.code.length - i) 0 ⟨Nat.zero_le _, fun j hj => by omega⟩ (.of (weakX ⟨rfl, rfl, rfl, rfl, trivial⟩ ⟨rfl, trivial⟩ (Nat.le_refl _))) ?_
  rintro i ⟨hi, hp⟩
  refine Eq.mpr (r_it1 p i _ _) ?_
  by_cases hlt : i < p.code.length
  · have h1 : (i : Int) < (p.code.length : Int) := by omega
    have w1 : IntKind.i64.wrap ((i : Int) + 1) = ((i + 1 : Nat) : Int) := wrap_i64 (by omega) (by omega)
    have w2 : IntKind.i64.wrap (0 - (i : Int)) = -(i : Int) := by rw [wrap_i64 (by omega) (by omega)]; omega
    have w3 : IntKind.i64.wrap ((p.code.length : Int) - i) = (p.code.length : Int) - i := wrap_i64 (by omega) (by omega)
    have te : jmpOk p i = !((decide (formI (ix p.code i).op = 6) || decide (formI (ix p.code i).op = 7)) && (decide ((ix p.code i).imm < -(i : Int)) || decide ((ix p.code i).imm ≥ (p.code.length : Int) - i))) := rfl
    simp only [g1, g2, g3, g4, g5, g6, g7, allN_true, cond_true, Nat.le_refl, decide_true, pl_eq, h1, w1, w2, w3]
    simp only [bor, band]
    simp only [g8, cond_true]
    cases hc : (decide (formI (ix p.code i).op = 6) || decide (formI (ix p.code i).op = 7)) && (decide ((ix p.code i).imm < -(i : Int)) || decide ((ix p.code i).imm ≥ (p.code.length : Int) - i)) with
    | true =>
      rw [hc] at te
      have : jmpsF p = false := allN_false hlt te
      rw [this]
      exact .rfl
    | false =>
      rw [hc] at te
      refine ⟨i + 1, ⟨hlt, fun j hj => ?_⟩, .ofL (weakT ⟨le_is rfl, le_is rfl, le_is rfl, le_is rfl, trivial⟩ ⟨rfl, trivial⟩ (Nat.le_refl _) rfl), by omega⟩
      by_cases hji : j = i
      · subst hji; exact te
      · exact hp j (by omega)
  · have h1 : ¬ (i : Int) < (p.code.length : Int) := by omega
    simp only [h1, decide_false, cond_false]
    have : jmpsF p = true := allN_iff.2 fun j hj => hp j (by omega)
    rw [this]
    exact .rfl
theorem TI3ok : TabOk Try.prog TI3 := mkT2_ok (clok_image.app clok_slices) trivial trivial ⟨sk_idi, sk_imt, trivial⟩ trivial
theorem r_ir (p : Prog) (r : XV) : (quietGo TI3 80 (callI TI3 80 20) 27 [e_Prog p] (fun v => ResLe v r)) = (bif bif decide ((↑(List.length (Prog.code p)) : Int) ≥ 1) then decide ((↑(List.length (Prog.code p)) : Int) ≥ 1) else true then bif bif bif decide ((↑(List.length
 (Prog.code p)) : Int) ≥ 1) then decide ((↑(List.length (Prog.code p)) : Int) ≤ 2000) else false then bif decide ((↑(List.length (Prog.code p)) : Int) ≥ 1) then decide
 ((↑(List.length (Prog.code p)) : Int) ≤ 2000) else false else true then bif bif bif bif decide ((↑(List.length (Prog.code p)) : Int) ≥ 1) then decide ((↑(List.length
 (Prog.code p)) : Int) ≤ 2000) else false then decide (Prog.size p ≥ 0) else false then bif bif decide ((↑(List.length (Prog.code p)) : Int) ≥ 1) then decide ((↑(List.length
 (Prog.code p)) : Int) ≤ 2000) else false then decide (Prog.size p ≥ 0) else false else true then bif bif bif bif bif decide ((↑(List.length (Prog.code p)) : Int)
 ≥ 1) then decide ((↑(List.length (Prog.code p)) : Int) ≤ 2000) else false then decide (Prog.size p ≥ 0) else false then decide (Prog.size p ≤ 65536) else false then
 bif bif bif decide ((↑(List.length (Prog.code p)) : Int) ≥ 1) then decide ((↑(List.length (Prog.code p)) : Int) ≤ 2000) else false then decide (Prog.size p ≥ 0)
 else false then decide (Prog.size p ≤ 65536) else false else true then bif bif bif bif bif decide ((↑(List.length (Prog.code p)) : Int) ≥ 1) then decide ((↑(List.length
 (Prog.code p)) : Int) ≤ 2000) else false then decide (Prog.size p ≥ 0) else false then decide (Prog.size p ≤ 65536) else false then decide ((↑(List.length (Prog.data
 p)) : Int) ≤ Prog.size p) else false then ∃ (s : List Ins), ArgsLe [e_row 5 e_Ins (Prog.code p), .clo 52 []] [e_row 5 e_Ins s, .clo 52 []] ∧ PreIs (List.length s
 ≤ 1000000000) ∧ ∀ (y : Int), y = idxF wrgF s → bif bif bif bif bif bif decide ((↑(List.length (Prog.code p)) : Int) ≥ 1) then decide ((↑(List.length (Prog.code p))
 : Int) ≤ 2000) else false then decide (Prog.size p ≥ 0) else false then decide (Prog.size p ≤ 65536) else false then decide ((↑(List.length (Prog.data p)) : Int)
 ≤ Prog.size p) else false then !decide (y ≥ 0) else false then ∃ (s : Prog), ArgsLe [e_Prog p] [e_Prog s] ∧ PreIs (Prog.wf s) ∧ ∀ (y_1 : Int), (y_1 = if jmpsF s
 = true then (0 : Int) else (4 : Int)) → ResLe (.bool (bif bif bif bif bif bif decide ((↑(List.length (Prog.code p)) : Int) ≥ 1) then decide ((↑(List.length (Prog.code
 p)) : Int) ≤ 2000) else false then decide (Prog.size p ≥ 0) else false then decide (Prog.size p ≤ 65536) else false then decide ((↑(List.length (Prog.data p)) :
 Int) ≤ Prog.size p) else false then !decide (y ≥ 0) else false then decide (y_1 = 0) else false)) r else bif !bif bif bif bif bif decide ((↑(List.length (Prog.code
 p)) : Int) ≥ 1) then decide ((↑(List.length (Prog.code p)) : Int) ≤ 2000) else false then decide (Prog.size p ≥ 0) else false then decide (Prog.size p ≤ 65536) else
 false then decide ((↑(List.length (Prog.data p)) : Int) ≤ Prog.size p) else false then !decide (y ≥ 0) else false then ResLe (.bool false) r else False else bif
 !bif bif bif bif decide ((↑(List.length (Prog.code p)) : Int) ≥ 1) then decide ((↑(List.length (Prog.code p)) : Int) ≤ 2000) else false then decide (Prog.size p
 ≥ 0) else false then decide (Prog.size p ≤ 65536) else false then decide ((↑(List.length (Prog.data p)) : Int) ≤ Prog.size p) else false then ResLe (.bool false)
 r else False else False else False else False
else False) := by kernel_rfl
theorem sk_imr : SkOk Try.prog (27, rprS) := skOf_ok fun p hw => by
  have hw : p.wf := hw
  have hl := hw.1.2
  show Pure _ _ (cons [e_Prog p]) (con (.bool (rightProg p)))
  refine pureR (u := 80) (k := 20) mix TI3ok ?_
  refine Eq.mpr (r_ir p _) ?_
  simp only [g1, g2, g3, g4, g5, g6, g7, allN_true, cond_true, Nat.le_refl, decide_true, pl_eq]
  simp only [bor, band]
  have e : (decide ((p.code.length : Int) ≥ 1) && decide ((p.code.length : Int) ≤ 2000) && decide (p.size ≥ 0) && decide (p.size ≤ 65536) && decide ((p.data.length : Int) ≤ p.size)) = decide (1 ≤ p.code.length ∧ p.code.length ≤ 2000 ∧ 0 ≤ p.size ∧ p.size ≤ 65536 ∧ (p.data.length : Int) ≤ p.size) := by
    rw [Bool.eq_iff_iff]
    simp only [Bool.and_eq_true, decide_eq_true_eq]
    omega
  rw [e]
  unfold rightProg
  cases hsz : decide (1 ≤ p.code.length ∧ p.code.length ≤ 2000 ∧ 0 ≤ p.size ∧ p.size ≤ 65536 ∧ (p.data.length : Int) ≤ p.size) with
  | false => exact .rfl
  | true =>
  have hsz := of_decide_eq_true hsz
  refine ⟨p.code, .rfl, ⟨by show p.code.length ≤ 1000000000; omega⟩, ?_⟩
  intro y hy
  replace hy : y = idxF wrgF p.code := hy
  subst hy
  simp only [idxF_ge, Bool.true_and]
  have e2 : p.code.any wrgF = !allN (fun n => rightIns (ix p.code n)) p.code.length := by
    rw [Bool.eq_iff_iff, List.any_eq_true, Bool.not_eq_true', ← Bool.not_eq_true, allN_iff]
    constructor
    · rintro ⟨x, hx, h⟩ h2
      obtain ⟨j, hj, rfl⟩ := List.mem_iff_getElem.1 hx
      have := h2 j hj
      rw [ix_lt hj] at this
      simp [wrgF, this] at h
    · intro h
      apply Classical.byContradiction
      intro h2
      refine h fun i hi => ?_
      apply Classical.byContradiction
      intro h3
      exact h2 ⟨_, ix_mem hi, by simp [wrgF, h3]⟩
  rw [e2]
  cases hr : allN (fun n => rightIns (ix p.code n)) p.code.length with
  | false => exact .rfl
  | true =>
  refine ⟨p, .rfl, ⟨hw⟩, ?_⟩
  intro y hy
  replace hy : y = if jmpsF p then 0 else 4 := hy
  subst hy
  rw [tgs_eq hr]
  cases jmpsF p <;> exact .rfl
end Go.Proofs.Ythmlnmkbeohojaa

/- How a program begins. -/
namespace Go.Proofs.Ythmlnmkbeohojaa
open Go.Ra
set_option linter.unusedVariables false
set_option linter.unusedSimpArgs false
def TJ0 : Tab := mkT2 qq (cl_state ++ cl_seq ++ cl_ref15 ++ cl_ref1) [] [] [(27, rprS), (29, rprS)] []
def zSide : Side := ⟨fun _ => 0, fun _ => 0, ⟨0, 0, 0⟩, 0, false, 0⟩
def zStt : Stt := ⟨0, zSide, zSide, [], [], [], [], [], [], [], [], [], ⟨0, 0, 0⟩, 0, 0, 0⟩
/-- The memory that a program begins with. -/
def memF (p : Prog) : List Int := tabL p.size.toNat fun i => bif decide (i < p.data.length) then ix p.data i else 0
def startF (p : Prog) : Stt := { zStt with mem := memF p }
/-- How a program begins. -/
def firstF (p : Prog) : Stt := if rightProg p then startF p else zStt
def fstS : List XV → Option ((XV → Prop) → Prop) := skOf (fun p : Prog => [e_Prog p]) (fun p => p.wf) (fun p => firstF p) (fun y => e_Stt y)
theorem TJ0ok : TabOk Try.prog TJ0 := mkT2_ok (((clok_state.app clok_seq).app clok_ref15).app clok_ref1) trivial trivial ⟨sk_imr, sk_rpr, trivial⟩ trivial
theorem r_f1 (p : Prog) (r : XV) : (quietGo TJ0 80 (callI TJ0 80 20) 14 [e_Prog p] (fun v => ResLe v r)) = (∃ (s : Prog), ArgsLe [e_Prog p] [e_Prog s] ∧ PreIs (Prog.wf s) ∧ ∀ (y : Bool), y = rightProg s → bif !y then ResLe (.agg 92 [.int .i64 0, .agg 38 [.tab 16 1
 fun x => .int .u32 0, .tab 16 1 fun x => .int .i64 0, .agg 3 [.int .i64 0, .int .i64 0, .int .i64 0], .int .i64 0, .bool false, .int .i64 0], .agg 38 [.tab 16 1
 fun x => .int .u32 0, .tab 16 1 fun x => .int .i64 0, .agg 3 [.int .i64 0, .int .i64 0, .int .i64 0], .int .i64 0, .bool false, .int .i64 0], .row true 0 0 fun x
 => .unk, .row true 0 0 fun x => .unk, .row true 0 0 fun x => .unk, .row true 0 0 fun x => .unk, .row true 0 0 fun x => .unk, .row true 0 0 fun x => .unk, .row true
 0 0 fun x => .unk, .row true 0 0 fun x => .unk, .row true 0 0 fun x => .unk, .agg 3 [.int .i64 0, .int .i64 0, .int .i64 0], .int .i64 0, .int .i64 0, .int .i64
 0]) r else bif decide (0 ≤ Prog.size p) then bif decide (Int.toNat (Prog.size p) * 1 ≤ 140737488355328) then bif Nat.beq (Int.toNat (Prog.size p)) (Int.toNat (Prog.size
 p)) then bif decide (Int.toNat (Prog.size p) ≤ Int.toNat (Prog.size p)) then ResLe (.agg 92 [.int .i64 0, .agg 38 [.tab 16 1 fun x => .int .u32 0, .tab 16 1 fun
 x => .int .i64 0, .agg 3 [.int .i64 0, .int .i64 0, .int .i64 0], .int .i64 0, .bool false, .int .i64 0], .agg 38 [.tab 16 1 fun x => .int .u32 0, .tab 16 1 fun
 x => .int .i64 0, .agg 3 [.int .i64 0, .int .i64 0, .int .i64 0], .int .i64 0, .bool false, .int .i64 0], .row true 0 0 fun x => .unk, .row true 0 0 fun x => .unk,
 .row true 0 0 fun x => .unk, .row true 0 0 fun x => .unk, .row true 0 0 fun x => .unk, .row true 0 0 fun x => .unk, .row true 0 0 fun x => .unk, .row false 1 (Int.toNat
 (Prog.size p)) fun i => .int .u8 (bif decide (i < List.length (Prog.data p)) then ix (Prog.data p) i else (0 : Int)), .row true 0 0 fun x => .unk, .agg 3 [.int .i64
 0, .int .i64 0, .int .i64 0], .int .i64 0, .int .i64 0, .int .i64 0]) r else False else False else False else False) := by kernel_rfl
theorem r_f2 (p : Prog) (r : XV) : (quietGo TJ0 80 (callI TJ0 80 20) 15 [e_Prog p] (fun v => ResLe v r)) = (∃ (s : Prog), ArgsLe [e_Prog p] [e_Prog s] ∧ PreIs (Prog.wf s) ∧ ∀ (y : Bool), y = rightProg s → bif !y then ResLe (.agg 92 [.int .i64 0, .agg 38 [.tab 16 1
 fun x => .int .u32 0, .tab 16 1 fun x => .int .i64 0, .agg 3 [.int .i64 0, .int .i64 0, .int .i64 0], .int .i64 0, .bool false, .int .i64 0], .agg 38 [.tab 16 1
 fun x => .int .u32 0, .tab 16 1 fun x => .int .i64 0, .agg 3 [.int .i64 0, .int .i64 0, .int .i64 0], .int .i64 0, .bool false, .int .i64 0], .row true 0 0 fun x
 => .unk, .row true 0 0 fun x => .unk, .row true 0 0 fun x => .unk, .row true 0 0 fun x => .unk, .row true 0 0 fun x => .unk, .row true 0 0 fun x => .unk, .row true
 0 0 fun x => .unk, .row true 0 0 fun x => .unk, .row true 0 0 fun x => .unk, .agg 3 [.int .i64 0, .int .i64 0, .int .i64 0], .int .i64 0, .int .i64 0, .int .i64
 0]) r else bif decide (0 ≤ Prog.size p) then bif decide (Int.toNat (Prog.size p) * 1 ≤ 140737488355328) then bif Nat.beq (Int.toNat (Prog.size p)) (Int.toNat (Prog.size
 p)) then bif decide (Int.toNat (Prog.size p) ≤ Int.toNat (Prog.size p)) then ResLe (.agg 92 [.int .i64 0, .agg 38 [.tab 16 1 fun x => .int .u32 0, .tab 16 1 fun
 x => .int .i64 0, .agg 3 [.int .i64 0, .int .i64 0, .int .i64 0], .int .i64 0, .bool false, .int .i64 0], .agg 38 [.tab 16 1 fun x => .int .u32 0, .tab 16 1 fun
 x => .int .i64 0, .agg 3 [.int .i64 0, .int .i64 0, .int .i64 0], .int .i64 0, .bool false, .int .i64 0], .row true 0 0 fun x => .unk, .row true 0 0 fun x => .unk,
 .row true 0 0 fun x => .unk, .row true 0 0 fun x => .unk, .row true 0 0 fun x => .unk, .row true 0 0 fun x => .unk, .row true 0 0 fun x => .unk, .row false 1 (Int.toNat
 (Prog.size p)) fun i => .int .u8 (bif decide (i < List.length (Prog.data p)) then ix (Prog.data p) i else (0 : Int)), .row true 0 0 fun x => .unk, .agg 3 [.int .i64
 0, .int .i64 0, .int .i64 0], .int .i64 0, .int .i64 0, .int .i64 0]) r else False else False else False else False) := by kernel_rfl
theorem lq_z {α : Type} [Inhabited α] {es : Nat} {en : α → XV} : leQ (con (.row true 0 0 fun x => .unk)) (con (e_row es en [])) := lq_lit0
theorem z_lq : leQ (con (.agg 92 [.int .i64 0, .agg 38 [.tab 16 1 fun x => .int .u32 0, .tab 16 1 fun x => .int .i64 0, .agg 3 [.int .i64 0, .int .i64 0, .int .i64 0], .int .i64 0, .bool false, .int .i64 0], .agg 38 [.tab 16 1 fun x => .int .u32 0, .tab 16 1 fun x => .int .i64 0, .agg 3 [.int .i64 0, .int .i64 0, .int .i64 0], .int .i64 0, .bool false, .int .i64 0], .row true 0 0 fun x => .unk, .row true 0 0 fun x => .unk, .row true 0 0 fun x => .unk, .row true 0 0 fun x => .unk, .row true 0 0 fun x => .unk, .row true 0 0 fun x => .unk, .row true 0 0 fun x => .unk, .row true 0 0 fun x => .unk, .row true 0 0 fun x => .unk, .agg 3 [.int .i64 0, .int .i64 0, .int .i64 0], .int .i64 0, .int .i64 0, .int .i64 0])) (con (e_Stt zStt)) :=
  lq_agg (lqs_cons (.refl _) (lqs_cons (.refl _) (lqs_cons (.refl _) (lqs_cons lq_z (lqs_cons lq_z (lqs_cons lq_z (lqs_cons lq_z (lqs_cons lq_z (lqs_cons lq_z (lqs_cons lq_z (lqs_cons lq_z (lqs_cons lq_z (lqs_cons (.refl _) (lqs_cons (.refl _) (lqs_cons (.refl _) (lqs_cons (.refl _) lqs_nil))))))))))))))))
theorem mem_len {p : Prog} : (memF p).length = p.size.toNat := tabL_len
theorem m_lq {p : Prog} : leQ (con (.agg 92 [.int .i64 0, .agg 38 [.tab 16 1 fun x => .int .u32 0, .tab 16 1 fun x => .int .i64 0, .agg 3 [.int .i64 0, .int .i64 0, .int .i64 0], .int .i64 0, .bool false, .int .i64 0], .agg 38 [.tab 16 1 fun x => .int .u32 0, .tab 16 1 fun x => .int .i64 0, .agg 3 [.int .i64 0, .int .i64 0, .int .i64 0], .int .i64 0, .bool false, .int .i64 0], .row true 0 0 fun x => .unk, .row true 0 0 fun x => .unk, .row true 0 0 fun x => .unk, .row true 0 0 fun x => .unk, .row true 0 0 fun x => .unk, .row true 0 0 fun x => .unk, .row true 0 0 fun x => .unk, .row false 1 p.size.toNat fun i => .int .u8 (bif decide (i < p.data.length) then ix p.data i else 0), .row true 0 0 fun x => .unk, .agg 3 [.int .i64 0, .int .i64 0, .int .i64 0], .int .i64 0, .int .i64 0, .int .i64 0])) (con (e_Stt (startF p))) :=
  lq_agg (lqs_cons (.refl _) (lqs_cons (.refl _) (lqs_cons (.refl _) (lqs_cons lq_z (lqs_cons lq_z (lqs_cons lq_z (lqs_cons lq_z (lqs_cons lq_z (lqs_cons lq_z (lqs_cons lq_z (lqs_cons (lq_erow mem_len.symm (.inl rfl) fun i hi => by
    show leQ _ (con (e_u8 (ix (memF p) i)))
    unfold memF
    rw [ix_tabL hi]
    exact .refl _) (lqs_cons lq_z (lqs_cons (.refl _) (lqs_cons (.refl _) (lqs_cons (.refl _) (lqs_cons (.refl _) lqs_nil))))))))))))))))
theorem sk_first : SkOk Try.prog (14, fstS) := skOf_ok fun p hw => by
  have hw : p.wf := hw
  show Pure _ _ (cons [e_Prog p]) (con (e_Stt (firstF p)))
  refine pureR (u := 80) (k := 20) mix TJ0ok ?_
  refine Eq.mpr (r_f1 p _) ?_
  refine ⟨p, .rfl, ⟨hw⟩, ?_⟩
  intro y hy
  replace hy : y = rightProg p := hy
  subst hy
  unfold firstF
  cases hr : rightProg p with
  | false => exact ⟨z_lq⟩
  | true =>
    have hr' := hr
    simp only [rightProg, Bool.and_eq_true, decide_eq_true_eq] at hr'
    have h1 : (0 : Int) ≤ p.size := by omega
    have h2 : p.size.toNat * 1 ≤ 140737488355328 := by omega
    simp only [g1, g2, g3, g4, g5, g6, g7, allN_true, cond_true, Nat.le_refl, decide_true, pl_eq, h1, h2, Nat.beq_refl, Bool.not_true]
    exact ⟨m_lq⟩
theorem sk_rfirst : SkOk Try.prog (15, fstS) := skOf_ok fun p hw => by
  have hw : p.wf := hw
  show Pure _ _ (cons [e_Prog p]) (con (e_Stt (firstF p)))
  refine pureR (u := 80) (k := 20) mix TJ0ok ?_
  refine Eq.mpr (r_f2 p _) ?_
  refine ⟨p, .rfl, ⟨hw⟩, ?_⟩
  intro y hy
  replace hy : y = rightProg p := hy
  subst hy
  unfold firstF
  cases hr : rightProg p with
  | false => exact ⟨z_lq⟩
  | true =>
    have hr' := hr
    simp only [rightProg, Bool.and_eq_true, decide_eq_true_eq] at hr'
    have h1 : (0 : Int) ≤ p.size := by omega
    have h2 : p.size.toNat * 1 ≤ 140737488355328 := by omega
    simp only [g1, g2, g3, g4, g5, g6, g7, allN_true, cond_true, Nat.le_refl, decide_true, pl_eq, h1, h2, Nat.beq_refl, Bool.not_true]
    exact ⟨m_lq⟩
end Go.Proofs.Ythmlnmkbeohojaa

/- When two states are one. -/
namespace Go.Proofs.Ythmlnmkbeohojaa
open Go.Ra
set_option linter.unusedVariables false
set_option linter.unusedSimpArgs false
def TC5 : Tab := mkT qq cl_ref15 [] gl_ref15
def wrdS : List XV → Option ((XV → Prop) → Prop) := skOf (fun p : List Int × List Int => [e_row 1 e_u32 p.1, e_row 1 e_u32 p.2]) (fun p => p.1.length ≤ 1000000) (fun p => decide (p.1 = p.2)) (fun y => .bool y)
def boolS : List XV → Option ((XV → Prop) → Prop) := skOf (fun p : List Bool × List Bool => [e_row 1 e_bool p.1, e_row 1 e_bool p.2]) (fun p => p.1.length ≤ 1000000) (fun p => decide (p.1 = p.2)) (fun y => .bool y)
def TC6 : Tab := mkT2 qq cl_ref15 [] gl_ref15 [(25, wrdS), (26, boolS)] []
def sideB (x y : Side) : Bool := allN (fun i => decide (x.regs i = y.regs i)) 16 && (allN (fun i => decide (x.ready i = y.ready i)) 16 && ((decide (x.pos.block = y.pos.block) && (decide (x.pos.index = y.pos.index) && (decide (x.pos.base = y.pos.base) && true))) && (decide (x.wait = y.wait) && ((x.halted == y.halted) && (decide (x.done = y.done) && true)))))
def trpB (x y : Trp) : Bool := decide (x.kind = y.kind) && (decide (x.step = y.step) && (decide (x.pc = y.pc) && true))
def hdB (a b : Stt) : Bool := decide (a.cycle = b.cycle) && (sideB a.a b.a && (sideB a.e b.e && (trpB a.trap b.trap && (decide (a.lats = b.lats) && (decide (a.picks = b.picks) && (decide (a.tags = b.tags) && (decide (a.mem = b.mem) && (decide ((a.ldq.length : Int) = b.ldq.length) && (decide ((a.saq.length : Int) = b.saq.length) && (decide ((a.table.length : Int) = b.table.length) && decide ((a.writes.length : Int) = b.writes.length)))))))))))
/-- Are two states one? -/
def sameF (a b : Stt) : Bool := hdB a b && (decide (a.ldq = b.ldq) && (decide (a.saq = b.saq) && (decide (a.table = b.table) && (decide (a.writes = b.writes) && (decide (a.sdq = b.sdq) && (decide (a.aeq = b.aeq) && (decide (a.abq = b.abq) && decide (a.ebq = b.ebq))))))))
def samS : List XV → Option ((XV → Prop) → Prop) := skOf (fun p : Stt × Stt => [e_Stt p.1, e_Stt p.2]) (fun p => p.1.ok ∧ p.2.ok) (fun p => sameF p.1 p.2) (fun y => .bool y)
def ssS (k : Nat) (i : Nat) (a b : Stt) : XSt := ⟨[(2, .ptr 0 [] 0), (3, .ptr 1 [] 0), (k, .int .i64 i)], [(1, some (e_Stt b)), (0, some (e_Stt a))], 2⟩
theorem TC5ok : TabOk Try.prog TC5 := mkT_ok clok_ref15 trivial glok_ref15
theorem r_w0 (l m : List Int) (r : XV) : (goQ Try.prog TC5 [(.tmp 4)] r (.run c_ref15_SameWords) [] ⟨envX 0 [e_row 1 e_u32 l, e_row 1 e_u32 m], [], 0⟩) = (bif decide ¬(↑(List.length l) : Int) = (↑(List.length m) : Int) then ResLe (.bool false) r
else LoopAt (Ok Try.prog (Tab.q TC5)) c_ref15_SameWords_l1 (XSt.mk
 [(5, .int .i64 0), (4, .bool false), (0, e_row 1 e_u32 l), (1, e_row 1 e_u32 m)] [] 0) [Frm.blk 0, Frm.seq c_ref15_SameWords_p1] (finQR [AR.tmp 4] r)) := by kernel_rfl 

theorem r_w1 (l m : List Int) (i : Nat) (r : XV) (A : XSt → Prop) : (goQ Try.prog TC5 [(.tmp 4)] r (.run c_ref15_SameWords_l1) [.lp c_ref15_SameWords_l1 A, .blk 0, .seq c_ref15_SameWords_p1] ⟨[(0, e_row 1 e_u32 l), (1, e_row 1 e_u32 m), (5, .int .i64 i)], [], 0⟩) = (bif decide ((↑i : Int) < (↑(List.length l) : Int)) then bif decide ((↑i : Int) < (↑(List.length l) : Int)) then bif decide ((↑i : Int) < (↑(List.length m) :
 Int)) then bif decide ¬ix l i = ix m i then ResLe (.bool false) r else A (XSt.mk [(5, .int .i64 (IntKind.wrap .i64 ((↑i : Int) + (1 : Int)))), (0, e_row 1 e_u32
 l), (1, e_row 1 e_u32 m)] [] 0) else False else False
else ResLe (.bool true) r) := by kernel_rfl
theorem r_b0 (l m : List Bool) (r : XV) : (goQ Try.prog TC5 [(.tmp 4)] r (.run c_ref15_SameBools) [] ⟨envX 0 [e_row 1 e_bool l, e_row 1 e_bool m], [], 0⟩) = (bif decide ¬(↑(List.length l) : Int) = (↑(List.length m) : Int) then ResLe (.bool false) r
else LoopAt (Ok Try.prog (Tab.q TC5)) c_ref15_SameBools_l1 (XSt.mk
 [(5, .int .i64 0), (4, .bool false), (0, e_row 1 e_bool l), (1, e_row 1 e_bool m)] [] 0) [Frm.blk 0, Frm.seq c_ref15_SameBools_p1] (finQR [AR.tmp 4] r)) := by kernel_rfl 

theorem r_b1 (l m : List Bool) (i : Nat) (r : XV) (A : XSt → Prop) : (goQ Try.prog TC5 [(.tmp 4)] r (.run c_ref15_SameBools_l1) [.lp c_ref15_SameBools_l1 A, .blk 0, .seq c_ref15_SameBools_p1] ⟨[(0, e_row 1 e_bool l), (1, e_row 1 e_bool m), (5, .int .i64 i)], [], 0⟩) = (bif decide ((↑i : Int) < (↑(List.length l) : Int)) then bif decide ((↑i : Int) < (↑(List.length l) : Int)) then bif decide ((↑i : Int) < (↑(List.length m) :
 Int)) then bif !ix l i == ix m i then ResLe (.bool false) r else A (XSt.mk [(5, .int .i64 (IntKind.wrap .i64 ((↑i : Int) + (1 : Int)))), (0, e_row 1 e_bool l), (1,
 e_row 1 e_bool m)] [] 0) else False else False
else ResLe (.bool true) r) := by kernel_rfl
theorem sk_words : SkOk Try.prog (25, wrdS) := skOf_ok fun ⟨l, m⟩ h => by
  have hl : l.length ≤ 1000000 := h
  show Pure _ _ (cons [e_row 1 e_u32 l, e_row 1 e_u32 m]) (con (.bool (decide (l = m))))
  refine pureQ mix TC5ok t_ref15_SameWords (Nat.le_of_ble_eq_true rfl) ?_
  refine Eq.mpr (r_w0 l m _) ?_
  by_cases hn : l.length = m.length
  · have hn' : ¬ ¬ (l.length : Int) = (m.length : Int) := by omega
    simp only [hn', decide_false, cond_false]
    refine loopQ mix TC5ok (fun i : Nat => ⟨[(0, e_row 1 e_u32 l), (1, e_row 1 e_u32 m), (5, .int .i64 i)], [], 0⟩) (fun i => i ≤ l.length ∧ ∀ j, j < i → ix l j = ix m j) (fun i => l.length - i) 0 ⟨Nat.zero_le _, fun j hj => by omega⟩ (.of (weakX ⟨rfl, rfl, rfl, trivial⟩ trivial (Nat.le_refl _))) ?_
    rintro i ⟨hi, hp⟩
    refine Eq.mpr (r_w1 l m i _ _) ?_
    by_cases hlt : i < l.length
    · have h1 : (i : Int) < (l.length : Int) := by omega
      have h2 : (i : Int) < (m.length : Int) := by omega
      have w1 : IntKind.i64.wrap ((i : Int) + 1) = ((i + 1 : Nat) : Int) := wrap_i64 (by omega) (by omega)
      simp only [h1, h2, w1, decide_true, decide_false, cond_true, cond_false, allN_true, Nat.le_refl, Int.toNat_natCast, Nat.beq_refl, pk_and, pk_or, Bool.not_true, Bool.not_false, not_true_eq_false, not_false_eq_true, Bool.and_true, Bool.true_and, Bool.and_self, ge_iff_le, Int.le_refl, if_true, if_false, reduceCtorEq, eq_self, BEq.rfl]
      by_cases he : ix l i = ix m i
      · have he' : ¬ ¬ ix l i = ix m i := fun h => h he
        simp only [he', decide_true, decide_false, cond_true, cond_false, allN_true, Nat.le_refl, Int.toNat_natCast, Nat.beq_refl, pk_and, pk_or, Bool.not_true, Bool.not_false, not_true_eq_false, not_false_eq_true, Bool.and_true, Bool.true_and, Bool.and_self, ge_iff_le, Int.le_refl, if_true, if_false, reduceCtorEq, eq_self, BEq.rfl]
        refine ⟨i + 1, ⟨hlt, fun j hj => ?_⟩, .of (weakX ⟨rfl, rfl, rfl, trivial⟩ trivial (Nat.le_refl _)), by omega⟩
        by_cases hji : j = i
        · subst hji; exact he
        · exact hp j (by omega)
      · simp only [he, decide_true, decide_false, cond_true, cond_false, allN_true, Nat.le_refl, Int.toNat_natCast, Nat.beq_refl, pk_and, pk_or, Bool.not_true, Bool.not_false, not_true_eq_false, not_false_eq_true, Bool.and_true, Bool.true_and, Bool.and_self, ge_iff_le, Int.le_refl, if_true, if_false, reduceCtorEq, eq_self, BEq.rfl]
        rw [decide_eq_false fun e => he (by rw [e])]
        exact .rfl
    · have h1 : ¬ (i : Int) < (l.length : Int) := by omega
      simp only [h1, decide_true, decide_false, cond_true, cond_false, allN_true, Nat.le_refl, Int.toNat_natCast, Nat.beq_refl, pk_and, pk_or, Bool.not_true, Bool.not_false, not_true_eq_false, not_false_eq_true, Bool.and_true, Bool.true_and, Bool.and_self, ge_iff_le, Int.le_refl, if_true, if_false, reduceCtorEq, eq_self, BEq.rfl]
      rw [decide_eq_true (ix_ext hn fun j hj => hp j (by omega))]
      exact .rfl
  · have hn' : ¬ (l.length : Int) = (m.length : Int) := by omega
    simp only [hn', not_false_eq_true, decide_true, cond_true]
    rw [decide_eq_false fun e => hn (by rw [e])]
    exact .rfl
theorem sk_bools : SkOk Try.prog (26, boolS) := skOf_ok fun ⟨l, m⟩ h => by
  have hl : l.length ≤ 1000000 := h
  show Pure _ _ (cons [e_row 1 e_bool l, e_row 1 e_bool m]) (con (.bool (decide (l = m))))
  refine pureQ mix TC5ok t_ref15_SameBools (Nat.le_of_ble_eq_true rfl) ?_
  refine Eq.mpr (r_b0 l m _) ?_
  by_cases hn : l.length = m.length
  · have hn' : ¬ ¬ (l.length : Int) = (m.length : Int) := by omega
    simp only [hn', decide_false, cond_false]
    refine loopQ mix TC5ok (fun i : Nat => ⟨[(0, e_row 1 e_bool l), (1, e_row 1 e_bool m), (5, .int .i64 i)], [], 0⟩) (fun i => i ≤ l.length ∧ ∀ j, j < i → ix l j = ix m j) (fun i => l.length - i) 0 ⟨Nat.zero_le _, fun j hj => by omega⟩ (.of (weakX ⟨rfl, rfl, rfl, trivial⟩ trivial (Nat.le_refl _))) ?_
    rintro i ⟨hi, hp⟩
    refine Eq.mpr (r_b1 l m i _ _) ?_
    by_cases hlt : i < l.length
    · have h1 : (i : Int) < (l.length : Int) := by omega
      have h2 : (i : Int) < (m.length : Int) := by omega
      have w1 : IntKind.i64.wrap ((i : Int) + 1) = ((i + 1 : Nat) : Int) := wrap_i64 (by omega) (by omega)
      simp only [h1, h2, w1, decide_true, decide_false, cond_true, cond_false, allN_true, Nat.le_refl, Int.toNat_natCast, Nat.beq_refl, pk_and, pk_or, Bool.not_true, Bool.not_false, not_true_eq_false, not_false_eq_true, Bool.and_true, Bool.true_and, Bool.and_self, ge_iff_le, Int.le_refl, if_true, if_false, reduceCtorEq, eq_self, BEq.rfl]
      by_cases he : ix l i = ix m i
      · simp only [he, decide_true, decide_false, cond_true, cond_false, allN_true, Nat.le_refl, Int.toNat_natCast, Nat.beq_refl, pk_and, pk_or, Bool.not_true, Bool.not_false, not_true_eq_false, not_false_eq_true, Bool.and_true, Bool.true_and, Bool.and_self, ge_iff_le, Int.le_refl, if_true, if_false, reduceCtorEq, eq_self, BEq.rfl]
        refine ⟨i + 1, ⟨hlt, fun j hj => ?_⟩, .of (weakX ⟨rfl, rfl, rfl, trivial⟩ trivial (Nat.le_refl _)), by omega⟩
        by_cases hji : j = i
        · subst hji; exact he
        · exact hp j (by omega)
      · have he' : (ix l i == ix m i) = false := by simpa using he
        simp only [he', decide_true, decide_false, cond_true, cond_false, allN_true, Nat.le_refl, Int.toNat_natCast, Nat.beq_refl, pk_and, pk_or, Bool.not_true, Bool.not_false, not_true_eq_false, not_false_eq_true, Bool.and_true, Bool.true_and, Bool.and_self, ge_iff_le, Int.le_refl, if_true, if_false, reduceCtorEq, eq_self, BEq.rfl]
        rw [decide_eq_false fun e => he (by rw [e])]
        exact .rfl
    · have h1 : ¬ (i : Int) < (l.length : Int) := by omega
      simp only [h1, decide_true, decide_false, cond_true, cond_false, allN_true, Nat.le_refl, Int.toNat_natCast, Nat.beq_refl, pk_and, pk_or, Bool.not_true, Bool.not_false, not_true_eq_false, not_false_eq_true, Bool.and_true, Bool.true_and, Bool.and_self, ge_iff_le, Int.le_refl, if_true, if_false, reduceCtorEq, eq_self, BEq.rfl]
      rw [decide_eq_true (ix_ext hn fun j hj => hp j (by omega))]
      exact .rfl
  · have hn' : ¬ (l.length : Int) = (m.length : Int) := by omega
    simp only [hn', not_false_eq_true, decide_true, cond_true]
    rw [decide_eq_false fun e => hn (by rw [e])]
    exact .rfl
theorem TC6ok : TabOk Try.prog TC6 := mkT2_ok clok_ref15 trivial glok_ref15 ⟨sk_words, sk_bools, trivial⟩ trivial
theorem r_ss0 (a b : Stt) (r : XV) : (goQ Try.prog TC6 [(.tmp 4)] r (.run c_ref15_SameState) [] ⟨envX 0 [e_Stt a, e_Stt b], [], 0⟩) = (let q1 : Bool := decide ¬Stt.cycle a = Stt.cycle b;
let q2 : Bool := bif q1 then true
else !(allN (fun i => decide (Side.regs (Stt.a a) i = Side.regs (Stt.a
 b) i)) 16 && (allN (fun i => decide (Side.ready (Stt.a a) i = Side.ready (Stt.a b) i)) 16 && (decide (Pos.block (Side.pos (Stt.a a)) = Pos.block (Side.pos (Stt.a
 b))) && (decide (Pos.index (Side.pos (Stt.a a)) = Pos.index (Side.pos (Stt.a b))) && (decide (Pos.base (Side.pos (Stt.a a)) = Pos.base (Side.pos (Stt.a b))) && true))
 && (decide (Side.wait (Stt.a a) = Side.wait (Stt.a b)) && (Side.halted (Stt.a a) == Side.halted (Stt.a b) && (decide (Side.done (Stt.a a) = Side.done (Stt.a b))
 && true))))));
let q3 : Bool := bif q2 then true
else !(allN (fun i => decide (Side.regs (Stt.e a) i = Side.regs (Stt.e b) i)) 16 && (allN (fun i => decide (Side.ready
 (Stt.e a) i = Side.ready (Stt.e b) i)) 16 && (decide (Pos.block (Side.pos (Stt.e a)) = Pos.block (Side.pos (Stt.e b))) && (decide (Pos.index (Side.pos (Stt.e a))
 = Pos.index (Side.pos (Stt.e b))) && (decide (Pos.base (Side.pos (Stt.e a)) = Pos.base (Side.pos (Stt.e b))) && true)) && (decide (Side.wait (Stt.e a) = Side.wait
 (Stt.e b)) && (Side.halted (Stt.e a) == Side.halted (Stt.e b) && (decide (Side.done (Stt.e a) = Side.done (Stt.e b)) && true))))));
let q4 : Bool := bif q3 then
 true
else !(decide (Trp.kind (Stt.trap a) = Trp.kind (Stt.trap b)) && (decide (Trp.step (Stt.trap a) = Trp.step (Stt.trap b)) && (decide (Trp.pc (Stt.trap a) = Trp.pc
 (Stt.trap b)) && true)));
let q5 : Bool := bif q4 then true else decide ¬Stt.lats a = Stt.lats b;
let q6 : Bool := bif q5 then true else decide ¬Stt.picks a = Stt.picks
 b;
let q7 : Bool := bif q6 then true else decide ¬Stt.tags a = Stt.tags b;
let q8 : Bool := !q7;
let q9 : Bool := !q8;
let q10 : Bool := bif q7 then true else !strEq
 (List.length (Stt.mem a)) (fun i => ix (Stt.mem a) i) (List.length (Stt.mem b)) fun i => ix (Stt.mem b) i;
let q11 : Bool := bif q10 then true else decide ¬(↑(List.length
 (Stt.ldq a)) : Int) = (↑(List.length (Stt.ldq b)) : Int);
let q12 : Bool := bif q11 then true else decide ¬(↑(List.length (Stt.saq a)) : Int) = (↑(List.length (Stt.saq
 b)) : Int);
let q13 : Bool := bif q12 then true else decide ¬(↑(List.length (Stt.table a)) : Int) = (↑(List.length (Stt.table b)) : Int);
bif bif q1 then true else
 !q1 then bif bif q2 then true else !q2 then bif bif q3 then true else !q3 then bif bif q4 then true else !q4 then bif bif q5 then true else !q5 then bif bif q6 then
 true else !q6 then bif bif allN (fun i => true) (List.length (Stt.mem a)) then true else q9 then bif bif allN (fun i => true) (List.length (Stt.mem b)) then true
 else q9 then bif bif q7 then true else q8 then bif bif q10 then true else !q10 then bif bif q11 then true else !q11 then bif bif q12 then true else !q12 then bif
 bif q13 then true else !q13 then bif bif q13 then true else decide ¬(↑(List.length (Stt.writes a)) : Int) = (↑(List.length (Stt.writes b)) : Int) then ResLe (.bool
 false) r else LoopAt (Ok Try.prog (Tab.q TC6)) c_ref15_SameState_l1 (XSt.mk [(5, .int .i64 0), (4, .bool false), (3, .ptr 1 [] 0), (2, .ptr 0 [] 0)] [(1, some (e_Stt
 b)), (0, some (e_Stt a))] 2) [Frm.blk 0, Frm.seq c_ref15_SameState_p4] (finQR [AR.tmp 4] r) else False else False else False else False else False else False else
 False else False else False else False else False else False
else False) := by kernel_rfl
theorem r_ss1 (a b : Stt) (i : Nat) (r : XV) (A : XSt → Prop) : (goQ Try.prog TC6 [(.tmp 4)] r (.run c_ref15_SameState_l1) [.lp c_ref15_SameState_l1 A, .blk 0, .seq c_ref15_SameState_p4] (ssS 5 i a b)) = (bif decide ((↑i : Int) < (↑(List.length (Stt.ldq a)) : Int)) then bif decide ((↑i : Int) < (↑(List.length (Stt.ldq a)) : Int)) then bif decide ((↑i : Int) <
 (↑(List.length (Stt.ldq b)) : Int)) then bif !(decide (Slot.tag (ix (Stt.ldq a) i) = Slot.tag (ix (Stt.ldq b) i)) && (Slot.full (ix (Stt.ldq a) i) == Slot.full (ix
 (Stt.ldq b) i) && (decide (Slot.val (ix (Stt.ldq a) i) = Slot.val (ix (Stt.ldq b) i)) && true))) then ResLe (.bool false) r else A (XSt.mk [(5, .int .i64 (IntKind.wrap
 .i64 ((↑i : Int) + (1 : Int)))), (2, .ptr 0 [] 0), (3, .ptr 1 [] 0)] [(1, some (e_Stt b)), (0, some (e_Stt a))] 2) else False else False
else LoopAt (Ok Try.prog
 (Tab.q TC6)) c_ref15_SameState_l2 (XSt.mk [(6, .int .i64 0), (2, .ptr 0 [] 0), (3, .ptr 1 [] 0)] [(1, some (e_Stt b)), (0, some (e_Stt a))] 2) [Frm.blk 2, Frm.seq
 c_ref15_SameState_p3] (finQR [AR.tmp 4] r)) := by kernel_rfl
theorem r_ss2 (a b : Stt) (i : Nat) (r : XV) (A : XSt → Prop) : (goQ Try.prog TC6 [(.tmp 4)] r (.run c_ref15_SameState_l2) [.lp c_ref15_SameState_l2 A, .blk 2, .seq c_ref15_SameState_p3] (ssS 6 i a b)) = (bif decide ((↑i : Int) < (↑(List.length (Stt.saq a)) : Int)) then bif decide ((↑i : Int) < (↑(List.length (Stt.saq a)) : Int)) then bif decide ((↑i : Int) <
 (↑(List.length (Stt.saq b)) : Int)) then bif !(decide (Entry.addr (ix (Stt.saq a) i) = Entry.addr (ix (Stt.saq b) i)) && (decide (Entry.size (ix (Stt.saq a) i) =
 Entry.size (ix (Stt.saq b) i)) && (decide (Entry.step (ix (Stt.saq a) i) = Entry.step (ix (Stt.saq b) i)) && (Entry.known (ix (Stt.saq a) i) == Entry.known (ix (Stt.saq
 b) i) && (decide (Entry.val (ix (Stt.saq a) i) = Entry.val (ix (Stt.saq b) i)) && true))))) then ResLe (.bool false) r else A (XSt.mk [(6, .int .i64 (IntKind.wrap
 .i64 ((↑i : Int) + (1 : Int)))), (2, .ptr 0 [] 0), (3, .ptr 1 [] 0)] [(1, some (e_Stt b)), (0, some (e_Stt a))] 2) else False else False
else LoopAt (Ok Try.prog
 (Tab.q TC6)) c_ref15_SameState_l3 (XSt.mk [(7, .int .i64 0), (2, .ptr 0 [] 0), (3, .ptr 1 [] 0)] [(1, some (e_Stt b)), (0, some (e_Stt a))] 2) [Frm.blk 4, Frm.seq
 c_ref15_SameState_p2] (finQR [AR.tmp 4] r)) := by kernel_rfl
theorem r_ss3 (a b : Stt) (i : Nat) (r : XV) (A : XSt → Prop) : (goQ Try.prog TC6 [(.tmp 4)] r (.run c_ref15_SameState_l3) [.lp c_ref15_SameState_l3 A, .blk 4, .seq c_ref15_SameState_p2] (ssS 7 i a b)) = (bif decide ((↑i : Int) < (↑(List.length (Stt.table a)) : Int)) then bif decide ((↑i : Int) < (↑(List.length (Stt.table a)) : Int)) then bif decide ((↑i : Int)
 < (↑(List.length (Stt.table b)) : Int)) then bif !(Req.store (ix (Stt.table a) i) == Req.store (ix (Stt.table b) i) && (decide (Req.op (ix (Stt.table a) i) = Req.op
 (ix (Stt.table b) i)) && (decide (Req.addr (ix (Stt.table a) i) = Req.addr (ix (Stt.table b) i)) && (decide (Req.size (ix (Stt.table a) i) = Req.size (ix (Stt.table
 b) i)) && (decide (Req.val (ix (Stt.table a) i) = Req.val (ix (Stt.table b) i)) && (decide (Req.left (ix (Stt.table a) i) = Req.left (ix (Stt.table b) i)) && (decide
 (Req.reg (ix (Stt.table a) i) = Req.reg (ix (Stt.table b) i)) && (decide (Req.tag (ix (Stt.table a) i) = Req.tag (ix (Stt.table b) i)) && true)))))))) then ResLe
 (.bool false) r else A (XSt.mk [(7, .int .i64 (IntKind.wrap .i64 ((↑i : Int) + (1 : Int)))), (2, .ptr 0 [] 0), (3, .ptr 1 [] 0)] [(1, some (e_Stt b)), (0, some (e_Stt
 a))] 2) else False else False
else LoopAt (Ok Try.prog (Tab.q TC6)) c_ref15_SameState_l4 (XSt.mk [(8, .int .i64 0), (2, .ptr 0 [] 0), (3, .ptr 1 [] 0)] [(1, some
 (e_Stt b)), (0, some (e_Stt a))] 2) [Frm.blk 6, Frm.seq c_ref15_SameState_p1] (finQR [AR.tmp 4] r)) := by kernel_rfl
theorem r_ss4 (a b : Stt) (i : Nat) (r : XV) (A : XSt → Prop) : (goQ Try.prog TC6 [(.tmp 4)] r (.run c_ref15_SameState_l4) [.lp c_ref15_SameState_l4 A, .blk 6, .seq c_ref15_SameState_p1] (ssS 8 i a b)) = (bif decide ((↑i : Int) < (↑(List.length (Stt.writes a)) : Int)) then bif decide ((↑i : Int) < (↑(List.length (Stt.writes a)) : Int)) then bif decide ((↑i : Int)
 < (↑(List.length (Stt.writes b)) : Int)) then bif !(decide (Wr.addr (ix (Stt.writes a) i) = Wr.addr (ix (Stt.writes b) i)) && (decide (Wr.size (ix (Stt.writes a)
 i) = Wr.size (ix (Stt.writes b) i)) && (decide (Wr.val (ix (Stt.writes a) i) = Wr.val (ix (Stt.writes b) i)) && true))) then ResLe (.bool false) r else A (XSt.mk
 [(8, .int .i64 (IntKind.wrap .i64 ((↑i : Int) + (1 : Int)))), (2, .ptr 0 [] 0), (3, .ptr 1 [] 0)] [(1, some (e_Stt b)), (0, some (e_Stt a))] 2) else False else False
else
 ∃ (s : List Int × List Int), ArgsLe [e_row 1 e_u32 (Stt.sdq a), e_row 1 e_u32 (Stt.sdq b)] [e_row 1 e_u32 (Prod.fst s), e_row 1 e_u32 (Prod.snd s)] ∧ PreIs (List.length
 (Prod.fst s) ≤ 1000000) ∧ ∀ (y : Bool), y = decide (Prod.fst s = Prod.snd s) → bif y then ∃ (s : List Int × List Int), ArgsLe [e_row 1 e_u32 (Stt.aeq a), e_row 1
 e_u32 (Stt.aeq b)] [e_row 1 e_u32 (Prod.fst s), e_row 1 e_u32 (Prod.snd s)] ∧ PreIs (List.length (Prod.fst s) ≤ 1000000) ∧ ∀ (y_1 : Bool), y_1 = decide (Prod.fst
 s = Prod.snd s) → bif bif y then y_1 else false then ∃ (s : List Bool × List Bool), ArgsLe [e_row 1 e_bool (Stt.abq a), e_row 1 e_bool (Stt.abq b)] [e_row 1 e_bool
 (Prod.fst s), e_row 1 e_bool (Prod.snd s)] ∧ PreIs (List.length (Prod.fst s) ≤ 1000000) ∧ ∀ (y_2 : Bool), y_2 = decide (Prod.fst s = Prod.snd s) → bif bif bif y
 then y_1 else false then y_2 else false then ∃ (s : List Bool × List Bool), ArgsLe [e_row 1 e_bool (Stt.ebq a), e_row 1 e_bool (Stt.ebq b)] [e_row 1 e_bool (Prod.fst
 s), e_row 1 e_bool (Prod.snd s)] ∧ PreIs (List.length (Prod.fst s) ≤ 1000000) ∧ ∀ (y_3 : Bool), y_3 = decide (Prod.fst s = Prod.snd s) → ResLe (.bool (bif bif bif
 y then y_1 else false then y_2 else false then y_3 else false)) r else bif !bif bif y then y_1 else false then y_2 else false then ResLe (.bool false) r else False
 else bif !bif y then y_1 else false then ResLe (.bool false) r else False else bif !y then ResLe (.bool false) r else False) := by kernel_rfl
theorem sideB_fold (x y : Side) : (allN (fun i => decide (x.regs i = y.regs i)) 16 && (allN (fun i => decide (x.ready i = y.ready i)) 16 && ((decide (x.pos.block = y.pos.block) && (decide (x.pos.index = y.pos.index) && (decide (x.pos.base = y.pos.base) && true))) && (decide (x.wait = y.wait) && ((x.halted == y.halted) && (decide (x.done = y.done) && true)))))) = sideB x y := rfl
theorem trpB_fold (x y : Trp) : (decide (x.kind = y.kind) && (decide (x.step = y.step) && (decide (x.pc = y.pc) && true))) = trpB x y := rfl
theorem byt_inj {a b : Int} (ha : u8R a) (hb : u8R b) (h : byt a = byt b) : a = b := by
  unfold byt at h
  have h1 := congrArg UInt8.toNat h
  unfold u8R at ha hb
  simp only [UInt8.toNat_ofNat'] at h1
  omega
theorem strEq_list {l m : List Int} (hl : ∀ x ∈ l, u8R x) (hm : ∀ x ∈ m, u8R x) : strEq l.length (fun i => ix l i) m.length (fun i => ix m i) = decide (l = m) := by
  rw [Bool.eq_iff_iff, decide_eq_true_iff]
  unfold strEq
  by_cases h : l.length = m.length
  · rw [show Nat.beq l.length m.length = true by rw [h]; exact Nat.beq_refl _, cond_true, allN_iff]
    constructor
    · intro h2
      refine ix_ext h fun i hi => ?_
      have h3 := h2 i hi
      simp only [decide_eq_true_eq] at h3
      exact byt_inj (hl _ (ix_mem hi)) (hm _ (ix_mem (by omega))) h3
    · rintro rfl i _
      simp
  · rw [beq_ne h, cond_false]
    constructor
    · intro h2; cases h2
    · rintro rfl; exact absurd rfl h
theorem slotB (x y : Slot) : (decide (x.tag = y.tag) && ((x.full == y.full) && (decide (x.val = y.val) && true))) = decide (x = y) := by
  obtain ⟨a, b, c⟩ := x
  obtain ⟨a', b', c'⟩ := y
  rw [Bool.eq_iff_iff]; simp
theorem entB (x y : Entry) : (decide (x.addr = y.addr) && (decide (x.size = y.size) && (decide (x.step = y.step) && ((x.known == y.known) && (decide (x.val = y.val) && true))))) = decide (x = y) := by
  obtain ⟨a, b, c, d, e⟩ := x
  obtain ⟨a', b', c', d', e'⟩ := y
  rw [Bool.eq_iff_iff]; simp
theorem reqB (x y : Req) : ((x.store == y.store) && (decide (x.op = y.op) && (decide (x.addr = y.addr) && (decide (x.size = y.size) && (decide (x.val = y.val) && (decide (x.left = y.left) && (decide (x.reg = y.reg) && (decide (x.tag = y.tag) && true)))))))) = decide (x = y) := by
  obtain ⟨a, b, c, d, e, f, g, h⟩ := x
  obtain ⟨a', b', c', d', e', f', g', h'⟩ := y
  rw [Bool.eq_iff_iff]; simp
theorem wrB (x y : Wr) : (decide (x.addr = y.addr) && (decide (x.size = y.size) && (decide (x.val = y.val) && true))) = decide (x = y) := by
  obtain ⟨a, b, c⟩ := x
  obtain ⟨a', b', c'⟩ := y
  rw [Bool.eq_iff_iff]; simp
theorem sameF_iff {a b : Stt} : sameF a b = true ↔ hdB a b = true ∧ a.ldq = b.ldq ∧ a.saq = b.saq ∧ a.table = b.table ∧ a.writes = b.writes ∧ a.sdq = b.sdq ∧ a.aeq = b.aeq ∧ a.abq = b.abq ∧ a.ebq = b.ebq := by
  simp only [sameF, Bool.and_eq_true, decide_eq_true_eq]
theorem not_same {a b : Stt} (h : ¬ (hdB a b = true ∧ a.ldq = b.ldq ∧ a.saq = b.saq ∧ a.table = b.table ∧ a.writes = b.writes ∧ a.sdq = b.sdq ∧ a.aeq = b.aeq ∧ a.abq = b.abq ∧ a.ebq = b.ebq)) : sameF a b = false := by
  rw [← Bool.not_eq_true, sameF_iff]; exact h
theorem sk_same : SkOk Try.prog (13, samS) := skOf_ok fun ⟨a, b⟩ h => by
  obtain ⟨ha, hb⟩ : a.ok ∧ b.ok := h
  show Pure _ _ (cons [e_Stt a, e_Stt b]) (con (.bool (sameF a b)))
  refine pureQ mix TC6ok t_ref15_SameState (Nat.le_of_ble_eq_true rfl) ?_
  refine Eq.mpr (r_ss0 a b _) ?_
  have hm : strEq a.mem.length (fun i => ix a.mem i) b.mem.length (fun i => ix b.mem i) = decide (a.mem = b.mem) := strEq_list ha.1.2.2.2.2.2.2.2.2.2.2.1.1 hb.1.2.2.2.2.2.2.2.2.2.2.1.1
  simp only [allN_true, pk_or, cond_true, sideB_fold, trpB_fold, hm]
  refine cnd2 (fun h => ?_) (fun h => ?_)
  · rw [not_same]
    · exact .rfl
    rintro ⟨h1, _⟩
    simp only [hdB, Bool.and_eq_true] at h1
    simp only [bor, Bool.or_eq_true, Bool.not_eq_true', decide_not] at h
    simp only [h1, Bool.true_eq_false, or_self] at h
  · have hd : hdB a b = true := by
      simp only [bor, Bool.or_eq_false_iff, Bool.not_eq_false', decide_not] at h
      simp only [hdB, h, Bool.and_self]
    have hd' := hd
    simp only [hdB, Bool.and_eq_true, decide_eq_true_eq] at hd'
    obtain ⟨_, _, _, _, _, _, _, _, n1, n2, n3, n4⟩ := hd'
    have m1 : a.ldq.length = b.ldq.length := by omega
    have m2 : a.saq.length = b.saq.length := by omega
    have m3 : a.table.length = b.table.length := by omega
    have m4 : a.writes.length = b.writes.length := by omega
    obtain ⟨_, o1, o2, o3, o4, o5, o6, o7, o8, o9⟩ := ha
    refine loopQ mix TC6ok (fun i : Nat => ssS 5 i a b) (fun i => i ≤ a.ldq.length ∧ ∀ j, j < i → ix a.ldq j = ix b.ldq j) (fun i => a.ldq.length - i) 0 ⟨Nat.zero_le _, fun j hj => by omega⟩ (.of (weakX ⟨rfl, rfl, rfl, trivial⟩ ⟨rfl, rfl, trivial⟩ (Nat.le_refl _))) ?_
    rintro i ⟨hi, hp⟩
    refine Eq.mpr (r_ss1 a b i _ _) ?_
    simp only [slotB]
    by_cases hlt : i < a.ldq.length
    · have h1 : (i : Int) < (a.ldq.length : Int) := by omega
      have h2 : (i : Int) < (b.ldq.length : Int) := by omega
      have w1 : IntKind.i64.wrap ((i : Int) + 1) = ((i + 1 : Nat) : Int) := wrap_i64 (by omega) (by omega)
      simp only [h1, h2, w1, decide_true, decide_false, cond_true, cond_false, allN_true, Nat.le_refl, Int.toNat_natCast, Nat.beq_refl, pk_and, pk_or, Bool.not_true, Bool.not_false, not_true_eq_false, not_false_eq_true, Bool.and_true, Bool.true_and, Bool.and_self, ge_iff_le, Int.le_refl, if_true, if_false, reduceCtorEq, eq_self, BEq.rfl]
      refine cnd2 (fun h => ?_) (fun h => ?_) <;> simp only [Bool.not_eq_true', Bool.not_eq_false', decide_eq_false_iff_not, decide_eq_true_eq] at h
      · rw [not_same fun e => h (by rw [e.2.1])]; exact .rfl
      · refine ⟨i + 1, ⟨hlt, fun j hj => ?_⟩, .of (weakX ⟨rfl, rfl, rfl, trivial⟩ ⟨rfl, rfl, trivial⟩ (Nat.le_refl _)), by omega⟩
        by_cases hji : j = i
        · subst hji; exact h
        · exact hp j (by omega)
    have h1 : ¬ (i : Int) < (a.ldq.length : Int) := by omega
    simp only [h1, decide_true, decide_false, cond_true, cond_false, allN_true, Nat.le_refl, Int.toNat_natCast, Nat.beq_refl, pk_and, pk_or, Bool.not_true, Bool.not_false, not_true_eq_false, not_false_eq_true, Bool.and_true, Bool.true_and, Bool.and_self, ge_iff_le, Int.le_refl, if_true, if_false, reduceCtorEq, eq_self, BEq.rfl]
    have q1 : a.ldq = b.ldq := ix_ext m1 fun j hj => hp j (by omega)
    clear hp hi hlt h1
    refine loopQ mix TC6ok (fun i : Nat => ssS 6 i a b) (fun i => i ≤ a.saq.length ∧ ∀ j, j < i → ix a.saq j = ix b.saq j) (fun i => a.saq.length - i) 0 ⟨Nat.zero_le _, fun j hj => by omega⟩ (.of (weakX ⟨rfl, rfl, rfl, trivial⟩ ⟨rfl, rfl, trivial⟩ (Nat.le_refl _))) ?_
    rintro i ⟨hi, hp⟩
    refine Eq.mpr (r_ss2 a b i _ _) ?_
    simp only [entB]
    by_cases hlt : i < a.saq.length
    · have h1 : (i : Int) < (a.saq.length : Int) := by omega
      have h2 : (i : Int) < (b.saq.length : Int) := by omega
      have w1 : IntKind.i64.wrap ((i : Int) + 1) = ((i + 1 : Nat) : Int) := wrap_i64 (by omega) (by omega)
      simp only [h1, h2, w1, decide_true, decide_false, cond_true, cond_false, allN_true, Nat.le_refl, Int.toNat_natCast, Nat.beq_refl, pk_and, pk_or, Bool.not_true, Bool.not_false, not_true_eq_false, not_false_eq_true, Bool.and_true, Bool.true_and, Bool.and_self, ge_iff_le, Int.le_refl, if_true, if_false, reduceCtorEq, eq_self, BEq.rfl]
      refine cnd2 (fun h => ?_) (fun h => ?_) <;> simp only [Bool.not_eq_true', Bool.not_eq_false', decide_eq_false_iff_not, decide_eq_true_eq] at h
      · rw [not_same fun e => h (by rw [e.2.2.1])]; exact .rfl
      · refine ⟨i + 1, ⟨hlt, fun j hj => ?_⟩, .of (weakX ⟨rfl, rfl, rfl, trivial⟩ ⟨rfl, rfl, trivial⟩ (Nat.le_refl _)), by omega⟩
        by_cases hji : j = i
        · subst hji; exact h
        · exact hp j (by omega)
    have h1 : ¬ (i : Int) < (a.saq.length : Int) := by omega
    simp only [h1, decide_true, decide_false, cond_true, cond_false, allN_true, Nat.le_refl, Int.toNat_natCast, Nat.beq_refl, pk_and, pk_or, Bool.not_true, Bool.not_false, not_true_eq_false, not_false_eq_true, Bool.and_true, Bool.true_and, Bool.and_self, ge_iff_le, Int.le_refl, if_true, if_false, reduceCtorEq, eq_self, BEq.rfl]
    have q2 : a.saq = b.saq := ix_ext m2 fun j hj => hp j (by omega)
    clear hp hi hlt h1
    refine loopQ mix TC6ok (fun i : Nat => ssS 7 i a b) (fun i => i ≤ a.table.length ∧ ∀ j, j < i → ix a.table j = ix b.table j) (fun i => a.table.length - i) 0 ⟨Nat.zero_le _, fun j hj => by omega⟩ (.of (weakX ⟨rfl, rfl, rfl, trivial⟩ ⟨rfl, rfl, trivial⟩ (Nat.le_refl _))) ?_
    rintro i ⟨hi, hp⟩
    refine Eq.mpr (r_ss3 a b i _ _) ?_
    simp only [reqB]
    by_cases hlt : i < a.table.length
    · have h1 : (i : Int) < (a.table.length : Int) := by omega
      have h2 : (i : Int) < (b.table.length : Int) := by omega
      have w1 : IntKind.i64.wrap ((i : Int) + 1) = ((i + 1 : Nat) : Int) := wrap_i64 (by omega) (by omega)
      simp only [h1, h2, w1, decide_true, decide_false, cond_true, cond_false, allN_true, Nat.le_refl, Int.toNat_natCast, Nat.beq_refl, pk_and, pk_or, Bool.not_true, Bool.not_false, not_true_eq_false, not_false_eq_true, Bool.and_true, Bool.true_and, Bool.and_self, ge_iff_le, Int.le_refl, if_true, if_false, reduceCtorEq, eq_self, BEq.rfl]
      refine cnd2 (fun h => ?_) (fun h => ?_) <;> simp only [Bool.not_eq_true', Bool.not_eq_false', decide_eq_false_iff_not, decide_eq_true_eq] at h
      · rw [not_same fun e => h (by rw [e.2.2.2.1])]; exact .rfl
      · refine ⟨i + 1, ⟨hlt, fun j hj => ?_⟩, .of (weakX ⟨rfl, rfl, rfl, trivial⟩ ⟨rfl, rfl, trivial⟩ (Nat.le_refl _)), by omega⟩
        by_cases hji : j = i
        · subst hji; exact h
        · exact hp j (by omega)
    have h1 : ¬ (i : Int) < (a.table.length : Int) := by omega
    simp only [h1, decide_true, decide_false, cond_true, cond_false, allN_true, Nat.le_refl, Int.toNat_natCast, Nat.beq_refl, pk_and, pk_or, Bool.not_true, Bool.not_false, not_true_eq_false, not_false_eq_true, Bool.and_true, Bool.true_and, Bool.and_self, ge_iff_le, Int.le_refl, if_true, if_false, reduceCtorEq, eq_self, BEq.rfl]
    have q3 : a.table = b.table := ix_ext m3 fun j hj => hp j (by omega)
    clear hp hi hlt h1
    refine loopQ mix TC6ok (fun i : Nat => ssS 8 i a b) (fun i => i ≤ a.writes.length ∧ ∀ j, j < i → ix a.writes j = ix b.writes j) (fun i => a.writes.length - i) 0 ⟨Nat.zero_le _, fun j hj => by omega⟩ (.of (weakX ⟨rfl, rfl, rfl, trivial⟩ ⟨rfl, rfl, trivial⟩ (Nat.le_refl _))) ?_
    rintro i ⟨hi, hp⟩
    refine Eq.mpr (r_ss4 a b i _ _) ?_
    simp only [wrB]
    by_cases hlt : i < a.writes.length
    · have h1 : (i : Int) < (a.writes.length : Int) := by omega
      have h2 : (i : Int) < (b.writes.length : Int) := by omega
      have w1 : IntKind.i64.wrap ((i : Int) + 1) = ((i + 1 : Nat) : Int) := wrap_i64 (by omega) (by omega)
      simp only [h1, h2, w1, decide_true, decide_false, cond_true, cond_false, allN_true, Nat.le_refl, Int.toNat_natCast, Nat.beq_refl, pk_and, pk_or, Bool.not_true, Bool.not_false, not_true_eq_false, not_false_eq_true, Bool.and_true, Bool.true_and, Bool.and_self, ge_iff_le, Int.le_refl, if_true, if_false, reduceCtorEq, eq_self, BEq.rfl]
      refine cnd2 (fun h => ?_) (fun h => ?_) <;> simp only [Bool.not_eq_true', Bool.not_eq_false', decide_eq_false_iff_not, decide_eq_true_eq] at h
      · rw [not_same fun e => h (by rw [e.2.2.2.2.1])]; exact .rfl
      · refine ⟨i + 1, ⟨hlt, fun j hj => ?_⟩, .of (weakX ⟨rfl, rfl, rfl, trivial⟩ ⟨rfl, rfl, trivial⟩ (Nat.le_refl _)), by omega⟩
        by_cases hji : j = i
        · subst hji; exact h
        · exact hp j (by omega)
    have h1 : ¬ (i : Int) < (a.writes.length : Int) := by omega
    simp only [h1, decide_true, decide_false, cond_true, cond_false, allN_true, Nat.le_refl, Int.toNat_natCast, Nat.beq_refl, pk_and, pk_or, Bool.not_true, Bool.not_false, not_true_eq_false, not_false_eq_true, Bool.and_true, Bool.true_and, Bool.and_self, ge_iff_le, Int.le_refl, if_true, if_false, reduceCtorEq, eq_self, BEq.rfl]
    have q4 : a.writes = b.writes := ix_ext m4 fun j hj => hp j (by omega)
    have e0 : sameF a b = (bif bif bif decide (a.sdq = b.sdq) then decide (a.aeq = b.aeq) else false then decide (a.abq = b.abq) else false then decide (a.ebq = b.ebq) else false) := by
      unfold sameF
      rw [hd, decide_eq_true q1, decide_eq_true q2, decide_eq_true q3, decide_eq_true q4]
      cases decide (a.sdq = b.sdq) <;> cases decide (a.aeq = b.aeq) <;> cases decide (a.abq = b.abq) <;> rfl
    rw [e0]
    refine ⟨(a.sdq, b.sdq), .rfl, ⟨o2⟩, fun y hy => ?_⟩
    replace hy : y = decide (a.sdq = b.sdq) := hy
    subst hy
    refine cnd2 (fun g1 => ?_) (fun g1 => by rw [g1]; exact .rfl)
    rw [g1]
    refine ⟨(a.aeq, b.aeq), .rfl, ⟨o3⟩, fun y hy => ?_⟩
    replace hy : y = decide (a.aeq = b.aeq) := hy
    subst hy
    simp only [cond_true]
    refine cnd2 (fun g2 => ?_) (fun g2 => by rw [g2]; exact .rfl)
    rw [g2]
    refine ⟨(a.abq, b.abq), .rfl, ⟨o4⟩, fun y hy => ?_⟩
    replace hy : y = decide (a.abq = b.abq) := hy
    subst hy
    simp only [cond_true]
    refine cnd2 (fun g3 => ?_) (fun g3 => by rw [g3]; exact .rfl)
    rw [g3]
    refine ⟨(a.ebq, b.ebq), .rfl, ⟨o5⟩, fun y hy => ?_⟩
    replace hy : y = decide (a.ebq = b.ebq) := hy
    subst hy
    exact .rfl
theorem sideB_self (x : Side) : sideB x x = true := by simp [sideB, allN_true]
theorem trpB_self (x : Trp) : trpB x x = true := by simp [trpB]
theorem sameF_self (a : Stt) : sameF a a = true := by
  rw [sameF_iff]
  refine ⟨?_, rfl, rfl, rfl, rfl, rfl, rfl, rfl, rfl⟩
  simp [hdB, sideB_self, trpB_self]
end Go.Proofs.Ythmlnmkbeohojaa

/- Same, as package state tells: rows that are one. -/
namespace Go.Proofs.Ythmlnmkbeohojaa
open Go.Ra
set_option linter.unusedVariables false
set_option linter.unusedSimpArgs false
def TE0 : Tab := mkT2 qq cl_slices [] [] [] []
def eqSlotS : List XV → Option ((XV → Prop) → Prop) := skOf (fun p : List Slot × List Slot => [e_row 3 e_Slot p.1, e_row 3 e_Slot p.2]) (fun p => p.1.length ≤ 1000000) (fun p => decide (p.1 = p.2)) (fun y => .bool y)
def eqSlotSt (l m : List Slot) (i : Nat) : XSt := ⟨[(0, e_row 3 e_Slot l), (1, e_row 3 e_Slot m), (13, .int .i64 i), (12, .int .i64 l.length)], [], 0⟩
def eqWS : List XV → Option ((XV → Prop) → Prop) := skOf (fun p : List Int × List Int => [e_row 1 e_u32 p.1, e_row 1 e_u32 p.2]) (fun p => p.1.length ≤ 1000000) (fun p => decide (p.1 = p.2)) (fun y => .bool y)
def eqWSt (l m : List Int) (i : Nat) : XSt := ⟨[(0, e_row 1 e_u32 l), (1, e_row 1 e_u32 m), (13, .int .i64 i), (12, .int .i64 l.length)], [], 0⟩
def eqBS : List XV → Option ((XV → Prop) → Prop) := skOf (fun p : List Bool × List Bool => [e_row 1 e_bool p.1, e_row 1 e_bool p.2]) (fun p => p.1.length ≤ 1000000) (fun p => decide (p.1 = p.2)) (fun y => .bool y)
def eqBSt (l m : List Bool) (i : Nat) : XSt := ⟨[(0, e_row 1 e_bool l), (1, e_row 1 e_bool m), (13, .int .i64 i), (12, .int .i64 l.length)], [], 0⟩
def eqEntryS : List XV → Option ((XV → Prop) → Prop) := skOf (fun p : List Entry × List Entry => [e_row 5 e_Entry p.1, e_row 5 e_Entry p.2]) (fun p => p.1.length ≤ 1000000) (fun p => decide (p.1 = p.2)) (fun y => .bool y)
def eqEntrySt (l m : List Entry) (i : Nat) : XSt := ⟨[(0, e_row 5 e_Entry l), (1, e_row 5 e_Entry m), (13, .int .i64 i), (12, .int .i64 l.length)], [], 0⟩
def eqReqS : List XV → Option ((XV → Prop) → Prop) := skOf (fun p : List Req × List Req => [e_row 8 e_Req p.1, e_row 8 e_Req p.2]) (fun p => p.1.length ≤ 1000000) (fun p => decide (p.1 = p.2)) (fun y => .bool y)
def eqReqSt (l m : List Req) (i : Nat) : XSt := ⟨[(0, e_row 8 e_Req l), (1, e_row 8 e_Req m), (13, .int .i64 i), (12, .int .i64 l.length)], [], 0⟩
def eqYS : List XV → Option ((XV → Prop) → Prop) := skOf (fun p : List Int × List Int => [e_row 1 e_u8 p.1, e_row 1 e_u8 p.2]) (fun p => p.1.length ≤ 1000000) (fun p => decide (p.1 = p.2)) (fun y => .bool y)
def eqYSt (l m : List Int) (i : Nat) : XSt := ⟨[(0, e_row 1 e_u8 l), (1, e_row 1 e_u8 m), (13, .int .i64 i), (12, .int .i64 l.length)], [], 0⟩
def eqWrS : List XV → Option ((XV → Prop) → Prop) := skOf (fun p : List Wr × List Wr => [e_row 3 e_Wr p.1, e_row 3 e_Wr p.2]) (fun p => p.1.length ≤ 1000000) (fun p => decide (p.1 = p.2)) (fun y => .bool y)
def eqWrSt (l m : List Wr) (i : Nat) : XSt := ⟨[(0, e_row 3 e_Wr l), (1, e_row 3 e_Wr m), (13, .int .i64 i), (12, .int .i64 l.length)], [], 0⟩
def TE1 : Tab := mkT2 qq cl_state [] [] [(40, eqSlotS), (41, eqWS), (42, eqBS), (43, eqEntryS), (44, eqReqS), (45, eqYS), (46, eqWrS)] []
def _root_.Go.Ra.Stt.lens (s : Stt) : Prop := s.ldq.length ≤ 1000000 ∧ s.sdq.length ≤ 1000000 ∧ s.aeq.length ≤ 1000000 ∧ s.abq.length ≤ 1000000 ∧ s.ebq.length ≤ 1000000 ∧ s.saq.length ≤ 1000000 ∧ s.table.length ≤ 1000000 ∧ s.mem.length ≤ 1000000 ∧ s.writes.length ≤ 1000000
theorem TE0ok : TabOk Try.prog TE0 := mkT2_ok clok_slices trivial trivial trivial trivial
theorem r_eqSlot0 (l m : List Slot) (r : XV) : (goQ Try.prog TE0 [(.tmp 4)] r (.run c_slices_Equal_Slot_Slot) [] ⟨envX 0 [e_row 3 e_Slot l, e_row 3 e_Slot m], [], 0⟩) = (bif decide ¬(↑(List.length l) : Int) = (↑(List.length m) : Int) then ResLe (.bool false) r
else LoopAt (Ok Try.prog (Tab.q TE0)) c_slices_Equal_Slot_Slot_l1
 (XSt.mk [(13, .int .i64 0), (12, .int .i64 (↑(List.length l) : Int)), (4, .bool false), (0, e_row 3 e_Slot l), (1, e_row 3 e_Slot m)] [] 0) [Frm.blk 0, Frm.seq c_slices_Equal_Slot_Slot_p1]
 (finQR [AR.tmp 4] r)) := by kernel_rfl
theorem r_eqSlot1 (l m : List Slot) (i : Nat) (r : XV) (A : XSt → Prop) : (goQ Try.prog TE0 [(.tmp 4)] r (.run c_slices_Equal_Slot_Slot_l1) [.lp c_slices_Equal_Slot_Slot_l1 A, .blk 0, .seq c_slices_Equal_Slot_Slot_p1] (eqSlotSt l m i)) = (bif decide ((↑i : Int) < (↑(List.length l) : Int)) then bif decide ((↑i : Int) < (↑(List.length l) : Int)) then bif decide ((↑i : Int) < (↑(List.length m) :
 Int)) then bif !(decide (Slot.tag (ix l i) = Slot.tag (ix m i)) && (Slot.full (ix l i) == Slot.full (ix m i) && (decide (Slot.val (ix l i) = Slot.val (ix m i)) &&
 true))) then ResLe (.bool false) r else A (XSt.mk [(13, .int .i64 (IntKind.wrap .i64 ((↑i : Int) + (1 : Int)))), (0, e_row 3 e_Slot l), (1, e_row 3 e_Slot m), (12,
 .int .i64 (↑(List.length l) : Int))] [] 0) else False else False
else ResLe (.bool true) r) := by kernel_rfl
theorem sk_eqSlot : SkOk Try.prog (40, eqSlotS) := skOf_ok fun ⟨l, m⟩ h => by
  have hl : l.length ≤ 1000000 := h
  show Pure _ _ (cons [e_row 3 e_Slot l, e_row 3 e_Slot m]) (con (.bool (decide (l = m))))
  refine pureQ mix TE0ok t_slices_Equal_Slot_Slot (Nat.le_of_ble_eq_true rfl) ?_
  refine Eq.mpr (r_eqSlot0 l m _) ?_
  by_cases hn : l.length = m.length
  · have hn' : ¬ ¬ (l.length : Int) = (m.length : Int) := by omega
    simp only [hn', decide_false, cond_false]
    refine loopQ mix TE0ok (fun i : Nat => eqSlotSt l m i) (fun i => i ≤ l.length ∧ ∀ j, j < i → ix l j = ix m j) (fun i => l.length - i) 0 ⟨Nat.zero_le _, fun j hj => by omega⟩ (.of (weakX ⟨rfl, rfl, rfl, rfl, trivial⟩ trivial (Nat.le_refl _))) ?_
    rintro i ⟨hi, hp⟩
    refine Eq.mpr (r_eqSlot1 l m i _ _) ?_
    by_cases hlt : i < l.length
    · have h1 : (i : Int) < (l.length : Int) := by omega
      have h2 : (i : Int) < (m.length : Int) := by omega
      have w1 : IntKind.i64.wrap ((i : Int) + 1) = ((i + 1 : Nat) : Int) := wrap_i64 (by omega) (by omega)
      simp only [g1, g2, g3, g4, g5, g6, g7, allN_true, cond_true, Nat.le_refl, decide_true, pl_eq, h1, h2, w1]
      · skip
        simp only [slotB]
        refine cnd2 (fun h => ?_) (fun h => ?_) <;> simp only [Bool.not_eq_true', Bool.not_eq_false', decide_eq_false_iff_not, decide_eq_true_eq] at h
        · rw [decide_eq_false fun e => h (by rw [e])]
          exact .rfl
        · refine ⟨i + 1, ⟨hlt, fun j hj => ?_⟩, .of (weakX ⟨rfl, rfl, rfl, rfl, trivial⟩ trivial (Nat.le_refl _)), by omega⟩
          by_cases hji : j = i
          · subst hji; exact h
          · exact hp j (by omega)
    · have h1 : ¬ (i : Int) < (l.length : Int) := by omega
      simp only [h1, decide_false, cond_false]
      rw [decide_eq_true (ix_ext hn fun j hj => hp j (by omega))]
      exact .rfl
  · have hn' : ¬ (l.length : Int) = (m.length : Int) := by omega
    simp only [hn', not_false_eq_true, decide_true, cond_true]
    rw [decide_eq_false fun e => hn (by rw [e])]
    exact .rfl
theorem r_eqW0 (l m : List Int) (r : XV) : (goQ Try.prog TE0 [(.tmp 4)] r (.run c_slices_Equal_uint32_uint32) [] ⟨envX 0 [e_row 1 e_u32 l, e_row 1 e_u32 m], [], 0⟩) = (bif decide ¬(↑(List.length l) : Int) = (↑(List.length m) : Int) then ResLe (.bool false) r
else LoopAt (Ok Try.prog (Tab.q TE0)) c_slices_Equal_uint32_uint32_l1
 (XSt.mk [(13, .int .i64 0), (12, .int .i64 (↑(List.length l) : Int)), (4, .bool false), (0, e_row 1 e_u32 l), (1, e_row 1 e_u32 m)] [] 0) [Frm.blk 0, Frm.seq c_slices_Equal_uint32_uint32_p1]
 (finQR [AR.tmp 4] r)) := by kernel_rfl
theorem r_eqW1 (l m : List Int) (i : Nat) (r : XV) (A : XSt → Prop) : (goQ Try.prog TE0 [(.tmp 4)] r (.run c_slices_Equal_uint32_uint32_l1) [.lp c_slices_Equal_uint32_uint32_l1 A, .blk 0, .seq c_slices_Equal_uint32_uint32_p1] (eqWSt l m i)) = (bif decide ((↑i : Int) < (↑(List.length l) : Int)) then bif decide ((↑i : Int) < (↑(List.length l) : Int)) then bif decide ((↑i : Int) < (↑(List.length m) :
 Int)) then bif decide ¬ix l i = ix m i then ResLe (.bool false) r else A (XSt.mk [(13, .int .i64 (IntKind.wrap .i64 ((↑i : Int) + (1 : Int)))), (0, e_row 1 e_u32
 l), (1, e_row 1 e_u32 m), (12, .int .i64 (↑(List.length l) : Int))] [] 0) else False else False
else ResLe (.bool true) r) := by kernel_rfl
theorem sk_eqW : SkOk Try.prog (41, eqWS) := skOf_ok fun ⟨l, m⟩ h => by
  have hl : l.length ≤ 1000000 := h
  show Pure _ _ (cons [e_row 1 e_u32 l, e_row 1 e_u32 m]) (con (.bool (decide (l = m))))
  refine pureQ mix TE0ok t_slices_Equal_uint32_uint32 (Nat.le_of_ble_eq_true rfl) ?_
  refine Eq.mpr (r_eqW0 l m _) ?_
  by_cases hn : l.length = m.length
  · have hn' : ¬ ¬ (l.length : Int) = (m.length : Int) := by omega
    simp only [hn', decide_false, cond_false]
    refine loopQ mix TE0ok (fun i : Nat => eqWSt l m i) (fun i => i ≤ l.length ∧ ∀ j, j < i → ix l j = ix m j) (fun i => l.length - i) 0 ⟨Nat.zero_le _, fun j hj => by omega⟩ (.of (weakX ⟨rfl, rfl, rfl, rfl, trivial⟩ trivial (Nat.le_refl _))) ?_
    rintro i ⟨hi, hp⟩
    refine Eq.mpr (r_eqW1 l m i _ _) ?_
    by_cases hlt : i < l.length
    · have h1 : (i : Int) < (l.length : Int) := by omega
      have h2 : (i : Int) < (m.length : Int) := by omega
      have w1 : IntKind.i64.wrap ((i : Int) + 1) = ((i + 1 : Nat) : Int) := wrap_i64 (by omega) (by omega)
      simp only [g1, g2, g3, g4, g5, g6, g7, allN_true, cond_true, Nat.le_refl, decide_true, pl_eq, h1, h2, w1]
      · skip
        refine cnd2 (fun h => ?_) (fun h => ?_) <;> simp only [decide_eq_true_eq, decide_eq_false_iff_not, Classical.not_not] at h
        · rw [decide_eq_false fun e => h (by rw [e])]
          exact .rfl
        · refine ⟨i + 1, ⟨hlt, fun j hj => ?_⟩, .of (weakX ⟨rfl, rfl, rfl, rfl, trivial⟩ trivial (Nat.le_refl _)), by omega⟩
          by_cases hji : j = i
          · subst hji; exact h
          · exact hp j (by omega)
    · have h1 : ¬ (i : Int) < (l.length : Int) := by omega
      simp only [h1, decide_false, cond_false]
      rw [decide_eq_true (ix_ext hn fun j hj => hp j (by omega))]
      exact .rfl
  · have hn' : ¬ (l.length : Int) = (m.length : Int) := by omega
    simp only [hn', not_false_eq_true, decide_true, cond_true]
    rw [decide_eq_false fun e => hn (by rw [e])]
    exact .rfl
theorem r_eqB0 (l m : List Bool) (r : XV) : (goQ Try.prog TE0 [(.tmp 4)] r (.run c_slices_Equal_bool_bool) [] ⟨envX 0 [e_row 1 e_bool l, e_row 1 e_bool m], [], 0⟩) = (bif decide ¬(↑(List.length l) : Int) = (↑(List.length m) : Int) then ResLe (.bool false) r
else LoopAt (Ok Try.prog (Tab.q TE0)) c_slices_Equal_bool_bool_l1
 (XSt.mk [(13, .int .i64 0), (12, .int .i64 (↑(List.length l) : Int)), (4, .bool false), (0, e_row 1 e_bool l), (1, e_row 1 e_bool m)] [] 0) [Frm.blk 0, Frm.seq c_slices_Equal_bool_bool_p1]
 (finQR [AR.tmp 4] r)) := by kernel_rfl
theorem r_eqB1 (l m : List Bool) (i : Nat) (r : XV) (A : XSt → Prop) : (goQ Try.prog TE0 [(.tmp 4)] r (.run c_slices_Equal_bool_bool_l1) [.lp c_slices_Equal_bool_bool_l1 A, .blk 0, .seq c_slices_Equal_bool_bool_p1] (eqBSt l m i)) = (bif decide ((↑i : Int) < (↑(List.length l) : Int)) then bif decide ((↑i : Int) < (↑(List.length l) : Int)) then bif decide ((↑i : Int) < (↑(List.length m) :
 Int)) then bif !ix l i == ix m i then ResLe (.bool false) r else A (XSt.mk [(13, .int .i64 (IntKind.wrap .i64 ((↑i : Int) + (1 : Int)))), (0, e_row 1 e_bool l),
 (1, e_row 1 e_bool m), (12, .int .i64 (↑(List.length l) : Int))] [] 0) else False else False
else ResLe (.bool true) r) := by kernel_rfl
theorem sk_eqB : SkOk Try.prog (42, eqBS) := skOf_ok fun ⟨l, m⟩ h => by
  have hl : l.length ≤ 1000000 := h
  show Pure _ _ (cons [e_row 1 e_bool l, e_row 1 e_bool m]) (con (.bool (decide (l = m))))
  refine pureQ mix TE0ok t_slices_Equal_bool_bool (Nat.le_of_ble_eq_true rfl) ?_
  refine Eq.mpr (r_eqB0 l m _) ?_
  by_cases hn : l.length = m.length
  · have hn' : ¬ ¬ (l.length : Int) = (m.length : Int) := by omega
    simp only [hn', decide_false, cond_false]
    refine loopQ mix TE0ok (fun i : Nat => eqBSt l m i) (fun i => i ≤ l.length ∧ ∀ j, j < i → ix l j = ix m j) (fun i => l.length - i) 0 ⟨Nat.zero_le _, fun j hj => by omega⟩ (.of (weakX ⟨rfl, rfl, rfl, rfl, trivial⟩ trivial (Nat.le_refl _))) ?_
    rintro i ⟨hi, hp⟩
    refine Eq.mpr (r_eqB1 l m i _ _) ?_
    by_cases hlt : i < l.length
    · have h1 : (i : Int) < (l.length : Int) := by omega
      have h2 : (i : Int) < (m.length : Int) := by omega
      have w1 : IntKind.i64.wrap ((i : Int) + 1) = ((i + 1 : Nat) : Int) := wrap_i64 (by omega) (by omega)
      simp only [g1, g2, g3, g4, g5, g6, g7, allN_true, cond_true, Nat.le_refl, decide_true, pl_eq, h1, h2, w1]
      · skip
        refine cnd2 (fun h => ?_) (fun h => ?_) <;> simp only [Bool.not_eq_true', Bool.not_eq_false', beq_eq_false_iff_ne, beq_iff_eq, ne_eq] at h
        · rw [decide_eq_false fun e => h (by rw [e])]
          exact .rfl
        · refine ⟨i + 1, ⟨hlt, fun j hj => ?_⟩, .of (weakX ⟨rfl, rfl, rfl, rfl, trivial⟩ trivial (Nat.le_refl _)), by omega⟩
          by_cases hji : j = i
          · subst hji; exact h
          · exact hp j (by omega)
    · have h1 : ¬ (i : Int) < (l.length : Int) := by omega
      simp only [h1, decide_false, cond_false]
      rw [decide_eq_true (ix_ext hn fun j hj => hp j (by omega))]
      exact .rfl
  · have hn' : ¬ (l.length : Int) = (m.length : Int) := by omega
    simp only [hn', not_false_eq_true, decide_true, cond_true]
    rw [decide_eq_false fun e => hn (by rw [e])]
    exact .rfl
theorem r_eqEntry0 (l m : List Entry) (r : XV) : (goQ Try.prog TE0 [(.tmp 4)] r (.run c_slices_Equal_Entry_Entry) [] ⟨envX 0 [e_row 5 e_Entry l, e_row 5 e_Entry m], [], 0⟩) = (bif decide ¬(↑(List.length l) : Int) = (↑(List.length m) : Int) then ResLe (.bool false) r
else LoopAt (Ok Try.prog (Tab.q TE0)) c_slices_Equal_Entry_Entry_l1
 (XSt.mk [(13, .int .i64 0), (12, .int .i64 (↑(List.length l) : Int)), (4, .bool false), (0, e_row 5 e_Entry l), (1, e_row 5 e_Entry m)] [] 0) [Frm.blk 0, Frm.seq
 c_slices_Equal_Entry_Entry_p1] (finQR [AR.tmp 4] r)) := by kernel_rfl
theorem r_eqEntry1 (l m : List Entry) (i : Nat) (r : XV) (A : XSt → Prop) : (goQ Try.prog TE0 [(.tmp 4)] r (.run c_slices_Equal_Entry_Entry_l1) [.lp c_slices_Equal_Entry_Entry_l1 A, .blk 0, .seq c_slices_Equal_Entry_Entry_p1] (eqEntrySt l m i)) = (bif decide ((↑i : Int) < (↑(List.length l) : Int)) then bif decide ((↑i : Int) < (↑(List.length l) : Int)) then bif decide ((↑i : Int) < (↑(List.length m) :
 Int)) then bif !(decide (Entry.addr (ix l i) = Entry.addr (ix m i)) && (decide (Entry.size (ix l i) = Entry.size (ix m i)) && (decide (Entry.step (ix l i) = Entry.step
 (ix m i)) && (Entry.known (ix l i) == Entry.known (ix m i) && (decide (Entry.val (ix l i) = Entry.val (ix m i)) && true))))) then ResLe (.bool false) r else A (XSt.mk
 [(13, .int .i64 (IntKind.wrap .i64 ((↑i : Int) + (1 : Int)))), (0, e_row 5 e_Entry l), (1, e_row 5 e_Entry m), (12, .int .i64 (↑(List.length l) : Int))] [] 0) else
 False else False
else ResLe (.bool true) r) := by kernel_rfl
theorem sk_eqEntry : SkOk Try.prog (43, eqEntryS) := skOf_ok fun ⟨l, m⟩ h => by
  have hl : l.length ≤ 1000000 := h
  show Pure _ _ (cons [e_row 5 e_Entry l, e_row 5 e_Entry m]) (con (.bool (decide (l = m))))
  refine pureQ mix TE0ok t_slices_Equal_Entry_Entry (Nat.le_of_ble_eq_true rfl) ?_
  refine Eq.mpr (r_eqEntry0 l m _) ?_
  by_cases hn : l.length = m.length
  · have hn' : ¬ ¬ (l.length : Int) = (m.length : Int) := by omega
    simp only [hn', decide_false, cond_false]
    refine loopQ mix TE0ok (fun i : Nat => eqEntrySt l m i) (fun i => i ≤ l.length ∧ ∀ j, j < i → ix l j = ix m j) (fun i => l.length - i) 0 ⟨Nat.zero_le _, fun j hj => by omega⟩ (.of (weakX ⟨rfl, rfl, rfl, rfl, trivial⟩ trivial (Nat.le_refl _))) ?_
    rintro i ⟨hi, hp⟩
    refine Eq.mpr (r_eqEntry1 l m i _ _) ?_
    by_cases hlt : i < l.length
    · have h1 : (i : Int) < (l.length : Int) := by omega
      have h2 : (i : Int) < (m.length : Int) := by omega
      have w1 : IntKind.i64.wrap ((i : Int) + 1) = ((i + 1 : Nat) : Int) := wrap_i64 (by omega) (by omega)
      simp only [g1, g2, g3, g4, g5, g6, g7, allN_true, cond_true, Nat.le_refl, decide_true, pl_eq, h1, h2, w1]
      · skip
        simp only [entB]
        refine cnd2 (fun h => ?_) (fun h => ?_) <;> simp only [Bool.not_eq_true', Bool.not_eq_false', decide_eq_false_iff_not, decide_eq_true_eq] at h
        · rw [decide_eq_false fun e => h (by rw [e])]
          exact .rfl
        · refine ⟨i + 1, ⟨hlt, fun j hj => ?_⟩, .of (weakX ⟨rfl, rfl, rfl, rfl, trivial⟩ trivial (Nat.le_refl _)), by omega⟩
          by_cases hji : j = i
          · subst hji; exact h
          · exact hp j (by omega)
    · have h1 : ¬ (i : Int) < (l.length : Int) := by omega
      simp only [h1, decide_false, cond_false]
      rw [decide_eq_true (ix_ext hn fun j hj => hp j (by omega))]
      exact .rfl
  · have hn' : ¬ (l.length : Int) = (m.length : Int) := by omega
    simp only [hn', not_false_eq_true, decide_true, cond_true]
    rw [decide_eq_false fun e => hn (by rw [e])]
    exact .rfl
theorem r_eqReq0 (l m : List Req) (r : XV) : (goQ Try.prog TE0 [(.tmp 4)] r (.run c_slices_Equal_Request_Request) [] ⟨envX 0 [e_row 8 e_Req l, e_row 8 e_Req m], [], 0⟩) = (bif decide ¬(↑(List.length l) : Int) = (↑(List.length m) : Int) then ResLe (.bool false) r
else LoopAt (Ok Try.prog (Tab.q TE0)) c_slices_Equal_Request_Request_l1
 (XSt.mk [(13, .int .i64 0), (12, .int .i64 (↑(List.length l) : Int)), (4, .bool false), (0, e_row 8 e_Req l), (1, e_row 8 e_Req m)] [] 0) [Frm.blk 0, Frm.seq c_slices_Equal_Request_Request_p1]
 (finQR [AR.tmp 4] r)) := by kernel_rfl
theorem r_eqReq1 (l m : List Req) (i : Nat) (r : XV) (A : XSt → Prop) : (goQ Try.prog TE0 [(.tmp 4)] r (.run c_slices_Equal_Request_Request_l1) [.lp c_slices_Equal_Request_Request_l1 A, .blk 0, .seq c_slices_Equal_Request_Request_p1] (eqReqSt l m i)) = (bif decide ((↑i : Int) < (↑(List.length l) : Int)) then bif decide ((↑i : Int) < (↑(List.length l) : Int)) then bif decide ((↑i : Int) < (↑(List.length m) :
 Int)) then bif !(Req.store (ix l i) == Req.store (ix m i) && (decide (Req.op (ix l i) = Req.op (ix m i)) && (decide (Req.addr (ix l i) = Req.addr (ix m i)) && (decide
 (Req.size (ix l i) = Req.size (ix m i)) && (decide (Req.val (ix l i) = Req.val (ix m i)) && (decide (Req.left (ix l i) = Req.left (ix m i)) && (decide (Req.reg (ix
 l i) = Req.reg (ix m i)) && (decide (Req.tag (ix l i) = Req.tag (ix m i)) && true)))))))) then ResLe (.bool false) r else A (XSt.mk [(13, .int .i64 (IntKind.wrap
 .i64 ((↑i : Int) + (1 : Int)))), (0, e_row 8 e_Req l), (1, e_row 8 e_Req m), (12, .int .i64 (↑(List.length l) : Int))] [] 0) else False else False
else ResLe (.bool
 true) r) := by kernel_rfl
theorem sk_eqReq : SkOk Try.prog (44, eqReqS) := skOf_ok fun ⟨l, m⟩ h => by
  have hl : l.length ≤ 1000000 := h
  show Pure _ _ (cons [e_row 8 e_Req l, e_row 8 e_Req m]) (con (.bool (decide (l = m))))
  refine pureQ mix TE0ok t_slices_Equal_Request_Request (Nat.le_of_ble_eq_true rfl) ?_
  refine Eq.mpr (r_eqReq0 l m _) ?_
  by_cases hn : l.length = m.length
  · have hn' : ¬ ¬ (l.length : Int) = (m.length : Int) := by omega
    simp only [hn', decide_false, cond_false]
    refine loopQ mix TE0ok (fun i : Nat => eqReqSt l m i) (fun i => i ≤ l.length ∧ ∀ j, j < i → ix l j = ix m j) (fun i => l.length - i) 0 ⟨Nat.zero_le _, fun j hj => by omega⟩ (.of (weakX ⟨rfl, rfl, rfl, rfl, trivial⟩ trivial (Nat.le_refl _))) ?_
    rintro i ⟨hi, hp⟩
    refine Eq.mpr (r_eqReq1 l m i _ _) ?_
    by_cases hlt : i < l.length
    · have h1 : (i : Int) < (l.length : Int) := by omega
      have h2 : (i : Int) < (m.length : Int) := by omega
      have w1 : IntKind.i64.wrap ((i : Int) + 1) = ((i + 1 : Nat) : Int) := wrap_i64 (by omega) (by omega)
      simp only [g1, g2, g3, g4, g5, g6, g7, allN_true, cond_true, Nat.le_refl, decide_true, pl_eq, h1, h2, w1]
      · skip
        simp only [reqB]
        refine cnd2 (fun h => ?_) (fun h => ?_) <;> simp only [Bool.not_eq_true', Bool.not_eq_false', decide_eq_false_iff_not, decide_eq_true_eq] at h
        · rw [decide_eq_false fun e => h (by rw [e])]
          exact .rfl
        · refine ⟨i + 1, ⟨hlt, fun j hj => ?_⟩, .of (weakX ⟨rfl, rfl, rfl, rfl, trivial⟩ trivial (Nat.le_refl _)), by omega⟩
          by_cases hji : j = i
          · subst hji; exact h
          · exact hp j (by omega)
    · have h1 : ¬ (i : Int) < (l.length : Int) := by omega
      simp only [h1, decide_false, cond_false]
      rw [decide_eq_true (ix_ext hn fun j hj => hp j (by omega))]
      exact .rfl
  · have hn' : ¬ (l.length : Int) = (m.length : Int) := by omega
    simp only [hn', not_false_eq_true, decide_true, cond_true]
    rw [decide_eq_false fun e => hn (by rw [e])]
    exact .rfl
theorem r_eqY0 (l m : List Int) (r : XV) : (goQ Try.prog TE0 [(.tmp 4)] r (.run c_slices_Equal_byte_byte) [] ⟨envX 0 [e_row 1 e_u8 l, e_row 1 e_u8 m], [], 0⟩) = (bif decide ¬(↑(List.length l) : Int) = (↑(List.length m) : Int) then ResLe (.bool false) r
else LoopAt (Ok Try.prog (Tab.q TE0)) c_slices_Equal_byte_byte_l1
 (XSt.mk [(13, .int .i64 0), (12, .int .i64 (↑(List.length l) : Int)), (4, .bool false), (0, e_row 1 e_u8 l), (1, e_row 1 e_u8 m)] [] 0) [Frm.blk 0, Frm.seq c_slices_Equal_byte_byte_p1]
 (finQR [AR.tmp 4] r)) := by kernel_rfl
theorem r_eqY1 (l m : List Int) (i : Nat) (r : XV) (A : XSt → Prop) : (goQ Try.prog TE0 [(.tmp 4)] r (.run c_slices_Equal_byte_byte_l1) [.lp c_slices_Equal_byte_byte_l1 A, .blk 0, .seq c_slices_Equal_byte_byte_p1] (eqYSt l m i)) = (bif decide ((↑i : Int) < (↑(List.length l) : Int)) then bif decide ((↑i : Int) < (↑(List.length l) : Int)) then bif decide ((↑i : Int) < (↑(List.length m) :
 Int)) then bif decide ¬ix l i = ix m i then ResLe (.bool false) r else A (XSt.mk [(13, .int .i64 (IntKind.wrap .i64 ((↑i : Int) + (1 : Int)))), (0, e_row 1 e_u8
 l), (1, e_row 1 e_u8 m), (12, .int .i64 (↑(List.length l) : Int))] [] 0) else False else False
else ResLe (.bool true) r) := by kernel_rfl
theorem sk_eqY : SkOk Try.prog (45, eqYS) := skOf_ok fun ⟨l, m⟩ h => by
  have hl : l.length ≤ 1000000 := h
  show Pure _ _ (cons [e_row 1 e_u8 l, e_row 1 e_u8 m]) (con (.bool (decide (l = m))))
  refine pureQ mix TE0ok t_slices_Equal_byte_byte (Nat.le_of_ble_eq_true rfl) ?_
  refine Eq.mpr (r_eqY0 l m _) ?_
  by_cases hn : l.length = m.length
  · have hn' : ¬ ¬ (l.length : Int) = (m.length : Int) := by omega
    simp only [hn', decide_false, cond_false]
    refine loopQ mix TE0ok (fun i : Nat => eqYSt l m i) (fun i => i ≤ l.length ∧ ∀ j, j < i → ix l j = ix m j) (fun i => l.length - i) 0 ⟨Nat.zero_le _, fun j hj => by omega⟩ (.of (weakX ⟨rfl, rfl, rfl, rfl, trivial⟩ trivial (Nat.le_refl _))) ?_
    rintro i ⟨hi, hp⟩
    refine Eq.mpr (r_eqY1 l m i _ _) ?_
    by_cases hlt : i < l.length
    · have h1 : (i : Int) < (l.length : Int) := by omega
      have h2 : (i : Int) < (m.length : Int) := by omega
      have w1 : IntKind.i64.wrap ((i : Int) + 1) = ((i + 1 : Nat) : Int) := wrap_i64 (by omega) (by omega)
      simp only [g1, g2, g3, g4, g5, g6, g7, allN_true, cond_true, Nat.le_refl, decide_true, pl_eq, h1, h2, w1]
      · skip
        refine cnd2 (fun h => ?_) (fun h => ?_) <;> simp only [decide_eq_true_eq, decide_eq_false_iff_not, Classical.not_not] at h
        · rw [decide_eq_false fun e => h (by rw [e])]
          exact .rfl
        · refine ⟨i + 1, ⟨hlt, fun j hj => ?_⟩, .of (weakX ⟨rfl, rfl, rfl, rfl, trivial⟩ trivial (Nat.le_refl _)), by omega⟩
          by_cases hji : j = i
          · subst hji; exact h
          · exact hp j (by omega)
    · have h1 : ¬ (i : Int) < (l.length : Int) := by omega
      simp only [h1, decide_false, cond_false]
      rw [decide_eq_true (ix_ext hn fun j hj => hp j (by omega))]
      exact .rfl
  · have hn' : ¬ (l.length : Int) = (m.length : Int) := by omega
    simp only [hn', not_false_eq_true, decide_true, cond_true]
    rw [decide_eq_false fun e => hn (by rw [e])]
    exact .rfl
theorem r_eqWr0 (l m : List Wr) (r : XV) : (goQ Try.prog TE0 [(.tmp 4)] r (.run c_slices_Equal_Write_Write) [] ⟨envX 0 [e_row 3 e_Wr l, e_row 3 e_Wr m], [], 0⟩) = (bif decide ¬(↑(List.length l) : Int) = (↑(List.length m) : Int) then ResLe (.bool false) r
else LoopAt (Ok Try.prog (Tab.q TE0)) c_slices_Equal_Write_Write_l1
 (XSt.mk [(13, .int .i64 0), (12, .int .i64 (↑(List.length l) : Int)), (4, .bool false), (0, e_row 3 e_Wr l), (1, e_row 3 e_Wr m)] [] 0) [Frm.blk 0, Frm.seq c_slices_Equal_Write_Write_p1]
 (finQR [AR.tmp 4] r)) := by kernel_rfl
theorem r_eqWr1 (l m : List Wr) (i : Nat) (r : XV) (A : XSt → Prop) : (goQ Try.prog TE0 [(.tmp 4)] r (.run c_slices_Equal_Write_Write_l1) [.lp c_slices_Equal_Write_Write_l1 A, .blk 0, .seq c_slices_Equal_Write_Write_p1] (eqWrSt l m i)) = (bif decide ((↑i : Int) < (↑(List.length l) : Int)) then bif decide ((↑i : Int) < (↑(List.length l) : Int)) then bif decide ((↑i : Int) < (↑(List.length m) :
 Int)) then bif !(decide (Wr.addr (ix l i) = Wr.addr (ix m i)) && (decide (Wr.size (ix l i) = Wr.size (ix m i)) && (decide (Wr.val (ix l i) = Wr.val (ix m i)) &&
 true))) then ResLe (.bool false) r else A (XSt.mk [(13, .int .i64 (IntKind.wrap .i64 ((↑i : Int) + (1 : Int)))), (0, e_row 3 e_Wr l), (1, e_row 3 e_Wr m), (12, .int
 .i64 (↑(List.length l) : Int))] [] 0) else False else False
else ResLe (.bool true) r) := by kernel_rfl
theorem sk_eqWr : SkOk Try.prog (46, eqWrS) := skOf_ok fun ⟨l, m⟩ h => by
  have hl : l.length ≤ 1000000 := h
  show Pure _ _ (cons [e_row 3 e_Wr l, e_row 3 e_Wr m]) (con (.bool (decide (l = m))))
  refine pureQ mix TE0ok t_slices_Equal_Write_Write (Nat.le_of_ble_eq_true rfl) ?_
  refine Eq.mpr (r_eqWr0 l m _) ?_
  by_cases hn : l.length = m.length
  · have hn' : ¬ ¬ (l.length : Int) = (m.length : Int) := by omega
    simp only [hn', decide_false, cond_false]
    refine loopQ mix TE0ok (fun i : Nat => eqWrSt l m i) (fun i => i ≤ l.length ∧ ∀ j, j < i → ix l j = ix m j) (fun i => l.length - i) 0 ⟨Nat.zero_le _, fun j hj => by omega⟩ (.of (weakX ⟨rfl, rfl, rfl, rfl, trivial⟩ trivial (Nat.le_refl _))) ?_
    rintro i ⟨hi, hp⟩
    refine Eq.mpr (r_eqWr1 l m i _ _) ?_
    by_cases hlt : i < l.length
    · have h1 : (i : Int) < (l.length : Int) := by omega
      have h2 : (i : Int) < (m.length : Int) := by omega
      have w1 : IntKind.i64.wrap ((i : Int) + 1) = ((i + 1 : Nat) : Int) := wrap_i64 (by omega) (by omega)
      simp only [g1, g2, g3, g4, g5, g6, g7, allN_true, cond_true, Nat.le_refl, decide_true, pl_eq, h1, h2, w1]
      · skip
        simp only [wrB]
        refine cnd2 (fun h => ?_) (fun h => ?_) <;> simp only [Bool.not_eq_true', Bool.not_eq_false', decide_eq_false_iff_not, decide_eq_true_eq] at h
        · rw [decide_eq_false fun e => h (by rw [e])]
          exact .rfl
        · refine ⟨i + 1, ⟨hlt, fun j hj => ?_⟩, .of (weakX ⟨rfl, rfl, rfl, rfl, trivial⟩ trivial (Nat.le_refl _)), by omega⟩
          by_cases hji : j = i
          · subst hji; exact h
          · exact hp j (by omega)
    · have h1 : ¬ (i : Int) < (l.length : Int) := by omega
      simp only [h1, decide_false, cond_false]
      rw [decide_eq_true (ix_ext hn fun j hj => hp j (by omega))]
      exact .rfl
  · have hn' : ¬ (l.length : Int) = (m.length : Int) := by omega
    simp only [hn', not_false_eq_true, decide_true, cond_true]
    rw [decide_eq_false fun e => hn (by rw [e])]
    exact .rfl
theorem TE1ok : TabOk Try.prog TE1 := mkT2_ok clok_state trivial trivial ⟨sk_eqSlot, sk_eqW, sk_eqB, sk_eqEntry, sk_eqReq, sk_eqY, sk_eqWr, trivial⟩ trivial
theorem r_sm (a b : Stt) (r : XV) : (quietGo TE1 80 (callI TE1 80 20) 18 [e_Stt a, e_Stt b] (fun v => ResLe v r)) = (let q1 : Bool := decide (Stt.cycle a = Stt.cycle b);
let q2 : Bool := bif q1 then allN (fun i => decide (Side.regs (Stt.a a) i = Side.regs (Stt.a b) i)) 16 &&
 (allN (fun i => decide (Side.ready (Stt.a a) i = Side.ready (Stt.a b) i)) 16 && (decide (Pos.block (Side.pos (Stt.a a)) = Pos.block (Side.pos (Stt.a b))) && (decide
 (Pos.index (Side.pos (Stt.a a)) = Pos.index (Side.pos (Stt.a b))) && (decide (Pos.base (Side.pos (Stt.a a)) = Pos.base (Side.pos (Stt.a b))) && true)) && (decide
 (Side.wait (Stt.a a) = Side.wait (Stt.a b)) && (Side.halted (Stt.a a) == Side.halted (Stt.a b) && (decide (Side.done (Stt.a a) = Side.done (Stt.a b)) && true)))))
else
 false;
let q3 : Bool := bif q2 then allN (fun i => decide (Side.regs (Stt.e a) i = Side.regs (Stt.e b) i)) 16 && (allN (fun i => decide (Side.ready (Stt.e a) i =
 Side.ready (Stt.e b) i)) 16 && (decide (Pos.block (Side.pos (Stt.e a)) = Pos.block (Side.pos (Stt.e b))) && (decide (Pos.index (Side.pos (Stt.e a)) = Pos.index (Side.pos
 (Stt.e b))) && (decide (Pos.base (Side.pos (Stt.e a)) = Pos.base (Side.pos (Stt.e b))) && true)) && (decide (Side.wait (Stt.e a) = Side.wait (Stt.e b)) && (Side.halted
 (Stt.e a) == Side.halted (Stt.e b) && (decide (Side.done (Stt.e a) = Side.done (Stt.e b)) && true)))))
else false;
let q4 : Bool := bif q3 then decide (Trp.kind
 (Stt.trap a) = Trp.kind (Stt.trap b)) && (decide (Trp.step (Stt.trap a) = Trp.step (Stt.trap b)) && (decide (Trp.pc (Stt.trap a) = Trp.pc (Stt.trap b)) && true))
else
 false;
let q5 : Bool := bif q4 then decide (Stt.lats a = Stt.lats b) else false;
let q6 : Bool := bif q5 then decide (Stt.picks a = Stt.picks b) else false;
let
 q7 : Bool := bif q6 then decide (Stt.tags a = Stt.tags b) else false;
let q8 : Bool → Bool := fun y => bif q7 then y else false;
let q9 : List Int × List Int → List
 XV := fun (s : List Int × List Int) => [e_row 1 e_u32 (Prod.fst s), e_row 1 e_u32 (Prod.snd s)];
let q10 : List Int × List Int → Bool := fun (s : List Int × List
 Int) => decide (Prod.fst s = Prod.snd s);
let q11 : Bool → Bool → Bool := fun (y y_1 : Bool) => bif q8 y then y_1 else false;
let q12 : Bool → Bool → Bool → Bool
 := fun (y y_1 y_2 : Bool) => bif q11 y y_1 then y_2 else false;
let q13 : List Bool × List Bool → List XV := fun (s : List Bool × List Bool) => [e_row 1 e_bool (Prod.fst
 s), e_row 1 e_bool (Prod.snd s)];
let q14 : List Bool × List Bool → Bool := fun (s : List Bool × List Bool) => decide (Prod.fst s = Prod.snd s);
let q15 : Bool →
 Bool → Bool → Bool → Bool := fun (y y_1 y_2 y_3 : Bool) => bif q12 y y_1 y_2 then y_3 else false;
let q16 : Bool → Bool → Bool → Bool → Bool → Bool := fun (y y_1
 y_2 y_3 y_4 : Bool) => bif q15 y y_1 y_2 y_3 then y_4 else false;
let q17 : Bool → Bool → Bool → Bool → Bool → Bool → Bool := fun (y y_1 y_2 y_3 y_4 y_5 : Bool)
 => bif q16 y y_1 y_2 y_3 y_4 then y_5 else false;
let q18 : Bool → Bool → Bool → Bool → Bool → Bool → Bool → Bool := fun (y y_1 y_2 y_3 y_4 y_5 y_6 : Bool) => bif
 q17 y y_1 y_2 y_3 y_4 y_5 then y_6 else false;
let q19 : Bool → Bool → Bool → Bool → Bool → Bool → Bool → Bool → Bool := fun (y y_1 y_2 y_3 y_4 y_5 y_6 y_7 : Bool)
 => bif q18 y y_1 y_2 y_3 y_4 y_5 y_6 then y_7 else false;
bif bif q1 then q1 else true then bif bif q2 then q2 else true then bif bif q3 then q3 else true then bif
 bif q4 then q4 else true then bif bif q5 then q5 else true then bif bif q6 then q6 else true then bif q7 then ∃ (s : List Slot × List Slot), ArgsLe [e_row 3 e_Slot
 (Stt.ldq a), e_row 3 e_Slot (Stt.ldq b)] [e_row 3 e_Slot (Prod.fst s), e_row 3 e_Slot (Prod.snd s)] ∧ PreIs (List.length (Prod.fst s) ≤ 1000000) ∧ ∀ (y : Bool),
 y = decide (Prod.fst s = Prod.snd s) → bif q8 y then ∃ (s : List Int × List Int), ArgsLe [e_row 1 e_u32 (Stt.sdq a), e_row 1 e_u32 (Stt.sdq b)] (q9 s) ∧ PreIs (List.length
 (Prod.fst s) ≤ 1000000) ∧ ∀ (y_1 : Bool), y_1 = q10 s → bif q11 y y_1 then ∃ (s : List Int × List Int), ArgsLe [e_row 1 e_u32 (Stt.aeq a), e_row 1 e_u32 (Stt.aeq
 b)] (q9 s) ∧ PreIs (List.length (Prod.fst s) ≤ 1000000) ∧ ∀ (y_2 : Bool), y_2 = q10 s → bif q12 y y_1 y_2 then ∃ (s : List Bool × List Bool), ArgsLe [e_row 1 e_bool
 (Stt.abq a), e_row 1 e_bool (Stt.abq b)] (q13 s) ∧ PreIs (List.length (Prod.fst s) ≤ 1000000) ∧ ∀ (y_3 : Bool), y_3 = q14 s → bif q15 y y_1 y_2 y_3 then ∃ (s : List
 Bool × List Bool), ArgsLe [e_row 1 e_bool (Stt.ebq a), e_row 1 e_bool (Stt.ebq b)] (q13 s) ∧ PreIs (List.length (Prod.fst s) ≤ 1000000) ∧ ∀ (y_4 : Bool), y_4 = q14
 s → bif q16 y y_1 y_2 y_3 y_4 then ∃ (s : List Entry × List Entry), ArgsLe [e_row 5 e_Entry (Stt.saq a), e_row 5 e_Entry (Stt.saq b)] [e_row 5 e_Entry (Prod.fst
 s), e_row 5 e_Entry (Prod.snd s)] ∧ PreIs (List.length (Prod.fst s) ≤ 1000000) ∧ ∀ (y_5 : Bool), y_5 = decide (Prod.fst s = Prod.snd s) → bif q17 y y_1 y_2 y_3 y_4
 y_5 then ∃ (s : List Req × List Req), ArgsLe [e_row 8 e_Req (Stt.table a), e_row 8 e_Req (Stt.table b)] [e_row 8 e_Req (Prod.fst s), e_row 8 e_Req (Prod.snd s)]
 ∧ PreIs (List.length (Prod.fst s) ≤ 1000000) ∧ ∀ (y_6 : Bool), y_6 = decide (Prod.fst s = Prod.snd s) → bif q18 y y_1 y_2 y_3 y_4 y_5 y_6 then ∃ (s : List Int ×
 List Int), ArgsLe [e_row 1 e_u8 (Stt.mem a), e_row 1 e_u8 (Stt.mem b)] [e_row 1 e_u8 (Prod.fst s), e_row 1 e_u8 (Prod.snd s)] ∧ PreIs (List.length (Prod.fst s) ≤
 1000000) ∧ ∀ (y_7 : Bool), y_7 = q10 s → bif q19 y y_1 y_2 y_3 y_4 y_5 y_6 y_7 then ∃ (s : List Wr × List Wr), ArgsLe [e_row 3 e_Wr (Stt.writes a), e_row 3 e_Wr
 (Stt.writes b)] [e_row 3 e_Wr (Prod.fst s), e_row 3 e_Wr (Prod.snd s)] ∧ PreIs (List.length (Prod.fst s) ≤ 1000000) ∧ ∀ (y_8 : Bool), y_8 = decide (Prod.fst s =
 Prod.snd s) → ResLe (.bool (bif q19 y y_1 y_2 y_3 y_4 y_5 y_6 y_7 then y_8 else false)) r else bif !q19 y y_1 y_2 y_3 y_4 y_5 y_6 y_7 then ResLe (.bool false) r
 else False else bif !q18 y y_1 y_2 y_3 y_4 y_5 y_6 then ResLe (.bool false) r else False else bif !q17 y y_1 y_2 y_3 y_4 y_5 then ResLe (.bool false) r else False
 else bif !q16 y y_1 y_2 y_3 y_4 then ResLe (.bool false) r else False else bif !q15 y y_1 y_2 y_3 then ResLe (.bool false) r else False else bif !q12 y y_1 y_2 then
 ResLe (.bool false) r else False else bif !q11 y y_1 then ResLe (.bool false) r else False else bif !q8 y then ResLe (.bool false) r else False else bif !q7 then
 ResLe (.bool false) r else False else False else False else False else False else False
else False) := by kernel_rfl
theorem same_eq {a b : Stt} : sameF a b = (decide (a.cycle = b.cycle) && (sideB a.a b.a && (sideB a.e b.e && (trpB a.trap b.trap && (decide (a.lats = b.lats) && (decide (a.picks = b.picks) && (decide (a.tags = b.tags) && (decide (a.ldq = b.ldq) && (decide (a.sdq = b.sdq) && (decide (a.aeq = b.aeq) && (decide (a.abq = b.abq) && (decide (a.ebq = b.ebq) && (decide (a.saq = b.saq) && (decide (a.table = b.table) && (decide (a.mem = b.mem) && decide (a.writes = b.writes)))))))))))))))) := by
  rw [Bool.eq_iff_iff, sameF_iff]
  simp only [hdB, Bool.and_eq_true, decide_eq_true_eq]
  constructor
  · rintro ⟨⟨h1, h2, h3, h4, h5, h6, h7, h8, _⟩, h9, h10, h11, h12, h13, h14, h15, h16⟩
    exact ⟨h1, h2, h3, h4, h5, h6, h7, h9, h13, h14, h15, h16, h10, h11, h8, h12⟩
  · rintro ⟨h1, h2, h3, h4, h5, h6, h7, h9, h13, h14, h15, h16, h10, h11, h8, h12⟩
    exact ⟨⟨h1, h2, h3, h4, h5, h6, h7, h8, by rw [h9], by rw [h10], by rw [h11], by rw [h12]⟩, h9, h10, h11, h12, h13, h14, h15, h16⟩
theorem sm_pure (a b : Stt) (ha : a.lens) : Pure Try.prog 18 (cons [e_Stt a, e_Stt b]) (con (.bool (sameF a b))) := by
  refine pureR (u := 80) (k := 20) mix TE1ok ?_
  refine Eq.mpr (r_sm a b _) ?_
  obtain ⟨o1, o2, o3, o4, o5, o6, o7, o8, o9⟩ := ha
  simp only [sideB_fold, trpB_fold]
  rw [same_eq]
  generalize decide (a.cycle = b.cycle) = c0
  generalize sideB a.a b.a = c1
  generalize sideB a.e b.e = c2
  generalize trpB a.trap b.trap = c3
  generalize decide (a.lats = b.lats) = c4
  generalize decide (a.picks = b.picks) = c5
  generalize decide (a.tags = b.tags) = c6
  cases c0 with
  | false => exact .rfl
  | true =>
  cases c1 with
  | false => exact .rfl
  | true =>
  cases c2 with
  | false => exact .rfl
  | true =>
  cases c3 with
  | false => exact .rfl
  | true =>
  cases c4 with
  | false => exact .rfl
  | true =>
  cases c5 with
  | false => exact .rfl
  | true =>
  cases c6 with
  | false => exact .rfl
  | true =>
  refine ⟨(a.ldq, b.ldq), .rfl, ⟨o1⟩, ?_⟩
  intro y hy
  replace hy : y = decide (a.ldq = b.ldq) := hy
  rw [← hy]
  clear hy
  cases y with
  | false => exact .rfl
  | true =>
  refine ⟨(a.sdq, b.sdq), .rfl, ⟨o2⟩, ?_⟩
  intro y hy
  replace hy : y = decide (a.sdq = b.sdq) := hy
  rw [← hy]
  clear hy
  cases y with
  | false => exact .rfl
  | true =>
  refine ⟨(a.aeq, b.aeq), .rfl, ⟨o3⟩, ?_⟩
  intro y hy
  replace hy : y = decide (a.aeq = b.aeq) := hy
  rw [← hy]
  clear hy
  cases y with
  | false => exact .rfl
  | true =>
  refine ⟨(a.abq, b.abq), .rfl, ⟨o4⟩, ?_⟩
  intro y hy
  replace hy : y = decide (a.abq = b.abq) := hy
  rw [← hy]
  clear hy
  cases y with
  | false => exact .rfl
  | true =>
  refine ⟨(a.ebq, b.ebq), .rfl, ⟨o5⟩, ?_⟩
  intro y hy
  replace hy : y = decide (a.ebq = b.ebq) := hy
  rw [← hy]
  clear hy
  cases y with
  | false => exact .rfl
  | true =>
  refine ⟨(a.saq, b.saq), .rfl, ⟨o6⟩, ?_⟩
  intro y hy
  replace hy : y = decide (a.saq = b.saq) := hy
  rw [← hy]
  clear hy
  cases y with
  | false => exact .rfl
  | true =>
  refine ⟨(a.table, b.table), .rfl, ⟨o7⟩, ?_⟩
  intro y hy
  replace hy : y = decide (a.table = b.table) := hy
  rw [← hy]
  clear hy
  cases y with
  | false => exact .rfl
  | true =>
  refine ⟨(a.mem, b.mem), .rfl, ⟨o8⟩, ?_⟩
  intro y hy
  replace hy : y = decide (a.mem = b.mem) := hy
  rw [← hy]
  clear hy
  cases y with
  | false => exact .rfl
  | true =>
  refine ⟨(a.writes, b.writes), .rfl, ⟨o9⟩, ?_⟩
  intro y hy
  replace hy : y = decide (a.writes = b.writes) := hy
  rw [← hy]
  clear hy
  cases y <;> exact .rfl
theorem sk_sm : SkOk Try.prog (18, samS) := skOf_ok fun ⟨a, b⟩ h => sm_pure a b h.1.2
end Go.Proofs.Ythmlnmkbeohojaa

/- Which requests may be. -/
namespace Go.Proofs.Ythmlnmkbeohojaa
open Go.Ra
set_option linter.unusedVariables false
set_option linter.unusedSimpArgs false
def TB1 : Tab := mkT2 qq (cl_bytes ++ cl_ref1) [] [] [] []
/-- How many bytes an operation has. -/
def szI (op : Int) : Int := if op = 26 ∨ op = 31 then 4 else if op = 27 ∨ op = 28 ∨ op = 32 then 2 else if op = 29 ∨ op = 30 ∨ op = 33 then 1 else 0
def szSp : List XV → Option (List Bool × XV)
  | [.int .i64 op] => some ([], .int .i64 (szI op))
  | _ => none
/-- What is wrong with so many bytes at an address. -/
def chkI (s a n : Int) : Int := if s ≥ 1 ∧ ¬ (IntKind.i64.wrap a).tmod s = 0 then 1 else if (s > 0 ∧ (s > n ∨ IntKind.i64.wrap a > IntKind.i64.wrap (n - s))) ∨ (s ≤ 0 ∧ IntKind.i64.wrap (IntKind.i64.wrap a + s) > n) then 2 else 0
def chkSp : List XV → Option (List Bool × XV)
  | [.int .i64 s, .int .u32 a, .int .i64 n] => some ([], .int .i64 (chkI s a n))
  | _ => none
/-- Do so many bytes lie in memory, at a multiple of that? -/
def liesB (addr size n : Int) : Bool := decide (size = 1 ∨ size = 2 ∨ size = 4) && (decide (addr ≥ 0) && (decide (addr ≤ n) && (decide (n - addr ≥ size) && decide (addr % size = 0))))
def plS : List XV → Option ((XV → Prop) → Prop) := skOf (fun q : List Int × Int × Int => [e_row 1 e_u8 q.1, .int .i64 q.2.1, .int .i64 q.2.2]) (fun q => q.1.length ≤ 1000000) (fun q => liesB q.2.1 q.2.2 q.1.length) (fun y => .bool y)
def lieS : List XV → Option ((XV → Prop) → Prop) := skOf (fun q : Int × Int × Int => [.int .i64 q.1, .int .i64 q.2.1, .int .i64 q.2.2]) (fun q => 0 ≤ q.2.2 ∧ q.2.2 ≤ 1000000) (fun q => liesB q.1 q.2.1 q.2.2) (fun y => .bool y)
def TK0 : Tab := mkT2 qq (cl_state ++ cl_ref15) [(83, chkSp)] [] [] []
def bigB (n : Int) : Bool := decide (0 ≤ n ∧ n ≤ 1099511627776)
/-- May a request be? -/
def reqOk (q : Req) (n : Int) : Bool := decide (q.size = szI q.op) && (liesB q.addr q.size n && ((if q.store then decide (formI q.op = 5) else decide (formI q.op = 4)) && (decide (0 ≤ q.left ∧ q.left ≤ 1000) && decide (-1 ≤ q.reg ∧ q.reg ≤ 15))))
def reqS : List XV → Option ((XV → Prop) → Prop) := skOf (fun q : List Int × Req => [e_row 1 e_u8 q.1, e_Req q.2]) (fun q => q.1.length ≤ 1000000) (fun q => reqOk q.2 q.1.length) (fun y => .bool y)
def rrqS : List XV → Option ((XV → Prop) → Prop) := skOf (fun q : Req × Int => [e_Req q.1, .int .i64 q.2]) (fun q => 0 ≤ q.2 ∧ q.2 ≤ 1000000) (fun q => reqOk q.1 q.2) (fun y => .bool y)
def trapOk (t : Trp) : Bool := if t.kind = 0 then decide (t.step = 0) && decide (t.pc = 0) else decide (1 ≤ t.kind ∧ t.kind ≤ 4) && (bigB t.step && bigB t.pc)
def trpS : List XV → Option ((XV → Prop) → Prop) := skOf (fun t : Trp => [e_Trp t]) (fun t => True) (fun t => trapOk t) (fun y => .bool y)
def TK1 : Tab := mkT2 qq (cl_state ++ cl_ref15) [(85, szSp), (66, szSp), (65, formSp)] [] [(23, wnS), (59, plS), (38, lieS)] []
theorem TB1ok : TabOk Try.prog TB1 := mkT2_ok (clok_bytes.app clok_ref1) trivial trivial trivial trivial
theorem r_size1 (op : Int) (K : XV → Prop) : (quietGo TB1 80 (callI TB1 80 20) 85 [.int .i64 op] K) = (bif decide (op = 26) then bif decide (op = 26) then K (.int .i64 4) else bif decide (op = 27) then bif decide (op = 27) then K (.int .i64 2) else bif decide
 (op = 29) then bif decide (op = 29) then K (.int .i64 1) else K (.int .i64 0) else bif decide (op = 30) then bif decide (op = 30) then K (.int .i64 1) else K (.int
 .i64 0) else bif decide (op = 33) then K (.int .i64 1) else K (.int .i64 0) else bif decide (op = 28) then bif decide (op = 28) then K (.int .i64 2) else bif decide
 (op = 29) then bif decide (op = 29) then K (.int .i64 1) else K (.int .i64 0) else bif decide (op = 30) then bif decide (op = 30) then K (.int .i64 1) else K (.int
 .i64 0) else bif decide (op = 33) then K (.int .i64 1) else K (.int .i64 0) else bif decide (op = 32) then K (.int .i64 2) else bif decide (op = 29) then bif decide
 (op = 29) then K (.int .i64 1) else K (.int .i64 0) else bif decide (op = 30) then bif decide (op = 30) then K (.int .i64 1) else K (.int .i64 0) else bif decide
 (op = 33) then K (.int .i64 1) else K (.int .i64 0)
else bif decide (op = 31) then K (.int .i64 4) else bif decide (op = 27) then bif decide (op = 27) then K (.int
 .i64 2) else bif decide (op = 29) then bif decide (op = 29) then K (.int .i64 1) else K (.int .i64 0) else bif decide (op = 30) then bif decide (op = 30) then K
 (.int .i64 1) else K (.int .i64 0) else bif decide (op = 33) then K (.int .i64 1) else K (.int .i64 0) else bif decide (op = 28) then bif decide (op = 28) then K
 (.int .i64 2) else bif decide (op = 29) then bif decide (op = 29) then K (.int .i64 1) else K (.int .i64 0) else bif decide (op = 30) then bif decide (op = 30) then
 K (.int .i64 1) else K (.int .i64 0) else bif decide (op = 33) then K (.int .i64 1) else K (.int .i64 0) else bif decide (op = 32) then K (.int .i64 2) else bif
 decide (op = 29) then bif decide (op = 29) then K (.int .i64 1) else K (.int .i64 0) else bif decide (op = 30) then bif decide (op = 30) then K (.int .i64 1) else
 K (.int .i64 0) else bif decide (op = 33) then K (.int .i64 1) else K (.int .i64 0)) := by kernel_rfl
theorem r_size2 (op : Int) (K : XV → Prop) : (quietGo TB1 80 (callI TB1 80 20) 66 [.int .i64 op] K) = (bif decide (op = 26) then bif decide (op = 26) then K (.int .i64 4) else bif decide (op = 27) then bif decide (op = 27) then K (.int .i64 2) else bif decide
 (op = 29) then bif decide (op = 29) then K (.int .i64 1) else K (.int .i64 0) else bif decide (op = 30) then bif decide (op = 30) then K (.int .i64 1) else K (.int
 .i64 0) else bif decide (op = 33) then K (.int .i64 1) else K (.int .i64 0) else bif decide (op = 28) then bif decide (op = 28) then K (.int .i64 2) else bif decide
 (op = 29) then bif decide (op = 29) then K (.int .i64 1) else K (.int .i64 0) else bif decide (op = 30) then bif decide (op = 30) then K (.int .i64 1) else K (.int
 .i64 0) else bif decide (op = 33) then K (.int .i64 1) else K (.int .i64 0) else bif decide (op = 32) then K (.int .i64 2) else bif decide (op = 29) then bif decide
 (op = 29) then K (.int .i64 1) else K (.int .i64 0) else bif decide (op = 30) then bif decide (op = 30) then K (.int .i64 1) else K (.int .i64 0) else bif decide
 (op = 33) then K (.int .i64 1) else K (.int .i64 0)
else bif decide (op = 31) then K (.int .i64 4) else bif decide (op = 27) then bif decide (op = 27) then K (.int
 .i64 2) else bif decide (op = 29) then bif decide (op = 29) then K (.int .i64 1) else K (.int .i64 0) else bif decide (op = 30) then bif decide (op = 30) then K
 (.int .i64 1) else K (.int .i64 0) else bif decide (op = 33) then K (.int .i64 1) else K (.int .i64 0) else bif decide (op = 28) then bif decide (op = 28) then K
 (.int .i64 2) else bif decide (op = 29) then bif decide (op = 29) then K (.int .i64 1) else K (.int .i64 0) else bif decide (op = 30) then bif decide (op = 30) then
 K (.int .i64 1) else K (.int .i64 0) else bif decide (op = 33) then K (.int .i64 1) else K (.int .i64 0) else bif decide (op = 32) then K (.int .i64 2) else bif
 decide (op = 29) then bif decide (op = 29) then K (.int .i64 1) else K (.int .i64 0) else bif decide (op = 30) then bif decide (op = 30) then K (.int .i64 1) else
 K (.int .i64 0) else bif decide (op = 33) then K (.int .i64 1) else K (.int .i64 0)) := by kernel_rfl
theorem r_check1 (s a n : Int) (K : XV → Prop) : (quietGo TB1 80 (callI TB1 80 20) 83 [.int .i64 s, .int .u32 a, .int .i64 n] K) = (bif bif !decide (s = 0) then true else !decide (s ≥ 1) then bif bif decide (s ≥ 1) then decide (s ≥ 1) else true then bif bif decide (s ≥ 1) then decide ¬Int.tmod
 (IntKind.wrap .i64 a) s = 0 else false then K (.int .i64 1) else bif bif decide (s > 0) then true else !decide (s > 0) then bif bif bif decide (s > n) then true
 else bif decide (s > 0) then !decide (s > n) else false then true else !decide (s > 0) then bif bif decide (s > 0) then decide (s > 0) else true then bif bif !bif
 decide (s > 0) then bif decide (s > n) then true else decide (IntKind.wrap .i64 a > IntKind.wrap .i64 (n - s)) else false then true else !!bif decide (s > 0) then
 bif decide (s > n) then true else decide (IntKind.wrap .i64 a > IntKind.wrap .i64 (n - s)) else false then bif bif bif decide (s ≤ 0) then bif !bif decide (s > 0)
 then bif decide (s > n) then true else decide (IntKind.wrap .i64 a > IntKind.wrap .i64 (n - s)) else false then decide (s ≤ 0) else false else true then true else
 !!bif decide (s > 0) then bif decide (s > n) then true else decide (IntKind.wrap .i64 a > IntKind.wrap .i64 (n - s)) else false then bif bif bif decide (s > 0) then
 bif decide (s > n) then true else decide (IntKind.wrap .i64 a > IntKind.wrap .i64 (n - s)) else false then true else !bif decide (s > 0) then bif decide (s > n)
 then true else decide (IntKind.wrap .i64 a > IntKind.wrap .i64 (n - s)) else false then bif bif bif decide (s > 0) then bif decide (s > n) then true else decide
 (IntKind.wrap .i64 a > IntKind.wrap .i64 (n - s)) else false then true else bif decide (s ≤ 0) then decide (IntKind.wrap .i64 (IntKind.wrap .i64 a + s) > n) else
 false then K (.int .i64 2) else K (.int .i64 0) else False else False else False else False else False else False else False
else False) := by kernel_rfl
theorem size1 (op : Int) : Pure Try.prog 85 (cons [.int .i64 op]) (con (.int .i64 (szI op))) := by
  refine pureX (u := 80) (k := 20) mix TB1ok ?_
  rw [r_size1]
  unfold szI
  by_cases h1 : op = 26
  · subst h1; simp
  by_cases h2 : op = 27
  · subst h2; simp
  by_cases h3 : op = 28
  · subst h3; simp
  by_cases h4 : op = 29
  · subst h4; simp
  by_cases h5 : op = 30
  · subst h5; simp
  by_cases h6 : op = 31
  · subst h6; simp
  by_cases h7 : op = 32
  · subst h7; simp
  by_cases h8 : op = 33
  · subst h8; simp
  simp [h1, h2, h3, h4, h5, h6, h7, h8]
theorem sp_size1 : SpOk Try.prog (85, szSp) := by
  intro args nd v ha hn
  simp only [szSp] at ha
  split at ha <;> simp only [Option.some.injEq, Prod.mk.injEq, reduceCtorEq] at ha
  obtain ⟨hnd, rfl⟩ := ha
  clear hnd hn
  exact size1 _
theorem sp_size2 : SpOk Try.prog (66, szSp) := by
  intro args nd v ha hn
  simp only [szSp] at ha
  split at ha <;> simp only [Option.some.injEq, Prod.mk.injEq, reduceCtorEq] at ha
  obtain ⟨hnd, rfl⟩ := ha
  clear hnd hn
  rename_i op
  refine pureX (u := 80) (k := 20) mix TB1ok ?_
  rw [r_size2]
  unfold szI
  by_cases h1 : op = 26
  · subst h1; simp
  by_cases h2 : op = 27
  · subst h2; simp
  by_cases h3 : op = 28
  · subst h3; simp
  by_cases h4 : op = 29
  · subst h4; simp
  by_cases h5 : op = 30
  · subst h5; simp
  by_cases h6 : op = 31
  · subst h6; simp
  by_cases h7 : op = 32
  · subst h7; simp
  by_cases h8 : op = 33
  · subst h8; simp
  simp [h1, h2, h3, h4, h5, h6, h7, h8]
theorem check_res (s a n : Int) : quietGo TB1 80 (callI TB1 80 20) 83 [.int .i64 s, .int .u32 a, .int .i64 n] (fun v => con v = con (.int .i64 (chkI s a n))) := by
  rw [r_check1]
  unfold chkI
  by_cases h1 : s ≥ 1
  · have h0 : ¬ s = 0 := by omega
    have h2 : s > 0 := by omega
    have h3 : ¬ s ≤ 0 := by omega
    by_cases h4 : (IntKind.i64.wrap a).tmod s = 0
    · by_cases h5 : s > n
      · simp [h0, h1, h2, h3, h4, h5]
      · by_cases h6 : IntKind.i64.wrap a > IntKind.i64.wrap (n - s)
        · simp [h0, h1, h2, h3, h4, h5, h6]
        · simp [h0, h1, h2, h3, h4, h5, h6]
    · simp [h0, h1, h2, h3, h4]
  · have h2 : ¬ s > 0 := by omega
    have h3 : s ≤ 0 := by omega
    by_cases h6 : IntKind.i64.wrap (IntKind.i64.wrap a + s) > n
    · simp [h1, h2, h3, h6]
    · simp [h1, h2, h3, h6]
theorem sp_check1 : SpOk Try.prog (83, chkSp) := by
  intro args nd v ha hn
  simp only [chkSp] at ha
  split at ha <;> simp only [Option.some.injEq, Prod.mk.injEq, reduceCtorEq] at ha
  obtain ⟨hnd, rfl⟩ := ha
  clear hnd hn
  exact pureX mix TB1ok (check_res _ _ _)
theorem TK0ok : TabOk Try.prog TK0 := mkT2_ok (clok_state.app clok_ref15) ⟨sp_check1, trivial⟩ trivial trivial trivial
theorem r_pl (m : List Int) (addr size : Int) (r : XV) : (quietGo TK0 80 (callI TK0 80 20) 59 [e_row 1 e_u8 m, .int .i64 addr, .int .i64 size] (fun v => ResLe v r)) = (bif bif decide (size = 1) then true else !decide (size = 1) then bif bif bif decide (size = 1) then true else decide (size = 2) then true else !bif decide (size
 = 1) then true else decide (size = 2) then bif bif bif bif decide (size = 1) then true else decide (size = 2) then true else decide (size = 4) then bif bif decide
 (size = 1) then true else decide (size = 2) then true else decide (size = 4) else true then bif bif bif bif bif decide (size = 1) then true else decide (size = 2)
 then true else decide (size = 4) then decide (addr ≥ 0) else false then bif bif bif decide (size = 1) then true else decide (size = 2) then true else decide (size
 = 4) then decide (addr ≥ 0) else false else true then bif bif bif bif bif bif decide (size = 1) then true else decide (size = 2) then true else decide (size = 4)
 then decide (addr ≥ 0) else false then decide (addr ≤ (↑(List.length m) : Int)) else false then bif bif bif bif decide (size = 1) then true else decide (size = 2)
 then true else decide (size = 4) then decide (addr ≥ 0) else false then decide (addr ≤ (↑(List.length m) : Int)) else false else true then ResLe (.bool (bif bif
 bif bif bif decide (size = 1) then true else decide (size = 2) then true else decide (size = 4) then decide (addr ≥ 0) else false then decide (addr ≤ (↑(List.length
 m) : Int)) else false then decide (chkI size (IntKind.wrap .u32 addr) (↑(List.length m) : Int) = 0) else false)) r else False else False else False else False
else
 False) := by kernel_rfl
theorem r_li (addr size n : Int) (r : XV) : (quietGo TK0 80 (callI TK0 80 20) 38 [.int .i64 addr, .int .i64 size, .int .i64 n] (fun v => ResLe v r)) = (bif bif decide (size = 1) then true else !decide (size = 1) then bif bif bif decide (size = 1) then true else decide (size = 2) then true else !bif decide (size
 = 1) then true else decide (size = 2) then bif bif bif bif decide (size = 1) then true else decide (size = 2) then true else decide (size = 4) then bif bif decide
 (size = 1) then true else decide (size = 2) then true else decide (size = 4) else true then bif bif bif bif bif decide (size = 1) then true else decide (size = 2)
 then true else decide (size = 4) then decide (addr ≥ 0) else false then bif bif bif decide (size = 1) then true else decide (size = 2) then true else decide (size
 = 4) then decide (addr ≥ 0) else false else true then bif bif bif bif bif bif decide (size = 1) then true else decide (size = 2) then true else decide (size = 4)
 then decide (addr ≥ 0) else false then decide (addr ≤ n) else false then bif bif bif bif decide (size = 1) then true else decide (size = 2) then true else decide
 (size = 4) then decide (addr ≥ 0) else false then decide (addr ≤ n) else false else true then bif bif !decide (size = 0) then true else !bif bif bif bif bif decide
 (size = 1) then true else decide (size = 2) then true else decide (size = 4) then decide (addr ≥ 0) else false then decide (addr ≤ n) else false then decide (IntKind.wrap
 .i64 (n - addr) ≥ size) else false then bif bif bif bif bif bif bif decide (size = 1) then true else decide (size = 2) then true else decide (size = 4) then decide
 (addr ≥ 0) else false then decide (addr ≤ n) else false then decide (IntKind.wrap .i64 (n - addr) ≥ size) else false then bif bif bif bif bif decide (size = 1) then
 true else decide (size = 2) then true else decide (size = 4) then decide (addr ≥ 0) else false then decide (addr ≤ n) else false then decide (IntKind.wrap .i64 (n
 - addr) ≥ size) else false else true then ResLe (.bool (bif bif bif bif bif bif decide (size = 1) then true else decide (size = 2) then true else decide (size =
 4) then decide (addr ≥ 0) else false then decide (addr ≤ n) else false then decide (IntKind.wrap .i64 (n - addr) ≥ size) else false then decide (Int.tmod addr size
 = 0) else false)) r else False else False else False else False else False else False
else False) := by kernel_rfl
theorem r_rq (m : List Int) (q : Req) (r : XV) : (quietGo TK1 80 (callI TK1 80 20) 62 [e_row 1 e_u8 m, e_Req q] (fun v => ResLe v r)) = (bif Req.store q then bif decide (Req.size q = szI (Req.op q)) then ∃ (s : Int × Int × List Int), ArgsLe [.int .i64 31, .int .i64 33, .row true 1 1 fun a => .int
 .i64 (Req.op q)] [.int .i64 (Prod.fst s), .int .i64 (Prod.fst (Prod.snd s)), e_row 1 e_i64 (Prod.snd (Prod.snd s))] ∧ PreIs (List.length (Prod.snd (Prod.snd s))
 ≤ 1000000) ∧ ∀ (y : Bool), y = withinF (Prod.fst s) (Prod.fst (Prod.snd s)) (Prod.snd (Prod.snd s)) → bif bif decide (Req.size q = szI (Req.op q)) then y else false
 then ∃ (s : List Int × Int × Int), ArgsLe [e_row 1 e_u8 m, .int .i64 (Req.addr q), .int .i64 (Req.size q)] [e_row 1 e_u8 (Prod.fst s), .int .i64 (Prod.fst (Prod.snd
 s)), .int .i64 (Prod.snd (Prod.snd s))] ∧ PreIs (List.length (Prod.fst s) ≤ 1000000) ∧ ∀ (y_1 : Bool), y_1 = liesB (Prod.fst (Prod.snd s)) (Prod.snd (Prod.snd s))
 (↑(List.length (Prod.fst s)) : Int) → bif bif bif decide (Req.size q = szI (Req.op q)) then y else false then y_1 else false then ∃ (s : Int × Int × List Int), ArgsLe
 [.int .i64 0, .int .i64 1000, .row true 1 1 fun a => .int .i64 (Req.left q)] [.int .i64 (Prod.fst s), .int .i64 (Prod.fst (Prod.snd s)), e_row 1 e_i64 (Prod.snd
 (Prod.snd s))] ∧ PreIs (List.length (Prod.snd (Prod.snd s)) ≤ 1000000) ∧ ∀ (y_2 : Bool), y_2 = withinF (Prod.fst s) (Prod.fst (Prod.snd s)) (Prod.snd (Prod.snd s))
 → bif bif bif bif decide (Req.size q = szI (Req.op q)) then y else false then y_1 else false then y_2 else false then ∃ (s : Int × Int × List Int), ArgsLe [.int
 .i64 (-1 : Int), .int .i64 15, .row true 1 1 fun a => .int .i64 (Req.reg q)] [.int .i64 (Prod.fst s), .int .i64 (Prod.fst (Prod.snd s)), e_row 1 e_i64 (Prod.snd
 (Prod.snd s))] ∧ PreIs (List.length (Prod.snd (Prod.snd s)) ≤ 1000000) ∧ ∀ (y_3 : Bool), y_3 = withinF (Prod.fst s) (Prod.fst (Prod.snd s)) (Prod.snd (Prod.snd s))
 → ResLe (.bool (bif bif bif bif decide (Req.size q = szI (Req.op q)) then y else false then y_1 else false then y_2 else false then y_3 else false)) r else bif !bif
 bif bif decide (Req.size q = szI (Req.op q)) then y else false then y_1 else false then y_2 else false then ResLe (.bool false) r else False else bif !bif bif decide
 (Req.size q = szI (Req.op q)) then y else false then y_1 else false then ResLe (.bool false) r else False else bif !bif decide (Req.size q = szI (Req.op q)) then
 y else false then ResLe (.bool false) r else False else bif !decide (Req.size q = szI (Req.op q)) then ResLe (.bool false) r else False
else bif decide (Req.size
 q = szI (Req.op q)) then ∃ (s : Int × Int × List Int), ArgsLe [.int .i64 26, .int .i64 30, .row true 1 1 fun a => .int .i64 (Req.op q)] [.int .i64 (Prod.fst s),
 .int .i64 (Prod.fst (Prod.snd s)), e_row 1 e_i64 (Prod.snd (Prod.snd s))] ∧ PreIs (List.length (Prod.snd (Prod.snd s)) ≤ 1000000) ∧ ∀ (y : Bool), y = withinF (Prod.fst
 s) (Prod.fst (Prod.snd s)) (Prod.snd (Prod.snd s)) → bif bif decide (Req.size q = szI (Req.op q)) then y else false then ∃ (s : List Int × Int × Int), ArgsLe [e_row
 1 e_u8 m, .int .i64 (Req.addr q), .int .i64 (Req.size q)] [e_row 1 e_u8 (Prod.fst s), .int .i64 (Prod.fst (Prod.snd s)), .int .i64 (Prod.snd (Prod.snd s))] ∧ PreIs
 (List.length (Prod.fst s) ≤ 1000000) ∧ ∀ (y_1 : Bool), y_1 = liesB (Prod.fst (Prod.snd s)) (Prod.snd (Prod.snd s)) (↑(List.length (Prod.fst s)) : Int) → bif bif
 bif decide (Req.size q = szI (Req.op q)) then y else false then y_1 else false then ∃ (s : Int × Int × List Int), ArgsLe [.int .i64 0, .int .i64 1000, .row true
 1 1 fun a => .int .i64 (Req.left q)] [.int .i64 (Prod.fst s), .int .i64 (Prod.fst (Prod.snd s)), e_row 1 e_i64 (Prod.snd (Prod.snd s))] ∧ PreIs (List.length (Prod.snd
 (Prod.snd s)) ≤ 1000000) ∧ ∀ (y_2 : Bool), y_2 = withinF (Prod.fst s) (Prod.fst (Prod.snd s)) (Prod.snd (Prod.snd s)) → bif bif bif bif decide (Req.size q = szI
 (Req.op q)) then y else false then y_1 else false then y_2 else false then ∃ (s : Int × Int × List Int), ArgsLe [.int .i64 (-1 : Int), .int .i64 15, .row true 1
 1 fun a => .int .i64 (Req.reg q)] [.int .i64 (Prod.fst s), .int .i64 (Prod.fst (Prod.snd s)), e_row 1 e_i64 (Prod.snd (Prod.snd s))] ∧ PreIs (List.length (Prod.snd
 (Prod.snd s)) ≤ 1000000) ∧ ∀ (y_3 : Bool), y_3 = withinF (Prod.fst s) (Prod.fst (Prod.snd s)) (Prod.snd (Prod.snd s)) → ResLe (.bool (bif bif bif bif decide (Req.size
 q = szI (Req.op q)) then y else false then y_1 else false then y_2 else false then y_3 else false)) r else bif !bif bif bif decide (Req.size q = szI (Req.op q))
 then y else false then y_1 else false then y_2 else false then ResLe (.bool false) r else False else bif !bif bif decide (Req.size q = szI (Req.op q)) then y else
 false then y_1 else false then ResLe (.bool false) r else False else bif !bif decide (Req.size q = szI (Req.op q)) then y else false then ResLe (.bool false) r else
 False else bif !decide (Req.size q = szI (Req.op q)) then ResLe (.bool false) r else False) := by kernel_rfl
theorem r_rrq (q : Req) (n : Int) (r : XV) : (quietGo TK1 80 (callI TK1 80 20) 39 [e_Req q, .int .i64 n] (fun v => ResLe v r)) = (bif decide (Req.size q = szI (Req.op q)) then ∃ (s : Int × Int × Int), ArgsLe [.int .i64 (Req.addr q), .int .i64 (Req.size q), .int .i64 n] [.int .i64 (Prod.fst
 s), .int .i64 (Prod.fst (Prod.snd s)), .int .i64 (Prod.snd (Prod.snd s))] ∧ PreIs (0 ≤ Prod.snd (Prod.snd s) ∧ Prod.snd (Prod.snd s) ≤ 1000000) ∧ ∀ (y : Bool), y
 = liesB (Prod.fst s) (Prod.fst (Prod.snd s)) (Prod.snd (Prod.snd s)) → bif bif bif decide (Req.size q = szI (Req.op q)) then y else false then true else !bif decide
 (Req.size q = szI (Req.op q)) then y else false then bif bif bif Req.store q then bif bif decide (Req.size q = szI (Req.op q)) then y else false then Req.store q
 else false else true then true else !bif decide (Req.size q = szI (Req.op q)) then y else false then bif bif bif bif decide (Req.size q = szI (Req.op q)) then y
 else false then !bif Req.store q then decide (formI (Req.op q) = 5) else false else false then true else !bif bif decide (Req.size q = szI (Req.op q)) then y else
 false then !bif Req.store q then decide (formI (Req.op q) = 5) else false else false then bif bif bif !Req.store q then bif bif bif decide (Req.size q = szI (Req.op
 q)) then y else false then !bif Req.store q then decide (formI (Req.op q) = 5) else false else false then !Req.store q else false else true then true else !bif bif
 decide (Req.size q = szI (Req.op q)) then y else false then !bif Req.store q then decide (formI (Req.op q) = 5) else false else false then bif bif bif decide (Req.size
 q = szI (Req.op q)) then y else false then true else !bif decide (Req.size q = szI (Req.op q)) then y else false then bif bif bif bif Req.store q then decide (formI
 (Req.op q) = 5) else false then true else bif bif decide (Req.size q = szI (Req.op q)) then y else false then !bif Req.store q then decide (formI (Req.op q) = 5)
 else false else false then true else !bif decide (Req.size q = szI (Req.op q)) then y else false then bif bif bif decide (Req.size q = szI (Req.op q)) then y else
 false then bif decide (Req.size q = szI (Req.op q)) then y else false else true then bif bif bif bif decide (Req.size q = szI (Req.op q)) then y else false then
 bif bif Req.store q then decide (formI (Req.op q) = 5) else false then true else bif !Req.store q then decide (formI (Req.op q) = 4) else false else false then bif
 bif decide (Req.size q = szI (Req.op q)) then y else false then bif bif Req.store q then decide (formI (Req.op q) = 5) else false then true else bif !Req.store q
 then decide (formI (Req.op q) = 4) else false else false else true then bif bif bif bif bif decide (Req.size q = szI (Req.op q)) then y else false then bif bif Req.store
 q then decide (formI (Req.op q) = 5) else false then true else bif !Req.store q then decide (formI (Req.op q) = 4) else false else false then decide (Req.left q
 ≥ 0) else false then bif bif bif decide (Req.size q = szI (Req.op q)) then y else false then bif bif Req.store q then decide (formI (Req.op q) = 5) else false then
 true else bif !Req.store q then decide (formI (Req.op q) = 4) else false else false then decide (Req.left q ≥ 0) else false else true then bif bif bif bif bif bif
 decide (Req.size q = szI (Req.op q)) then y else false then bif bif Req.store q then decide (formI (Req.op q) = 5) else false then true else bif !Req.store q then
 decide (formI (Req.op q) = 4) else false else false then decide (Req.left q ≥ 0) else false then decide (Req.left q ≤ 1000) else false then bif bif bif bif decide
 (Req.size q = szI (Req.op q)) then y else false then bif bif Req.store q then decide (formI (Req.op q) = 5) else false then true else bif !Req.store q then decide
 (formI (Req.op q) = 4) else false else false then decide (Req.left q ≥ 0) else false then decide (Req.left q ≤ 1000) else false else true then bif bif bif bif bif
 bif bif decide (Req.size q = szI (Req.op q)) then y else false then bif bif Req.store q then decide (formI (Req.op q) = 5) else false then true else bif !Req.store
 q then decide (formI (Req.op q) = 4) else false else false then decide (Req.left q ≥ 0) else false then decide (Req.left q ≤ 1000) else false then decide (Req.reg
 q ≥ (-1 : Int)) else false then bif bif bif bif bif decide (Req.size q = szI (Req.op q)) then y else false then bif bif Req.store q then decide (formI (Req.op q)
 = 5) else false then true else bif !Req.store q then decide (formI (Req.op q) = 4) else false else false then decide (Req.left q ≥ 0) else false then decide (Req.left
 q ≤ 1000) else false then decide (Req.reg q ≥ (-1 : Int)) else false else true then ResLe (.bool (bif bif bif bif bif bif decide (Req.size q = szI (Req.op q)) then
 y else false then bif bif Req.store q then decide (formI (Req.op q) = 5) else false then true else bif !Req.store q then decide (formI (Req.op q) = 4) else false
 else false then decide (Req.left q ≥ 0) else false then decide (Req.left q ≤ 1000) else false then decide (Req.reg q ≥ (-1 : Int)) else false then decide (Req.reg
 q ≤ 15) else false)) r else False else False else False else False else False else False else False else False else False else False else False
else bif !decide
 (Req.size q = szI (Req.op q)) then bif bif bif Req.store q then false else true then true else true then bif bif bif !Req.store q then false else true then true
 else true then bif bif bif bif Req.store q then decide (formI (Req.op q) = 5) else false then true else false then true else true then ResLe (.bool false) r else
 False else False else False else False) := by kernel_rfl
theorem r_tp (t : Trp) (r : XV) : (quietGo TK1 80 (callI TK1 80 20) 35 [e_Trp t] (fun v => ResLe v r)) = (bif decide (Trp.kind t = 0) then bif bif decide (Trp.step t = 0) then decide (Trp.step t = 0) else true then ResLe (.bool (bif decide (Trp.step t = 0) then decide
 (Trp.pc t = 0) else false)) r else False
else ∃ (s : Int × Int × List Int), ArgsLe [.int .i64 1, .int .i64 4, .row true 1 1 fun a => .int .i64 (Trp.kind t)] [.int
 .i64 (Prod.fst s), .int .i64 (Prod.fst (Prod.snd s)), e_row 1 e_i64 (Prod.snd (Prod.snd s))] ∧ PreIs (List.length (Prod.snd (Prod.snd s)) ≤ 1000000) ∧ ∀ (y : Bool),
 y = withinF (Prod.fst s) (Prod.fst (Prod.snd s)) (Prod.snd (Prod.snd s)) → bif y then ∃ (s : Int × Int × List Int), ArgsLe [.int .i64 0, .int .i64 1099511627776,
 .row true 1 2 fun a => .int .i64 (bif Nat.beq a 0 then Trp.step t else Trp.pc t)] [.int .i64 (Prod.fst s), .int .i64 (Prod.fst (Prod.snd s)), e_row 1 e_i64 (Prod.snd
 (Prod.snd s))] ∧ PreIs (List.length (Prod.snd (Prod.snd s)) ≤ 1000000) ∧ ∀ (y_1 : Bool), y_1 = withinF (Prod.fst s) (Prod.fst (Prod.snd s)) (Prod.snd (Prod.snd s))
 → ResLe (.bool (bif y then y_1 else false)) r else bif !y then ResLe (.bool false) r else False) := by kernel_rfl
theorem resB {x y : Bool} (h : x = y) : ResLe (.bool x) (.bool y) := by rw [h]; exact .rfl
theorem w1F {lo hi x : Int} : withinF lo hi [x] = decide (lo ≤ x ∧ x ≤ hi) := by simp [withinF]
theorem tmod_s {a s : Int} (ha : 0 ≤ a) : a.tmod s = a % s := Int.tmod_eq_emod_of_nonneg ha
theorem chk_lies {addr size n : Int} (hs : size = 1 ∨ size = 2 ∨ size = 4) (h0 : 0 ≤ addr) (h1 : addr ≤ n) (hn : n ≤ 1000000) : chkI size (IntKind.u32.wrap addr) n = 0 ↔ (n - addr ≥ size ∧ addr % size = 0) := by
  have w0 : IntKind.u32.wrap addr = addr := by rw [wU32]; omega
  have w1 : IntKind.i64.wrap addr = addr := wrap_i64 (by omega) (by omega)
  have w2 : IntKind.i64.wrap (n - size) = n - size := wrap_i64 (by omega) (by omega)
  unfold chkI
  rw [w0, w1, w2, tmod_s h0]
  rcases hs with rfl | rfl | rfl <;> (split <;> (try split) <;> simp at * <;> omega)
theorem sk_pl : SkOk Try.prog (59, plS) := skOf_ok fun ⟨m, addr, size⟩ h => by
  have hm : m.length ≤ 1000000 := h
  show Pure _ _ (cons [e_row 1 e_u8 m, .int .i64 addr, .int .i64 size]) (con (.bool (liesB addr size m.length)))
  refine pureR (u := 80) (k := 20) mix TK0ok ?_
  refine Eq.mpr (r_pl m addr size _) ?_
  simp only [g1, g2, g3, g4, g5, g6, g7, allN_true, cond_true, Nat.le_refl, decide_true, pl_eq]
  simp only [bor, band]
  refine resB ?_
  unfold liesB
  rw [Bool.eq_iff_iff]
  simp only [Bool.and_eq_true, Bool.or_eq_true, decide_eq_true_eq, or_assoc]
  constructor
  · rintro ⟨⟨⟨h1, h2⟩, h3⟩, h4⟩
    have := (chk_lies h1 h2 h3 (by omega)).1 h4
    exact ⟨h1, h2, h3, this.1, this.2⟩
  · rintro ⟨h1, h2, h3, h4, h5⟩
    exact ⟨⟨⟨h1, h2⟩, h3⟩, (chk_lies h1 h2 h3 (by omega)).2 ⟨h4, h5⟩⟩
theorem sk_lies : SkOk Try.prog (38, lieS) := skOf_ok fun ⟨addr, size, n⟩ h => by
  obtain ⟨hn0, hn⟩ : 0 ≤ n ∧ n ≤ 1000000 := h
  show Pure _ _ (cons [.int .i64 addr, .int .i64 size, .int .i64 n]) (con (.bool (liesB addr size n)))
  refine pureR (u := 80) (k := 20) mix TK0ok ?_
  refine Eq.mpr (r_li addr size n _) ?_
  simp only [g1, g2, g3, g4, g5, g6, g7, allN_true, cond_true, Nat.le_refl, decide_true, pl_eq]
  simp only [bor, band]
  by_cases hs : size = 1 ∨ size = 2 ∨ size = 4
  · by_cases ha : 0 ≤ addr ∧ addr ≤ n
    · obtain ⟨ha0, ha1⟩ := ha
      have w1 : IntKind.i64.wrap (n - addr) = n - addr := wrap_i64 (by omega) (by omega)
      have hs' : (decide (size = 1) || decide (size = 2) || decide (size = 4)) = true := by simpa [or_assoc] using hs
      have z : ¬ size = 0 := by omega
      simp only [hs', w1, tmod_s ha0, z, g1, g2, g3, g4, g5, g6, g7, allN_true, cond_true, Nat.le_refl, decide_true, pl_eq]
      refine resB ?_
      unfold liesB
      rw [Bool.eq_iff_iff]
      simp only [Bool.and_eq_true, Bool.or_eq_true, decide_eq_true_eq, or_assoc]
      constructor
      · rintro ⟨⟨⟨⟨_, h2⟩, h3⟩, h4⟩, h5⟩
        exact ⟨hs, h2, h3, h4, h5⟩
      · rintro ⟨_, h2, h3, h4, h5⟩
        exact ⟨⟨⟨⟨trivial, h2⟩, h3⟩, h4⟩, h5⟩
    · have hs' : (decide (size = 1) || decide (size = 2) || decide (size = 4)) = true := by simpa [or_assoc] using hs
      have z : ¬ size = 0 := by omega
      have ha' : (decide (addr ≥ 0) && decide (addr ≤ n)) = false := by
        rw [← Bool.not_eq_true, Bool.and_eq_true, decide_eq_true_eq, decide_eq_true_eq]
        exact ha
      have e : liesB addr size n = false := by
        rw [← Bool.not_eq_true]
        unfold liesB
        simp only [Bool.and_eq_true, decide_eq_true_eq]
        rintro ⟨_, h2, h3, _⟩
        exact ha ⟨h2, h3⟩
      rw [e]
      simp only [hs', z, ha', Bool.true_and, Bool.false_and, decide_false, Bool.not_false, Bool.true_or, cond_true, cond_false]
      first | exact .rfl | (cases decide (addr ≥ 0) <;> cases decide (addr ≤ n) <;> first | exact .rfl | simp at ha')
  · have hs' : (decide (size = 1) || decide (size = 2) || decide (size = 4)) = false := by simpa [not_or, and_assoc] using hs
    simp only [hs', Bool.false_and, cond_false, Bool.not_false, g1, g2, g3, g4, g5, g6, g7, allN_true, cond_true, Nat.le_refl, decide_true, pl_eq]
    have e : liesB addr size n = false := by
      unfold liesB
      rw [decide_eq_false hs]
      rfl
    rw [e, Bool.or_true]
    exact .rfl
theorem TK1ok : TabOk Try.prog TK1 := mkT2_ok (clok_state.app clok_ref15) ⟨sp_size1, sp_size2, sp_form, trivial⟩ trivial ⟨sk_wn, sk_pl, sk_lies, trivial⟩ trivial
theorem form_st {a : Int} : decide (formI a = 5) = withinF 31 33 [a] := by
  rw [w1F]
  refine decide_eq_decide.2 ?_
  unfold formI
  repeat' split
  all_goals omega
theorem form_ld {a : Int} : decide (formI a = 4) = withinF 26 30 [a] := by
  rw [w1F]
  refine decide_eq_decide.2 ?_
  unfold formI
  repeat' split
  all_goals omega
theorem sk_req : SkOk Try.prog (62, reqS) := skOf_ok fun ⟨m, q⟩ h => by
  have hm : m.length ≤ 1000000 := h
  show Pure _ _ (cons [e_row 1 e_u8 m, e_Req q]) (con (.bool (reqOk q m.length)))
  refine pureR (u := 80) (k := 20) mix TK1ok ?_
  refine Eq.mpr (r_rq m q _) ?_
  have go : ∀ (f lo hi : Int), decide (formI q.op = f) = withinF lo hi [q.op] → (decide (q.size = szI q.op) && (liesB q.addr q.size m.length && (decide (formI q.op = f) && (decide (0 ≤ q.left ∧ q.left ≤ 1000) && decide (-1 ≤ q.reg ∧ q.reg ≤ 15))))) = (decide (q.size = szI q.op) && (withinF lo hi [q.op] && (liesB q.addr q.size m.length && (withinF 0 1000 [q.left] && withinF (-1) 15 [q.reg])))) := fun f lo hi e => by
    rw [e, w1F (lo := 0), w1F (lo := -1)]
    cases liesB q.addr q.size m.length <;> cases withinF lo hi [q.op] <;> simp
  have key : reqOk q m.length = (decide (q.size = szI q.op) && ((if q.store then withinF 31 33 [q.op] else withinF 26 30 [q.op]) && (liesB q.addr q.size m.length && (withinF 0 1000 [q.left] && withinF (-1) 15 [q.reg])))) := by
    unfold reqOk
    cases q.store with
    | true => exact go 5 31 33 form_st
    | false => exact go 4 26 30 form_ld
  rw [key]
  generalize decide (q.size = szI q.op) = c
  cases hst : q.store with
  | true =>
    simp only [cond_true, if_true]
    cases c with
    | false => exact .rfl
    | true =>
    refine ⟨(31, 33, [q.op]), ⟨lqs_cons (.refl _) (lqs_cons (.refl _) (lqs_cons (lq_lit1 (.refl _)) lqs_nil))⟩, ⟨by show 1 ≤ 1000000; omega⟩, ?_⟩
    intro y hy
    replace hy : y = withinF 31 33 [q.op] := hy
    rw [← hy]
    clear hy
    cases y with
    | false => exact .rfl
    | true =>
    refine ⟨(m, q.addr, q.size), .rfl, ⟨hm⟩, ?_⟩
    intro y hy
    replace hy : y = liesB q.addr q.size m.length := hy
    rw [← hy]
    clear hy
    cases y with
    | false => exact .rfl
    | true =>
    refine ⟨(0, 1000, [q.left]), ⟨lqs_cons (.refl _) (lqs_cons (.refl _) (lqs_cons (lq_lit1 (.refl _)) lqs_nil))⟩, ⟨by show 1 ≤ 1000000; omega⟩, ?_⟩
    intro y hy
    replace hy : y = withinF 0 1000 [q.left] := hy
    rw [← hy]
    clear hy
    cases y with
    | false => exact .rfl
    | true =>
    refine ⟨(-1, 15, [q.reg]), ⟨lqs_cons (.refl _) (lqs_cons (.refl _) (lqs_cons (lq_lit1 (.refl _)) lqs_nil))⟩, ⟨by show 1 ≤ 1000000; omega⟩, ?_⟩
    intro y hy
    replace hy : y = withinF (-1) 15 [q.reg] := hy
    rw [← hy]
    clear hy
    cases y <;> exact .rfl
  | false =>
    simp only [cond_false, Bool.false_eq_true, if_false]
    cases c with
    | false => exact .rfl
    | true =>
    refine ⟨(26, 30, [q.op]), ⟨lqs_cons (.refl _) (lqs_cons (.refl _) (lqs_cons (lq_lit1 (.refl _)) lqs_nil))⟩, ⟨by show 1 ≤ 1000000; omega⟩, ?_⟩
    intro y hy
    replace hy : y = withinF 26 30 [q.op] := hy
    rw [← hy]
    clear hy
    cases y with
    | false => exact .rfl
    | true =>
    refine ⟨(m, q.addr, q.size), .rfl, ⟨hm⟩, ?_⟩
    intro y hy
    replace hy : y = liesB q.addr q.size m.length := hy
    rw [← hy]
    clear hy
    cases y with
    | false => exact .rfl
    | true =>
    refine ⟨(0, 1000, [q.left]), ⟨lqs_cons (.refl _) (lqs_cons (.refl _) (lqs_cons (lq_lit1 (.refl _)) lqs_nil))⟩, ⟨by show 1 ≤ 1000000; omega⟩, ?_⟩
    intro y hy
    replace hy : y = withinF 0 1000 [q.left] := hy
    rw [← hy]
    clear hy
    cases y with
    | false => exact .rfl
    | true =>
    refine ⟨(-1, 15, [q.reg]), ⟨lqs_cons (.refl _) (lqs_cons (.refl _) (lqs_cons (lq_lit1 (.refl _)) lqs_nil))⟩, ⟨by show 1 ≤ 1000000; omega⟩, ?_⟩
    intro y hy
    replace hy : y = withinF (-1) 15 [q.reg] := hy
    rw [← hy]
    clear hy
    cases y <;> exact .rfl
theorem sk_rrq : SkOk Try.prog (39, rrqS) := skOf_ok fun ⟨q, n⟩ h => by
  obtain ⟨hn0, hn⟩ : 0 ≤ n ∧ n ≤ 1000000 := h
  show Pure _ _ (cons [e_Req q, .int .i64 n]) (con (.bool (reqOk q n)))
  refine pureR (u := 80) (k := 20) mix TK1ok ?_
  refine Eq.mpr (r_rrq q n _) ?_
  unfold reqOk
  have e1 : decide (0 ≤ q.left ∧ q.left ≤ 1000) = (decide (q.left ≥ 0) && decide (q.left ≤ 1000)) := by rw [Bool.eq_iff_iff]; simp
  have e2 : decide (-1 ≤ q.reg ∧ q.reg ≤ 15) = (decide (q.reg ≥ -1) && decide (q.reg ≤ 15)) := by rw [Bool.eq_iff_iff]; simp
  rw [e1, e2]
  generalize decide (q.size = szI q.op) = c
  generalize decide (formI q.op = 5) = f5
  generalize decide (formI q.op = 4) = f4
  generalize decide (q.left ≥ 0) = l0
  generalize decide (q.left ≤ 1000) = l1
  generalize decide (q.reg ≥ -1) = r0
  generalize decide (q.reg ≤ 15) = r1
  cases c with
  | false => cases q.store <;> cases f5 <;> cases f4 <;> first | exact .rfl | (cases l0 <;> first | exact .rfl | (cases l1 <;> first | exact .rfl | (cases r0 <;> first | exact .rfl | (cases r1 <;> exact .rfl))))
  | true =>
    refine ⟨(q.addr, q.size, n), .rfl, ⟨⟨hn0, hn⟩⟩, ?_⟩
    intro y hy
    replace hy : y = liesB q.addr q.size n := hy
    rw [← hy]
    clear hy
    cases y with
    | false => cases q.store <;> cases f5 <;> cases f4 <;> first | exact .rfl | (cases l0 <;> first | exact .rfl | (cases l1 <;> first | exact .rfl | (cases r0 <;> first | exact .rfl | (cases r1 <;> exact .rfl))))
    | true => cases q.store <;> cases f5 <;> cases f4 <;> first | exact .rfl | (cases l0 <;> first | exact .rfl | (cases l1 <;> first | exact .rfl | (cases r0 <;> first | exact .rfl | (cases r1 <;> exact .rfl))))
end Go.Proofs.Ythmlnmkbeohojaa

/- Which sides, queues, stores may be. -/
namespace Go.Proofs.Ythmlnmkbeohojaa
open Go.Ra
set_option linter.unusedVariables false
set_option linter.unusedSimpArgs false
def cellsF (s : Split) (onE : Bool) (b : Int) : List Cell := if onE then (ix s.blocks b.toNat).e else (ix s.blocks b.toNat).a
/-- May a side be? -/
def sideOk (s : Split) (onE : Bool) (d : Side) : Bool := decide (0 ≤ d.pos.block ∧ d.pos.block < s.blocks.length) && (withinF 0 (cellsF s onE d.pos.block).length [d.pos.index] && (withinF 0 1099511627776 [d.pos.base, d.wait, d.done] && withinF (-1) 1099511627776 (tabL 16 d.ready)))
def TL0 : Tab := mkT2 qq (cl_state ++ cl_slices) [] [] [(23, wnS), (59, plS), (62, reqS)] []
def rqSt (x : Stt) (i : Nat) : XSt := ⟨[(0, e_row 8 e_Req x.table), (1, .clo 61 [.fptr (e_Stt x)]), (8, .int .i64 i), (7, .int .i64 x.table.length)], [], 0⟩
def sidS : List XV → Option ((XV → Prop) → Prop) := skOf (fun q : Split × Bool × Side => [e_Split q.1, e_Side q.2.2, .clo (bif q.2.1 then 32 else 31) []]) (fun q => True) (fun q => sideOk q.1 q.2.1 q.2.2) (fun y => .bool y)
/-- Are queues short enough? -/
def quesF (c : Cfg) (x : Stt) : Bool := decide ((x.ldq.length : Int) ≤ c.ldq) && (decide ((x.sdq.length : Int) ≤ c.sdq) && (decide ((x.aeq.length : Int) ≤ c.aeq) && (decide ((x.abq.length : Int) ≤ c.abq) && (decide ((x.ebq.length : Int) ≤ c.ebq) && (decide ((x.saq.length : Int) ≤ c.saq) && (decide ((x.table.length : Int) ≤ c.flight) && decide ((x.mem.length : Int) ≤ 65536)))))))
def queS : List XV → Option ((XV → Prop) → Prop) := skOf (fun q : Cfg × Stt => [e_Cfg q.1, e_Stt q.2]) (fun q => True) (fun q => quesF q.1 q.2) (fun y => .bool y)
/-- A request that may not be. -/
def badRq (x : Stt) (q : Req) : Bool := !reqOk q x.mem.length
def irqS : List XV → Option ((XV → Prop) → Prop) := skOf (fun x : Stt => [e_row 8 e_Req x.table, .clo 61 [.fptr (e_Stt x)]]) (fun x => x.ok) (fun x => idxF (badRq x) x.table) (fun y => .int .i64 y)
/-- Is a request, if it is a store, that of the first entry? -/
def fstSt (x : Stt) (q : Req) : Bool := !q.store || (decide (¬ x.saq.length = 0) && (decide (q.addr = (ix x.saq 0).addr) && decide (q.size = (ix x.saq 0).size)))
def cntSt (l : List Req) : Nat := l.countP (fun q => q.store)
def sentB (x : Stt) : Bool := x.table.all (fstSt x) && decide (cntSt x.table = if 0 < x.saq.length ∧ (ix x.saq 0).known = true then 1 else 0)
def senS : List XV → Option ((XV → Prop) → Prop) := skOf (fun x : Stt => [e_Stt x]) (fun x => x.ok) (fun x => sentB x) (fun y => .bool y)
def TL1 : Tab := mkT2 qq (cl_state ++ cl_slices) [] [] [(23, wnS), (59, plS), (84, irqS), (63, senS)] []
def entOk (x : Stt) (i : Nat) (e : Entry) : Bool := liesB e.addr e.size x.mem.length && (bigB e.step && !(e.known && decide (0 < i)))
def storesB (x : Stt) : Bool := allN (fun i => entOk x i (ix x.saq i)) x.saq.length && (x.table.all (fun q => reqOk q x.mem.length) && sentB x)
def stoS : List XV → Option ((XV → Prop) → Prop) := skOf (fun x : Stt => [e_Stt x]) (fun x => x.ok) (fun x => storesB x) (fun y => .bool y)
def TM0 : Tab := mkT2 qq cl_state [] [] [(11, cfgS), (23, wnS), (30, sidS), (33, queS), (34, stoS), (35, trpS)] []
/-- May a state be? -/
def rightStt (c : Cfg) (s : Split) (x : Stt) : Bool := rightCfg c && (sideOk s false x.a && (sideOk s true x.e && (withinF 0 1099511627776 [x.cycle, x.lats, x.picks, x.tags] && (quesF c x && (storesB x && trapOk x.trap)))))
def rigS : List XV → Option ((XV → Prop) → Prop) := skOf (fun q : Cfg × Split × Stt => [e_Cfg q.1, e_Split q.2.1, e_Stt q.2.2]) (fun q => q.2.2.ok) (fun q => rightStt q.1 q.2.1 q.2.2) (fun y => .bool y)
theorem TL0ok : TabOk Try.prog TL0 := mkT2_ok (clok_state.app clok_slices) trivial trivial ⟨sk_wn, sk_pl, sk_req, trivial⟩ trivial
theorem r_sd1 (s : Split) (d : Side) (r : XV) : (quietGo TL0 80 (callI TL0 80 20) 30 [e_Split s, e_Side d, .clo 31 []] (fun v => ResLe v r)) = (bif bif decide (Pos.block (Side.pos d) < 0) then true else !decide (Pos.block (Side.pos d) < 0) then bif bif decide (Pos.block (Side.pos d) < 0) then true else
 decide (Pos.block (Side.pos d) ≥ (↑(List.length (Split.blocks s)) : Int)) then ResLe (.bool false) r else bif decide (0 ≤ Pos.block (Side.pos d)) then bif decide
 (Pos.block (Side.pos d) < (↑(List.length (Split.blocks s)) : Int)) then ∃ (s_1 : Int × Int × List Int), ArgsLe [.int .i64 0, .int .i64 (↑(List.length (Block.a (ix
 (Split.blocks s) (Int.toNat (Pos.block (Side.pos d)))))) : Int), .row true 1 1 fun a => .int .i64 (Pos.index (Side.pos d))] [.int .i64 (Prod.fst s_1), .int .i64
 (Prod.fst (Prod.snd s_1)), e_row 1 e_i64 (Prod.snd (Prod.snd s_1))] ∧ PreIs (List.length (Prod.snd (Prod.snd s_1)) ≤ 1000000) ∧ ∀ (y : Bool), y = withinF (Prod.fst
 s_1) (Prod.fst (Prod.snd s_1)) (Prod.snd (Prod.snd s_1)) → bif y then ∃ (s : Int × Int × List Int), ArgsLe [.int .i64 0, .int .i64 1099511627776, .row true 1 3 fun
 a => .int .i64 (bif Nat.beq a 0 then Pos.base (Side.pos d) else bif Nat.beq (a - 1) 0 then Side.wait d else Side.done d)] [.int .i64 (Prod.fst s), .int .i64 (Prod.fst
 (Prod.snd s)), e_row 1 e_i64 (Prod.snd (Prod.snd s))] ∧ PreIs (List.length (Prod.snd (Prod.snd s)) ≤ 1000000) ∧ ∀ (y_1 : Bool), y_1 = withinF (Prod.fst s) (Prod.fst
 (Prod.snd s)) (Prod.snd (Prod.snd s)) → bif bif y then y_1 else false then ∃ (s : Int × Int × List Int), ArgsLe [.int .i64 (-1 : Int), .int .i64 1099511627776, .row
 false 1 16 fun i => .int .i64 (Side.ready d i)] [.int .i64 (Prod.fst s), .int .i64 (Prod.fst (Prod.snd s)), e_row 1 e_i64 (Prod.snd (Prod.snd s))] ∧ PreIs (List.length
 (Prod.snd (Prod.snd s)) ≤ 1000000) ∧ ∀ (y_2 : Bool), y_2 = withinF (Prod.fst s) (Prod.fst (Prod.snd s)) (Prod.snd (Prod.snd s)) → ResLe (.bool (bif bif y then y_1
 else false then y_2 else false)) r else bif !bif y then y_1 else false then ResLe (.bool false) r else False else bif !y then ResLe (.bool false) r else False else
 False else False
else False) := by kernel_rfl
theorem r_sd2 (s : Split) (d : Side) (r : XV) : (quietGo TL0 80 (callI TL0 80 20) 30 [e_Split s, e_Side d, .clo 32 []] (fun v => ResLe v r)) = (bif bif decide (Pos.block (Side.pos d) < 0) then true else !decide (Pos.block (Side.pos d) < 0) then bif bif decide (Pos.block (Side.pos d) < 0) then true else
 decide (Pos.block (Side.pos d) ≥ (↑(List.length (Split.blocks s)) : Int)) then ResLe (.bool false) r else bif decide (0 ≤ Pos.block (Side.pos d)) then bif decide
 (Pos.block (Side.pos d) < (↑(List.length (Split.blocks s)) : Int)) then ∃ (s_1 : Int × Int × List Int), ArgsLe [.int .i64 0, .int .i64 (↑(List.length (Block.e (ix
 (Split.blocks s) (Int.toNat (Pos.block (Side.pos d)))))) : Int), .row true 1 1 fun a => .int .i64 (Pos.index (Side.pos d))] [.int .i64 (Prod.fst s_1), .int .i64
 (Prod.fst (Prod.snd s_1)), e_row 1 e_i64 (Prod.snd (Prod.snd s_1))] ∧ PreIs (List.length (Prod.snd (Prod.snd s_1)) ≤ 1000000) ∧ ∀ (y : Bool), y = withinF (Prod.fst
 s_1) (Prod.fst (Prod.snd s_1)) (Prod.snd (Prod.snd s_1)) → bif y then ∃ (s : Int × Int × List Int), ArgsLe [.int .i64 0, .int .i64 1099511627776, .row true 1 3 fun
 a => .int .i64 (bif Nat.beq a 0 then Pos.base (Side.pos d) else bif Nat.beq (a - 1) 0 then Side.wait d else Side.done d)] [.int .i64 (Prod.fst s), .int .i64 (Prod.fst
 (Prod.snd s)), e_row 1 e_i64 (Prod.snd (Prod.snd s))] ∧ PreIs (List.length (Prod.snd (Prod.snd s)) ≤ 1000000) ∧ ∀ (y_1 : Bool), y_1 = withinF (Prod.fst s) (Prod.fst
 (Prod.snd s)) (Prod.snd (Prod.snd s)) → bif bif y then y_1 else false then ∃ (s : Int × Int × List Int), ArgsLe [.int .i64 (-1 : Int), .int .i64 1099511627776, .row
 false 1 16 fun i => .int .i64 (Side.ready d i)] [.int .i64 (Prod.fst s), .int .i64 (Prod.fst (Prod.snd s)), e_row 1 e_i64 (Prod.snd (Prod.snd s))] ∧ PreIs (List.length
 (Prod.snd (Prod.snd s)) ≤ 1000000) ∧ ∀ (y_2 : Bool), y_2 = withinF (Prod.fst s) (Prod.fst (Prod.snd s)) (Prod.snd (Prod.snd s)) → ResLe (.bool (bif bif y then y_1
 else false then y_2 else false)) r else bif !bif y then y_1 else false then ResLe (.bool false) r else False else bif !y then ResLe (.bool false) r else False else
 False else False
else False) := by kernel_rfl
theorem r_sent0 (x : Stt) (r : XV) : (goQ Try.prog TL0 [(.tmp 2)] r (.run c_state_sent) [] ⟨envX 0 [e_Stt x], [], 0⟩) = (LoopAt (Ok Try.prog (Tab.q TL0)) c_state_sent_l1 (XSt.mk [(9, .int .i64 0), (8, .int .i64 (↑(List.length (Stt.table x)) : Int)), (7, e_row 8 e_Req (Stt.table
 x)), (3, .int .i64 0), (2, .bool false), (1, .ptr 0 [] 0)] [(0, some (e_Stt x))] 1) [Frm.blk 0, Frm.seq c_state_sent_p1] (finQR [AR.tmp 2] r)) := by kernel_rfl
theorem r_sto0 (x : Stt) (r : XV) : (goQ Try.prog TL1 [(.tmp 2)] r (.run c_state_stores) [] ⟨envX 0 [e_Stt x], [], 0⟩) = (LoopAt (Ok Try.prog (Tab.q TL1)) c_state_stores_l1 (XSt.mk [(8, .int .i64 0), (7, .int .i64 (↑(List.length (Stt.saq x)) : Int)), (6, e_row 5 e_Entry (Stt.saq
 x)), (2, .bool false), (1, .ptr 0 [] 0)] [(0, some (e_Stt x))] 1) [Frm.blk 0, Frm.seq c_state_stores_p1] (finQR [AR.tmp 2] r)) := by kernel_rfl
theorem r_iq0 (x : Stt) (r : XV) : (goQ Try.prog TL0 [(.tmp 4)] r (.run c_slices_IndexFunc_Request_Request) [] ⟨envX 0 [e_row 8 e_Req x.table, .clo 61 [.fptr (e_Stt x)]], [], 0⟩) = (LoopAt (Ok Try.prog (Tab.q TL0)) c_slices_IndexFunc_Request_Request_l1 (XSt.mk [(8, .int .i64 0), (7, .int .i64 (↑(List.length (Stt.table x)) : Int)), (4, .int
 .i64 0), (0, e_row 8 e_Req (Stt.table x)), (1, .clo 61 [.fptr (e_Stt x)])] [] 0) [Frm.blk 0, Frm.seq c_slices_IndexFunc_Request_Request_p1] (finQR [AR.tmp 4] r))
 := by kernel_rfl
theorem r_iq1 (x : Stt) (i : Nat) (r : XV) (A : XSt → Prop) : (goQ Try.prog TL0 [(.tmp 4)] r (.run c_slices_IndexFunc_Request_Request_l1) [.lp c_slices_IndexFunc_Request_Request_l1 A, .blk 0, .seq c_slices_IndexFunc_Request_Request_p1] (rqSt x i)) = (bif decide ((↑i : Int) < (↑(List.length (Stt.table x)) : Int)) then bif decide ((↑i : Int) < (↑(List.length (Stt.table x)) : Int)) then ∃ (s : List Int × Req),
 ArgsLe [e_row 1 e_u8 (Stt.mem x), e_Req (ix (Stt.table x) i)] [e_row 1 e_u8 (Prod.fst s), e_Req (Prod.snd s)] ∧ PreIs (List.length (Prod.fst s) ≤ 1000000) ∧ ∀ (y
 : Bool), y = reqOk (Prod.snd s) (↑(List.length (Prod.fst s)) : Int) → bif !y then ResLe (.int .i64 (↑i : Int)) r else A (XSt.mk [(8, .int .i64 (IntKind.wrap .i64
 ((↑i : Int) + (1 : Int)))), (0, e_row 8 e_Req (Stt.table x)), (1, .clo 61 [.fptr (e_Stt x)]), (7, .int .i64 (↑(List.length (Stt.table x)) : Int))] [] 0) else False
else
 ResLe (.int .i64 (-1 : Int)) r) := by kernel_rfl
theorem r_que (c : Cfg) (x : Stt) (r : XV) : (quietGo TL0 80 (callI TL0 80 20) 33 [e_Cfg c, e_Stt x] (fun v => ResLe v r)) = (bif bif decide ((↑(List.length (Stt.ldq x)) : Int) ≤ Cfg.ldq c) then decide ((↑(List.length (Stt.ldq x)) : Int) ≤ Cfg.ldq c) else true then bif bif bif decide
 ((↑(List.length (Stt.ldq x)) : Int) ≤ Cfg.ldq c) then decide ((↑(List.length (Stt.sdq x)) : Int) ≤ Cfg.sdq c) else false then bif decide ((↑(List.length (Stt.ldq
 x)) : Int) ≤ Cfg.ldq c) then decide ((↑(List.length (Stt.sdq x)) : Int) ≤ Cfg.sdq c) else false else true then bif bif bif bif decide ((↑(List.length (Stt.ldq x))
 : Int) ≤ Cfg.ldq c) then decide ((↑(List.length (Stt.sdq x)) : Int) ≤ Cfg.sdq c) else false then decide ((↑(List.length (Stt.aeq x)) : Int) ≤ Cfg.aeq c) else false
 then bif bif decide ((↑(List.length (Stt.ldq x)) : Int) ≤ Cfg.ldq c) then decide ((↑(List.length (Stt.sdq x)) : Int) ≤ Cfg.sdq c) else false then decide ((↑(List.length
 (Stt.aeq x)) : Int) ≤ Cfg.aeq c) else false else true then bif bif bif bif bif decide ((↑(List.length (Stt.ldq x)) : Int) ≤ Cfg.ldq c) then decide ((↑(List.length
 (Stt.sdq x)) : Int) ≤ Cfg.sdq c) else false then decide ((↑(List.length (Stt.aeq x)) : Int) ≤ Cfg.aeq c) else false then decide ((↑(List.length (Stt.abq x)) : Int)
 ≤ Cfg.abq c) else false then bif bif bif decide ((↑(List.length (Stt.ldq x)) : Int) ≤ Cfg.ldq c) then decide ((↑(List.length (Stt.sdq x)) : Int) ≤ Cfg.sdq c) else
 false then decide ((↑(List.length (Stt.aeq x)) : Int) ≤ Cfg.aeq c) else false then decide ((↑(List.length (Stt.abq x)) : Int) ≤ Cfg.abq c) else false else true then
 bif bif bif bif bif bif decide ((↑(List.length (Stt.ldq x)) : Int) ≤ Cfg.ldq c) then decide ((↑(List.length (Stt.sdq x)) : Int) ≤ Cfg.sdq c) else false then decide
 ((↑(List.length (Stt.aeq x)) : Int) ≤ Cfg.aeq c) else false then decide ((↑(List.length (Stt.abq x)) : Int) ≤ Cfg.abq c) else false then decide ((↑(List.length (Stt.ebq
 x)) : Int) ≤ Cfg.ebq c) else false then bif bif bif bif decide ((↑(List.length (Stt.ldq x)) : Int) ≤ Cfg.ldq c) then decide ((↑(List.length (Stt.sdq x)) : Int) ≤
 Cfg.sdq c) else false then decide ((↑(List.length (Stt.aeq x)) : Int) ≤ Cfg.aeq c) else false then decide ((↑(List.length (Stt.abq x)) : Int) ≤ Cfg.abq c) else false
 then decide ((↑(List.length (Stt.ebq x)) : Int) ≤ Cfg.ebq c) else false else true then bif bif bif bif bif bif bif decide ((↑(List.length (Stt.ldq x)) : Int) ≤ Cfg.ldq
 c) then decide ((↑(List.length (Stt.sdq x)) : Int) ≤ Cfg.sdq c) else false then decide ((↑(List.length (Stt.aeq x)) : Int) ≤ Cfg.aeq c) else false then decide ((↑(List.length
 (Stt.abq x)) : Int) ≤ Cfg.abq c) else false then decide ((↑(List.length (Stt.ebq x)) : Int) ≤ Cfg.ebq c) else false then decide ((↑(List.length (Stt.saq x)) : Int)
 ≤ Cfg.saq c) else false then bif bif bif bif bif decide ((↑(List.length (Stt.ldq x)) : Int) ≤ Cfg.ldq c) then decide ((↑(List.length (Stt.sdq x)) : Int) ≤ Cfg.sdq
 c) else false then decide ((↑(List.length (Stt.aeq x)) : Int) ≤ Cfg.aeq c) else false then decide ((↑(List.length (Stt.abq x)) : Int) ≤ Cfg.abq c) else false then
 decide ((↑(List.length (Stt.ebq x)) : Int) ≤ Cfg.ebq c) else false then decide ((↑(List.length (Stt.saq x)) : Int) ≤ Cfg.saq c) else false else true then bif bif
 bif bif bif bif bif bif decide ((↑(List.length (Stt.ldq x)) : Int) ≤ Cfg.ldq c) then decide ((↑(List.length (Stt.sdq x)) : Int) ≤ Cfg.sdq c) else false then decide
 ((↑(List.length (Stt.aeq x)) : Int) ≤ Cfg.aeq c) else false then decide ((↑(List.length (Stt.abq x)) : Int) ≤ Cfg.abq c) else false then decide ((↑(List.length (Stt.ebq
 x)) : Int) ≤ Cfg.ebq c) else false then decide ((↑(List.length (Stt.saq x)) : Int) ≤ Cfg.saq c) else false then decide ((↑(List.length (Stt.table x)) : Int) ≤ Cfg.flight
 c) else false then bif bif bif bif bif bif decide ((↑(List.length (Stt.ldq x)) : Int) ≤ Cfg.ldq c) then decide ((↑(List.length (Stt.sdq x)) : Int) ≤ Cfg.sdq c) else
 false then decide ((↑(List.length (Stt.aeq x)) : Int) ≤ Cfg.aeq c) else false then decide ((↑(List.length (Stt.abq x)) : Int) ≤ Cfg.abq c) else false then decide
 ((↑(List.length (Stt.ebq x)) : Int) ≤ Cfg.ebq c) else false then decide ((↑(List.length (Stt.saq x)) : Int) ≤ Cfg.saq c) else false then decide ((↑(List.length (Stt.table
 x)) : Int) ≤ Cfg.flight c) else false else true then ResLe (.bool (bif bif bif bif bif bif bif decide ((↑(List.length (Stt.ldq x)) : Int) ≤ Cfg.ldq c) then decide
 ((↑(List.length (Stt.sdq x)) : Int) ≤ Cfg.sdq c) else false then decide ((↑(List.length (Stt.aeq x)) : Int) ≤ Cfg.aeq c) else false then decide ((↑(List.length (Stt.abq
 x)) : Int) ≤ Cfg.abq c) else false then decide ((↑(List.length (Stt.ebq x)) : Int) ≤ Cfg.ebq c) else false then decide ((↑(List.length (Stt.saq x)) : Int) ≤ Cfg.saq
 c) else false then decide ((↑(List.length (Stt.table x)) : Int) ≤ Cfg.flight c) else false then decide ((↑(List.length (Stt.mem x)) : Int) ≤ 65536) else false))
 r else False else False else False else False else False else False
else False) := by kernel_rfl
theorem r_sent1 (x : Stt) (i n : Nat) (r : XV) (A : XSt → Prop) : (goQ Try.prog TL0 [(.tmp 2)] r (.run c_state_sent_l1) [.lp c_state_sent_l1 A, .blk 0, .seq c_state_sent_p1] ⟨[(9, .int .i64 i), (8, .int .i64 x.table.length), (7, e_row 8 e_Req x.table), (3, .int .i64 n), (1, .ptr 0 [] 0)], [(0, some (e_Stt x))], 1⟩) = (bif decide ((↑i : Int) < (↑(List.length (Stt.table x)) : Int)) then bif decide ((↑i : Int) < (↑(List.length (Stt.table x)) : Int)) then bif !Req.store (ix (Stt.table
 x) i) then A (XSt.mk [(9, .int .i64 (IntKind.wrap .i64 ((↑i : Int) + (1 : Int)))), (8, .int .i64 (↑(List.length (Stt.table x)) : Int)), (7, e_row 8 e_Req (Stt.table
 x)), (3, .int .i64 (↑n : Int)), (1, .ptr 0 [] 0)] [(1, some (e_Req (ix (Stt.table x) i))), (0, some (e_Stt x))] 2) else bif bif decide (0 < (↑(List.length (Stt.saq
 x)) : Int)) then true else !!decide ((↑(List.length (Stt.saq x)) : Int) = 0) then bif bif decide ((↑(List.length (Stt.saq x)) : Int) = 0) then true else !decide
 ((↑(List.length (Stt.saq x)) : Int) = 0) then bif bif decide (0 < (↑(List.length (Stt.saq x)) : Int)) then true else !!bif decide ((↑(List.length (Stt.saq x)) :
 Int) = 0) then true else decide ¬Req.addr (ix (Stt.table x) i) = Entry.addr (ix (Stt.saq x) 0) then bif bif bif decide ((↑(List.length (Stt.saq x)) : Int) = 0) then
 true else decide ¬Req.addr (ix (Stt.table x) i) = Entry.addr (ix (Stt.saq x) 0) then true else !bif decide ((↑(List.length (Stt.saq x)) : Int) = 0) then true else
 decide ¬Req.addr (ix (Stt.table x) i) = Entry.addr (ix (Stt.saq x) 0) then bif bif bif decide ((↑(List.length (Stt.saq x)) : Int) = 0) then true else decide ¬Req.addr
 (ix (Stt.table x) i) = Entry.addr (ix (Stt.saq x) 0) then true else decide ¬Req.size (ix (Stt.table x) i) = Entry.size (ix (Stt.saq x) 0) then ResLe (.bool false)
 r else A (XSt.mk [(9, .int .i64 (IntKind.wrap .i64 ((↑i : Int) + (1 : Int)))), (3, .int .i64 (IntKind.wrap .i64 ((↑n : Int) + (1 : Int)))), (8, .int .i64 (↑(List.length
 (Stt.table x)) : Int)), (7, e_row 8 e_Req (Stt.table x)), (1, .ptr 0 [] 0)] [(1, some (e_Req (ix (Stt.table x) i))), (0, some (e_Stt x))] 2) else False else False
 else False else False else False
else bif bif decide (0 < (↑(List.length (Stt.saq x)) : Int)) then true else !decide ((↑(List.length (Stt.saq x)) : Int) > 0) then
 bif bif decide ((↑(List.length (Stt.saq x)) : Int) > 0) then decide ((↑(List.length (Stt.saq x)) : Int) > 0) else true then bif bif decide ((↑(List.length (Stt.saq
 x)) : Int) > 0) then Entry.known (ix (Stt.saq x) 0) else false then ResLe (.bool (decide ((↑n : Int) = 1))) r else ResLe (.bool (decide ((↑n : Int) = 0))) r else
 False else False) := by kernel_rfl
theorem r_sto1 (x : Stt) (i : Nat) (r : XV) (A : XSt → Prop) : (goQ Try.prog TL1 [(.tmp 2)] r (.run c_state_stores_l1) [.lp c_state_stores_l1 A, .blk 0, .seq c_state_stores_p1] ⟨[(8, .int .i64 i), (7, .int .i64 x.saq.length), (6, e_row 5 e_Entry x.saq), (1, .ptr 0 [] 0)], [(0, some (e_Stt x))], 1⟩) = (bif decide ((↑i : Int) < (↑(List.length (Stt.saq x)) : Int)) then bif decide ((↑i : Int) < (↑(List.length (Stt.saq x)) : Int)) then ∃ (s : List Int × Int × Int),
 ArgsLe [e_row 1 e_u8 (Stt.mem x), .int .i64 (Entry.addr (ix (Stt.saq x) i)), .int .i64 (Entry.size (ix (Stt.saq x) i))] [e_row 1 e_u8 (Prod.fst s), .int .i64 (Prod.fst
 (Prod.snd s)), .int .i64 (Prod.snd (Prod.snd s))] ∧ PreIs (List.length (Prod.fst s) ≤ 1000000) ∧ ∀ (y : Bool), y = liesB (Prod.fst (Prod.snd s)) (Prod.snd (Prod.snd
 s)) (↑(List.length (Prod.fst s)) : Int) → bif !!y then ∃ (s : Int × Int × List Int), ArgsLe [.int .i64 0, .int .i64 1099511627776, .row true 1 1 fun a => .int .i64
 (Entry.step (ix (Stt.saq x) i))] [.int .i64 (Prod.fst s), .int .i64 (Prod.fst (Prod.snd s)), e_row 1 e_i64 (Prod.snd (Prod.snd s))] ∧ PreIs (List.length (Prod.snd
 (Prod.snd s)) ≤ 1000000) ∧ ∀ (y_1 : Bool), y_1 = withinF (Prod.fst s) (Prod.fst (Prod.snd s)) (Prod.snd (Prod.snd s)) → bif bif !bif !y then true else !y_1 then
 true else !!bif !y then true else !y_1 then bif bif bif Entry.known (ix (Stt.saq x) i) then bif !bif !y then true else !y_1 then Entry.known (ix (Stt.saq x) i) else
 false else true then true else !!bif !y then true else !y_1 then bif bif bif !y then true else !y_1 then true else !bif !y then true else !y_1 then bif bif bif !y
 then true else !y_1 then true else bif Entry.known (ix (Stt.saq x) i) then decide ((↑i : Int) > 0) else false then ResLe (.bool false) r else A (XSt.mk [(8, .int
 .i64 (IntKind.wrap .i64 ((↑i : Int) + (1 : Int)))), (7, .int .i64 (↑(List.length (Stt.saq x)) : Int)), (6, e_row 5 e_Entry (Stt.saq x)), (1, .ptr 0 [] 0)] [(1, some
 (e_Entry (ix (Stt.saq x) i))), (0, some (e_Stt x))] 2) else False else False else False else bif !y then bif bif bif Entry.known (ix (Stt.saq x) i) then false else
 true then true else true then ResLe (.bool false) r else False else False else False
else ∃ (s : Stt), ArgsLe [e_row 8 e_Req (Stt.table x), .clo 61 [.fptr (e_Stt
 x)]] [e_row 8 e_Req (Stt.table s), .clo 61 [.fptr (e_Stt s)]] ∧ PreIs (Stt.ok s) ∧ ∀ (y : Int), y = idxF (badRq s) (Stt.table s) → bif !decide (y ≥ 0) then ∃ (s
 : Stt), ArgsLe [e_Stt x] [e_Stt s] ∧ PreIs (Stt.ok s) ∧ ∀ (y_1 : Bool), y_1 = sentB s → ResLe (.bool (bif !decide (y ≥ 0) then y_1 else false)) r else bif !!decide
 (y ≥ 0) then ResLe (.bool false) r else False) := by kernel_rfl
theorem w_big {n : Int} : withinF 0 1099511627776 [n] = bigB n := w1F
theorem sk_sSide : SkOk Try.prog (30, sidS) := skOf_ok fun ⟨s, e, d⟩ _ => by
  have key : ∀ b : Int, ¬ (0 ≤ b ∧ b < s.blocks.length) → (decide (b < 0) || decide (b ≥ (s.blocks.length : Int))) = true := fun b h => by
    rw [Bool.or_eq_true, decide_eq_true_eq, decide_eq_true_eq]; omega
  cases e with
  | false =>
    show Pure _ _ (cons [e_Split s, e_Side d, .clo 31 []]) (con (.bool (sideOk s false d)))
    refine pureR (u := 80) (k := 20) mix TL0ok ?_
    refine Eq.mpr (r_sd1 s d _) ?_
    simp only [g1, g2, g3, g4, g5, g6, g7, allN_true, cond_true, Nat.le_refl, decide_true, pl_eq]
    simp only [bor, band]
    unfold sideOk
    by_cases hb : 0 ≤ d.pos.block ∧ d.pos.block < s.blocks.length
    case neg =>
      rw [key _ hb, decide_eq_false hb]
      exact .rfl
    obtain ⟨b1, b2⟩ := hb
    have b3 : ¬ d.pos.block < 0 := by omega
    have b4 : ¬ d.pos.block ≥ (s.blocks.length : Int) := by omega
    simp only [b1, b2, b3, b4, and_self, decide_true, decide_false, Bool.or_self, cond_true, cond_false, Bool.true_and]
    refine ⟨(0, ((ix s.blocks d.pos.block.toNat).a.length : Int), [d.pos.index]), ⟨lqs_cons (.refl _) (lqs_cons (.refl _) (lqs_cons (lq_lit1 (.refl _)) lqs_nil))⟩, ⟨by show 1 ≤ 1000000; omega⟩, ?_⟩
    intro y hy
    replace hy : y = withinF 0 (cellsF s false d.pos.block).length [d.pos.index] := hy
    rw [← hy]
    clear hy
    cases y with
    | false => exact .rfl
    | true =>
    refine ⟨(0, 1099511627776, [d.pos.base, d.wait, d.done]), ⟨lqs_cons (.refl _) (lqs_cons (.refl _) (lqs_cons (lq_lit3 (.refl _) (.refl _) (.refl _)) lqs_nil))⟩, ⟨by show 3 ≤ 1000000; omega⟩, ?_⟩
    intro y hy
    replace hy : y = withinF 0 1099511627776 [d.pos.base, d.wait, d.done] := hy
    rw [← hy]
    clear hy
    cases y with
    | false => exact .rfl
    | true =>
    refine ⟨(-1, 1099511627776, tabL 16 d.ready), ⟨lqs_cons (.refl _) (lqs_cons (.refl _) (lqs_cons (lq_lit tabL_len.symm fun _ i hi => ?_) lqs_nil))⟩, ⟨by show (tabL 16 d.ready).length ≤ 1000000; rw [tabL_len]; omega⟩, ?_⟩
    · rw [ix_tabL hi]; rfl
    intro y hy
    replace hy : y = withinF (-1) 1099511627776 (tabL 16 d.ready) := hy
    rw [← hy]
    clear hy
    cases y <;> exact .rfl
  | true =>
    show Pure _ _ (cons [e_Split s, e_Side d, .clo 32 []]) (con (.bool (sideOk s true d)))
    refine pureR (u := 80) (k := 20) mix TL0ok ?_
    refine Eq.mpr (r_sd2 s d _) ?_
    simp only [g1, g2, g3, g4, g5, g6, g7, allN_true, cond_true, Nat.le_refl, decide_true, pl_eq]
    simp only [bor, band]
    unfold sideOk
    by_cases hb : 0 ≤ d.pos.block ∧ d.pos.block < s.blocks.length
    case neg =>
      rw [key _ hb, decide_eq_false hb]
      exact .rfl
    obtain ⟨b1, b2⟩ := hb
    have b3 : ¬ d.pos.block < 0 := by omega
    have b4 : ¬ d.pos.block ≥ (s.blocks.length : Int) := by omega
    simp only [b1, b2, b3, b4, and_self, decide_true, decide_false, Bool.or_self, cond_true, cond_false, Bool.true_and]
    refine ⟨(0, ((ix s.blocks d.pos.block.toNat).e.length : Int), [d.pos.index]), ⟨lqs_cons (.refl _) (lqs_cons (.refl _) (lqs_cons (lq_lit1 (.refl _)) lqs_nil))⟩, ⟨by show 1 ≤ 1000000; omega⟩, ?_⟩
    intro y hy
    replace hy : y = withinF 0 (cellsF s true d.pos.block).length [d.pos.index] := hy
    rw [← hy]
    clear hy
    cases y with
    | false => exact .rfl
    | true =>
    refine ⟨(0, 1099511627776, [d.pos.base, d.wait, d.done]), ⟨lqs_cons (.refl _) (lqs_cons (.refl _) (lqs_cons (lq_lit3 (.refl _) (.refl _) (.refl _)) lqs_nil))⟩, ⟨by show 3 ≤ 1000000; omega⟩, ?_⟩
    intro y hy
    replace hy : y = withinF 0 1099511627776 [d.pos.base, d.wait, d.done] := hy
    rw [← hy]
    clear hy
    cases y with
    | false => exact .rfl
    | true =>
    refine ⟨(-1, 1099511627776, tabL 16 d.ready), ⟨lqs_cons (.refl _) (lqs_cons (.refl _) (lqs_cons (lq_lit tabL_len.symm fun _ i hi => ?_) lqs_nil))⟩, ⟨by show (tabL 16 d.ready).length ≤ 1000000; rw [tabL_len]; omega⟩, ?_⟩
    · rw [ix_tabL hi]; rfl
    intro y hy
    replace hy : y = withinF (-1) 1099511627776 (tabL 16 d.ready) := hy
    rw [← hy]
    clear hy
    cases y <;> exact .rfl
theorem sk_que : SkOk Try.prog (33, queS) := skOf_ok fun ⟨c, x⟩ _ => by
  show Pure _ _ (cons [e_Cfg c, e_Stt x]) (con (.bool (quesF c x)))
  refine pureR (u := 80) (k := 20) mix TL0ok ?_
  refine Eq.mpr (r_que c x _) ?_
  simp only [g1, g2, g3, g4, g5, g6, g7, allN_true, cond_true, Nat.le_refl, decide_true, pl_eq]
  simp only [band]
  refine resB ?_
  unfold quesF
  simp only [Bool.and_assoc]
theorem sk_irq : SkOk Try.prog (84, irqS) := skOf_ok fun x h => by
  have ho : x.ok := h
  have hl : x.table.length ≤ 1000000 := ho.2.2.2.2.2.2.2.1
  have hm : x.mem.length ≤ 1000000 := ho.2.2.2.2.2.2.2.2.1
  show Pure _ _ (cons [e_row 8 e_Req x.table, .clo 61 [.fptr (e_Stt x)]]) (con (.int .i64 (idxF (badRq x) x.table)))
  refine pureQ mix TL0ok t_slices_IndexFunc_Request_Request (Nat.le_of_ble_eq_true rfl) ?_
  refine Eq.mpr (r_iq0 x _) ?_
  refine loopQ mix TL0ok (fun i : Nat => rqSt x i) (fun i => i ≤ x.table.length ∧ ∀ j, j < i → badRq x (ix x.table j) = false) (fun i => x.table.length - i) 0 ⟨Nat.zero_le _, fun j hj => by omega⟩ (.of (weakX ⟨rfl, rfl, rfl, rfl, trivial⟩ trivial (Nat.le_refl _))) ?_
  rintro i ⟨hi1, hp⟩
  refine Eq.mpr (r_iq1 x i _ _) ?_
  by_cases hlt : i < x.table.length
  · have h1 : (i : Int) < (x.table.length : Int) := by omega
    have w1 : IntKind.i64.wrap ((i : Int) + 1) = ((i + 1 : Nat) : Int) := wrap_i64 (by omega) (by omega)
    simp only [g1, g2, g3, g4, g5, g6, g7, allN_true, cond_true, Nat.le_refl, decide_true, pl_eq, h1, w1]
    refine ⟨(x.mem, ix x.table i), .rfl, ⟨hm⟩, ?_⟩
    intro y hy
    replace hy : y = reqOk (ix x.table i) x.mem.length := hy
    subst hy
    refine cnd2 (fun h => ?_) (fun h => ?_)
    · have e : idxF (badRq x) x.table = i := idxF_some hlt h hp
      rw [e]; exact .rfl
    · refine ⟨i + 1, ⟨hlt, fun j hj => ?_⟩, .of (weakX ⟨rfl, rfl, rfl, rfl, trivial⟩ trivial (Nat.le_refl _)), by omega⟩
      by_cases hji : j = i
      · subst hji; exact h
      · exact hp j (by omega)
  · have h1 : ¬ (i : Int) < (x.table.length : Int) := by omega
    simp only [h1, decide_false, cond_false]
    have e : idxF (badRq x) x.table = -1 := idxF_none fun j hj => hp j (by omega)
    rw [e]; exact .rfl
theorem cnt_step {l : List Req} {i : Nat} (h : i < l.length) : cntSt (l.take (i + 1)) = cntSt (l.take i) + if (ix l i).store then 1 else 0 := by
  unfold cntSt
  rw [List.take_succ_eq_append_getElem h, List.countP_append, ix_lt h]
  simp [List.countP_cons]
theorem all_ix {α : Type} [Inhabited α] {l : List α} {p : α → Bool} : l.all p = true ↔ ∀ j, j < l.length → p (ix l j) = true := by
  rw [List.all_eq_true]
  constructor
  · exact fun h j hj => h _ (ix_mem hj)
  · intro h y hy
    obtain ⟨j, hj, rfl⟩ := List.mem_iff_getElem.1 hy
    have := h j hj
    rwa [ix_lt hj] at this
theorem all_no {α : Type} [Inhabited α] {l : List α} {p : α → Bool} {j : Nat} (hj : j < l.length) (h : p (ix l j) = false) : l.all p = false := by
  rw [← Bool.not_eq_true, all_ix]
  intro g
  rw [g j hj] at h
  cases h
theorem sk_sent : SkOk Try.prog (63, senS) := skOf_ok fun x h => by
  have ho : x.ok := h
  have hl : x.table.length ≤ 1000000 := ho.2.2.2.2.2.2.2.1
  show Pure _ _ (cons [e_Stt x]) (con (.bool (sentB x)))
  refine pureQ mix TL0ok t_state_sent (Nat.le_of_ble_eq_true rfl) ?_
  refine Eq.mpr (r_sent0 x _) ?_
  refine loopQ mix TL0ok (fun i : Nat => ⟨[(9, .int .i64 i), (8, .int .i64 x.table.length), (7, e_row 8 e_Req x.table), (3, .int .i64 (cntSt (x.table.take i))), (1, .ptr 0 [] 0)], [(0, some (e_Stt x))], 1⟩) (fun i => i ≤ x.table.length ∧ ∀ j, j < i → fstSt x (ix x.table j) = true) (fun i => x.table.length - i) 0 ⟨Nat.zero_le _, fun j hj => by omega⟩ (.of (weakX ⟨rfl, rfl, rfl, rfl, rfl, trivial⟩ ⟨rfl, trivial⟩ (Nat.le_refl _))) ?_
  rintro i ⟨hi1, hp⟩
  refine Eq.mpr (r_sent1 x i _ _ _) ?_
  have hc : cntSt (x.table.take i) ≤ 1000000 := by
    have : cntSt (x.table.take i) ≤ (x.table.take i).length := List.countP_le_length
    have := List.length_take_le i x.table
    omega
  have zz : ((x.saq.length : Int) = 0) ↔ x.saq.length = 0 := by omega
  by_cases hlt : i < x.table.length
  · have h1 : (i : Int) < (x.table.length : Int) := by omega
    have w1 : IntKind.i64.wrap ((i : Int) + 1) = ((i + 1 : Nat) : Int) := wrap_i64 (by omega) (by omega)
    have w2 : IntKind.i64.wrap ((cntSt (x.table.take i) : Int) + 1) = ((cntSt (x.table.take i) + 1 : Nat) : Int) := wrap_i64 (by omega) (by omega)
    have st := cnt_step hlt
    simp only [g1, g2, g3, g4, g5, g6, g7, allN_true, cond_true, Nat.le_refl, decide_true, pl_eq, h1, w1, w2]
    have nx : fstSt x (ix x.table i) = true → ∀ j, j < i + 1 → fstSt x (ix x.table j) = true := fun h j hj => by
      by_cases hji : j = i
      · subst hji; exact h
      · exact hp j (by omega)
    cases hs : (ix x.table i).store with
    | false =>
      simp only [Bool.not_false, cond_true]
      rw [hs] at st
      refine ⟨i + 1, ⟨hlt, nx (by unfold fstSt; rw [hs]; rfl)⟩, ?_, by omega⟩
      rw [st]
      exact .ofL (weakT ⟨le_is rfl, le_is rfl, le_is rfl, le_is rfl, le_is rfl, trivial⟩ ⟨rfl, trivial⟩ (Nat.le_refl _) rfl)
    | true =>
      simp only [Bool.not_true, cond_false]
      rw [hs] at st
      have bad : fstSt x (ix x.table i) = false → sentB x = false := fun h => by
        unfold sentB
        rw [all_no hlt h]; rfl
      by_cases hz : x.saq.length = 0
      · have hz' : (x.saq.length : Int) = 0 := by omega
        have hz2 : ¬ (0 : Int) < (x.saq.length : Int) := by omega
        rw [bad (by unfold fstSt; rw [hs]; simp [hz])]
        simp only [hz', hz2, decide_true, decide_false, cond_true, cond_false, Bool.not_true, Bool.not_false, bor, Bool.true_or, Bool.or_true]
        exact .rfl
      · have hz' : ¬ (x.saq.length : Int) = 0 := by omega
        have hz2 : (0 : Int) < (x.saq.length : Int) := by omega
        simp only [hz', hz2, decide_true, decide_false, cond_true, cond_false, Bool.not_true, Bool.not_false, bor, Bool.true_or, Bool.or_true, Bool.false_or, Bool.or_not_self]
        refine cnd2 (fun h => ?_) (fun h => ?_)
        · rw [bad (by
            unfold fstSt
            rw [hs, decide_eq_true hz]
            simp only [decide_not, Bool.or_eq_true, Bool.not_eq_true', decide_eq_false_iff_not] at h
            rcases h with h | h <;> simp [h])]
          exact .rfl
        · refine ⟨i + 1, ⟨hlt, nx ?_⟩, ?_, by omega⟩
          · unfold fstSt
            rw [hs, decide_eq_true hz]
            simp only [decide_not, Bool.or_eq_false_iff, Bool.not_eq_false', decide_eq_true_eq] at h
            simp [h.1, h.2]
          · rw [st]
            exact .ofL (weakT ⟨le_is rfl, le_is rfl, le_is rfl, le_is rfl, le_is rfl, trivial⟩ ⟨rfl, trivial⟩ (Nat.le_refl _) rfl)
  · have h1 : ¬ (i : Int) < (x.table.length : Int) := by omega
    obtain rfl : i = x.table.length := by omega
    have ha : x.table.all (fstSt x) = true := all_ix.2 hp
    simp only [h1, decide_false, cond_false, g1, g2, g3, g4, g5, g6, g7, allN_true, cond_true, Nat.le_refl, decide_true, pl_eq]
    unfold sentB
    rw [ha, List.take_length]
    by_cases hz : 0 < x.saq.length
    · have hz2 : (0 : Int) < (x.saq.length : Int) := by omega
      have hz3 : (x.saq.length : Int) > 0 := hz2
      simp only [hz2, hz3, decide_true, cond_true, Bool.not_true, hz, true_and, Bool.true_and]
      refine cnd2 (fun h => ?_) (fun h => ?_)
      · rw [if_pos h]
        exact resB (decide_eq_decide.2 (by omega))
      · rw [if_neg (by rw [h]; simp)]
        exact resB (decide_eq_decide.2 (by omega))
    · have hz2 : ¬ (0 : Int) < (x.saq.length : Int) := by omega
      have hz3 : ¬ (x.saq.length : Int) > 0 := hz2
      simp only [hz2, hz3, decide_false, cond_false, cond_true, Bool.not_false, hz, false_and, if_false, Bool.true_and]
      exact resB (decide_eq_decide.2 (by omega))
theorem TL1ok : TabOk Try.prog TL1 := mkT2_ok (clok_state.app clok_slices) trivial trivial ⟨sk_wn, sk_pl, sk_irq, sk_sent, trivial⟩ trivial
theorem sk_stores : SkOk Try.prog (34, stoS) := skOf_ok fun x h => by
  have ho : x.ok := h
  have hl : x.saq.length ≤ 1000000 := ho.2.2.2.2.2.2.1
  have hm : x.mem.length ≤ 1000000 := ho.2.2.2.2.2.2.2.2.1
  show Pure _ _ (cons [e_Stt x]) (con (.bool (storesB x)))
  refine pureQ mix TL1ok t_state_stores (Nat.le_of_ble_eq_true rfl) ?_
  refine Eq.mpr (r_sto0 x _) ?_
  refine loopQ mix TL1ok (fun i : Nat => ⟨[(8, .int .i64 i), (7, .int .i64 x.saq.length), (6, e_row 5 e_Entry x.saq), (1, .ptr 0 [] 0)], [(0, some (e_Stt x))], 1⟩) (fun i => i ≤ x.saq.length ∧ ∀ j, j < i → entOk x j (ix x.saq j) = true) (fun i => x.saq.length - i) 0 ⟨Nat.zero_le _, fun j hj => by omega⟩ (.of (weakX ⟨rfl, rfl, rfl, rfl, trivial⟩ ⟨rfl, trivial⟩ (Nat.le_refl _))) ?_
  rintro i ⟨hi1, hp⟩
  refine Eq.mpr (r_sto1 x i _ _) ?_
  by_cases hlt : i < x.saq.length
  · have h1 : (i : Int) < (x.saq.length : Int) := by omega
    have w1 : IntKind.i64.wrap ((i : Int) + 1) = ((i + 1 : Nat) : Int) := wrap_i64 (by omega) (by omega)
    have bad : entOk x i (ix x.saq i) = false → storesB x = false := fun h => by
      unfold storesB
      rw [allN_false hlt h]; rfl
    have nx : entOk x i (ix x.saq i) = true → ∃ j, (j ≤ x.saq.length ∧ ∀ k, k < j → entOk x k (ix x.saq k) = true) ∧ WeakE 1 (XSt.st (XSt.mk [(8, .int .i64 ((i + 1 : Nat) : Int)), (7, .int .i64 x.saq.length), (6, e_row 5 e_Entry x.saq), (1, .ptr 0 [] 0)] [(1, some (e_Entry (ix x.saq i))), (0, some (e_Stt x))] 2)) (XSt.st (XSt.mk [(8, .int .i64 (j : Nat)), (7, .int .i64 x.saq.length), (6, e_row 5 e_Entry x.saq), (1, .ptr 0 [] 0)] [(0, some (e_Stt x))] 1)) ∧ x.saq.length - j < x.saq.length - i := fun h => by
      refine ⟨i + 1, ⟨hlt, fun j hj => ?_⟩, .ofL (weakT ⟨le_is rfl, le_is rfl, le_is rfl, le_is rfl, trivial⟩ ⟨rfl, trivial⟩ (Nat.le_refl _) rfl), by omega⟩
      by_cases hji : j = i
      · subst hji; exact h
      · exact hp j (by omega)
    have ed : decide ((i : Int) > 0) = decide (0 < i) := decide_eq_decide.2 (by omega)
    simp only [h1, w1, decide_true, cond_true, ed]
    refine ⟨(x.mem, (ix x.saq i).addr, (ix x.saq i).size), .rfl, ⟨hm⟩, ?_⟩
    intro y hy
    replace hy : y = liesB (ix x.saq i).addr (ix x.saq i).size x.mem.length := hy
    have e0 : entOk x i (ix x.saq i) = (y && (bigB (ix x.saq i).step && !((ix x.saq i).known && decide (0 < i)))) := by rw [hy]; rfl
    clear hy
    cases y with
    | false =>
      rw [bad e0]
      cases (ix x.saq i).known <;> exact .rfl
    | true =>
    refine ⟨(0, 1099511627776, [(ix x.saq i).step]), ⟨lqs_cons (.refl _) (lqs_cons (.refl _) (lqs_cons (lq_lit1 (.refl _)) lqs_nil))⟩, ⟨by show 1 ≤ 1000000; omega⟩, ?_⟩
    intro y hy
    replace hy : y = withinF 0 1099511627776 [(ix x.saq i).step] := hy
    rw [w_big] at hy
    rw [← hy] at e0
    clear hy
    cases y with
    | false =>
      rw [bad e0]
      cases (ix x.saq i).known <;> exact .rfl
    | true =>
      cases hk : (ix x.saq i).known with
      | false => rw [hk] at e0; exact nx e0
      | true =>
        rw [hk] at e0
        cases hd : decide (0 < i) with
        | false => rw [hd] at e0; exact nx e0
        | true => rw [hd] at e0; rw [bad e0]; exact .rfl
  · have h1 : ¬ (i : Int) < (x.saq.length : Int) := by omega
    obtain rfl : i = x.saq.length := by omega
    have ha : allN (fun i => entOk x i (ix x.saq i)) x.saq.length = true := allN_iff.2 hp
    simp only [h1, decide_false, cond_false]
    refine ⟨x, .rfl, ⟨ho⟩, ?_⟩
    intro y hy
    replace hy : y = idxF (badRq x) x.table := hy
    subst hy
    have e1 : x.table.all (fun q => reqOk q x.mem.length) = !x.table.any (badRq x) := by
      rw [List.not_any_eq_all_not]
      congr 1
      funext q
      unfold badRq
      rw [Bool.not_not]
    have e0 : storesB x = (!x.table.any (badRq x) && sentB x) := by
      unfold storesB
      rw [ha, e1]
      rfl
    rw [e0]
    simp only [idxF_ge]
    cases x.table.any (badRq x) with
    | true => exact .rfl
    | false =>
    refine ⟨x, .rfl, ⟨ho⟩, ?_⟩
    intro y hy
    replace hy : y = sentB x := hy
    rw [← hy]
    cases y <;> exact .rfl
theorem sk_trap : SkOk Try.prog (35, trpS) := skOf_ok fun t _ => by
  show Pure _ _ (cons [e_Trp t]) (con (.bool (trapOk t)))
  refine pureR (u := 80) (k := 20) mix TK1ok ?_
  refine Eq.mpr (r_tp t _) ?_
  unfold trapOk
  by_cases hk : t.kind = 0
  · simp only [hk, decide_true, cond_true, if_true, g1, g2, g3, g4, g5, g6, g7, allN_true, cond_true, Nat.le_refl, decide_true, pl_eq]
    simp only [band]
    exact .rfl
  · simp only [hk, decide_false, cond_false, if_false]
    refine ⟨(1, 4, [t.kind]), ⟨lqs_cons (.refl _) (lqs_cons (.refl _) (lqs_cons (lq_lit1 (.refl _)) lqs_nil))⟩, ⟨by show 1 ≤ 1000000; omega⟩, ?_⟩
    intro y hy
    replace hy : y = withinF 1 4 [t.kind] := hy
    rw [← w1F, ← hy]
    clear hy
    cases y with
    | false => exact .rfl
    | true =>
    refine ⟨(0, 1099511627776, [t.step, t.pc]), ⟨lqs_cons (.refl _) (lqs_cons (.refl _) (lqs_cons (lq_lit2 (.refl _) (.refl _)) lqs_nil))⟩, ⟨by show 2 ≤ 1000000; omega⟩, ?_⟩
    intro y hy
    replace hy : y = withinF 0 1099511627776 [t.step, t.pc] := hy
    have e : withinF 0 1099511627776 [t.step, t.pc] = (bigB t.step && bigB t.pc) := by simp [withinF, bigB]
    rw [← e, ← hy]
    exact .rfl
theorem TM0ok : TabOk Try.prog TM0 := mkT2_ok clok_state trivial trivial ⟨sk_cfg, sk_wn, sk_sSide, sk_que, sk_stores, sk_trap, trivial⟩ trivial
theorem r_right (c : Cfg) (s : Split) (x : Stt) (r : XV) : (quietGo TM0 80 (callI TM0 80 20) 16 [e_Cfg c, e_Split s, e_Stt x] (fun v => ResLe v r)) = (∃ (s_1 : Cfg), ArgsLe [e_Cfg c] [e_Cfg s_1] ∧ PreIs True ∧ ∀ (y : Bool), y = rightCfg s_1 → bif y then ∃ (s_2 : Split × Bool × Side), ArgsLe [e_Split s, e_Side
 (Stt.a x), .clo 31 []] [e_Split (Prod.fst s_2), e_Side (Prod.snd (Prod.snd s_2)), .clo (bif Prod.fst (Prod.snd s_2) then 32 else 31) []] ∧ PreIs True ∧ ∀ (y_1 :
 Bool), y_1 = sideOk (Prod.fst s_2) (Prod.fst (Prod.snd s_2)) (Prod.snd (Prod.snd s_2)) → bif bif y then y_1 else false then ∃ (s_3 : Split × Bool × Side), ArgsLe
 [e_Split s, e_Side (Stt.e x), .clo 32 []] [e_Split (Prod.fst s_3), e_Side (Prod.snd (Prod.snd s_3)), .clo (bif Prod.fst (Prod.snd s_3) then 32 else 31) []] ∧ PreIs
 True ∧ ∀ (y_2 : Bool), y_2 = sideOk (Prod.fst s_3) (Prod.fst (Prod.snd s_3)) (Prod.snd (Prod.snd s_3)) → bif bif bif y then y_1 else false then y_2 else false then
 ∃ (s : Int × Int × List Int), ArgsLe [.int .i64 0, .int .i64 1099511627776, .row true 1 4 fun a => .int .i64 (bif Nat.beq a 0 then Stt.cycle x else bif Nat.beq (a
 - 1) 0 then Stt.lats x else bif Nat.beq (a - 1 - 1) 0 then Stt.picks x else Stt.tags x)] [.int .i64 (Prod.fst s), .int .i64 (Prod.fst (Prod.snd s)), e_row 1 e_i64
 (Prod.snd (Prod.snd s))] ∧ PreIs (List.length (Prod.snd (Prod.snd s)) ≤ 1000000) ∧ ∀ (y_3 : Bool), y_3 = withinF (Prod.fst s) (Prod.fst (Prod.snd s)) (Prod.snd (Prod.snd
 s)) → bif bif bif bif y then y_1 else false then y_2 else false then y_3 else false then ∃ (s : Cfg × Stt), ArgsLe [e_Cfg c, e_Stt x] [e_Cfg (Prod.fst s), e_Stt
 (Prod.snd s)] ∧ PreIs True ∧ ∀ (y_4 : Bool), y_4 = quesF (Prod.fst s) (Prod.snd s) → bif bif bif bif bif y then y_1 else false then y_2 else false then y_3 else
 false then y_4 else false then ∃ (s : Stt), ArgsLe [e_Stt x] [e_Stt s] ∧ PreIs (Stt.ok s) ∧ ∀ (y_5 : Bool), y_5 = storesB s → bif bif bif bif bif bif y then y_1
 else false then y_2 else false then y_3 else false then y_4 else false then y_5 else false then ∃ (s : Trp), ArgsLe [e_Trp (Stt.trap x)] [e_Trp s] ∧ PreIs True ∧
 ∀ (y_6 : Bool), y_6 = trapOk s → ResLe (.bool (bif bif bif bif bif bif y then y_1 else false then y_2 else false then y_3 else false then y_4 else false then y_5
 else false then y_6 else false)) r else bif !bif bif bif bif bif y then y_1 else false then y_2 else false then y_3 else false then y_4 else false then y_5 else
 false then ResLe (.bool false) r else False else bif !bif bif bif bif y then y_1 else false then y_2 else false then y_3 else false then y_4 else false then ResLe
 (.bool false) r else False else bif !bif bif bif y then y_1 else false then y_2 else false then y_3 else false then ResLe (.bool false) r else False else bif !bif
 bif y then y_1 else false then y_2 else false then ResLe (.bool false) r else False else bif !bif y then y_1 else false then ResLe (.bool false) r else False else
 bif !y then ResLe (.bool false) r else False) := by kernel_rfl
theorem sk_right : SkOk Try.prog (16, rigS) := skOf_ok fun ⟨c, s, x⟩ h => by
  have ho : x.ok := h
  show Pure _ _ (cons [e_Cfg c, e_Split s, e_Stt x]) (con (.bool (rightStt c s x)))
  refine pureR (u := 80) (k := 20) mix TM0ok ?_
  refine Eq.mpr (r_right c s x _) ?_
  unfold rightStt
  refine ⟨c, .rfl, ⟨trivial⟩, ?_⟩
  intro y hy
  replace hy : y = rightCfg c := hy
  rw [← hy]
  clear hy
  cases y with
  | false => exact .rfl
  | true =>
  refine ⟨(s, false, x.a), .rfl, ⟨trivial⟩, ?_⟩
  intro y hy
  replace hy : y = sideOk s false x.a := hy
  rw [← hy]
  clear hy
  cases y with
  | false => exact .rfl
  | true =>
  refine ⟨(s, true, x.e), .rfl, ⟨trivial⟩, ?_⟩
  intro y hy
  replace hy : y = sideOk s true x.e := hy
  rw [← hy]
  clear hy
  cases y with
  | false => exact .rfl
  | true =>
  refine ⟨(0, 1099511627776, [x.cycle, x.lats, x.picks, x.tags]), ⟨lqs_cons (.refl _) (lqs_cons (.refl _) (lqs_cons (lq_lit rfl fun _ i hi => by
    match i, hi with
    | 0, _ => rfl
    | 1, _ => rfl
    | 2, _ => rfl
    | 3, _ => rfl
    | n + 4, h => omega) lqs_nil))⟩, ⟨by show 4 ≤ 1000000; omega⟩, ?_⟩
  intro y hy
  replace hy : y = withinF 0 1099511627776 [x.cycle, x.lats, x.picks, x.tags] := hy
  rw [← hy]
  clear hy
  cases y with
  | false => exact .rfl
  | true =>
  refine ⟨(c, x), .rfl, ⟨trivial⟩, ?_⟩
  intro y hy
  replace hy : y = quesF c x := hy
  rw [← hy]
  clear hy
  cases y with
  | false => exact .rfl
  | true =>
  refine ⟨x, .rfl, ⟨ho⟩, ?_⟩
  intro y hy
  replace hy : y = storesB x := hy
  rw [← hy]
  clear hy
  cases y with
  | false => exact .rfl
  | true =>
  refine ⟨x.trap, .rfl, ⟨trivial⟩, ?_⟩
  intro y hy
  replace hy : y = trapOk x.trap := hy
  rw [← hy]
  clear hy
  cases y <;> exact .rfl
end Go.Proofs.Ythmlnmkbeohojaa

