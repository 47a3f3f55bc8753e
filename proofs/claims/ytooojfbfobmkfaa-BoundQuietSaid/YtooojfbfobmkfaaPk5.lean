/- Texts put together. -/
import Derived.Test.YtooojfbfobmkfaaPk4
noncomputable section
namespace Go.Proofs.Ytooojfbfobmkfaa
open Go.Ra
set_option linter.unusedVariables false
set_option linter.unusedSimpArgs false
def TP4 : Tab:=fM qq (iB ++ gG) [(67,kN),(33,aCQ)] [] [] []
def aTP (i : Ins) : Int:=if cT i then i.d else 0
def bBU : List XV → Option ((XV → Prop) → Prop):=eQ (fun i : Ins => [aZ i]) (fun _ => True) (fun i => aTP i) (fun y => .int .i64 y)
def TPm : Tab:=fM qq gG [(67,kN),(81,aLY),(33,aCQ)] [] [] []
def bBV : List XV → XSt → Option ((XV → XSt → Prop) → Prop):=a0D (fun i : Ins => [aZ i]) (fun _ => True) (fun i => aS i) (fun n y => .sl n [] 0 0 y.length 1) (fun y => .tab y.length 1 (fun i => bF (ix y i)))
def TP5 : Tab:=fM qq (iB ++ gG) [] [] [(102,bBU)] [(70,bBV)]
def aML (l out : List Int) (i : Nat) : XSt:=⟨[(5,.int .i64 i),(4,.sl 3 [] 0 0 out.length 1),(3,aB 1 bF l)],[(3,some (.tab out.length 1 (fun i => bF (ix out i))))],4⟩
def oQ (n : Int) : Bool:=decide (1 ≤ n ∧ n ≤ 15)
def aJW (c : Cell) : List Int:=(if c.kind = 1 ∨ c.kind = 2 then aS c.ins ++ [aTP c.ins] else if c.kind = 3 ∨ c.kind = 4 then [c.ins.a] else if c.kind = 7 then [c.ins.d] else if c.kind = 5 ∨ c.kind = 6 ∨ c.kind = 8 then [c.reg] else if c.kind = 9 then aS c.ins else []).filter oQ
def bBW : List XV → Option ((XV → Prop) → Prop):=eQ (fun c : Cell => [cX c]) (fun _ => True) (fun c => aJW c) (fun y => aB 1 bF y)
theorem bBX (i : Ins) (r : XV) : (aQ TP4 80 (bT TP4 80 20) 102 [aZ i] (fun v => aA v r)) = (bif !cT i then aA (.int .i64 0) r else aA (.int .i64 i.d) r):=by kernel_rfl
theorem bBY (i : Ins) (r t : XV) : (goM Try.prog TPm [(.tmp 2)] r t (.run rF) [] ⟨jO 0 [aZ i],[],0⟩) = (
 let q1 : XV:=.row true 0 0 fun x => .unk;
 let q2 : List (Nat × XV):=[(10,.bool !cT i),(9,.bool (cT i)),(8,aZ i),(2,q1),(1,.ptr 0 [] 0),(0,aZ i)];
 let q3 : List (Nat × Option XV):=[(0,some (aZ i))];
 let q4 : Bool:=decide ¬i.a = 0;
 let q5 : Bool:=bif mL (aI i.op) then q4 else false;
 let q6 : Bool:=decide ¬i.b = 0;
 let q7 : Bool:=bif hasB (aI i.op) then q6 else false;
 let q8 : XV:=.sl 2 [] 0 0 2 1;
 let q9 : XV:=.row true 1 1 fun a => .int .i64 i.b;
 let q10 : XV:=.ptr 0 [3] 3;
 let q11 : XV:=.sl 1 [] 0 0 1 1;
 let q12 : XV:=.bool q7;
 let q13 : XV:=.opt (hasB (aI i.op)) (.bool q6);
 let q14 : XV:=.opt (hasB (aI i.op)) q10;
 let q15 : XV:=.ptr 0 [2] 2;
 let q16 : XV:=.tup [.bool (aI1 (aI i.op)),.bool (mL (aI i.op)),.bool (hasB (aI i.op)),.bool (aBL (aI i.op))];
 let q17 : List (Nat × XV):=(25,.bool q5) :: (24,.opt (mL (aI i.op)) (.bool q4)) :: (23,.opt (mL (aI i.op)) (.int .i64 i.a)) :: (22,.opt (mL (aI i.op)) q15) :: (21,
  .bool (mL (aI i.op))) :: (20,.bool (mL (aI i.op))) :: (7,q1) :: (6,.bool (aBL (aI i.op))) :: (5,.bool (hasB (aI i.op))) :: (4,.bool (mL (aI i.op))) :: (3,
  .bool (aI1 (aI i.op))) :: (19,.bool (aBL (aI i.op))) :: (18,.bool (hasB (aI i.op))) :: (17,.bool (mL (aI i.op))) :: (16,.bool (aI1 (aI i.op))) :: (11,q16) ::
  (15,q16) :: (14,.int .i64 (aI i.op)) :: (13,.int .i64 i.op) :: (12,.ptr 0 [0] 0) :: q2;
 let q18 : List (Nat × XV):=(36,q12) :: (35,q13) :: (34,.opt (hasB (aI i.op)) (.int .i64 i.b)) :: (33,q14) :: (32,.bool (hasB (aI i.op))) :: (31,.bool (hasB (aI i.op)))
  :: (7,q11) :: (30,q11) :: (29,.row true 1 1 fun a => .int .i64 i.a) :: (28,.int .i64 i.a) :: (27,q15) :: (26,q1) :: q17;
 let q19 : List (Nat × XV):=(36,q12) :: (35,q13) :: (34,.opt (hasB (aI i.op)) (.int .i64 i.b)) :: (33,q14) :: (32,.bool (hasB (aI i.op))) :: (31,.bool (hasB (aI i.op)))
  :: q17;bif !cT i then rI q1 (XSt.mk ((2,q1) :: q2) q3 1) r t else bif bif mL (aI i.op) then mL (aI i.op) else true then bif q5 then bif bif hasB (aI i.op)
  then hasB (aI i.op) else true then bif q7 then rI q8 (XSt.mk ((2,q8) :: (42,q8) :: (7,q8) :: (41,q8) :: (40,q9) :: (39,.int .i64 i.b) :: (38,q10) :: (37,q11) :: q18)
  ((2,some (.tab 2 1 fun i_1 => .int .i64 (bif decide (i_1 < 1) then i.a else i.b))) :: (1,none) :: q3) 3) r t else rI q11 (XSt.mk ((2,q11) :: (42,q11) :: q18) ((1,some (.tab
  1 1 fun a => .int .i64 i.a)) :: q3) 2) r t else False else bif bif hasB (aI i.op) then hasB (aI i.op) else true then bif q7 then rI q11 (XSt.mk ((2,q11) :: (42,q11) ::
  (7,q11) :: (41,q11) :: (40,q9) :: (39,.int .i64 i.b) :: (38,q10) :: (37,q1) :: q19) ((1,some (.tab 1 1 fun a => .int .i64 i.b)) :: q3) 2) r t else rI q1 (XSt.mk ((2,q1)
  :: (42,q1) :: q19) q3 1) r t else False else False):=by kernel_rfl
theorem a71 (c : Cell) (r : XV) : (goQ Try.prog TP5 [(.tmp 2)] r (.run kC) [] ⟨jO 0 [cX c],[],0⟩) = (
 let q1 : Bool:=decide (c.kind = 1);
 let q2 : List Int → Bool:=fun y => decide (y.length ≤ y.length);
 let q3 : List Int → Bool:=fun y => decide (pl y.length 1 * 8 ≤ 140737488355328);
 let q4 : XV:=.row true 0 0 fun x => .unk;
 let q5 : List (Nat × XV):=[(2,q4)];
 let q6 : List (Nat × Option XV):=[(0,some (cX c))];
 let q7 : List Int → Int → XSt:=fun y y_1 => XSt.mk ((5,.int .i64 0) :: (4,q4) :: (3,.sl 2 [] 0 0 (pl y.length 1) 1) :: q5) ((2,some (.tab (pl y.length 1) 1 fun i => .int .i64
  (bif decide (i < y.length) then ix y i else y_1))) :: (1,none) :: q6) 3;
 let q8 : List Frm:=[Frm.blk 1,Frm.seq mO];
 let q9 : Bool:=decide (c.kind = 3);
 let q10 : XSt:=XSt.mk ((5,.int .i64 0) :: (4,q4) :: (3,.row true 1 1 fun a => .int .i64 c.ins.a) :: q5) q6 1;
 let q11 : Bool:=decide (c.kind = 7);
 let q12 : XSt:=XSt.mk ((5,.int .i64 0) :: (4,q4) :: (3,.row true 1 1 fun a => .int .i64 c.ins.d) :: q5) q6 1;
 let q13 : Bool:=decide (c.kind = 5);
 let q14 : XSt:=XSt.mk ((5,.int .i64 0) :: (4,q4) :: (3,.row true 1 1 fun a => .int .i64 c.reg) :: q5) q6 1;
 let q15 : Bool:=decide (c.kind = 9);
 let q16 : List Int → XSt:=fun y => XSt.mk ((5,.int .i64 0) :: (4,q4) :: (3,.sl 1 [] 0 0 y.length 1) :: q5) ((1,some (.tab y.length 1 fun i => bF (ix y i))) :: q6) 2;
 let q17 : XSt:=XSt.mk ((5,.int .i64 0) :: (4,q4) :: (3,q4) :: q5) q6 1;
 let q18 : Bool:=decide (c.kind = 6);
 let q19 : Bool:=decide (c.kind = 8);
 let q20 : Bool:=decide (c.kind = 4);bif q1 then bif q1 then ∃ (s : Ins),aC [aZ c.ins] [aZ s] ∧ aK True ∧ ∀ (y : List Int),y = aS s → ∃ (s : Ins),aC [aZ
  c.ins] [aZ s] ∧ aK True ∧ ∀ (y_1 : Int),y_1 = aTP s → bif q2 y then bif q3 y then aP (Ok Try.prog (Tab.q TP5)) aE (q7 y y_1) q8 (bC [AR.tmp 2] r) else False
  else False else bif q9 then bif q9 then aP (Ok Try.prog (Tab.q TP5)) aE q10 q8 (bC [AR.tmp 2] r) else bif q11 then aP (Ok Try.prog (Tab.q TP5)) aE
  q12 q8 (bC [AR.tmp 2] r) else bif q13 then bif q13 then aP (Ok Try.prog (Tab.q TP5)) aE q14 q8 (bC [AR.tmp 2] r) else bif q15 then ∃ (s : Ins),aC [aZ
  c.ins] [aZ s] ∧ aK True ∧ ∀ (y : List Int),y = aS s → aP (Ok Try.prog (Tab.q TP5)) aE (q16 y) q8 (bC [AR.tmp 2] r) else aP (Ok Try.prog (Tab.q TP5))
  aE q17 q8 (bC [AR.tmp 2] r) else bif q18 then bif q18 then aP (Ok Try.prog (Tab.q TP5)) aE q14 q8 (bC [AR.tmp 2] r) else bif q15 then ∃ (s : Ins),
  aC [aZ c.ins] [aZ s] ∧ aK True ∧ ∀ (y : List Int),y = aS s → aP (Ok Try.prog (Tab.q TP5)) aE (q16 y) q8 (bC [AR.tmp 2] r) else aP (Ok Try.prog
  (Tab.q TP5)) aE q17 q8 (bC [AR.tmp 2] r) else bif q19 then aP (Ok Try.prog (Tab.q TP5)) aE q14 q8 (bC [AR.tmp 2] r) else bif q15 then ∃ (s : Ins),
  aC [aZ c.ins] [aZ s] ∧ aK True ∧ ∀ (y : List Int),y = aS s → aP (Ok Try.prog (Tab.q TP5)) aE (q16 y) q8 (bC [AR.tmp 2] r) else aP (Ok Try.prog
  (Tab.q TP5)) aE q17 q8 (bC [AR.tmp 2] r) else bif q20 then aP (Ok Try.prog (Tab.q TP5)) aE q10 q8 (bC [AR.tmp 2] r) else bif q11 then aP (Ok
  Try.prog (Tab.q TP5)) aE q12 q8 (bC [AR.tmp 2] r) else bif q13 then bif q13 then aP (Ok Try.prog (Tab.q TP5)) aE q14 q8 (bC [AR.tmp 2] r) else
  bif q15 then ∃ (s : Ins),aC [aZ c.ins] [aZ s] ∧ aK True ∧ ∀ (y : List Int),y = aS s → aP (Ok Try.prog (Tab.q TP5)) aE (q16 y) q8 (bC [AR.tmp
  2] r) else aP (Ok Try.prog (Tab.q TP5)) aE q17 q8 (bC [AR.tmp 2] r) else bif q18 then bif q18 then aP (Ok Try.prog (Tab.q TP5)) aE q14 q8 (bC
  [AR.tmp 2] r) else bif q15 then ∃ (s : Ins),aC [aZ c.ins] [aZ s] ∧ aK True ∧ ∀ (y : List Int),y = aS s → aP (Ok Try.prog (Tab.q TP5)) aE (q16 y)
  q8 (bC [AR.tmp 2] r) else aP (Ok Try.prog (Tab.q TP5)) aE q17 q8 (bC [AR.tmp 2] r) else bif q19 then aP (Ok Try.prog (Tab.q TP5)) aE q14 q8
  (bC [AR.tmp 2] r) else bif q15 then ∃ (s : Ins),aC [aZ c.ins] [aZ s] ∧ aK True ∧ ∀ (y : List Int),y = aS s → aP (Ok Try.prog (Tab.q TP5)) aE
  (q16 y) q8 (bC [AR.tmp 2] r) else aP (Ok Try.prog (Tab.q TP5)) aE q17 q8 (bC [AR.tmp 2] r) else bif decide (c.kind = 2) then ∃ (s : Ins),aC [aZ c.ins]
  [aZ s] ∧ aK True ∧ ∀ (y : List Int),y = aS s → ∃ (s : Ins),aC [aZ c.ins] [aZ s] ∧ aK True ∧ ∀ (y_1 : Int),y_1 = aTP s → bif q2 y then bif q3 y then aP
  (Ok Try.prog (Tab.q TP5)) aE (q7 y y_1) q8 (bC [AR.tmp 2] r) else False else False else bif q9 then bif q9 then aP (Ok Try.prog (Tab.q TP5)) aE q10
  q8 (bC [AR.tmp 2] r) else bif q11 then aP (Ok Try.prog (Tab.q TP5)) aE q12 q8 (bC [AR.tmp 2] r) else bif q13 then bif q13 then aP (Ok Try.prog (Tab.q TP5))
  aE q14 q8 (bC [AR.tmp 2] r) else bif q15 then ∃ (s : Ins),aC [aZ c.ins] [aZ s] ∧ aK True ∧ ∀ (y : List Int),y = aS s → aP (Ok Try.prog (Tab.q
  TP5)) aE (q16 y) q8 (bC [AR.tmp 2] r) else aP (Ok Try.prog (Tab.q TP5)) aE q17 q8 (bC [AR.tmp 2] r) else bif q18 then bif q18 then aP (Ok Try.prog
  (Tab.q TP5)) aE q14 q8 (bC [AR.tmp 2] r) else bif q15 then ∃ (s : Ins),aC [aZ c.ins] [aZ s] ∧ aK True ∧ ∀ (y : List Int),y = aS s → aP (Ok Try.prog
  (Tab.q TP5)) aE (q16 y) q8 (bC [AR.tmp 2] r) else aP (Ok Try.prog (Tab.q TP5)) aE q17 q8 (bC [AR.tmp 2] r) else bif q19 then aP (Ok Try.prog
  (Tab.q TP5)) aE q14 q8 (bC [AR.tmp 2] r) else bif q15 then ∃ (s : Ins),aC [aZ c.ins] [aZ s] ∧ aK True ∧ ∀ (y : List Int),y = aS s → aP (Ok Try.prog
  (Tab.q TP5)) aE (q16 y) q8 (bC [AR.tmp 2] r) else aP (Ok Try.prog (Tab.q TP5)) aE q17 q8 (bC [AR.tmp 2] r) else bif q20 then aP (Ok Try.prog
  (Tab.q TP5)) aE q10 q8 (bC [AR.tmp 2] r) else bif q11 then aP (Ok Try.prog (Tab.q TP5)) aE q12 q8 (bC [AR.tmp 2] r) else bif q13 then bif q13 then
  aP (Ok Try.prog (Tab.q TP5)) aE q14 q8 (bC [AR.tmp 2] r) else bif q15 then ∃ (s : Ins),aC [aZ c.ins] [aZ s] ∧ aK True ∧ ∀ (y : List Int),y = aS
  s → aP (Ok Try.prog (Tab.q TP5)) aE (q16 y) q8 (bC [AR.tmp 2] r) else aP (Ok Try.prog (Tab.q TP5)) aE q17 q8 (bC [AR.tmp 2] r) else bif q18
  then bif q18 then aP (Ok Try.prog (Tab.q TP5)) aE q14 q8 (bC [AR.tmp 2] r) else bif q15 then ∃ (s : Ins),aC [aZ c.ins] [aZ s] ∧ aK True ∧ ∀ (y : List
  Int),y = aS s → aP (Ok Try.prog (Tab.q TP5)) aE (q16 y) q8 (bC [AR.tmp 2] r) else aP (Ok Try.prog (Tab.q TP5)) aE q17 q8 (bC [AR.tmp 2]
  r) else bif q19 then aP (Ok Try.prog (Tab.q TP5)) aE q14 q8 (bC [AR.tmp 2] r) else bif q15 then ∃ (s : Ins),aC [aZ c.ins] [aZ s] ∧ aK True ∧ ∀ (y
  : List Int),y = aS s → aP (Ok Try.prog (Tab.q TP5)) aE (q16 y) q8 (bC [AR.tmp 2] r) else aP (Ok Try.prog (Tab.q TP5)) aE q17 q8 (bC [AR.tmp
  2] r)):=by kernel_rfl 
theorem a72 (l out : List Int) (i : Nat) (r : XV) (A : XSt → Prop) : (goQ Try.prog TP5 [(.tmp 2)] r (.run aE) [.lp aE A,.blk 1,.seq mO] (aML l out i)) = (
 let q1 : Bool:=decide ((↑i : Int) < (↑(l.length) : Int));
 let q2 : Bool:=decide (ix l i ≥ 1);
 let q3 : Bool:=decide (out.length ≤ out.length);
 let q4 : XV:=.int .i64 (IntKind.wrap .i64 ((↑i : Int) + 1));
 let q5 : List (Nat × XV):=[(3,aB 1 bF l)];bif q1 then bif q1 then bif bif q1 then true else !q2 then bif bif q2 then q2 else true then bif bif q2 then decide (ix l i ≤ 15)
  else false then bif q1 then bif q3 then bif decide (pl out.length 1 * 8 ≤ 140737488355328) then A (XSt.mk ((5,q4) :: (4,.sl 4 [] 0 0 (pl out.length 1) 1) :: q5) [(4,some (.tab (pl
  out.length 1) 1 fun i_1 => .int .i64 (bif decide (i_1 < out.length) then ix out i_1 else ix l i))),(3,none)] 5) else False else False else False else A (XSt.mk ((5,q4) :: (4,.sl
  3 [] 0 0 out.length 1) :: q5) [(3,some (.tab out.length 1 fun i => bF (ix out i)))] 4) else False else False else False else bif q3 then aA (aB 1 bF out) r else False)
  := by kernel_rfl
theorem bBZ : bX Try.prog TP4:=bV (fJ.app eC) ⟨jR,aHJ,trivial⟩ trivial trivial trivial
theorem bB0 : bX Try.prog TPm:=bV eC ⟨jR,aOP,aHJ,trivial⟩ trivial trivial trivial
theorem a73 : eI Try.prog (102,bBU):=bB fun i _ => by
 show Pure _ _ (cons [aZ i]) (con (.int .i64 (aTP i)))
 refine eS (u:=80) (k:=20) mix bBZ ?_
 refine Eq.mpr (bBX i _) ?_
 unfold aTP
 cases cT i <;> exact .rfl
theorem aX9 : aZ7 Try.prog qq (70,bBV):=aQL (fun n y => rfl) fun i _ => by
 refine a3Z mix bB0 yQ (Nat.le_of_ble_eq_true rfl) (rC _ (dS.2 fun i _ => rfl)) rfl ?_
 refine Eq.mpr (bBY i _ _) ?_
 unfold aS
 cases cT i with
 | false => exact ⟨.inr ⟨_,_,rfl,rfl,rfl⟩⟩
 | true =>
  by_cases ha : i.a = 0
  ·by_cases hb : i.b = 0
   ·cases mL (aI i.op) <;> cases hasB (aI i.op) <;> simp only [ha,hb,zaC,zaE,zaB,zaD,aD,zaF,zaO,zaQ,aV,bJ,zaI,zaH,zaN,zaM,zaT,zaR,zaS,ge_iff_le,Int.le_refl,if_true,if_false,reduceCtorEq,eq_self,BEq.rfl,if_true,if_false,List.append_nil] <;> exact ⟨.inr ⟨_,_,rfl,rfl,rfl⟩⟩
   ·cases mL (aI i.op) <;> cases hasB (aI i.op) <;> simp [ha,hb] <;> first | exact ⟨.inr ⟨_,_,rfl,rfl,rfl⟩⟩ | exact ⟨.inl ⟨1,rfl,rfl⟩⟩
  ·by_cases hb : i.b = 0
   ·cases mL (aI i.op) <;> cases hasB (aI i.op) <;> simp [ha,hb] <;> first | exact ⟨.inr ⟨_,_,rfl,rfl,rfl⟩⟩ | exact ⟨.inl ⟨1,rfl,rfl⟩⟩
   ·cases mL (aI i.op) <;> cases hasB (aI i.op) <;> simp [ha,hb] <;> first | exact ⟨.inr ⟨_,_,rfl,rfl,rfl⟩⟩ | exact ⟨.inl ⟨1,rfl,rfl⟩⟩ | exact ⟨.inl ⟨2,rfl,rfl⟩⟩
theorem a4P : bX Try.prog TP5:=bV (fJ.app eC) trivial trivial ⟨a73,trivial⟩ ⟨aX9,trivial⟩
theorem aC3 {α : Type} [Inhabited α] {l : List α} {i : Nat} (h : i < l.length) : l.take (i + 1) = l.take i ++ [ix l i]:=by rw [fY h];exact (List.take_append_getElem h).symm
theorem a74 {v : Int} : ∀ i,i < 1 → con (.int .i64 v) = con (bF (ix [v] i)):=fun i hi => by
 obtain rfl : i = 0:=by omega
 rfl
theorem aAN {l : List Int} (hl : l.length ≤ 10) {e : List (Nat × XV)} {h : List (Nat × Option XV)} {n : Nat} (hk : aV0 [(0,0),(1,1),(2,2),(3,4)] n = true) (hb : Nat.ble n 4 = true) (hn : cG n (XSt.st (XSt.mk e h n)) (aML l [] 0).st) : aP (Ok Try.prog (Tab.q TP5)) aE (XSt.mk e h n) [Frm.blk 1,Frm.seq mO] (bC [AR.tmp 2] (aB 1 bF (l.filter oQ))):=by
 refine fS mix a4P (fun i : Nat => aML l ((l.take i).filter oQ) i) (fun i => i ≤ l.length) (fun i => l.length - i) 0 (Nat.zero_le _) hn ?_
 intro i hi
 refine Eq.mpr (a72 l _ i _ _) ?_
 by_cases hlt : i < l.length
 ·have h1 : (i : Int) < (l.length : Int):=by omega
  have w1 : IntKind.i64.wrap ((i : Int) + 1) = ((i + 1 : Nat) : Int):=wrap_i64 (by omega) (by omega)
  have hs : ((l.take i).filter oQ).length ≤ 10:=by have:=List.length_filter_le oQ (l.take i);rw [List.length_take] at this;omega
  have st : (l.take (i + 1)).filter oQ = (l.take i).filter oQ ++ (if oQ (ix l i) then [ix l i] else []):=by
   rw [aC3 hlt,List.filter_append]
   cases h : oQ (ix l i) <;> simp [h]
  generalize (l.take i).filter oQ = out at hs st
  have b : (out.length + 1) * 8 ≤ 140737488355328:=by omega
  simp only [h1,w1,b,cB,aV,qC,zaC,zaE,zaB,zaD,aD,zaF,zaO,zaQ,aV,bJ,zaI,zaH,zaN,zaM,zaT,zaR,zaS,ge_iff_le,Int.le_refl,if_true,if_false,reduceCtorEq,eq_self,BEq.rfl]
  have e : (decide (1 ≤ ix l i) && decide (ix l i ≤ 15)) = oQ (ix l i):=by unfold oQ;rw [Bool.decide_and]
  rw [e]
  refine jQ (fun h => ?_) (fun h => ?_)
  ·rw [h] at st
   refine ⟨i + 1,hlt, ?_,by omega⟩
   rw [st]
   simp only [if_true]
   unfold aML
   rw [cD]
   exact pA [(0,0),(1,1),(2,2),(3,4)] hk rfl rfl hb rfl ⟨aJ rfl rfl,.sl rfl,aJ rfl rfl,trivial⟩ ⟨aLX (fun i hi => by simp only [hi,zaC,zaB];rfl) (by simp;rfl) rfl,trivial⟩
  ·rw [h] at st
   refine ⟨i + 1,hlt, ?_,by omega⟩
   rw [st]
   simp only [zaU,if_false,List.append_nil]
   exact .of (dG ⟨rfl,rfl,rfl,trivial⟩ ⟨rfl,trivial⟩ (zaF _))
 ·have h1 : ¬ (i : Int) < (l.length : Int):=by omega
  simp only [h1,zaC,zaE,zaB,zaD,aD,zaF,zaO,zaQ,aV,bJ,zaI,zaH,zaN,zaM,zaT,zaR,zaS,ge_iff_le,Int.le_refl,if_true,if_false,reduceCtorEq,eq_self,BEq.rfl]
  have : i = l.length:=by omega
  subst this
  rw [List.take_length]
  exact .rfl
theorem a75 : eI Try.prog (87,bBW):=bB fun c _ => by
 show Pure _ _ (cons [cX c]) (con (aB 1 bF (aJW c)))
 refine jB mix a4P wI (Nat.le_of_ble_eq_true rfl) ?_
 refine Eq.mpr (a71 c _) ?_
 have one : ∀ v : Int,cG 1 (XSt.st (XSt.mk [(5,.int .i64 0),(4,.row true 0 0 fun x => .unk),(3,.row true 1 1 fun a => .int .i64 v),(2,.row true 0 0 fun x => .unk)] [(0,some (cX c))] 1)) (aML [v] [] 0).st:=fun v =>
  pA [(0,0)] rfl rfl rfl rfl rfl ⟨aJ rfl rfl,tI rfl,aLR rfl (.inl rfl) a74,trivial⟩ ⟨⟨1,rfl⟩,trivial⟩
 have zero : cG 1 (XSt.st (XSt.mk [(5,.int .i64 0),(4,.row true 0 0 fun x => .unk),(3,.row true 0 0 fun x => .unk),(2,.row true 0 0 fun x => .unk)] [(0,some (cX c))] 1)) (aML [] [] 0).st :=
  pA [(0,0)] rfl rfl rfl rfl rfl ⟨aJ rfl rfl,tI rfl,aLR rfl (.inr rfl) (fun i hi => by omega),trivial⟩ ⟨⟨1,rfl⟩,trivial⟩
 have two : ∀ y : List Int,cG 2 (XSt.st (XSt.mk [(5,.int .i64 0),(4,.row true 0 0 fun x => .unk),(3,.sl 1 [] 0 0 y.length 1),(2,.row true 0 0 fun x => .unk)] [(1,some (.tab y.length 1 fun i => bF (ix y i))),(0,some (cX c))] 2)) (aML y [] 0).st:=fun y => by
  refine cG.trans (τ:=XSt.st (XSt.mk [(5,.int .i64 0),(4,.row true 0 0 fun x => .unk),(3,aB 1 bF y),(2,.row true 0 0 fun x => .unk)] [(0,some (cX c))] 2)) ?_ ?_
  ·refine cG.frz ?_
   refine zL (L:=[1]) rfl ?_ ?_
   ·exact ⟨rfl,.same,rfl,.same,rfl,kL rfl rfl,rfl,.same,trivial⟩
   ·exact ⟨rfl,.same,trivial⟩
  ·exact pA [(0,0),(1,1)] rfl rfl rfl rfl rfl ⟨aJ rfl rfl,tI rfl,aJ rfl rfl,trivial⟩ ⟨⟨1,rfl⟩,trivial⟩
 have three : ∀ (y : List Int) (w : Int),cG 3 (XSt.st (XSt.mk [(5,.int .i64 0),(4,.row true 0 0 fun x => .unk),(3,.sl 2 [] 0 0 (y.length + 1) 1),(2,.row true 0 0 fun x => .unk)] [(2,some (.tab (y.length + 1) 1 fun i => .int .i64 (bif decide (i < y.length) then ix y i else w))),(1,none),(0,some (cX c))] 3)) (aML (y ++ [w]) [] 0).st:=fun y w => by
  refine cG.trans (τ:=XSt.st (XSt.mk [(5,.int .i64 0),(4,.row true 0 0 fun x => .unk),(3,.row false 1 (y.length + 1) fun i => .int .i64 (bif decide (i < y.length) then ix y i else w)),(2,.row true 0 0 fun x => .unk)] [(0,some (cX c))] 3)) ?_ ?_
  ·refine cG.frz ?_
   refine zL (L:=[2]) rfl ?_ ?_
   ·exact ⟨rfl,.same,rfl,.same,rfl,kL rfl rfl,rfl,.same,trivial⟩
   ·exact ⟨rfl,.same,trivial⟩
  ·refine pA [(0,0),(1,1),(2,2)] rfl rfl rfl rfl rfl ⟨aJ rfl rfl,tI rfl,aLR (cD y w).symm (.inl rfl) (fun i hi => ?_),trivial⟩ ⟨⟨1,rfl⟩,trivial⟩
   by_cases h : i < y.length
   ·rw [aBJ h,decide_eq_true h];rfl
   ·obtain rfl : i = y.length:=by omega
    rw [aBK,decide_eq_false h];rfl
 have h2:=(jE (i:=c.ins)).1
 have L0:=aAN (l:=[]) (Nat.zero_le _) rfl rfl zero
 have L1:=fun v : Int => aAN (l:=[v]) (Nat.le_of_ble_eq_true rfl) rfl rfl (one v)
 have L2:=fun (y : List Int) (hy : y.length ≤ 2) => aAN (Nat.le_trans hy (Nat.le_of_ble_eq_true rfl)) rfl rfl (two y)
 have L3:=fun (y : List Int) (hy : y.length ≤ 2) (w : Int) => aAN (l:=y ++ [w]) (by rw [cD];omega) rfl rfl (three y w)
 unfold aJW
 clear one zero two three
 have D : ∀ y : List Int,y.length ≤ 2 → decide ((y.length + 1) * 8 ≤ 140737488355328) = true:=fun y hy => decide_eq_true (by omega)
 by_cases k1 : c.kind = 1
 ·simp only [k1,Int.reduceEq,true_or,zaC,zaE,zaB,zaD,aD,zaF,zaO,zaQ,aV,bJ,zaI,zaH,zaN,zaM,zaT,zaR,zaS,ge_iff_le,Int.le_refl,if_true,if_false,reduceCtorEq,eq_self,BEq.rfl]
  refine ⟨c.ins,.rfl,⟨trivial⟩, ?_⟩
  rintro y rfl
  refine ⟨c.ins,.rfl,⟨trivial⟩, ?_⟩
  rintro w rfl
  simp only [cB,D _ h2,zaC,zaE,zaB,zaD,aD,zaF,zaO,zaQ,aV,bJ,zaI,zaH,zaN,zaM,zaT,zaR,zaS,ge_iff_le,Int.le_refl,if_true,if_false,reduceCtorEq,eq_self,BEq.rfl]
  exact L3 _ h2 _
 by_cases k2 : c.kind = 2
 ·simp only [k2,Int.reduceEq,or_true,zaC,zaE,zaB,zaD,aD,zaF,zaO,zaQ,aV,bJ,zaI,zaH,zaN,zaM,zaT,zaR,zaS,ge_iff_le,Int.le_refl,if_true,if_false,reduceCtorEq,eq_self,BEq.rfl]
  refine ⟨c.ins,.rfl,⟨trivial⟩, ?_⟩
  rintro y rfl
  refine ⟨c.ins,.rfl,⟨trivial⟩, ?_⟩
  rintro w rfl
  simp only [cB,D _ h2,zaC,zaE,zaB,zaD,aD,zaF,zaO,zaQ,aV,bJ,zaI,zaH,zaN,zaM,zaT,zaR,zaS,ge_iff_le,Int.le_refl,if_true,if_false,reduceCtorEq,eq_self,BEq.rfl]
  exact L3 _ h2 _
 by_cases k3 : c.kind = 3
 ·simp only [k3,Int.reduceEq,or_false,true_or,zaC,zaE,zaB,zaD,aD,zaF,zaO,zaQ,aV,bJ,zaI,zaH,zaN,zaM,zaT,zaR,zaS,ge_iff_le,Int.le_refl,if_true,if_false,reduceCtorEq,eq_self,BEq.rfl];exact L1 _
 by_cases k4 : c.kind = 4
 ·simp only [k4,Int.reduceEq,or_true,or_false,zaC,zaE,zaB,zaD,aD,zaF,zaO,zaQ,aV,bJ,zaI,zaH,zaN,zaM,zaT,zaR,zaS,ge_iff_le,Int.le_refl,if_true,if_false,reduceCtorEq,eq_self,BEq.rfl];exact L1 _
 by_cases k5 : c.kind = 5
 ·simp only [k5,Int.reduceEq,true_or,or_false,zaC,zaE,zaB,zaD,aD,zaF,zaO,zaQ,aV,bJ,zaI,zaH,zaN,zaM,zaT,zaR,zaS,ge_iff_le,Int.le_refl,if_true,if_false,reduceCtorEq,eq_self,BEq.rfl];exact L1 _
 by_cases k6 : c.kind = 6
 ·simp only [k6,Int.reduceEq,true_or,or_true,or_false,zaC,zaE,zaB,zaD,aD,zaF,zaO,zaQ,aV,bJ,zaI,zaH,zaN,zaM,zaT,zaR,zaS,ge_iff_le,Int.le_refl,if_true,if_false,reduceCtorEq,eq_self,BEq.rfl];exact L1 _
 by_cases k7 : c.kind = 7
 ·simp only [k7,Int.reduceEq,or_false,zaC,zaE,zaB,zaD,aD,zaF,zaO,zaQ,aV,bJ,zaI,zaH,zaN,zaM,zaT,zaR,zaS,ge_iff_le,Int.le_refl,if_true,if_false,reduceCtorEq,eq_self,BEq.rfl];exact L1 _
 by_cases k8 : c.kind = 8
 ·simp only [k8,Int.reduceEq,or_true,or_false,zaC,zaE,zaB,zaD,aD,zaF,zaO,zaQ,aV,bJ,zaI,zaH,zaN,zaM,zaT,zaR,zaS,ge_iff_le,Int.le_refl,if_true,if_false,reduceCtorEq,eq_self,BEq.rfl];exact L1 _
 by_cases k9 : c.kind = 9
 ·simp only [k9,Int.reduceEq,or_false,zaC,zaE,zaB,zaD,aD,zaF,zaO,zaQ,aV,bJ,zaI,zaH,zaN,zaM,zaT,zaR,zaS,ge_iff_le,Int.le_refl,if_true,if_false,reduceCtorEq,eq_self,BEq.rfl]
  refine ⟨c.ins,.rfl,⟨trivial⟩, ?_⟩
  rintro y rfl
  exact L2 _ h2
 simp only [k1,k2,k3,k4,k5,k6,k7,k8,k9,or_false,zaC,zaE,zaB,zaD,aD,zaF,zaO,zaQ,aV,bJ,zaI,zaH,zaN,zaM,zaT,zaR,zaS,ge_iff_le,Int.le_refl,if_true,if_false,reduceCtorEq,eq_self,BEq.rfl]
 exact L0
def TP6 : Tab:=fM qq (iB ++ gG) [] [] [(87,bBW)] []
def uF (d : cM) (c : Cell) (n : Int) : Bool:=(aJW c).all fun r => !(decide (d.ready r.toNat < 0) || decide (d.ready r.toNat > n))
def a76 : List XV → Option ((XV → Prop) → Prop):=eQ (fun q : cM × Cell × Int => [aR q.1,cX q.2.1,.int .i64 q.2.2]) (fun _ => True) (fun q => uF q.1 q.2.1 q.2.2) (fun y => .bool y)
def a4Q (d : cM) (l : List Int) (c : Int) (i : Nat) : XSt:=⟨[(8,.int .i64 i),(7,aB 1 bF l),(3,.ptr 0 [] 0),(2,.int .i64 c)],[(0,some (aR d))],2⟩
def dB (x : Stt) (n : Int) : Bool:=decide (¬ x.bP.kind = 0) && decide (n ≥ x.bP.step)
def a2W : List XV → Option ((XV → Prop) → Prop):=eQ (fun q : Stt × Int => [aO q.1,.int .i64 q.2]) (fun _ => True) (fun q => dB q.1 q.2) (fun y => .bool y)
def aAO (s : Split) (n : Int) : Int:=if n < 0 ∨ n ≥ s.blocks.length then 0 else (ix s.blocks n.toNat).dst
def endS' : List XV → Option ((XV → Prop) → Prop):=eQ (fun q : Split × Int => [aH q.1,.int .i64 q.2]) (fun _ => True) (fun q => aAO q.1 q.2) (fun y => .int .i64 y)
def fV (d : cM) (n : Int) : Int:=if n < 1 ∨ n > 15 then 0 else d.oW n.toNat
def a77 : List XV → Option ((XV → Prop) → Prop):=eQ (fun q : cM × Int => [aR q.1,.int .i64 q.2]) (fun _ => True) (fun q => fV q.1 q.2) (fun y => .int .u32 y)
def aAP (c : Cfg) (op : Int) : Int:=if op = 11 ∨ op = 12 then (if c.mul < 1 ∨ c.mul > 50 then 1 else c.mul) else if 13 ≤ op ∧ op ≤ 16 then (if c.div < 1 ∨ c.div > 50 then 1 else c.div) else 1
def a78 : List XV → Option ((XV → Prop) → Prop):=eQ (fun q : Cfg × Int => [aU q.1,.int .i64 q.2]) (fun _ => True) (fun q => aAP q.1 q.2) (fun y => .int .i64 y)
def TP7 : Tab:=fM qq (iB ++ dX) [] iA [] []
def eO (x : Stt) (k st pc : Int) : Stt:=if x.bP.kind = 0 ∨ x.bP.step > st then { x with bP:=⟨k,st,pc⟩ } else x
def a79 : List XV → Option ((XV → Prop) → Prop):=eQ (fun q : Stt × Int × Int × Int => [aO q.1,.int .i64 q.2.1,.int .i64 q.2.2.1,.int .i64 q.2.2.2]) (fun q => q.1.ok) (fun q => eO q.1 q.2.1 q.2.2.1 q.2.2.2) (fun y => aO y)
theorem a8A (d : cM) (c : Cell) (n : Int) (r : XV) : (goQ Try.prog TP6 [(.tmp 6)] r (.run lZ) [] ⟨jO 0 [aR d,cX c,.int .i64 n],[],0⟩) = (∃ (s : Cell),aC [cX c] [cX s] ∧ aK True ∧ ∀ (y : List Int),y = aJW s → aP (Ok Try.prog (Tab.q TP6)) nQ (XSt.mk [(8,.int .i64 0),(7,aB 1 bF
 y),(6,.bool false),(3,.ptr 0 [] 0),(2,.int .i64 n)] [(1,some (cX c)),(0,some (aR d))] 2) [Frm.blk 0,Frm.seq sF] (bC [AR.tmp 6] r)):=by kernel_rfl
theorem bB1 (x : Stt) (n : Int) (r : XV) : (aQ TP6 80 (bT TP6 80 20) 41 [aO x,.int .i64 n] (fun v => aA v r)) = (
 let q1 : Bool:=decide ¬x.bP.kind = 0;bif bif q1 then q1 else true then aA (.bool (bif q1 then decide (n ≥ x.bP.step) else false)) r else False):=by kernel_rfl
theorem a8B (s : Split) (n : Int) (r : XV) : (aQ TP6 80 (bT TP6 80 20) 45 [aH s,.int .i64 n] (fun v => aA v r)) = (
 let q1 : Bool:=decide (n < 0);bif bif q1 then true else !q1 then bif bif q1 then true else decide (n ≥ (↑(s.blocks.length) : Int)) then aA (.int .i64 0) r else bif decide (0 ≤
  n) then bif decide (n < (↑(s.blocks.length) : Int)) then aA (.int .i64 (Block.dst (ix s.blocks (Int.toNat n)))) r else False else False else False):=by kernel_rfl
theorem bB2 (d : cM) (n : Int) (r : XV) : (aQ TP6 80 (bT TP6 80 20) 49 [aR d,.int .i64 n] (fun v => aA v r)) = (
 let q1 : Bool:=decide (n < 1);
 let q2 : Nat:=Int.toNat n * 1;bif bif q1 then true else !q1 then bif bif q1 then true else decide (n > 15) then aA (.int .u32 0) r else bif decide (0 ≤ n) then bif decide (n <
  16) then bif Nat.beq q2 q2 then bif decide (Int.toNat n < 16) then aA (.int .u32 (d.oW (Int.toNat n))) r else False else False else False else False else False):=by kernel_rfl
theorem bB3 (c : Cfg) (n : Int) (r : XV) : (aQ TP6 80 (bT TP6 80 20) 51 [aU c,.int .i64 n] (fun v => aA v r)) = (
 let q1 : Bool:=decide (n = 11);
 let q2 : Bool:=decide (c.mul < 1);
 let q3 : Bool:=decide (n ≥ 13);
 let q4 : Bool:=decide (c.div < 1);bif bif q1 then true else !q1 then bif bif q1 then true else decide (n = 12) then bif bif q2 then true else !q2 then bif bif q2 then true else decide
  (c.mul > 50) then aA (.int .i64 1) r else aA (.int .i64 c.mul) r else False else bif bif q3 then q3 else true then bif bif q3 then decide (n ≤ 16) else false then bif bif q4 then
  true else !q4 then bif bif q4 then true else decide (c.div > 50) then aA (.int .i64 1) r else aA (.int .i64 c.div) r else False else aA (.int .i64 1) r else False else False)
  := by kernel_rfl
theorem bB4 (x : Stt) (k st pc : Int) (r : XV) : (aQ TP7 80 (bT TP7 80 20) 44 [aO x,.int .i64 k,.int .i64 st,.int .i64 pc] (fun v => aA v r)) = (
 let q1 : Nat:=x.ldq.length * 16;
 let q2 : Bool:=decide (x.bP.kind = 0);
 let q3 : Bool:=decide (x.ldq.length ≤ x.ldq.length);
 let q4 : Bool:=decide (x.sdq.length ≤ x.sdq.length);
 let q5 : Bool:=decide (x.aeq.length ≤ x.aeq.length);
 let q6 : Bool:=decide (x.abq.length ≤ x.abq.length);
 let q7 : Bool:=decide (x.ebq.length ≤ x.ebq.length);
 let q8 : Bool:=decide (x.saq.length ≤ x.saq.length);
 let q9 : Bool:=decide (x.table.length ≤ x.table.length);
 let q10 : Bool:=decide (x.mem.length ≤ x.mem.length);
 let q11 : Bool:=decide (x.writes.length ≤ x.writes.length);bif decide (q1 ≤ 140737488355328) then bif gL (fun i => true) x.ldq.length then bif decide (x.sdq.length * 4 ≤ 140737488355328)
  then bif decide (x.aeq.length * 4 ≤ 140737488355328) then bif decide (x.abq.length * 1 ≤ 140737488355328) then bif decide (x.ebq.length * 1 ≤ 140737488355328) then bif decide (x.saq.length
  * 32 ≤ 140737488355328) then bif decide (x.table.length * 64 ≤ 140737488355328) then bif decide (x.mem.length * 1 ≤ 140737488355328) then bif decide (x.writes.length * 24 ≤ 140737488355328)
  then bif bif q2 then true else !q2 then bif bif q2 then true else decide (x.bP.step > st) then bif q3 then bif q4 then bif q5 then bif q6 then bif q7 then bif q8 then bif q9 then
  bif q10 then bif q11 then aA (.agg 92 [.int .i64 x.aG,aR x.a,aR x.e,aB 3 cN x.ldq,aB 1 cU x.sdq,aB 1 cU x.aeq,aB 1 cJ x.abq,aB 1 cJ
  x.ebq,aB 5 bW x.saq,aB 8 dK x.table,aB 1 kM x.mem,aB 3 oX x.writes,.agg 3 [.int .i64 k,.int .i64 st,.int .i64 pc],.int .i64 x.dN,.int .i64 x.cF,
  .int .i64 x.tags]) r else False else False else False else False else False else False else False else False else False else bif q3 then bif q4 then bif q5 then bif q6 then bif q7 then
  bif q8 then bif q9 then bif q10 then bif q11 then aA (aO x) r else False else False else False else False else False else False else False else False else False else False else
  False else False else False else False else False else False else False else False else False else False):=by kernel_rfl
theorem a8C (d : cM) (l : List Int) (n : Int) (i : Nat) (r : XV) (A : XSt → Prop) : (goQ Try.prog TP6 [(.tmp 6)] r (.run nQ) [.lp nQ A,.blk 0,.seq sF] (a4Q d l n i)) = (
 let q1 : Bool:=decide ((↑i : Int) < (↑(l.length) : Int));
 let q2 : Bool:=decide (0 ≤ ix l i);
 let q3 : Bool:=decide (ix l i < 16);
 let q4 : Nat:=pl 16 (Int.toNat (ix l i) * 1);
 let q5 : Bool:=Nat.beq q4 q4;
 let q6 : Bool:=decide (Int.toNat (ix l i) < 16);
 let q7 : Int:=d.ready (Int.toNat (ix l (Int.toNat (↑i : Int))));
 let q8 : Bool:=decide (d.ready (Int.toNat (ix l i)) < 0);
 let q9 : Bool:=!q8;
 let q10 : Bool:=!q9;bif q1 then bif q1 then bif q2 then bif q3 then bif q5 then bif q6 then bif bif q1 then true else q10 then bif bif q2 then true else q10 then bif bif q3 then
  true else q10 then bif bif q5 then true else q10 then bif bif q6 then true else q10 then bif bif q8 then true else q9 then bif bif q8 then true else decide (d.ready (Int.toNat (ix l
  i)) > n) then aA (.bool false) r else A (XSt.mk [(8,.int .i64 (IntKind.wrap .i64 ((↑i : Int) + 1))),(7,aB 1 bF l),(3,.ptr 0 [] 0),(2,.int .i64 n)] [(0,some (aR
  d))] 2) else False else False else False else False else False else False else False else False else False else False else False else aA (.bool true) r):=by kernel_rfl
theorem aHR : bX Try.prog TP6:=bV (fJ.app eC) trivial trivial ⟨a75,trivial⟩ trivial
theorem bB5 : bX Try.prog TP7:=bV (fJ.app cZ) trivial fI trivial trivial
theorem aO2 : eI Try.prog (41,a2W):=bB fun ⟨x,n⟩ _ => by
 show Pure _ _ (cons [aO x,.int .i64 n]) (con (.bool (dB x n)))
 refine eS (u:=80) (k:=20) mix aHR ?_
 rw [bB1]
 simp only [aV,zaB]
 simp only [qC]
 exact .rfl
theorem aRF : eI Try.prog (45,endS'):=bB fun ⟨s,b⟩ _ => by
 show Pure _ _ (cons [aH s,.int .i64 b]) (con (.int .i64 (aAO s b)))
 refine eS (u:=80) (k:=20) mix aHR ?_
 refine Eq.mpr (a8B s b _) ?_
 unfold aAO
 by_cases h : b < 0 ∨ b ≥ s.blocks.length
 ·rw [if_pos h]
  rcases h with h | h
  ·simp only [h,zaC,zaE,zaB,zaD,aD,zaF,zaO,zaQ,aV,bJ,zaI,zaH,zaN,zaM,zaT,zaR,zaS,ge_iff_le,Int.le_refl,if_true,if_false,reduceCtorEq,eq_self,BEq.rfl];exact .rfl
  ·simp only [show ¬ b < 0 by omega,h,zaC,zaE,zaB,zaD,aD,zaF,zaO,zaQ,aV,bJ,zaI,zaH,zaN,zaM,zaT,zaR,zaS,ge_iff_le,Int.le_refl,if_true,if_false,reduceCtorEq,eq_self,BEq.rfl];exact .rfl
 ·rw [if_neg h]
  have h1 : ¬ b < 0:=by omega
  have h2 : 0 ≤ b:=by omega
  have h3 : b < s.blocks.length:=by omega
  have h4 : ¬ (s.blocks.length : Int) ≤ b:=by omega
  simp only [h1,h2,h3,h4,zaC,zaE,zaB,zaD,aD,zaF,zaO,zaQ,aV,bJ,zaI,zaH,zaN,zaM,zaT,zaR,zaS,ge_iff_le,Int.le_refl,if_true,if_false,reduceCtorEq,eq_self,BEq.rfl];exact .rfl
theorem aYA : eI Try.prog (49,a77):=bB fun ⟨d,n⟩ _ => by
 show Pure _ _ (cons [aR d,.int .i64 n]) (con (.int .u32 (fV d n)))
 refine eS (u:=80) (k:=20) mix aHR ?_
 refine Eq.mpr (bB2 d n _) ?_
 unfold fV
 by_cases h : n < 1 ∨ n > 15
 ·rw [if_pos h]
  rcases h with h | h
  ·simp only [h,zaC,zaE,zaB,zaD,aD,zaF,zaO,zaQ,aV,bJ,zaI,zaH,zaN,zaM,zaT,zaR,zaS,ge_iff_le,Int.le_refl,if_true,if_false,reduceCtorEq,eq_self,BEq.rfl];exact .rfl
  ·have h' : ¬ n < 1:=by omega
   simp only [h',h,zaC,zaE,zaB,zaD,aD,zaF,zaO,zaQ,aV,bJ,zaI,zaH,zaN,zaM,zaT,zaR,zaS,ge_iff_le,Int.le_refl,if_true,if_false,reduceCtorEq,eq_self,BEq.rfl];exact .rfl
 ·rw [if_neg h]
  have h1 : ¬ n < 1:=by omega
  have h2 : 0 ≤ n:=by omega
  have h3 : n < 16:=by omega
  have h4 : ¬ n > 15:=by omega
  have h5 : n.toNat < 16:=by omega
  simp only [h1,h2,h3,h4,h5,zaC,zaE,zaB,zaD,aD,zaF,zaO,zaQ,aV,bJ,zaI,zaH,zaN,zaM,zaT,zaR,zaS,ge_iff_le,Int.le_refl,if_true,if_false,reduceCtorEq,eq_self,BEq.rfl];exact .rfl
theorem aYB : eI Try.prog (51,a78):=bB fun ⟨c,n⟩ _ => by
 show Pure _ _ (cons [aU c,.int .i64 n]) (con (.int .i64 (aAP c n)))
 refine eS (u:=80) (k:=20) mix aHR ?_
 refine Eq.mpr (bB3 c n _) ?_
 unfold aAP
 simp only [bJ,aV,zaB]
 simp only [bor,qC]
 refine jQ (fun h => ?_) (fun h => ?_)
 ·have h' : n = 11 ∨ n = 12:=by simpa using h
  rw [if_pos h']
  refine jQ (fun h => ?_) (fun h => ?_)
  ·rw [if_pos (by simpa using h)];exact .rfl
  ·rw [if_neg (by simpa using h)];exact .rfl
 ·have h' : ¬ (n = 11 ∨ n = 12):=by simpa using h
  rw [if_neg h']
  refine jQ (fun h => ?_) (fun h => ?_)
  ·rw [if_pos (by simpa using h)]
   refine jQ (fun h => ?_) (fun h => ?_)
   ·rw [if_pos (by simpa using h)];exact .rfl
   ·rw [if_neg (by simpa using h)];exact .rfl
  ·rw [if_neg (by simpa using h)];exact .rfl
theorem aYC : eI Try.prog (44,a79):=bB fun ⟨x,k,st,pc⟩ h => by
 have h : x.ok:=h
 show Pure _ _ (cons [aO x,.int .i64 k,.int .i64 st,.int .i64 pc]) (con (aO (eO x k st pc)))
 refine eS (u:=80) (k:=20) mix bB5 ?_
 refine Eq.mpr (bB4 x k st pc _) ?_
 obtain ⟨b1,b2,b3,b4,b5,b6,b7,b8,b9⟩:=aXL h
 simp only [b1,b2,b3,b4,b5,b6,b7,b8,b9,aD,zaF,cB,zaC,zaB,bJ]
 simp only [bor]
 unfold eO
 refine jQ (fun h => ?_) (fun h => ?_)
 ·rw [if_pos (by simpa using h)];exact .rfl
 ·rw [if_neg (by simpa using h)];exact .rfl
theorem aYD : eI Try.prog (47,a76):=bB fun ⟨d,c,n⟩ _ => by
 show Pure _ _ (cons [aR d,cX c,.int .i64 n]) (con (.bool (uF d c n)))
 refine jB mix aHR aAD (Nat.le_of_ble_eq_true rfl) ?_
 refine Eq.mpr (a8A d c n _) ?_
 refine ⟨c,.rfl,⟨trivial⟩, ?_⟩
 rintro l rfl
 have hr : ∀ r ∈ aJW c,1 ≤ r ∧ r ≤ 15:=fun r hr => by
  have:=(List.mem_filter.1 hr).2
  simpa [oQ] using this
 have hl : (aJW c).length ≤ 1000:=by
  refine Nat.le_trans (List.length_filter_le _ _) ?_
  have:=(jE (i:=c.ins)).1
  repeat' split
  all_goals simp <;> omega
 unfold uF
 generalize aJW c = l at hr hl
 refine fS mix aHR (fun i : Nat => a4Q d l n i) (fun i => i ≤ l.length ∧ ∀ j,j < i → (decide (d.ready (ix l j).toNat < 0) || decide (d.ready (ix l j).toNat > n)) = false) (fun i => l.length - i) 0 ⟨Nat.zero_le _,fun j hj => by omega⟩ (.of (dG ⟨rfl,rfl,rfl,rfl,trivial⟩ ⟨rfl,trivial⟩ (zaF _))) ?_
 rintro i ⟨hi,hp⟩
 refine Eq.mpr (a8C d l n i _ _) ?_
 by_cases hlt : i < l.length
 ·have h1 : (i : Int) < (l.length : Int):=by omega
  have w1 : IntKind.i64.wrap ((i : Int) + 1) = ((i + 1 : Nat) : Int):=wrap_i64 (by omega) (by omega)
  have h2:=hr _ (cH hlt)
  have h3 : 0 ≤ ix l i:=by omega
  have h4 : ix l i < 16:=by omega
  have h5 : (ix l i).toNat < 16:=by omega
  simp only [h1,w1,h3,h4,h5,zaC,zaE,zaB,zaD,aD,zaF,zaO,zaQ,aV,bJ,zaI,zaH,zaN,zaM,zaT,zaR,zaS,ge_iff_le,Int.le_refl,if_true,if_false,reduceCtorEq,eq_self,BEq.rfl]
  simp only [bor]
  refine jQ (fun h => ?_) (fun h => ?_)
  ·have e : (l.all fun r => !(decide (d.ready r.toNat < 0) || decide (d.ready r.toNat > n))) = false:=by
    rw [← Bool.not_eq_true,List.all_eq_true]
    intro ha
    have:=ha _ (cH hlt)
    rw [h] at this
    cases this
   rw [e];exact .rfl
  ·refine ⟨i + 1,⟨hlt,fun j hj => ?_⟩,.of (dG ⟨rfl,rfl,rfl,rfl,trivial⟩ ⟨rfl,trivial⟩ (zaF _)),by omega⟩
   by_cases hji : j = i
   ·subst hji;exact h
   ·exact hp j (by omega)
 ·have h1 : ¬ (i : Int) < (l.length : Int):=by omega
  simp only [h1,zaC,zaE,zaB,zaD,aD,zaF,zaO,zaQ,aV,bJ,zaI,zaH,zaN,zaM,zaT,zaR,zaS,ge_iff_le,Int.le_refl,if_true,if_false,reduceCtorEq,eq_self,BEq.rfl]
  have e : (l.all fun r => !(decide (d.ready r.toNat < 0) || decide (d.ready r.toNat > n))) = true:=by
   rw [List.all_eq_true]
   intro x hx
   obtain ⟨j,hj,rfl⟩:=List.mem_iff_getElem.1 hx
   have:=hp j (by omega)
   rw [fY hj] at this
   rw [this];rfl
  rw [e];exact .rfl
def TPE : Tab:=fM qq (iB ++ dX) [(48,Alu.a2H),(58,Alu.a2S)] iA [(22,aXO),(43,a2V),(40,aX4),(45,endS'),(41,a2W),(47,a76),(95,goS'),(49,a77),(51,a78),(44,a79)] []
def dE (d : cM) (n w r : Int) : cM:=if 1 ≤ n ∧ n ≤ 15 then { d with oW:=fun i => bif Nat.beq i n.toNat then w else d.oW i,ready:=fun i => bif Nat.beq i n.toNat then r else d.ready i } else d
def onF (d : cM) : cM:={ d with pos:={ d.pos with index:=IntKind.i64.wrap (d.pos.index + 1) },done:=IntKind.i64.wrap (d.done + 1) }
def mH (s : Split) (d : cM) (t : Bool) (n : Int) : cM:={ d with pos:=goF s d.pos t,wait:=if t then IntKind.i64.wrap (n + 2) else d.wait,done:=IntKind.i64.wrap (d.done + 1) }
def aMM (d : cM) : cM:={ d with halted:=true,done:=IntKind.i64.wrap (d.done + 1) }
def doV (d : cM) (i : Ins) : Int:=Alu.doI i.op i.d i.a i.b i.imm (fV d i.a) (fV d i.b)
def doK (d : cM) (i : Ins) : Bool:=Alu.dkB i.op i.d i.a i.b i.imm (fV d i.b)
def aAQ (d : cM) (i : Ins) : Bool:=Alu.tkB i.op (fV d i.a) (fV d i.b)
def pV (c : Cfg) (s : Split) (x : Stt) (k : Cell) (st : Int) : Stt :=
 if k.kind = 1 then (if doK x.e k.ins then { x with e:=onF (dE x.e k.ins.d (doV x.e k.ins) (IntKind.i64.wrap (x.aG + aAP c k.ins.op))) } else eO x 3 st k.pc)
 else if k.kind = 6 then (if x.aeq = [] then x else { x with e:=onF (dE x.e k.reg (ix x.aeq 0) (IntKind.i64.wrap (x.aG + 1))),aeq:=x.aeq.tail })
 else if k.kind = 7 then (if (xR x.ldq).2.2 then { x with e:=onF (dE x.e k.ins.d (xR x.ldq).2.1 (IntKind.i64.wrap (x.aG + 1))),ldq:=(xR x.ldq).1 } else x)
 else if k.kind = 8 then (if (x.sdq.length : Int) < c.sdq then { x with e:=onF x.e,sdq:=x.sdq ++ [fV x.e k.reg] } else x)
 else if k.kind = 9 then (if (x.ebq.length : Int) < c.ebq then { x with e:=mH s x.e (aAQ x.e k.ins) x.aG,ebq:=x.ebq ++ [aAQ x.e k.ins] } else x)
 else if k.kind = 10 then (if x.abq = [] then x else { x with e:=mH s x.e (ix x.abq 0) x.aG,abq:=x.abq.tail })
 else if k.kind = 11 then { x with e:=mH s x.e true x.aG }
 else if k.kind = 12 then { x with e:=aMM x.e }
 else x
def atE (s : Split) (x : Stt) : Stt:={ x with e:={ x.e with pos:=(aT s true x.e.pos).1 } }
def eF (c : Cfg) (s : Split) (x : Stt) : Stt :=
 if aY c s x = false ∨ x.e.halted = true ∨ x.e.wait > x.aG then x
 else if (aT s true x.e.pos).2 then eO (atE s x) 4 (bY s true (atE s x).e.pos).2.1 (aAO s (atE s x).e.pos.block)
 else if dB x (bY s true (atE s x).e.pos).2.1 = true ∨ uF x.e (bY s true (atE s x).e.pos).1 x.aG = false then atE s x
 else pV c s (atE s x) (bY s true (atE s x).e.pos).1 (bY s true (atE s x).e.pos).2.1
def jJ (s : Split) : Prop:=s.blocks.length ≤ 1000000 ∧ ∀ b ∈ s.blocks,(∀ k ∈ b.a,0 ≤ k.ins.d ∧ k.ins.d ≤ 15) ∧ b.wf
def bB6 : List XV → Option ((XV → Prop) → Prop):=eQ (fun q : Cfg × Split × Stt => [aU q.1,aH q.2.1,aO q.2.2]) (fun q => q.2.2.ok ∧ jJ q.2.1) (fun q => eF q.1 q.2.1 q.2.2) (fun y => aO y)
theorem bB7 (c : Cfg) (s : Split) (x : Stt) (r : XV) : (aQ TPE 80 (bT TPE 80 20) 26 [aU c,aH s,aO x] (fun v => aA v r)) = (
 let q1 : Nat:=x.ldq.length * 16;
 let q2 : Bool:=decide (q1 ≤ 140737488355328);
 let q3 : Bool:=decide (x.ldq.length ≤ x.ldq.length);
 let q4 : Bool:=decide (x.sdq.length ≤ x.sdq.length);
 let q5 : Bool:=decide (x.aeq.length ≤ x.aeq.length);
 let q6 : Bool:=decide (x.abq.length ≤ x.abq.length);
 let q7 : Bool:=decide (x.ebq.length ≤ x.ebq.length);
 let q8 : Bool:=decide (x.saq.length ≤ x.saq.length);
 let q9 : Bool:=decide (x.table.length ≤ x.table.length);
 let q10 : Bool:=decide (x.mem.length ≤ x.mem.length);
 let q11 : Bool:=decide (x.writes.length ≤ x.writes.length);
 let q12 : Split × Bool × Pos → List XV:=fun s => [aH s.1,.bool s.2.1,dH s.2.2];
 let q13 : XV:=.tab 16 1 fun i => .int .u32 (x.e.oW i);
 let q14 : XV:=.tab 16 1 fun i => .int .i64 (x.e.ready i);
 let q15 : Pos × Bool → XV:=fun y => .agg 38 [q13,q14,dH y.1,.int .i64 x.e.wait,.bool x.e.halted,.int .i64 x.e.done];
 let q16 : List XV:=[aB 5 bW x.saq,aB 8 dK x.table,aB 1 kM x.mem,aB 3 oX x.writes,oH x.bP,.int .i64 x.dN,.int .i64 x.cF,.int .i64 x.tags];
 let q17 : List XV:=aB 1 cJ x.ebq :: q16;
 let q18 : List XV:=aB 1 cJ x.abq :: q17;
 let q19 : List XV:=aB 1 cU x.aeq :: q18;
 let q20 : List XV:=aB 1 cU x.sdq :: q19;
 let q21 : List XV:=aB 3 cN x.ldq :: q20;
 let q22 : Pos × Bool → XV:=fun y => .agg 92 (.int .i64 x.aG :: aR x.a :: q15 y :: q21);
 let q23 : Stt × Int × Int × Int → Int:=fun s => s.2.1;
 let q24 : Stt × Int × Int × Int → Int:=fun s => s.2.2.1;
 let q25 : Stt × Int × Int × Int → Int:=fun s => s.2.2.2;
 let q26 : Stt × Int × Int × Int → List XV:=fun s => [aO s.1,.int .i64 (q23 s),.int .i64 (q24 s),.int .i64 (q25 s)];
 let q27 : Stt × Int × Int × Int → Stt:=fun s => eO s.1 (q23 s) (q24 s) (q25 s);
 let q28 : Pos × Bool → Cell × Int × Bool → List XV:=fun y y_1 => [q15 y,.int .i64 y_1.1.ins.a];
 let q29 : cM × Int → List XV:=fun s => [aR s.1,.int .i64 s.2];
 let q30 : Pos × Bool → Cell × Int × Bool → List XV:=fun y y_1 => [q15 y,.int .i64 y_1.1.ins.b];
 let q31 : Int → Bool:=fun y => decide (0 ≤ y);
 let q32 : Int → Bool:=fun y => decide (y ≤ 4294967295);
 let q33 : Cell × Int × Bool → Bool:=fun y => decide (y.1.ins.d ≥ 1);
 let q34 : Cell × Int × Bool → Bool:=fun y => bif q33 y then q33 y else true;
 let q35 : Cell × Int × Bool → Bool:=fun y => bif q33 y then decide (y.1.ins.d ≤ 15) else false;
 let q36 : Cell × Int × Bool → Bool:=fun y => decide (0 ≤ y.1.ins.d);
 let q37 : Cell × Int × Bool → Bool:=fun y => decide (y.1.ins.d < 16);
 let q38 : Cell × Int × Bool → Nat:=fun y => Int.toNat y.1.ins.d * 1;
 let q39 : Cell × Int × Bool → Nat:=fun y => pl 39 (q38 y);
 let q40 : Cell × Int × Bool → Bool:=fun y => Nat.beq (q39 y) (q39 y);
 let q41 : Cell × Int × Bool → Bool:=fun y => decide (Int.toNat y.1.ins.d < 16);
 let q42 : Cell × Int × Bool → Nat:=fun y => pl 55 (q38 y);
 let q43 : Cell × Int × Bool → Bool:=fun y => Nat.beq (q42 y) (q42 y);
 let q44 : List XV:=[.int .i64 (IntKind.wrap .i64 (x.e.done + 1))];
 let q45 : List XV:=.bool x.e.halted :: q44;
 let q46 : List XV:=.int .i64 x.e.wait :: q45;
 let q47 : Pos × Bool → List XV:=fun y => .agg 3 [.int .i64 y.1.block,.int .i64 (IntKind.wrap .i64 (y.1.index + 1)),.int .i64 y.1.base] :: q46;
 let q48 : Pos × Bool → XV:=fun y => .agg 38 (q13 :: q14 :: q47 y);
 let q49 : Int:=(↑(pl 0 x.aeq.length) : Int);
 let q50 : Nat:=pl 0 (Int.toNat (0 : Int));
 let q51 : Cell × Int × Bool → Bool:=fun y => decide (y.1.reg ≥ 1);
 let q52 : Cell × Int × Bool → Bool:=fun y => decide (0 ≤ y.1.reg);
 let q53 : Cell × Int × Bool → Bool:=fun y => decide (y.1.reg < 16);
 let q54 : Cell × Int × Bool → Nat:=fun y => Int.toNat y.1.reg * 1;
 let q55 : Cell × Int × Bool → Nat:=fun y => pl 39 (q54 y);
 let q56 : Cell × Int × Bool → Bool:=fun y => decide (Int.toNat y.1.reg < 16);
 let q57 : Cell × Int × Bool → Nat:=fun y => pl 55 (q54 y);
 let q58 : Bool:=decide (1 ≤ (↑(x.aeq.length) : Int));
 let q59 : Nat:=x.aeq.length - 1;
 let q60 : Nat:=pl 0 (Int.toNat (1 : Int));
 let q61 : Bool:=decide (pl 1 q59 ≤ x.aeq.length);
 let q62 : Int:=IntKind.wrap .i64 (x.aG + 1);
 let q63 : List XV:=aB 3 cN x.ldq :: aB 1 cU x.sdq :: (.row false 1 q59 fun i => cU (ix x.aeq (pl 1 i))) :: q18;
 let q64 : Bool:=decide (0 < (↑(x.ldq.length) : Int));
 let q65 : Bool:=decide ((↑(x.ldq.length) : Int) = 0);
 let q66 : Bool:=!q65;
 let q67 : Bool:=!q66;
 let q68 : Bool:=decide (0 < x.ldq.length);
 let q69 : Nat:=x.ldq.length - 1;
 let q70 : Nat:=x.ldq.length - Int.toNat (1 : Int);
 let q71 : Bool:=decide (q69 ≤ q69);
 let q72 : List XV:=(.row false 3 q69 fun i => cN (ix x.ldq (pl 1 i))) :: q20;
 let q73 : Nat:=pl (pl 0 x.sdq.length) (List.length [AX.t 181]);
 let q74 : Nat:=pl (pl 0 x.ebq.length) (List.length [AX.t 210]);
 let q75 : Split × Pos × Bool → List XV:=fun s => [aH s.1,dH s.2.1,.bool s.2.2];
 let q76 : Split × Pos × Bool → Pos:=fun s => goF s.1 s.2.1 s.2.2;
 let q77 : Bool:=decide (pl x.ebq.length 1 ≤ pl x.ebq.length 1);
 let q78 : Pos → XV:=fun y => .agg 38 (q13 :: q14 :: dH y :: .int .i64 (IntKind.wrap .i64 (x.aG + 2)) :: q45);
 let q79 : Cell × Int × Bool → Int → Int → List XV:=fun y y_1 y_2 => aB 3 cN x.ldq :: aB 1 cU x.sdq :: aB 1 cU x.aeq :: aB 1 cJ x.abq :: (.row false 1 (pl
  x.ebq.length 1) fun i => .bool (bif decide (i < x.ebq.length) then ix x.ebq i else Alu.tkB y.1.ins.op y_1 y_2)) :: q16;
 let q80 : Pos → XV:=fun y => .agg 38 (q13 :: q14 :: dH y :: q46);
 let q81 : Int:=(↑(pl 0 x.abq.length) : Int);
 let q82 : Nat:=x.abq.length - 1;
 let q83 : Bool:=decide (pl 1 q82 ≤ x.abq.length);
 let q84 : List XV:=aB 3 cN x.ldq :: aB 1 cU x.sdq :: aB 1 cU x.aeq :: (.row false 1 q82 fun i => cJ (ix x.abq (pl 1 i))) :: q17;bif q2 then bif gL (fun i
  => true) x.ldq.length then bif decide (x.sdq.length * 4 ≤ 140737488355328) then bif decide (x.aeq.length * 4 ≤ 140737488355328) then bif decide (x.abq.length * 1 ≤ 140737488355328)
  then bif decide (x.ebq.length * 1 ≤ 140737488355328) then bif decide (x.saq.length * 32 ≤ 140737488355328) then bif decide (x.table.length * 64 ≤ 140737488355328) then bif decide (x.mem.length
  * 1 ≤ 140737488355328) then bif decide (x.writes.length * 24 ≤ 140737488355328) then bif q3 then bif q4 then bif q5 then bif q6 then bif q7 then bif q8 then bif q9 then bif q10 then
  bif q11 then ∃ (s_1 : Cfg × Split × Stt),aC [aU c,aH s,aO x] [aU s_1.1,aH s_1.2.1,aO s_1.2.2] ∧ aK s_1.2.2.ok ∧ ∀ (y : Bool),y = aY s_1.1 s_1.2.1
  s_1.2.2 → bif bif !y then true else !!y then bif bif bif !y then true else x.e.halted then true else !bif !y then true else x.e.halted then bif bif bif !y then true else x.e.halted
  then true else decide (x.e.wait > x.aG) then bif q3 then bif q4 then bif q5 then bif q6 then bif q7 then bif q8 then bif q9 then bif q10 then bif q11 then aA (aO x) r else
  False else False else False else False else False else False else False else False else False else ∃ (s_2 : Split × Bool × Pos),aC [aH s,.bool true,dH x.e.pos] (q12 s_2)
  ∧ aK (s_2.1.blocks.length ≤ 1000000) ∧ ∀ (y : Pos × Bool),y = kD s_2.1 s_2.2.1 (s_2.1.blocks.length + 1) s_2.2.2 → ∃ (s_3 : Split × Bool × Pos),aC [aH s,.bool true,
  dH y.1] (q12 s_3) ∧ aK (s_3.1.blocks.length ≤ 1000000) ∧ ∀ (y_1 : Cell × Int × Bool),y_1 = bY s_3.1 s_3.2.1 s_3.2.2 → bif y.2 then bif q3 then bif q4 then bif q5 then bif
  q6 then bif q7 then bif q8 then bif q9 then bif q10 then bif q11 then bif q3 then bif q4 then bif q5 then bif q6 then bif q7 then bif q8 then bif q9 then bif q10 then bif q11 then bif
  q3 then bif q4 then bif q5 then bif q6 then bif q7 then bif q8 then bif q9 then bif q10 then bif q11 then bif q3 then bif q4 then bif q5 then bif q6 then bif q7 then bif q8 then bif
  q9 then bif q10 then bif q11 then bif q3 then bif q4 then bif q5 then bif q6 then bif q7 then bif q8 then bif q9 then bif q10 then bif q11 then ∃ (s_4 : Split × Int),aC [aH
  s,.int .i64 y.1.block] [aH s_4.1,.int .i64 s_4.2] ∧ aK True ∧ ∀ (y_2 : Int),y_2 = aAO s_4.1 s_4.2 → ∃ (s : Stt × Int × Int × Int),aC [q22 y,.int .i64 (4 : Int),.int
  .i64 y_1.2.1,.int .i64 y_2] (q26 s) ∧ aK s.1.ok ∧ ∀ (y : Stt),y = q27 s → aA (aO y) r else False else False else False else False else False else False else False else False
  else False else False else False else False else False else False else False else False else False else False else False else False else False else False else False else False else
  False else False else False else False else False else False else False else False else False else False else False else False else False else False else False else False else False
  else False else False else False else False else bif q3 then bif q4 then bif q5 then bif q6 then bif q7 then bif q8 then bif q9 then bif q10 then bif q11 then ∃ (s_4 : Stt × Int),aC
  [q22 y,.int .i64 y_1.2.1] [aO s_4.1,.int .i64 s_4.2] ∧ aK True ∧ ∀ (y_2 : Bool),y_2 = dB s_4.1 s_4.2 → bif !y_2 then ∃ (s_5 : cM × Cell × Int),aC [q15 y,cX y_1.1,
  .int .i64 x.aG] [aR s_5.1,cX s_5.2.1,.int .i64 s_5.2.2] ∧ aK True ∧ ∀ (y_3 : Bool),y_3 = uF s_5.1 s_5.2.1 s_5.2.2 → bif bif y_2 then true else !y_3 then bif q3 then
  bif q4 then bif q5 then bif q6 then bif q7 then bif q8 then bif q9 then bif q10 then bif q11 then aA (q22 y) r else False else False else False else False else False else False else
  False else False else False else bif decide (y_1.1.kind = 1) then ∃ (s : cM × Int),aC (q28 y y_1) (q29 s) ∧ aK True ∧ ∀ (y_4 : Int),y_4 = fV s.1 s.2 → ∃ (s : cM × Int),
  aC (q30 y y_1) (q29 s) ∧ aK True ∧ ∀ (y_5 : Int),y_5 = fV s.1 s.2 → bif q31 y_4 then bif q32 y_4 then bif q31 y_5 then bif q32 y_5 then bif !Alu.dkB y_1.1.ins.op y_1.1.ins.d
  y_1.1.ins.a y_1.1.ins.b y_1.1.ins.imm y_5 then bif q3 then bif q4 then bif q5 then bif q6 then bif q7 then bif q8 then bif q9 then bif q10 then bif q11 then bif q3 then bif q4 then
  bif q5 then bif q6 then bif q7 then bif q8 then bif q9 then bif q10 then bif q11 then bif q3 then bif q4 then bif q5 then bif q6 then bif q7 then bif q8 then bif q9 then bif q10 then
  bif q11 then bif q3 then bif q4 then bif q5 then bif q6 then bif q7 then bif q8 then bif q9 then bif q10 then bif q11 then bif q3 then bif q4 then bif q5 then bif q6 then bif q7 then
  bif q8 then bif q9 then bif q10 then bif q11 then bif q3 then bif q4 then bif q5 then bif q6 then bif q7 then bif q8 then bif q9 then bif q10 then bif q11 then ∃ (s : Stt × Int × Int
  × Int),aC [q22 y,.int .i64 (3 : Int),.int .i64 y_1.2.1,.int .i64 y_1.1.pc] (q26 s) ∧ aK s.1.ok ∧ ∀ (y : Stt),y = q27 s → aA (aO y) r else False else False else False
  else False else False else False else False else False else False else False else False else False else False else False else False else False else False else False else False else
  False else False else False else False else False else False else False else False else False else False else False else False else False else False else False else False else False
  else False else False else False else False else False else False else False else False else False else False else False else False else False else False else False else False else
  False else False else ∃ (s : Cfg × Int),aC [aU c,.int .i64 y_1.1.ins.op] [aU s.1,.int .i64 s.2] ∧ aK True ∧ ∀ (y_6 : Int),y_6 = aAP s.1 s.2 → bif q34 y_1 then bif
  q35 y_1 then bif q36 y_1 then bif q37 y_1 then bif q40 y_1 then bif q41 y_1 then bif q41 y_1 then bif q36 y_1 then bif q37 y_1 then bif q43 y_1 then bif q41 y_1 then bif q41 y_1 then
  bif q3 then bif q4 then bif q5 then bif q6 then bif q7 then bif q8 then bif q9 then bif q10 then bif q11 then aA (.agg (92 : Nat) (.int .i64 x.aG :: aR x.a :: .agg (38 : Nat)
  ((.tab (16 : Nat) (1 : Nat) fun (j : Nat) => .int .u32 (bif Nat.beq j (Int.toNat y_1.1.ins.d) then Alu.doI y_1.1.ins.op y_1.1.ins.d y_1.1.ins.a y_1.1.ins.b y_1.1.ins.imm y_4 y_5 else
  x.e.oW j)) :: (.tab (16 : Nat) (1 : Nat) fun (j : Nat) => .int .i64 (bif Nat.beq j (Int.toNat y_1.1.ins.d) then IntKind.wrap .i64 (x.aG + y_6) else x.e.ready j)) :: q47 y) :: q21))
  r else False else False else False else False else False else False else False else False else False else False else False else False else False else False else False else False else
  False else False else False else bif q3 then bif q4 then bif q5 then bif q6 then bif q7 then bif q8 then bif q9 then bif q10 then bif q11 then aA (.agg 92 (.int .i64 x.aG :: aR
  x.a :: q48 y :: q21)) r else False else False else False else False else False else False else False else False else False else False else False else False else False else False else
  bif decide (y_1.1.kind = 6) then bif decide ((↑(x.aeq.length) : Int) > 0) then bif decide (0 < (↑(x.aeq.length) : Int)) then bif decide (0 < x.aeq.length) then bif bif q51 y_1 then
  q51 y_1 else true then bif bif q51 y_1 then decide (y_1.1.reg ≤ 15) else false then bif q52 y_1 then bif q53 y_1 then bif Nat.beq (q55 y_1) (q55 y_1) then bif q56 y_1 then bif q56 y_1
  then bif q52 y_1 then bif q53 y_1 then bif Nat.beq (q57 y_1) (q57 y_1) then bif q56 y_1 then bif q56 y_1 then bif q58 then bif q3 then bif q4 then bif q61 then bif q6 then bif q7 then
  bif q8 then bif q9 then bif q10 then bif q11 then aA (.agg 92 (.int .i64 x.aG :: aR x.a :: .agg 38 ((.tab 16 1 fun (j : Nat) => .int .u32 (bif Nat.beq j (Int.toNat y_1.1.reg)
  then ix x.aeq (0 : Nat) else x.e.oW j)) :: (.tab 16 1 fun (j : Nat) => .int .i64 (bif Nat.beq j (Int.toNat y_1.1.reg) then q62 else x.e.ready j)) :: q47 y) :: q63)) r else False else
  False else False else False else False else False else False else False else False else False else False else False else False else False else False else False else False else False
  else False else False else bif q58 then bif q3 then bif q4 then bif q61 then bif q6 then bif q7 then bif q8 then bif q9 then bif q10 then bif q11 then aA (.agg 92 (.int .i64 x.aG
  :: aR x.a :: q48 y :: q63)) r else False else False else False else False else False else False else False else False else False else False else False else False else False else
  bif q3 then bif q4 then bif q5 then bif q6 then bif q7 then bif q8 then bif q9 then bif q10 then bif q11 then aA (q22 y) r else False else False else False else False else False
  else False else False else False else False else bif decide (y_1.1.kind = 7) then bif bif q64 then true else q67 then bif bif q68 then true else q67 then bif bif q65 then true else
  q66 then bif bif q65 then true else !(ix x.ldq 0).full then bif q2 then bif gL (fun i => true) x.ldq.length then bif q3 then bif q3 then bif q4 then bif q5 then bif q6 then bif q7
  then bif q8 then bif q9 then bif q10 then bif q11 then aA (q22 y) r else False else False else False else False else False else False else False else False else False else False
  else False else False else bif decide (1 ≤ (↑(x.ldq.length) : Int)) then bif decide (q69 * 16 ≤ 140737488355328) then bif gL (fun i => true) q69 then bif decide (pl 1 q69 ≤ x.ldq.length)
  then bif q64 then bif q68 then bif q34 y_1 then bif q35 y_1 then bif q36 y_1 then bif q37 y_1 then bif q40 y_1 then bif q41 y_1 then bif q41 y_1 then bif q36 y_1 then bif q37 y_1 then
  bif q43 y_1 then bif q41 y_1 then bif q41 y_1 then bif q71 then bif q4 then bif q5 then bif q6 then bif q7 then bif q8 then bif q9 then bif q10 then bif q11 then aA (.agg 92 (.int
  .i64 x.aG :: aR x.a :: .agg (38 : Nat) ((.tab (16 : Nat) (1 : Nat) fun (j : Nat) => .int .u32 (bif Nat.beq j (Int.toNat y_1.1.ins.d) then Slot.val (ix x.ldq (0 : Nat)) else x.e.oW
  j)) :: (.tab (16 : Nat) (1 : Nat) fun (j : Nat) => .int .i64 (bif Nat.beq j (Int.toNat y_1.1.ins.d) then q62 else x.e.ready j)) :: q47 y) :: q72)) r else False else False else False
  else False else False else False else False else False else False else False else False else False else False else False else False else False else False else False else False else
  bif q71 then bif q4 then bif q5 then bif q6 then bif q7 then bif q8 then bif q9 then bif q10 then bif q11 then aA (.agg 92 (.int .i64 x.aG :: aR x.a :: q48 y :: q72)) r else
  False else False else False else False else False else False else False else False else False else False else False else False else False else False else False else False else False
  else False else False else bif decide (y_1.1.kind = 8) then bif decide ((↑(x.sdq.length) : Int) < c.sdq) then ∃ (s : cM × Int),aC [q15 y,.int .i64 y_1.1.reg] (q29 s) ∧ aK
  True ∧ ∀ (y_4 : Int),y_4 = fV s.1 s.2 → bif q4 then bif decide (pl x.sdq.length 1 * 4 ≤ 140737488355328) then bif q3 then bif decide (pl x.sdq.length 1 ≤ pl x.sdq.length 1) then
  bif q5 then bif q6 then bif q7 then bif q8 then bif q9 then bif q10 then bif q11 then aA (.agg 92 (.int .i64 x.aG :: aR x.a :: q48 y :: aB 3 cN x.ldq :: (.row false
  1 (pl x.sdq.length 1) fun i => .int .u32 (bif decide (i < x.sdq.length) then ix x.sdq i else y_4)) :: q19)) r else False else False else False else False else False else False else
  False else False else False else False else False else bif q3 then bif q4 then bif q5 then bif q6 then bif q7 then bif q8 then bif q9 then bif q10 then bif q11 then aA (q22 y) r
  else False else False else False else False else False else False else False else False else False else bif decide (y_1.1.kind = 9) then bif decide ((↑(x.ebq.length) : Int) < c.ebq)
  then ∃ (s_6 : cM × Int),aC (q28 y y_1) (q29 s_6) ∧ aK True ∧ ∀ (y_4 : Int),y_4 = fV s_6.1 s_6.2 → ∃ (s_7 : cM × Int),aC (q30 y y_1) (q29 s_7) ∧ aK True ∧ ∀ (y_5
  : Int),y_5 = fV s_7.1 s_7.2 → bif q31 y_4 then bif q32 y_4 then bif q31 y_5 then bif q32 y_5 then bif q7 then bif decide (pl x.ebq.length 1 * 1 ≤ 140737488355328) then ∃ (s_8 : Split
  × Pos × Bool),aC [aH s,dH y.1,.bool (Alu.tkB y_1.1.ins.op y_4 y_5)] (q75 s_8) ∧ aK True ∧ ∀ (y : Pos),y = q76 s_8 → bif Alu.tkB y_1.1.ins.op y_4 y_5 then bif q3 then
  bif q4 then bif q5 then bif q6 then bif q77 then bif q8 then bif q9 then bif q10 then bif q11 then aA (.agg (92 : Nat) (.int .i64 x.aG :: aR x.a :: q78 y :: q79 y_1 y_4 y_5))
  r else False else False else False else False else False else False else False else False else False else bif q3 then bif q4 then bif q5 then bif q6 then bif q77 then bif q8 then bif
  q9 then bif q10 then bif q11 then aA (.agg (92 : Nat) (.int .i64 x.aG :: aR x.a :: q80 y :: q79 y_1 y_4 y_5)) r else False else False else False else False else False else
  False else False else False else False else False else False else False else False else False else False else bif q3 then bif q4 then bif q5 then bif q6 then bif q7 then bif q8 then
  bif q9 then bif q10 then bif q11 then aA (q22 y) r else False else False else False else False else False else False else False else False else False else bif decide (y_1.1.kind
  = 10) then bif decide ((↑(x.abq.length) : Int) > 0) then bif decide (0 < (↑(x.abq.length) : Int)) then bif decide (0 < x.abq.length) then bif decide (1 ≤ (↑(x.abq.length) : Int)) then
  ∃ (s_6 : Split × Pos × Bool),aC [aH s,dH y.1,.bool (ix x.abq 0)] (q75 s_6) ∧ aK True ∧ ∀ (y : Pos),y = q76 s_6 → bif ix x.abq 0 then bif q3 then bif q4 then bif q5
  then bif q83 then bif q7 then bif q8 then bif q9 then bif q10 then bif q11 then aA (.agg 92 (.int .i64 x.aG :: aR x.a :: q78 y :: q84)) r else False else False else False
  else False else False else False else False else False else False else bif q3 then bif q4 then bif q5 then bif q83 then bif q7 then bif q8 then bif q9 then bif q10 then bif q11 then
  aA (.agg 92 (.int .i64 x.aG :: aR x.a :: q80 y :: q84)) r else False else False else False else False else False else False else False else False else False else False else
  False else False else bif q3 then bif q4 then bif q5 then bif q6 then bif q7 then bif q8 then bif q9 then bif q10 then bif q11 then aA (q22 y) r else False else False else False
  else False else False else False else False else False else False else bif decide (y_1.1.kind = 11) then ∃ (s_6 : Split × Pos × Bool),aC [aH s,dH y.1,.bool true] (q75
  s_6) ∧ aK True ∧ ∀ (y : Pos),y = q76 s_6 → bif q3 then bif q4 then bif q5 then bif q6 then bif q7 then bif q8 then bif q9 then bif q10 then bif q11 then aA (.agg 92 (.int .i64
  x.aG :: aR x.a :: q78 y :: q21)) r else False else False else False else False else False else False else False else False else False else bif decide (y_1.1.kind = 12) then bif
  q3 then bif q4 then bif q5 then bif q6 then bif q7 then bif q8 then bif q9 then bif q10 then bif q11 then aA (.agg 92 (.int .i64 x.aG :: aR x.a :: .agg 38 (q13 :: q14 :: dH
  y.1 :: .int .i64 x.e.wait :: .bool true :: q44) :: q21)) r else False else False else False else False else False else False else False else False else False else bif q3 then bif q4
  then bif q5 then bif q6 then bif q7 then bif q8 then bif q9 then bif q10 then bif q11 then aA (q22 y) r else False else False else False else False else False else False else False
  else False else False else bif y_2 then bif q3 then bif q4 then bif q5 then bif q6 then bif q7 then bif q8 then bif q9 then bif q10 then bif q11 then aA (q22 y) r else False else
  False else False else False else False else False else False else False else False else False else False else False else False else False else False else False else False else False
  else False else False else False else False else False else False else False else False else False else False else False else False else False else False else False else False else
  False else False else False else False else False else False):=by kernel_rfl
theorem bB8 : bX Try.prog TPE:=bV (fJ.app cZ) ⟨Alu.aX2,Alu.aX3,trivial⟩ fI ⟨aJT,aO1,aJV,aRF,aO2,aYD,a4N,aYA,aYB,aYC,trivial⟩ trivial
theorem uG (n : Int) {P Q : Prop} (h1 : 1 ≤ n ∧ n ≤ 15 → P) (h2 : ¬ (1 ≤ n ∧ n ≤ 15) → Q) :
  bif bif decide (n ≥ 1) then decide (n ≥ 1) else true then
   bif bif decide (n ≥ 1) then decide (n ≤ 15) else false then
    bif decide (0 ≤ n) then bif decide (n < 16) then bif decide (n.toNat < 16) then bif decide (n.toNat < 16) then bif decide (0 ≤ n) then bif decide (n < 16) then bif decide (n.toNat < 16) then bif decide (n.toNat < 16) then P
    else False else False else False else False else False else False else False else False
   else Q
  else False:=by
 by_cases h : 1 ≤ n ∧ n ≤ 15
 ·have a1 : n ≥ 1:=h.1
  have a2 : n ≤ 15:=h.2
  have a3 : 0 ≤ n:=by omega
  have a4 : n < 16:=by omega
  have a5 : n.toNat < 16:=by omega
  simp only [a1,a2,a3,a4,a5,zaC,zaB]
  exact h1 h
 ·by_cases a1 : n ≥ 1
  ·have a2 : ¬ n ≤ 15:=fun a => h ⟨a1,a⟩
   simp only [a1,a2,zaC,zaE,zaB,zaD]
   exact h2 h
  ·simp only [a1,zaE,zaB,zaD]
   exact h2 h
theorem pN {α : Type} [Inhabited α] {x : Bool} {es : Nat} {en : α → XV} {l : List α} : leQ (con (.row x es (l.length - 1) fun i => en (ix l (1 + i)))) (con (aB es en l.tail)) :=
 gH (by simp) (.inl rfl) fun i hi => aEM (by rw [aC0,Nat.add_comm])
theorem uH {d : cM} (h : d.wf) (n : Int) : 0 ≤ fV d n ∧ fV d n ≤ 4294967295:=by
 unfold fV
 split
 ·omega
 ·have:=h.1 n.toNat (by omega)
  unfold j9 at this;omega
theorem aJX {s : Split} (hs : jJ s) (e : Bool) : ∀ (k : Nat) (p : Pos),p.wf → (kD s e k p).1.wf
 | 0,p,h => h
 | k + 1,p,h => by
  rw [aAM]
  split
  ·exact h
  split
  ·exact h
  split
  ·exact h
  ·rename_i h1 h2 h3
   have hb:=hs.2 (ix s.blocks p.block.toNat) (cH (by omega))
   exact aJX hs e k _ ⟨hb.2.2.2.1,fK,dY _⟩
theorem aYE {s : Split} {x : Stt} (hs : jJ s) (h : x.ok) : (atE s x).ok:=by
 obtain ⟨⟨w0,w1,w2,w3⟩,o⟩:=h
 exact ⟨⟨w0,w1,⟨w2.1,w2.2.1,aJX hs true _ _ w2.2.2.1,w2.2.2.2⟩,w3⟩,o⟩
theorem a8D : eI Try.prog (26,bB6):=bB fun ⟨c,s,x⟩ h => by
 obtain ⟨h,hs⟩ : x.ok ∧ jJ s:=h
 show Pure _ _ (cons [aU c,aH s,aO x]) (con (aO (eF c s x)))
 refine eS (u:=80) (k:=20) mix bB8 ?_
 refine Eq.mpr (bB7 c s x _) ?_
 obtain ⟨b1,b2,b3,b4,b5,b6,b7,b8,b9⟩:=aXL h
 simp only [b1,b2,b3,b4,b5,b6,b7,b8,b9,aD,zaF,cB,zaC,zaB,zaQ]
 refine ⟨(c,s,x),.rfl,⟨h⟩, ?_⟩
 rintro y rfl
 show cond (cond (!aY c s x) true (!!aY c s x)) _ _
 simp only [bJ,zaB]
 simp only [bor]
 unfold eF
 refine jQ (fun h1 => ?_) (fun h1 => ?_)
 ·rw [if_pos (by simpa [or_assoc] using h1)]
  exact .rfl
 have h1' : ¬ (aY c s x = false ∨ x.e.halted = true ∨ x.e.wait > x.aG):=by
  simp only [Bool.or_eq_false_iff,Bool.not_eq_false',zaP] at h1
  rintro (h2 | h2 | h2)
  ·rw [h1.1.1] at h2;cases h2
  ·rw [h1.1.2] at h2;cases h2
  ·exact h1.2 h2
 rw [if_neg h1']
 refine ⟨(s,true,x.e.pos),.rfl,⟨hs.1⟩, ?_⟩
 intro q hq
 replace hq : q = aT s true x.e.pos:=hq
 refine ⟨(s,true,q.1),.rfl,⟨hs.1⟩, ?_⟩
 intro m hm
 replace hm : m = bY s true q.1:=hm
 have hat : atE s x = { x with e:={ x.e with pos:=q.1 } }:=by rw [hq];rfl
 have hok:=aYE hs h
 rw [show (bY s true (atE s x).e.pos) = m by rw [hm,hat],← hq]
 have hb : (atE s x).e.pos.block = q.1.block:=by rw [hat]
 rw [hb]
 generalize hX : atE s x = X at hok hat
 have hnote : ∀ k st pc : Int,∃ s : Stt × Int × Int × Int,aC [aO X,.int .i64 k,.int .i64 st,.int .i64 pc] [aO s.1,.int .i64 s.2.1,.int .i64 s.2.2.1,.int .i64 s.2.2.2] ∧ aK s.1.ok ∧ ∀ y : Stt,y = eO s.1 s.2.1 s.2.2.1 s.2.2.2 → aA (aO y) (aO (eO X k st pc)):=fun k st pc =>
  ⟨(X,k,st,pc),.rfl,⟨hok⟩,fun y hy => by rw [hy];exact .rfl⟩
 have hXe : X.e = { x.e with pos:=q.1 }:=by rw [hat]
 have hst : aA (aO X) (aO X):=.rfl
 clear hX
 subst hat
 cases hf : q.2 with
 | true =>
  simp only [zaB,if_true]
  refine ⟨(s,q.1.block),.rfl,⟨trivial⟩, ?_⟩
  rintro z rfl
  exact hnote _ _ _
 | false =>
  simp only [zaD,zaU,if_false]
  refine ⟨({ x with e:={ x.e with pos:=q.1 } },m.2.1),.rfl,⟨trivial⟩, ?_⟩
  intro z hz
  replace hz : z = dB x m.2.1:=hz
  rw [← hz]
  cases z with
  | true =>
   simp only [zaI,zaD,zaB,true_or,if_true]
   exact hst
  | false =>
   simp only [zaH,zaD,zaB,zaU,false_or]
   refine ⟨({ x.e with pos:=q.1 },m.1,x.aG),.rfl,⟨trivial⟩, ?_⟩
   intro w hw
   replace hw : w = uF x.e m.1 x.aG:=hw
   rw [← hw]
   cases w with
   | false =>
    simp only [zaH,zaB,if_true]
    exact hst
   | true =>
    simp only [zaI,zaD,Bool.true_eq_false,if_false]
    clear hz hw hq hm
    obtain ⟨k,st,ok⟩:=m
    show cond (decide (k.kind = 1)) _ _
    unfold pV
    have hX : ∀ n,0 ≤ fV { x.e with pos:=q.1 } n ∧ fV { x.e with pos:=q.1 } n ≤ 4294967295:=uH ⟨h.1.2.2.1.1,h.1.2.2.1.2.1,(hok.1.2.2.1).2.2⟩
    by_cases k1 : k.kind = 1
    ·simp only [k1,zaC,zaB,if_true]
     refine ⟨({ x.e with pos:=q.1 },k.ins.a),.rfl,⟨trivial⟩, ?_⟩
     intro va hva
     replace hva : va = fV { x.e with pos:=q.1 } k.ins.a:=hva
     refine ⟨({ x.e with pos:=q.1 },k.ins.b),.rfl,⟨trivial⟩, ?_⟩
     intro vb hvb
     replace hvb : vb = fV { x.e with pos:=q.1 } k.ins.b:=hvb
     have ra:=hX k.ins.a
     have rb:=hX k.ins.b
     rw [← hva] at ra
     rw [← hvb] at rb
     simp only [ra.1,ra.2,rb.1,rb.2,zaC,zaB]
     show cond (!Alu.dkB k.ins.op k.ins.d k.ins.a k.ins.b k.ins.imm vb) _ _
     cases hd : Alu.dkB k.ins.op k.ins.d k.ins.a k.ins.b k.ins.imm vb with
     | false =>
      rw [if_neg (show ¬ doK { x.e with pos:=q.1 } k.ins = true by unfold doK;rw [← hvb,hd];simp)]
      exact hnote _ _ _
     | true =>
      rw [if_pos (show doK { x.e with pos:=q.1 } k.ins = true by unfold doK;rw [← hvb,hd])]
      refine ⟨(c,k.ins.op),.rfl,⟨trivial⟩, ?_⟩
      rintro lt rfl
      simp only [zaI,zaD]
      unfold doV
      rw [← hva,← hvb]
      refine uG k.ins.d (fun h => ?_) (fun h => ?_)
      ·rw [dE,if_pos h];exact .rfl
      ·rw [dE,if_neg h];exact .rfl
    simp only [k1,zaE,zaD,if_false]
    by_cases k6 : k.kind = 6
    ·simp only [k6,zaC,zaB,if_true]
     by_cases g : x.aeq = []
     ·simp only [g,List.length_nil,Int.ofNat_zero,Int.lt_irrefl,gt_iff_lt,zaE,zaD,if_true]
      rw [g] at hst
      exact hst
     have g1 : 0 < x.aeq.length:=List.length_pos_iff.2 g
     have g2 : (0 : Int) < (x.aeq.length : Int):=by omega
     have g3 : (1 : Int) ≤ (x.aeq.length : Int):=by omega
     have g4 : 1 + (x.aeq.length - 1) ≤ x.aeq.length:=by omega
     simp only [g,g1,g2,g3,g4,gt_iff_lt,zaC,zaB,if_false]
     refine uG k.reg (fun h => ?_) (fun h => ?_)
     ·rw [dE,if_pos h]
      refine ⟨fX ?_⟩
      repeat' (first | with_reducible exact .refl _ | exact bO | refine aF ?_ ?_ | exact .refl _ | exact pN)
     ·rw [dE,if_neg h]
      refine ⟨fX ?_⟩
      repeat' (first | with_reducible exact .refl _ | exact bO | refine aF ?_ ?_ | exact .refl _ | exact pN)
    simp only [k6,zaE,zaD,if_false]
    by_cases k7 : k.kind = 7
    ·simp only [k7,zaC,zaB,if_true]
     unfold xR
     by_cases g : x.ldq = []
     ·simp only [g,List.length_nil,Int.ofNat_zero,Int.lt_irrefl,Nat.lt_irrefl,zaE,zaC,zaI,zaH,Bool.or_true,Bool.true_or,zaB,zaD,true_or,if_true,zaU,if_false]
      rw [g] at hst
      exact hst
     have g1 : 0 < x.ldq.length:=List.length_pos_iff.2 g
     have g2 : (0 : Int) < (x.ldq.length : Int):=by omega
     have g3 : (1 : Int) ≤ (x.ldq.length : Int):=by omega
     have g4 : 1 + (x.ldq.length - 1) ≤ x.ldq.length:=by omega
     have g5 : ¬ (x.ldq.length : Int) = 0:=by omega
     have g6 : (x.ldq.length - 1) * 16 ≤ 140737488355328:=by omega
     simp only [g1,g2,g3,g4,g5,g6,gt_iff_lt,zaC,zaE,zaB,zaD,Bool.or_true,Bool.true_or,Bool.false_or,zaI,zaH]
     cases hfl : (ix x.ldq 0).full with
     | false =>
      simp only [g,false_or,if_true,zaH,zaB,zaU,if_false]
      exact hst
     | true =>
      simp only [g,false_or,Bool.true_eq_false,if_false,zaI,zaD,if_true]
      refine uG k.ins.d (fun h => ?_) (fun h => ?_)
      ·rw [dE,if_pos h]
       refine ⟨fX ?_⟩
       repeat' (first | with_reducible exact .refl _ | exact bO | refine aF ?_ ?_ | exact .refl _ | exact pN)
      ·rw [dE,if_neg h]
       refine ⟨fX ?_⟩
       repeat' (first | with_reducible exact .refl _ | exact bO | refine aF ?_ ?_ | exact .refl _ | exact pN)
    simp only [k7,zaE,zaD,if_false]
    by_cases k8 : k.kind = 8
    ·simp only [k8,zaC,zaB,if_true]
     by_cases g : (x.sdq.length : Int) < c.sdq
     ·simp only [g,zaC,zaB,if_true]
      refine ⟨({ x.e with pos:=q.1 },k.reg),.rfl,⟨trivial⟩, ?_⟩
      intro v hv
      replace hv : v = fV { x.e with pos:=q.1 } k.reg:=hv
      rw [← hv]
      have g6 : (x.sdq.length + 1) * 4 ≤ 140737488355328:=by have:=h.2.2.1;omega
      simp only [g6,zaC,zaB]
      refine ⟨fX ?_⟩
      repeat' (first | with_reducible exact .refl _ | exact bO | refine aF ?_ ?_ | exact .refl _ | exact oP (fun i hi => by simp only [hi,zaC,zaB];rfl) (by simp only [Nat.lt_irrefl,zaE,zaD];rfl))
     ·simp only [g,zaE,zaD,if_false]
      exact hst
    simp only [k8,zaE,zaD,if_false]
    by_cases k9 : k.kind = 9
    ·simp only [k9,zaC,zaB,if_true]
     by_cases g : (x.ebq.length : Int) < c.ebq
     ·simp only [g,zaC,zaB,if_true]
      refine ⟨({ x.e with pos:=q.1 },k.ins.a),.rfl,⟨trivial⟩, ?_⟩
      intro va hva
      replace hva : va = fV { x.e with pos:=q.1 } k.ins.a:=hva
      refine ⟨({ x.e with pos:=q.1 },k.ins.b),.rfl,⟨trivial⟩, ?_⟩
      intro vb hvb
      replace hvb : vb = fV { x.e with pos:=q.1 } k.ins.b:=hvb
      have ra:=hX k.ins.a
      have rb:=hX k.ins.b
      rw [← hva] at ra
      rw [← hvb] at rb
      have g6 : (x.ebq.length + 1) * 1 ≤ 140737488355328:=by have:=h.2.2.2.2.2.1;omega
      simp only [ra.1,ra.2,rb.1,rb.2,g6,zaC,zaB]
      refine ⟨(s,q.1,Alu.tkB k.ins.op va vb),.rfl,⟨trivial⟩, ?_⟩
      intro z hz
      replace hz : z = goF s q.1 (Alu.tkB k.ins.op va vb):=hz
      show cond (Alu.tkB k.ins.op va vb) _ _
      rw [show aAQ { x.e with pos:=q.1 } k.ins = Alu.tkB k.ins.op va vb by unfold aAQ;rw [hva,hvb]]
      unfold mH
      subst hz
      cases Alu.tkB k.ins.op va vb
      ·refine ⟨fX ?_⟩
       repeat' (first | with_reducible exact .refl _ | exact bO | refine aF ?_ ?_ | exact .refl _ | exact oP (fun i hi => by simp only [hi,zaC,zaB];rfl) (by simp only [Nat.lt_irrefl,zaE,zaD];rfl))
      ·refine ⟨fX ?_⟩
       repeat' (first | with_reducible exact .refl _ | exact bO | refine aF ?_ ?_ | exact .refl _ | exact oP (fun i hi => by simp only [hi,zaC,zaB];rfl) (by simp only [Nat.lt_irrefl,zaE,zaD];rfl))
     ·simp only [g,zaE,zaD,if_false]
      exact hst
    simp only [k9,zaE,zaD,if_false]
    by_cases k10 : k.kind = 10
    ·simp only [k10,zaC,zaB,if_true]
     by_cases g : x.abq = []
     ·simp only [g,List.length_nil,Int.ofNat_zero,Int.lt_irrefl,gt_iff_lt,zaE,zaD,if_true]
      rw [g] at hst
      exact hst
     have g1 : 0 < x.abq.length:=List.length_pos_iff.2 g
     have g2 : (0 : Int) < (x.abq.length : Int):=by omega
     have g3 : (1 : Int) ≤ (x.abq.length : Int):=by omega
     have g4 : 1 + (x.abq.length - 1) ≤ x.abq.length:=by omega
     simp only [g,g1,g2,g3,g4,gt_iff_lt,zaC,zaB,if_false]
     refine ⟨(s,q.1,ix x.abq 0),.rfl,⟨trivial⟩, ?_⟩
     intro z hz
     replace hz : z = goF s q.1 (ix x.abq 0):=hz
     unfold mH
     subst hz
     cases ix x.abq 0
     ·simp only [zaD]
      refine ⟨fX ?_⟩
      repeat' (first | with_reducible exact .refl _ | exact bO | refine aF ?_ ?_ | exact .refl _ | exact pN)
     ·simp only [zaB]
      refine ⟨fX ?_⟩
      repeat' (first | with_reducible exact .refl _ | exact bO | refine aF ?_ ?_ | exact .refl _ | exact pN)
    simp only [k10,zaE,zaD,if_false]
    by_cases k11 : k.kind = 11
    ·simp only [k11,zaC,zaB,if_true]
     refine ⟨(s,q.1,true),.rfl,⟨trivial⟩, ?_⟩
     intro z hz
     replace hz : z = goF s q.1 true:=hz
     subst hz
     exact .rfl
    simp only [k11,zaE,zaD,if_false]
    by_cases k12 : k.kind = 12
    ·simp only [k12,zaC,zaB,if_true]
     exact .rfl
    simp only [k12,zaE,zaD,if_false]
    exact hst
end Go.Proofs.Ytooojfbfobmkfaa
namespace Go.Proofs.Ytooojfbfobmkfaa
open Go.Ra
set_option linter.unusedVariables false
set_option linter.unusedSimpArgs false
set_option maxRecDepth 100000
def TPF : Tab:=fM qq (iB ++ dX) [] iA [(40,aX4)] []
def uI (c : Cfg) (s : Split) (x : Stt) : Bool:=!x.e.halted && ((bY s false x.a.pos).2.2 && ((bY s true x.e.pos).2.2 && decide ((bY s false x.a.pos).2.1 ≥ IntKind.i64.wrap ((bY s true x.e.pos).2.1 + c.nI))))
def bB9 : List XV → Option ((XV → Prop) → Prop):=eQ (fun q : Cfg × Split × Stt => [aU q.1,aH q.2.1,aO q.2.2]) (fun q => q.2.1.blocks.length ≤ 1000000) (fun q => uI q.1 q.2.1 q.2.2) (fun y => .bool y)
def pW (d : cM) (i : Ins) : Int:=IntKind.u32.wrap (fV d i.a + IntKind.u32.wrap i.imm)
def TPA : Tab:=fM qq (iB ++ dX) [(48,Alu.a2H),(58,Alu.a2S),(54,aTI),(56,aL4)] iA [(22,aXO),(43,a2V),(40,aX4),(45,endS'),(41,a2W),(47,a76),(46,bB9),(95,goS'),(49,a77),(51,a78),(44,a79),(91,bBQ),(92,bBS),(94,a65)] []
def aFA (c : Cfg) (x : Stt) (k : Cell) (st : Int) : Stt :=
 let ad:=pW x.a k.ins
 let sz:=szI k.ins.op
 let e:=jZ x.saq (IntKind.i64.wrap ad) sz
 let v:=uE e.1 k.ins.op (IntKind.i64.wrap ad)
 if ¬ jW sz ad x.mem.length = 0 then eO x (jW sz ad x.mem.length) st k.pc
 else if (e.2 = true ∧ v.2 = false) ∨ (e.2 = false ∧ (x.table.length : Int) ≥ c.cA) then x
 else if k.kind = 3 then
  (if (x.ldq.length : Int) ≥ c.ldq then x
   else if e.2 then { x with ldq:=(fO (x.ldq ++ [⟨x.tags,false,0⟩]) x.tags v.1).1,tags:=IntKind.i64.wrap (x.tags + 1),a:=onF x.a }
   else { x with ldq:=x.ldq ++ [⟨x.tags,false,0⟩],tags:=IntKind.i64.wrap (x.tags + 1),a:=onF x.a,table:=x.table ++ [⟨false,k.ins.op,IntKind.i64.wrap ad,sz,0,0,-1,x.tags⟩] })
 else if e.2 then { x with a:=onF (dE x.a k.ins.d v.1 (IntKind.i64.wrap (x.aG + 1))) }
 else { x with a:=onF (if k.ins.d = 0 then x.a else { x.a with ready:=fun i => bif Nat.beq i k.ins.d.toNat then -1 else x.a.ready i }),table:=x.table ++ [⟨false,k.ins.op,IntKind.i64.wrap ad,sz,0,0,k.ins.d,0⟩] }
def rN (c : Cfg) (s : Split) (x : Stt) (k : Cell) (st : Int) : Stt :=
 if k.kind = 1 then (if doK x.a k.ins then { x with a:=onF (dE x.a k.ins.d (doV x.a k.ins) (IntKind.i64.wrap (x.aG + aAP c k.ins.op))) } else eO x 3 st k.pc)
 else if k.kind = 5 then (if (x.aeq.length : Int) < c.aeq then { x with a:=onF x.a,aeq:=x.aeq ++ [fV x.a k.reg] } else x)
 else if k.kind = 2 ∨ k.kind = 3 then aFA c x k st
 else if k.kind = 4 then
  (if ¬ jW (szI k.ins.op) (pW x.a k.ins) x.mem.length = 0 then eO x (jW (szI k.ins.op) (pW x.a k.ins) x.mem.length) st k.pc
   else if (x.saq.length : Int) ≥ c.saq then x
   else { x with a:=onF x.a,saq:=x.saq ++ [⟨IntKind.i64.wrap (pW x.a k.ins),szI k.ins.op,st,false,0⟩] })
 else if k.kind = 9 then (if (x.abq.length : Int) < c.abq then { x with a:=mH s x.a (aAQ x.a k.ins) x.aG,abq:=x.abq ++ [aAQ x.a k.ins] } else x)
 else if k.kind = 10 then (if x.ebq = [] then x else { x with a:=mH s x.a (ix x.ebq 0) x.aG,ebq:=x.ebq.tail })
 else if k.kind = 11 then { x with a:=mH s x.a true x.aG }
 else if k.kind = 12 then { x with a:=aMM x.a }
 else x
def atA (s : Split) (x : Stt) : Stt:={ x with a:={ x.a with pos:=(aT s false x.a.pos).1 } }
def fT (c : Cfg) (s : Split) (x : Stt) : Stt :=
 if aY c s x = false ∨ x.a.halted = true ∨ x.a.wait > x.aG then x
 else if (aT s false x.a.pos).2 then eO (atA s x) 4 (bY s false (atA s x).a.pos).2.1 (aAO s (atA s x).a.pos.block)
 else if dB x (bY s false (atA s x).a.pos).2.1 = true ∨ uI c s (atA s x) = true ∨ uF x.a (bY s false (atA s x).a.pos).1 x.aG = false then atA s x
 else rN c s (atA s x) (bY s false (atA s x).a.pos).1 (bY s false (atA s x).a.pos).2.1
def bCA : List XV → Option ((XV → Prop) → Prop):=eQ (fun q : Cfg × Split × Stt => [aU q.1,aH q.2.1,aO q.2.2]) (fun q => q.2.2.ok ∧ jJ q.2.1) (fun q => fT q.1 q.2.1 q.2.2) (fun y => aO y)
theorem bCB (c : Cfg) (s : Split) (x : Stt) (r : XV) : (aQ TPF 80 (bT TPF 80 20) 46 [aU c,aH s,aO x] (fun v => aA v r)) = (
 let q1 : Split × Bool × Pos → List XV:=fun s => [aH s.1,.bool s.2.1,dH s.2.2];
 let q2 : Cell × Int × Bool → Bool:=fun y => bif !x.e.halted then y.2.2 else false;
 let q3 : Cell × Int × Bool → Cell × Int × Bool → Bool:=fun y y_1 => bif q2 y then y_1.2.2 else false;
 let q4 : Cell × Int × Bool → Int:=fun y => IntKind.wrap .i64 (y.2.1 + c.nI);∃ (s_1 : Split × Bool × Pos),aC [aH s,.bool false,dH x.a.pos] (q1 s_1) ∧ aK (s_1.1.blocks.length
  ≤ 1000000) ∧ ∀ (y : Cell × Int × Bool),y = bY s_1.1 s_1.2.1 s_1.2.2 → ∃ (s_2 : Split × Bool × Pos),aC [aH s,.bool true,dH x.e.pos] (q1 s_2) ∧ aK (s_2.1.blocks.length
  ≤ 1000000) ∧ ∀ (y_1 : Cell × Int × Bool),y_1 = bY s_2.1 s_2.2.1 s_2.2.2 → bif bif !x.e.halted then !x.e.halted else true then bif bif q2 y then q2 y else true then bif bif q3 y
  y_1 then q3 y y_1 else true then aA (.bool (bif q3 y y_1 then decide (y.2.1 ≥ q4 y_1) else false)) r else False else False else False):=by kernel_rfl
theorem bCC (c : Cfg) (s : Split) (x : Stt) (r : XV) : (aQ TPA 80 (bT TPA 80 20) 25 [aU c,aH s,aO x] (fun v => aA v r)) = (
 let q1 : Nat:=x.ldq.length * 16;
 let q2 : Bool:=decide (q1 ≤ 140737488355328);
 let q3 : Nat:=x.saq.length * 32;
 let q4 : Bool:=decide (x.ldq.length ≤ x.ldq.length);
 let q5 : Bool:=decide (x.sdq.length ≤ x.sdq.length);
 let q6 : Bool:=decide (x.aeq.length ≤ x.aeq.length);
 let q7 : Bool:=decide (x.abq.length ≤ x.abq.length);
 let q8 : Bool:=decide (x.ebq.length ≤ x.ebq.length);
 let q9 : Nat:=pl 0 (pl 0 x.saq.length);
 let q10 : Bool:=decide (x.saq.length ≤ x.saq.length);
 let q11 : Bool:=decide (x.table.length ≤ x.table.length);
 let q12 : Bool:=decide (x.mem.length ≤ x.mem.length);
 let q13 : Bool:=decide (x.writes.length ≤ x.writes.length);
 let q14 : Cfg × Split × Stt → List XV:=fun s => [aU s.1,aH s.2.1,aO s.2.2];
 let q15 : Split × Bool × Pos → List XV:=fun s => [aH s.1,.bool s.2.1,dH s.2.2];
 let q16 : XV:=.tab 16 1 fun i => .int .u32 (x.a.oW i);
 let q17 : XV:=.tab 16 1 fun i => .int .i64 (x.a.ready i);
 let q18 : Pos × Bool → XV:=fun y => .agg 38 [q16,q17,dH y.1,.int .i64 x.a.wait,.bool x.a.halted,.int .i64 x.a.done];
 let q19 : List XV:=[aB 1 kM x.mem,aB 3 oX x.writes,oH x.bP,.int .i64 x.dN,.int .i64 x.cF,.int .i64 x.tags];
 let q20 : List XV:=aB 8 dK x.table :: q19;
 let q21 : List XV:=aB 5 bW x.saq :: q20;
 let q22 : List XV:=aB 1 cJ x.ebq :: q21;
 let q23 : List XV:=aB 1 cJ x.abq :: q22;
 let q24 : List XV:=aR x.e :: aB 3 cN x.ldq :: aB 1 cU x.sdq :: aB 1 cU x.aeq :: q23;
 let q25 : Pos × Bool → XV:=fun y => .agg 92 (.int .i64 x.aG :: q18 y :: q24);
 let q26 : Stt × Int × Int × Int → Int:=fun s => s.2.1;
 let q27 : Stt × Int × Int × Int → Int:=fun s => s.2.2.1;
 let q28 : Stt × Int × Int × Int → Int:=fun s => s.2.2.2;
 let q29 : Stt × Int × Int × Int → List XV:=fun s => [aO s.1,.int .i64 (q26 s),.int .i64 (q27 s),.int .i64 (q28 s)];
 let q30 : Stt × Int × Int × Int → Stt:=fun s => eO s.1 (q26 s) (q27 s) (q28 s);
 let q31 : Pos × Bool → Cell × Int × Bool → List XV:=fun y y_1 => [q18 y,.int .i64 y_1.1.ins.a];
 let q32 : cM × Int → List XV:=fun s => [aR s.1,.int .i64 s.2];
 let q33 : Pos × Bool → Cell × Int × Bool → List XV:=fun y y_1 => [q18 y,.int .i64 y_1.1.ins.b];
 let q34 : Int → Bool:=fun y => decide (0 ≤ y);
 let q35 : Int → Bool:=fun y => decide (y ≤ 4294967295);
 let q36 : Cell × Int × Bool → List XV:=fun y => [.int .i64 y.2.1,.int .i64 y.1.pc];
 let q37 : Cell × Int × Bool → Bool:=fun y => decide (y.1.ins.d ≥ 1);
 let q38 : Cell × Int × Bool → Bool:=fun y => bif q37 y then q37 y else true;
 let q39 : Cell × Int × Bool → Bool:=fun y => bif q37 y then decide (y.1.ins.d ≤ 15) else false;
 let q40 : Cell × Int × Bool → Bool:=fun y => decide (0 ≤ y.1.ins.d);
 let q41 : Cell × Int × Bool → Bool:=fun y => decide (y.1.ins.d < 16);
 let q42 : Cell × Int × Bool → Nat:=fun y => Int.toNat y.1.ins.d * 1;
 let q43 : Cell × Int × Bool → Nat:=fun y => pl 1 (q42 y);
 let q44 : Cell × Int × Bool → Bool:=fun y => Nat.beq (q43 y) (q43 y);
 let q45 : Cell × Int × Bool → Bool:=fun y => decide (Int.toNat y.1.ins.d < 16);
 let q46 : Cell × Int × Bool → Nat:=fun y => pl 17 (q42 y);
 let q47 : Cell × Int × Bool → Bool:=fun y => Nat.beq (q46 y) (q46 y);
 let q48 : List XV:=[.int .i64 (IntKind.wrap .i64 (x.a.done + 1))];
 let q49 : List XV:=.bool x.a.halted :: q48;
 let q50 : List XV:=.int .i64 x.a.wait :: q49;
 let q51 : Pos × Bool → List XV:=fun y => .agg 3 [.int .i64 y.1.block,.int .i64 (IntKind.wrap .i64 (y.1.index + 1)),.int .i64 y.1.base] :: q50;
 let q52 : Pos × Bool → XV:=fun y => .agg 38 (q16 :: q17 :: q51 y);
 let q53 : Pos × Bool → XV:=fun y => .agg 92 (.int .i64 x.aG :: q52 y :: q24);
 let q54 : Nat:=List.length [AX.t 144];
 let q55 : Nat:=pl (pl 0 x.aeq.length) q54;
 let q56 : Cell × Int × Bool → Bool:=fun y => decide (y.1.kind = 2);
 let q57 : Int → Cell × Int × Bool → Int:=fun y y_1 => IntKind.wrap .u32 (y + IntKind.wrap .u32 y_1.1.ins.imm);
 let q58 : Cell × Int × Bool → Int → Int:=fun y y_1 => jW (szI y.1.ins.op) (q57 y_1 y) (↑(x.mem.length) : Int);
 let q59 : Cell × Int × Bool → Int → Int:=fun y y_1 => jW (szI y.1.ins.op) (q57 y_1 y) (↑(pl 0 x.mem.length) : Int);
 let q60 : Cell × Int × Bool → Int → Bool:=fun y y_1 => decide ¬q58 y y_1 = 0;
 let q61 : Pos × Bool → Cell × Int × Bool → Int → List XV:=fun y y_1 y_2 => q25 y :: .int .i64 (q58 y_1 y_2) :: q36 y_1;
 let q62 : Int → Cell × Int × Bool → Int:=fun y y_1 => IntKind.wrap .i64 (q57 y y_1);
 let q63 : Int → Cell × Int × Bool → XV:=fun y y_1 => .int .i64 (q62 y y_1);
 let q64 : Int → Cell × Int × Bool → List XV:=fun y y_1 => [aB 5 bW x.saq,q63 y y_1,.int .i64 (szI y_1.1.ins.op)];
 let q65 : List Entry × Int × Int → List XV:=fun s => [aB 5 bW s.1,.int .i64 s.2.1,.int .i64 s.2.2];
 let q66 : Entry × Bool → Cell × Int × Bool → Int → List XV:=fun y y_1 y_2 => [bW y.1,.int .i64 y_1.1.ins.op,q63 y_2 y_1];
 let q67 : Entry × Int × Int → List XV:=fun s => [bW s.1,.int .i64 s.2.1,.int .i64 s.2.2];
 let q68 : Entry × Bool → Int × Bool → Bool:=fun y y_1 => bif y.2 then !y_1.2 else false;
 let q69 : Entry × Bool → Int × Bool → Bool:=fun y y_1 => !q68 y y_1;
 let q70 : Entry × Bool → Int × Bool → Bool:=fun y y_1 => !q69 y y_1;
 let q71 : Entry × Bool → Int × Bool → Bool:=fun y y_1 => bif q69 y y_1 then true else q70 y y_1;
 let q72 : Entry × Bool → Int × Bool → Bool:=fun y y_1 => bif bif !y.2 then bif q69 y y_1 then !y.2 else false else true then true else q70 y y_1;
 let q73 : Entry × Bool → Int × Bool → Bool:=fun y y_1 => bif q68 y y_1 then true else q69 y y_1;
 let q74 : Entry × Bool → Int × Bool → Bool:=fun y y_1 => bif q68 y y_1 then true else bif !y.2 then decide ((↑(x.table.length) : Int) ≥ c.cA) else false;
 let q75 : Cell × Int × Bool → Bool:=fun y => decide (y.1.kind = 3);
 let q76 : Bool:=decide ((↑(x.ldq.length) : Int) ≥ c.ldq);
 let q77 : Nat:=pl x.ldq.length (List.length [AX.t 17]);
 let q78 : Bool:=decide (pl x.ldq.length 1 * 16 ≤ 140737488355328);
 let q79 : Bool:=decide (pl x.ldq.length 1 ≤ pl x.ldq.length 1);
 let q80 : Nat → Bool:=fun i => decide (i < x.ldq.length);
 let q81 : XV:=.row false 3 (pl x.ldq.length 1) fun i => .agg 3 [.int .i64 (bif q80 i then (ix x.ldq i).tag else x.tags),.bool (bif q80 i then (ix x.ldq i).full else false),.int
  .u32 (bif q80 i then (ix x.ldq i).val else (0 : Int))];
 let q82 : Int × Bool → List XV:=fun y => [q81,.int .i64 x.tags,.int .u32 y.1];
 let q83 : List Slot × Int × Int → List XV:=fun s => [aB 3 cN s.1,.int .i64 s.2.1,.int .u32 s.2.2];
 let q84 : List XV:=[aB 1 kM x.mem,aB 3 oX x.writes,oH x.bP,.int .i64 x.dN,.int .i64 x.cF,.int .i64 (IntKind.wrap .i64 (x.tags + 1))];
 let q85 : List XV:=aB 1 cU x.sdq :: aB 1 cU x.aeq :: aB 1 cJ x.abq :: aB 1 cJ x.ebq :: aB 5 bW x.saq :: aB 8 dK x.table :: q84;
 let q86 : Pos × Bool → List Slot × Bool → XV:=fun y y_1 => .agg 92 (.int .i64 x.aG :: q52 y :: aR x.e :: aB 3 cN y_1.1 :: q85);
 let q87 : Nat:=pl (pl 0 x.table.length) q54;
 let q88 : Bool:=decide (pl x.table.length 1 * 64 ≤ 140737488355328);
 let q89 : Bool:=decide (pl x.table.length 1 ≤ pl x.table.length 1);
 let q90 : Nat → Bool:=fun i => decide (i < x.table.length);
 let q91 : Nat → XV:=fun i => .bool (bif q90 i then (ix x.table i).store else false);
 let q92 : Nat → Cell × Int × Bool → XV:=fun i y => .int .i64 (bif q90 i then (ix x.table i).op else y.1.ins.op);
 let q93 : Nat → Int → Cell × Int × Bool → XV:=fun i y y_1 => .int .i64 (bif q90 i then (ix x.table i).addr else q62 y y_1);
 let q94 : Nat → Cell × Int × Bool → XV:=fun i y => .int .i64 (bif q90 i then (ix x.table i).size else szI y.1.ins.op);
 let q95 : Nat → XV:=fun i => .int .u32 (bif q90 i then (ix x.table i).val else (0 : Int));
 let q96 : Nat → XV:=fun i => .int .i64 (bif q90 i then (ix x.table i).left else (0 : Int));
 let q97 : Pos × Bool → Cell × Int × Bool → Int → XV:=fun y y_1 y_2 => .agg 92 (.int .i64 x.aG :: q52 y :: aR x.e :: q81 :: aB 1 cU x.sdq :: aB 1 cU x.aeq :: aB
  1 cJ x.abq :: aB 1 cJ x.ebq :: aB 5 bW x.saq :: (.row false 8 (pl x.table.length 1) fun i => .agg 8 [q91 i,q92 i y_1,q93 i y_2 y_1,q94 i y_1,q95 i,q96 i,.int
  .i64 (bif q90 i then (ix x.table i).reg else (-1 : Int)),.int .i64 (bif q90 i then (ix x.table i).tag else x.tags)]) :: q84);
 let q98 : Pos × Bool → XV:=fun y => .agg 92 (.int .i64 x.aG :: q52 y :: aR x.e :: q81 :: q85);
 let q99 : Cell × Int × Bool → Int × Bool → Pos × Bool → XV:=fun y y_1 y_2 => .agg 38 ((.tab 16 1 fun j => .int .u32 (bif Nat.beq j (Int.toNat y.1.ins.d) then y_1.1 else x.a.oW j))
  :: (.tab 16 1 fun j => .int .i64 (bif Nat.beq j (Int.toNat y.1.ins.d) then IntKind.wrap .i64 (x.aG + 1) else x.a.ready j)) :: q51 y_2);
 let q100 : Cell × Int × Bool → Int → List XV:=fun y y_1 => aR x.e :: aB 3 cN x.ldq :: aB 1 cU x.sdq :: aB 1 cU x.aeq :: aB 1 cJ x.abq :: aB 1 cJ
  x.ebq :: aB 5 bW x.saq :: (.row false 8 (pl x.table.length 1) fun i => .agg 8 [q91 i,q92 i y,q93 i y_1 y,q94 i y,q95 i,q96 i,.int .i64 (bif q90 i then (ix x.table i).reg
  else y.1.ins.d),.int .i64 (bif q90 i then (ix x.table i).tag else (0 : Int))]) :: q19;
 let q101 : Cell × Int × Bool → Int × Bool → Pos × Bool → Int → XV:=fun y y_1 y_2 y_3 => .agg 92 (.int .i64 x.aG :: q99 y y_1 y_2 :: q100 y y_3);
 let q102 : Cell × Int × Bool → Int × Bool → Pos × Bool → XV:=fun y y_1 y_2 => .agg 92 (.int .i64 x.aG :: q99 y y_1 y_2 :: q24);
 let q103 : Pos × Bool → Cell × Int × Bool → Int → XV:=fun y y_1 y_2 => .agg 92 (.int .i64 x.aG :: q52 y :: q100 y_1 y_2);
 let q104 : Cell × Int × Bool → Bool:=fun y => decide ¬y.1.ins.d = 0;
 let q105 : Cell × Int × Bool → Pos × Bool → XV:=fun y y_1 => .agg 38 (q16 :: (.tab 16 1 fun j => .int .i64 (bif Nat.beq j (Int.toNat y.1.ins.d) then (-1 : Int) else x.a.ready j))
  :: q51 y_1);
 let q106 : Cell × Int × Bool → Pos × Bool → Int → XV:=fun y y_1 y_2 => .agg 92 (.int .i64 x.aG :: q105 y y_1 :: q100 y y_2);
 let q107 : Cell × Int × Bool → Pos × Bool → XV:=fun y y_1 => .agg 92 (.int .i64 x.aG :: q105 y y_1 :: q24);
 let q108 : Cell × Int × Bool → Bool:=fun y => decide (y.1.kind = 4);
 let q109 : Bool:=decide (q3 ≤ 140737488355328);
 let q110 : Bool:=decide ((↑(x.saq.length) : Int) ≥ c.saq);
 let q111 : Bool:=decide (x.saq.length ≤ x.saq.length);
 let q112 : Nat:=pl q9 (List.length [AX.t 16]);
 let q113 : Bool:=decide (pl x.saq.length 1 * 32 ≤ 140737488355328);
 let q114 : Bool:=decide (pl x.saq.length 1 ≤ pl x.saq.length 1);
 let q115 : Nat → Bool:=fun i => decide (i < x.saq.length);
 let q116 : Pos × Bool → Int → Cell × Int × Bool → XV:=fun y y_1 y_2 => .agg 92 (.int .i64 x.aG :: q52 y :: aR x.e :: aB 3 cN x.ldq :: aB 1 cU x.sdq :: aB 1
  cU x.aeq :: aB 1 cJ x.abq :: aB 1 cJ x.ebq :: (.row false 5 (pl x.saq.length 1) fun i => .agg 5 [.int .i64 (bif q115 i then (ix x.saq i).addr else q62 y_1 y_2),.int
  .i64 (bif q115 i then (ix x.saq i).size else szI y_2.1.ins.op),.int .i64 (bif q115 i then (ix x.saq i).step else y_2.2.1),.bool (bif q115 i then (ix x.saq i).known else false),.int
  .u32 (bif q115 i then (ix x.saq i).val else (0 : Int))]) :: q20);
 let q117 : Cell × Int × Bool → Bool:=fun y => decide (y.1.kind = 9);
 let q118 : Bool:=decide ((↑(x.abq.length) : Int) < c.abq);
 let q119 : Nat:=pl (pl 0 x.abq.length) (List.length [AX.t 221]);
 let q120 : Bool:=decide (pl x.abq.length 1 * 1 ≤ 140737488355328);
 let q121 : Pos × Bool → Cell × Int × Bool → Int → Int → List XV:=fun y y_1 y_2 y_3 => [aH s,dH y.1,.bool (Alu.tkB y_1.1.ins.op y_2 y_3)];
 let q122 : Split × Pos × Bool → List XV:=fun s => [aH s.1,dH s.2.1,.bool s.2.2];
 let q123 : Split × Pos × Bool → Pos:=fun s => goF s.1 s.2.1 s.2.2;
 let q124 : Bool:=decide (pl x.abq.length 1 ≤ pl x.abq.length 1);
 let q125 : Pos → XV:=fun y => .agg 38 (q16 :: q17 :: dH y :: .int .i64 (IntKind.wrap .i64 (x.aG + 2)) :: q49);
 let q126 : Cell × Int × Bool → Int → Int → List XV:=fun y y_1 y_2 => aR x.e :: aB 3 cN x.ldq :: aB 1 cU x.sdq :: aB 1 cU x.aeq :: (.row false 1 (pl x.abq.length
  1) fun i => .bool (bif decide (i < x.abq.length) then ix x.abq i else Alu.tkB y.1.ins.op y_1 y_2)) :: q22;
 let q127 : Pos → Cell × Int × Bool → Int → Int → XV:=fun y y_1 y_2 y_3 => .agg 92 (.int .i64 x.aG :: q125 y :: q126 y_1 y_2 y_3);
 let q128 : Pos → XV:=fun y => .agg 38 (q16 :: q17 :: dH y :: q50);
 let q129 : Pos → Cell × Int × Bool → Int → Int → XV:=fun y y_1 y_2 y_3 => .agg 92 (.int .i64 x.aG :: q128 y :: q126 y_1 y_2 y_3);
 let q130 : Cell × Int × Bool → Bool:=fun y => decide (y.1.kind = 10);
 let q131 : Int:=(↑(pl 0 x.ebq.length) : Int);
 let q132 : Bool:=decide ((↑(x.ebq.length) : Int) > 0);
 let q133 : Bool:=decide (0 < (↑(x.ebq.length) : Int));
 let q134 : Bool:=decide (0 < x.ebq.length);
 let q135 : Bool:=decide (1 ≤ (↑(x.ebq.length) : Int));
 let q136 : Pos × Bool → List XV:=fun y => [aH s,dH y.1,.bool (ix x.ebq 0)];
 let q137 : Nat:=x.ebq.length - 1;
 let q138 : Bool:=decide (pl 1 q137 ≤ x.ebq.length);
 let q139 : List XV:=aR x.e :: aB 3 cN x.ldq :: aB 1 cU x.sdq :: aB 1 cU x.aeq :: aB 1 cJ x.abq :: (.row false 1 q137 fun i => cJ (ix x.ebq (pl 1
  i))) :: q21;
 let q140 : Pos → XV:=fun y => .agg 92 (.int .i64 x.aG :: q125 y :: q139);
 let q141 : Pos → XV:=fun y => .agg 92 (.int .i64 x.aG :: q128 y :: q139);
 let q142 : Cell × Int × Bool → Bool:=fun y => decide (y.1.kind = 11);
 let q143 : Pos × Bool → List XV:=fun y => [aH s,dH y.1,.bool true];
 let q144 : Pos → XV:=fun y => .agg 92 (.int .i64 x.aG :: q125 y :: q24);
 let q145 : Cell × Int × Bool → Bool:=fun y => decide (y.1.kind = 12);
 let q146 : Pos × Bool → XV:=fun y => .agg 92 (.int .i64 x.aG :: .agg 38 (q16 :: q17 :: dH y.1 :: .int .i64 x.a.wait :: .bool true :: q48) :: q24);bif q2 then bif gL (fun
  i => true) x.ldq.length then bif decide (x.sdq.length * 4 ≤ 140737488355328) then bif decide (x.aeq.length * 4 ≤ 140737488355328) then bif decide (x.abq.length * 1 ≤ 140737488355328)
  then bif decide (x.ebq.length * 1 ≤ 140737488355328) then bif decide (q3 ≤ 140737488355328) then bif decide (x.table.length * 64 ≤ 140737488355328) then bif decide (x.mem.length * 1
  ≤ 140737488355328) then bif decide (x.writes.length * 24 ≤ 140737488355328) then bif q4 then bif q5 then bif q6 then bif q7 then bif q8 then bif q10 then bif q11 then bif q12 then bif
  q13 then ∃ (s_1 : Cfg × Split × Stt),aC [aU c,aH s,aO x] (q14 s_1) ∧ aK s_1.2.2.ok ∧ ∀ (y : Bool),y = aY s_1.1 s_1.2.1 s_1.2.2 → bif bif !y then true else
  !!y then bif bif bif !y then true else x.a.halted then true else !bif !y then true else x.a.halted then bif bif bif !y then true else x.a.halted then true else decide (x.a.wait > x.aG)
  then bif q4 then bif q5 then bif q6 then bif q7 then bif q8 then bif q10 then bif q11 then bif q12 then bif q13 then aA (aO x) r else False else False else False else False else
  False else False else False else False else False else ∃ (s_2 : Split × Bool × Pos),aC [aH s,.bool false,dH x.a.pos] (q15 s_2) ∧ aK (s_2.1.blocks.length ≤ 1000000)
  ∧ ∀ (y : Pos × Bool),y = kD s_2.1 s_2.2.1 (s_2.1.blocks.length + 1) s_2.2.2 → ∃ (s_3 : Split × Bool × Pos),aC [aH s,.bool false,dH y.1] (q15 s_3) ∧ aK (s_3.1.blocks.length
  ≤ 1000000) ∧ ∀ (y_1 : Cell × Int × Bool),y_1 = bY s_3.1 s_3.2.1 s_3.2.2 → bif y.2 then bif q4 then bif q5 then bif q6 then bif q7 then bif q8 then bif q10 then bif q11 then bif
  q12 then bif q13 then bif q4 then bif q5 then bif q6 then bif q7 then bif q8 then bif q10 then bif q11 then bif q12 then bif q13 then bif q4 then bif q5 then bif q6 then bif q7 then
  bif q8 then bif q10 then bif q11 then bif q12 then bif q13 then bif q4 then bif q5 then bif q6 then bif q7 then bif q8 then bif q10 then bif q11 then bif q12 then bif q13 then bif q4
  then bif q5 then bif q6 then bif q7 then bif q8 then bif q10 then bif q11 then bif q12 then bif q13 then ∃ (s_4 : Split × Int),aC [aH s,.int .i64 y.1.block] [aH s_4.1,
  .int .i64 s_4.2] ∧ aK True ∧ ∀ (y_2 : Int),y_2 = aAO s_4.1 s_4.2 → ∃ (s : Stt × Int × Int × Int),aC [q25 y,.int .i64 (4 : Int),.int .i64 y_1.2.1,.int .i64 y_2] (q29 s)
  ∧ aK s.1.ok ∧ ∀ (y : Stt),y = q30 s → aA (aO y) r else False else False else False else False else False else False else False else False else False else False else False
  else False else False else False else False else False else False else False else False else False else False else False else False else False else False else False else False else
  False else False else False else False else False else False else False else False else False else False else False else False else False else False else False else False else False
  else False else bif q4 then bif q5 then bif q6 then bif q7 then bif q8 then bif q10 then bif q11 then bif q12 then bif q13 then ∃ (s_4 : Stt × Int),aC [q25 y,.int .i64 y_1.2.1]
  [aO s_4.1,.int .i64 s_4.2] ∧ aK True ∧ ∀ (y_2 : Bool),y_2 = dB s_4.1 s_4.2 → bif !y_2 then bif q4 then bif q5 then bif q6 then bif q7 then bif q8 then bif q10 then bif q11
  then bif q12 then bif q13 then ∃ (s_5 : Cfg × Split × Stt),aC [aU c,aH s,q25 y] (q14 s_5) ∧ aK (s_5.2.1.blocks.length ≤ 1000000) ∧ ∀ (y_3 : Bool),y_3 = uI s_5.1
  s_5.2.1 s_5.2.2 → bif !bif y_2 then true else y_3 then ∃ (s : cM × Cell × Int),aC [q18 y,cX y_1.1,.int .i64 x.aG] [aR s.1,cX s.2.1,.int .i64 s.2.2] ∧ aK
  True ∧ ∀ (y_4 : Bool),y_4 = uF s.1 s.2.1 s.2.2 → bif bif bif y_2 then true else y_3 then true else !y_4 then bif q4 then bif q5 then bif q6 then bif q7 then bif q8 then bif q10
  then bif q11 then bif q12 then bif q13 then aA (q25 y) r else False else False else False else False else False else False else False else False else False else bif decide (y_1.1.kind
  = 1) then ∃ (s : cM × Int),aC (q31 y y_1) (q32 s) ∧ aK True ∧ ∀ (y_5 : Int),y_5 = fV s.1 s.2 → ∃ (s : cM × Int),aC (q33 y y_1) (q32 s) ∧ aK True ∧ ∀ (y_6 : Int),
  y_6 = fV s.1 s.2 → bif q34 y_5 then bif q35 y_5 then bif q34 y_6 then bif q35 y_6 then bif !Alu.dkB y_1.1.ins.op y_1.1.ins.d y_1.1.ins.a y_1.1.ins.b y_1.1.ins.imm y_6 then bif q4
  then bif q5 then bif q6 then bif q7 then bif q8 then bif q10 then bif q11 then bif q12 then bif q13 then bif q4 then bif q5 then bif q6 then bif q7 then bif q8 then bif q10 then bif
  q11 then bif q12 then bif q13 then bif q4 then bif q5 then bif q6 then bif q7 then bif q8 then bif q10 then bif q11 then bif q12 then bif q13 then bif q4 then bif q5 then bif q6 then
  bif q7 then bif q8 then bif q10 then bif q11 then bif q12 then bif q13 then bif q4 then bif q5 then bif q6 then bif q7 then bif q8 then bif q10 then bif q11 then bif q12 then bif q13
  then bif q4 then bif q5 then bif q6 then bif q7 then bif q8 then bif q10 then bif q11 then bif q12 then bif q13 then bif q4 then bif q5 then bif q6 then bif q7 then bif q8 then bif
  q10 then bif q11 then bif q12 then bif q13 then ∃ (s : Stt × Int × Int × Int),aC (q25 y :: .int .i64 (3 : Int) :: q36 y_1) (q29 s) ∧ aK s.1.ok ∧ ∀ (y : Stt),y = q30 s → aA
  (aO y) r else False else False else False else False else False else False else False else False else False else False else False else False else False else False else False else
  False else False else False else False else False else False else False else False else False else False else False else False else False else False else False else False else False
  else False else False else False else False else False else False else False else False else False else False else False else False else False else False else False else False else
  False else False else False else False else False else False else False else False else False else False else False else False else False else False else False else ∃ (s : Cfg × Int),
  aC [aU c,.int .i64 y_1.1.ins.op] [aU s.1,.int .i64 s.2] ∧ aK True ∧ ∀ (y_7 : Int),y_7 = aAP s.1 s.2 → bif q38 y_1 then bif q39 y_1 then bif q40 y_1 then bif q41 y_1
  then bif q44 y_1 then bif q45 y_1 then bif q45 y_1 then bif q40 y_1 then bif q41 y_1 then bif q47 y_1 then bif q45 y_1 then bif q45 y_1 then bif q4 then bif q5 then bif q6 then bif
  q7 then bif q8 then bif q10 then bif q11 then bif q12 then bif q13 then aA (.agg (92 : Nat) (.int .i64 x.aG :: .agg (38 : Nat) ((.tab (16 : Nat) (1 : Nat) fun (j : Nat) => .int
  .u32 (bif Nat.beq j (Int.toNat y_1.1.ins.d) then Alu.doI y_1.1.ins.op y_1.1.ins.d y_1.1.ins.a y_1.1.ins.b y_1.1.ins.imm y_5 y_6 else x.a.oW j)) :: (.tab (16 : Nat) (1 : Nat) fun (j
  : Nat) => .int .i64 (bif Nat.beq j (Int.toNat y_1.1.ins.d) then IntKind.wrap .i64 (x.aG + y_7) else x.a.ready j)) :: q51 y) :: q24)) r else False else False else False else False
  else False else False else False else False else False else False else False else False else False else False else False else False else False else False else False else bif q4 then
  bif q5 then bif q6 then bif q7 then bif q8 then bif q10 then bif q11 then bif q12 then bif q13 then aA (q53 y) r else False else False else False else False else False else False
  else False else False else False else False else False else False else False else False else bif decide (y_1.1.kind = 5) then bif decide ((↑(x.aeq.length) : Int) < c.aeq) then ∃ (s
  : cM × Int),aC [q18 y,.int .i64 y_1.1.reg] (q32 s) ∧ aK True ∧ ∀ (y_5 : Int),y_5 = fV s.1 s.2 → bif q6 then bif decide (pl x.aeq.length 1 * 4 ≤ (140737488355328 : Nat))
  then bif q4 then bif q5 then bif decide (pl x.aeq.length 1 ≤ pl x.aeq.length 1) then bif q7 then bif q8 then bif q10 then bif q11 then bif q12 then bif q13 then aA (.agg 92 (.int
  .i64 x.aG :: q52 y :: aR x.e :: aB (3 : Nat) cN x.ldq :: aB (1 : Nat) cU x.sdq :: (.row false (1 : Nat) (pl x.aeq.length (1 : Nat)) fun (i : Nat) => .int .u32 (bif
  decide (i < x.aeq.length) then ix x.aeq i else y_5)) :: q23)) r else False else False else False else False else False else False else False else False else False else False else False
  else bif q4 then bif q5 then bif q6 then bif q7 then bif q8 then bif q10 then bif q11 then bif q12 then bif q13 then aA (q25 y) r else False else False else False else False else
  False else False else False else False else False else bif q56 y_1 then bif q56 y_1 then bif q4 then bif q5 then bif q6 then bif q7 then bif q8 then bif q10 then bif q11 then bif q12
  then bif q13 then ∃ (s : cM × Int),aC (q31 y y_1) (q32 s) ∧ aK True ∧ ∀ (y_5 : Int),y_5 = fV s.1 s.2 → bif q60 y_1 y_5 then bif q12 then bif q4 then bif q5 then bif q6
  then bif q7 then bif q8 then bif q10 then bif q11 then bif q12 then bif q13 then bif q4 then bif q5 then bif q6 then bif q7 then bif q8 then bif q10 then bif q11 then bif q12 then bif
  q13 then bif q4 then bif q5 then bif q6 then bif q7 then bif q8 then bif q10 then bif q11 then bif q12 then bif q13 then bif q4 then bif q5 then bif q6 then bif q7 then bif q8 then
  bif q10 then bif q11 then bif q12 then bif q13 then bif q4 then bif q5 then bif q6 then bif q7 then bif q8 then bif q10 then bif q11 then bif q12 then bif q13 then bif q4 then bif q5
  then bif q6 then bif q7 then bif q8 then bif q10 then bif q11 then bif q12 then bif q13 then ∃ (s : Stt × Int × Int × Int),aC (q61 y y_1 y_5) (q29 s) ∧ aK s.1.ok ∧ ∀ (y : Stt),
  y = q30 s → aA (aO y) r else False else False else False else False else False else False else False else False else False else False else False else False else False else False
  else False else False else False else False else False else False else False else False else False else False else False else False else False else False else False else False else
  False else False else False else False else False else False else False else False else False else False else False else False else False else False else False else False else False
  else False else False else False else False else False else False else False else False else bif q10 then ∃ (s : List Entry × Int × Int),aC (q64 y_5 y_1) (q65 s) ∧ aK (s.1.length
  ≤ (1000000 : Nat) ∧ (∀ (e : Entry),e ∈ s.1 → e.wf) ∧ bZ s.2.1 ∧ bZ s.2.2) ∧ ∀ (y_6 : Entry × Bool),y_6 = jZ s.1 s.2.1 s.2.2 → ∃ (s : Entry × Int × Int),aC (q66 y_6 y_1
  y_5) (q67 s) ∧ aK s.1.wf ∧ ∀ (y_7 : Int × Bool),y_7 = uE s.1 s.2.1 s.2.2 → bif bif y_6.2 then y_6.2 else true then bif q71 y_6 y_7 then bif q72 y_6 y_7 then bif q73 y_6 y_7 then
  bif q74 y_6 y_7 then bif q4 then bif q5 then bif q6 then bif q7 then bif q8 then bif q10 then bif q11 then bif q12 then bif q13 then aA (q25 y) r else False else False else False
  else False else False else False else False else False else False else bif q75 y_1 then bif q2 then bif gL (fun (i : Nat) => true) x.ldq.length then bif q4 then bif q76 then bif q4
  then bif q5 then bif q6 then bif q7 then bif q8 then bif q10 then bif q11 then bif q12 then bif q13 then aA (q25 y) r else False else False else False else False else False else
  False else False else False else False else bif q4 then bif q78 then bif y_6.2 then bif q79 then bif q79 then bif q79 then bif q4 then bif q10 then bif q12 then bif q4 then bif q5 then
  bif q6 then bif q7 then bif q8 then bif q10 then bif q11 then bif q12 then bif q13 then bif q4 then bif q5 then bif q6 then bif q7 then bif q8 then bif q10 then bif q11 then bif q12
  then bif q13 then bif q79 then bif q5 then bif q6 then bif q7 then bif q8 then bif q10 then bif q11 then bif q12 then bif q13 then bif q4 then bif q5 then bif q6 then bif q7 then bif
  q8 then bif q10 then bif q11 then bif q12 then bif q13 then bif q4 then bif q5 then bif q6 then bif q7 then bif q8 then bif q10 then bif q11 then bif q12 then bif q13 then bif q4 then
  bif q5 then bif q6 then bif q7 then bif q8 then bif q10 then bif q11 then bif q12 then bif q13 then ∃ (s : List Slot × Int × Int),aC (q82 y_7) (q83 s) ∧ aK (s.1.length ≤ (1000000
  : Nat)) ∧ ∀ (y_8 : List Slot × Bool),y_8 = fO s.1 s.2.1 s.2.2 → bif !y_6.2 then False else aA (q86 y y_8) r else False else False else False else False else False else False
  else False else False else False else False else False else False else False else False else False else False else False else False else False else False else False else False else
  False else False else False else False else False else False else False else False else False else False else False else False else False else False else False else False else False
  else False else False else False else False else False else False else False else False else False else False else False else False else False else False else False else False else
  False else False else False else False else False else bif !y_6.2 then bif q11 then bif q88 then bif q79 then bif q5 then bif q6 then bif q7 then bif q8 then bif q10 then bif q89 then
  bif q12 then bif q13 then aA (q97 y y_1 y_5) r else False else False else False else False else False else False else False else False else False else False else False else bif q79
  then bif q5 then bif q6 then bif q7 then bif q8 then bif q10 then bif q11 then bif q12 then bif q13 then aA (q98 y) r else False else False else False else False else False else
  False else False else False else False else False else False else False else False else False else bif y_6.2 then bif q38 y_1 then bif q39 y_1 then bif q40 y_1 then bif q41 y_1 then
  bif q44 y_1 then bif q45 y_1 then bif q45 y_1 then bif q40 y_1 then bif q41 y_1 then bif q47 y_1 then bif q45 y_1 then bif q45 y_1 then bif !y_6.2 then bif q11 then bif q88 then bif
  q4 then bif q5 then bif q6 then bif q7 then bif q8 then bif q10 then bif q89 then bif q12 then bif q13 then aA (q101 y_1 y_7 y y_5) r else False else False else False else False
  else False else False else False else False else False else False else False else bif q4 then bif q5 then bif q6 then bif q7 then bif q8 then bif q10 then bif q11 then bif q12 then
  bif q13 then aA (q102 y_1 y_7 y) r else False else False else False else False else False else False else False else False else False else False else False else False else False
  else False else False else False else False else False else False else bif !y_6.2 then bif q11 then bif q88 then bif q4 then bif q5 then bif q6 then bif q7 then bif q8 then bif q10
  then bif q89 then bif q12 then bif q13 then aA (q103 y y_1 y_5) r else False else False else False else False else False else False else False else False else False else False else
  False else bif q4 then bif q5 then bif q6 then bif q7 then bif q8 then bif q10 then bif q11 then bif q12 then bif q13 then aA (q53 y) r else False else False else False else False
  else False else False else False else False else False else False else bif q104 y_1 then bif q40 y_1 then bif q41 y_1 then bif q47 y_1 then bif q45 y_1 then bif q45 y_1 then bif !y_6.2
  then bif q11 then bif q88 then bif q4 then bif q5 then bif q6 then bif q7 then bif q8 then bif q10 then bif q89 then bif q12 then bif q13 then aA (q106 y_1 y y_5) r else False else
  False else False else False else False else False else False else False else False else False else False else bif q4 then bif q5 then bif q6 then bif q7 then bif q8 then bif q10 then
  bif q11 then bif q12 then bif q13 then aA (q107 y_1 y) r else False else False else False else False else False else False else False else False else False else False else False
  else False else False else False else bif !y_6.2 then bif q11 then bif q88 then bif q4 then bif q5 then bif q6 then bif q7 then bif q8 then bif q10 then bif q89 then bif q12 then bif
  q13 then aA (q103 y y_1 y_5) r else False else False else False else False else False else False else False else False else False else False else False else bif q4 then bif q5 then
  bif q6 then bif q7 then bif q8 then bif q10 then bif q11 then bif q12 then bif q13 then aA (q53 y) r else False else False else False else False else False else False else False
  else False else False else False else False else False else False else False else False else False else False else False else False else False else False else False else False else
  bif q108 y_1 then bif q4 then bif q5 then bif q6 then bif q7 then bif q8 then bif q10 then bif q11 then bif q12 then bif q13 then ∃ (s : cM × Int),aC (q31 y y_1) (q32 s) ∧ aK
  True ∧ ∀ (y_5 : Int),y_5 = fV s.1 s.2 → bif q60 y_1 y_5 then bif q12 then bif q4 then bif q5 then bif q6 then bif q7 then bif q8 then bif q10 then bif q11 then bif q12 then bif q13
  then bif q4 then bif q5 then bif q6 then bif q7 then bif q8 then bif q10 then bif q11 then bif q12 then bif q13 then bif q4 then bif q5 then bif q6 then bif q7 then bif q8 then bif
  q10 then bif q11 then bif q12 then bif q13 then bif q4 then bif q5 then bif q6 then bif q7 then bif q8 then bif q10 then bif q11 then bif q12 then bif q13 then bif q4 then bif q5 then
  bif q6 then bif q7 then bif q8 then bif q10 then bif q11 then bif q12 then bif q13 then bif q4 then bif q5 then bif q6 then bif q7 then bif q8 then bif q10 then bif q11 then bif q12
  then bif q13 then bif q4 then bif q5 then bif q6 then bif q7 then bif q8 then bif q10 then bif q11 then bif q12 then bif q13 then bif q4 then bif q5 then bif q6 then bif q7 then bif
  q8 then bif q10 then bif q11 then bif q12 then bif q13 then ∃ (s : Stt × Int × Int × Int),aC (q61 y y_1 y_5) (q29 s) ∧ aK s.1.ok ∧ ∀ (y : Stt),y = q30 s → aA (aO y) r
  else False else False else False else False else False else False else False else False else False else False else False else False else False else False else False else False else
  False else False else False else False else False else False else False else False else False else False else False else False else False else False else False else False else False
  else False else False else False else False else False else False else False else False else False else False else False else False else False else False else False else False else
  False else False else False else False else False else False else False else False else False else False else False else False else False else False else False else False else False
  else False else False else False else False else False else False else False else bif q109 then bif q10 then bif q110 then bif q4 then bif q5 then bif q6 then bif q7 then bif q8 then
  bif q10 then bif q11 then bif q12 then bif q13 then aA (q25 y) r else False else False else False else False else False else False else False else False else False else bif q111
  then bif q113 then bif q4 then bif q5 then bif q6 then bif q7 then bif q8 then bif q114 then bif q11 then bif q12 then bif q13 then aA (q116 y y_5 y_1) r else False else False else
  False else False else False else False else False else False else False else False else False else False else False else False else False else False else False else False else False
  else False else False else False else bif q117 y_1 then bif q118 then ∃ (s : cM × Int),aC (q31 y y_1) (q32 s) ∧ aK True ∧ ∀ (y_5 : Int),y_5 = fV s.1 s.2 → ∃ (s : cM ×
  Int),aC (q33 y y_1) (q32 s) ∧ aK True ∧ ∀ (y_6 : Int),y_6 = fV s.1 s.2 → bif q34 y_5 then bif q35 y_5 then bif q34 y_6 then bif q35 y_6 then bif q7 then bif q120 then ∃ (s
  : Split × Pos × Bool),aC (q121 y y_1 y_5 y_6) (q122 s) ∧ aK True ∧ ∀ (y : Pos),y = q123 s → bif Alu.tkB y_1.1.ins.op y_5 y_6 then bif q4 then bif q5 then bif q6 then bif q124
  then bif q8 then bif q10 then bif q11 then bif q12 then bif q13 then aA (q127 y y_1 y_5 y_6) r else False else False else False else False else False else False else False else False
  else False else bif q4 then bif q5 then bif q6 then bif q124 then bif q8 then bif q10 then bif q11 then bif q12 then bif q13 then aA (q129 y y_1 y_5 y_6) r else False else False
  else False else False else False else False else False else False else False else False else False else False else False else False else False else bif q4 then bif q5 then bif q6 then
  bif q7 then bif q8 then bif q10 then bif q11 then bif q12 then bif q13 then aA (q25 y) r else False else False else False else False else False else False else False else False else
  False else bif q130 y_1 then bif q132 then bif q133 then bif q134 then bif q135 then ∃ (s : Split × Pos × Bool),aC (q136 y) (q122 s) ∧ aK True ∧ ∀ (y : Pos),y = q123 s → bif
  ix x.ebq 0 then bif q4 then bif q5 then bif q6 then bif q7 then bif q138 then bif q10 then bif q11 then bif q12 then bif q13 then aA (q140 y) r else False else False else False else
  False else False else False else False else False else False else bif q4 then bif q5 then bif q6 then bif q7 then bif q138 then bif q10 then bif q11 then bif q12 then bif q13 then aA
  (q141 y) r else False else False else False else False else False else False else False else False else False else False else False else False else bif q4 then bif q5 then bif q6 then
  bif q7 then bif q8 then bif q10 then bif q11 then bif q12 then bif q13 then aA (q25 y) r else False else False else False else False else False else False else False else False else
  False else bif q142 y_1 then ∃ (s : Split × Pos × Bool),aC (q143 y) (q122 s) ∧ aK True ∧ ∀ (y : Pos),y = q123 s → bif q4 then bif q5 then bif q6 then bif q7 then bif q8 then
  bif q10 then bif q11 then bif q12 then bif q13 then aA (q144 y) r else False else False else False else False else False else False else False else False else False else bif q145
  y_1 then bif q4 then bif q5 then bif q6 then bif q7 then bif q8 then bif q10 then bif q11 then bif q12 then bif q13 then aA (q146 y) r else False else False else False else False
  else False else False else False else False else False else bif q4 then bif q5 then bif q6 then bif q7 then bif q8 then bif q10 then bif q11 then bif q12 then bif q13 then aA (q25
  y) r else False else False else False else False else False else False else False else False else False else bif q75 y_1 then bif q4 then bif q5 then bif q6 then bif q7 then bif q8
  then bif q10 then bif q11 then bif q12 then bif q13 then ∃ (s : cM × Int),aC (q31 y y_1) (q32 s) ∧ aK True ∧ ∀ (y_5 : Int),y_5 = fV s.1 s.2 → bif q60 y_1 y_5 then bif q12
  then bif q4 then bif q5 then bif q6 then bif q7 then bif q8 then bif q10 then bif q11 then bif q12 then bif q13 then bif q4 then bif q5 then bif q6 then bif q7 then bif q8 then bif
  q10 then bif q11 then bif q12 then bif q13 then bif q4 then bif q5 then bif q6 then bif q7 then bif q8 then bif q10 then bif q11 then bif q12 then bif q13 then bif q4 then bif q5 then
  bif q6 then bif q7 then bif q8 then bif q10 then bif q11 then bif q12 then bif q13 then bif q4 then bif q5 then bif q6 then bif q7 then bif q8 then bif q10 then bif q11 then bif q12
  then bif q13 then bif q4 then bif q5 then bif q6 then bif q7 then bif q8 then bif q10 then bif q11 then bif q12 then bif q13 then ∃ (s : Stt × Int × Int × Int),aC (q61 y y_1 y_5)
  (q29 s) ∧ aK s.1.ok ∧ ∀ (y : Stt),y = q30 s → aA (aO y) r else False else False else False else False else False else False else False else False else False else False else
  False else False else False else False else False else False else False else False else False else False else False else False else False else False else False else False else False
  else False else False else False else False else False else False else False else False else False else False else False else False else False else False else False else False else
  False else False else False else False else False else False else False else False else False else False else False else False else bif q10 then ∃ (s : List Entry × Int × Int),aC
  (q64 y_5 y_1) (q65 s) ∧ aK (s.1.length ≤ (1000000 : Nat) ∧ (∀ (e : Entry),e ∈ s.1 → e.wf) ∧ bZ s.2.1 ∧ bZ s.2.2) ∧ ∀ (y_6 : Entry × Bool),y_6 = jZ s.1 s.2.1 s.2.2 → ∃ (s
  : Entry × Int × Int),aC (q66 y_6 y_1 y_5) (q67 s) ∧ aK s.1.wf ∧ ∀ (y_7 : Int × Bool),y_7 = uE s.1 s.2.1 s.2.2 → bif bif y_6.2 then y_6.2 else true then bif q71 y_6 y_7 then
  bif q72 y_6 y_7 then bif q73 y_6 y_7 then bif q74 y_6 y_7 then bif q4 then bif q5 then bif q6 then bif q7 then bif q8 then bif q10 then bif q11 then bif q12 then bif q13 then aA
  (q25 y) r else False else False else False else False else False else False else False else False else False else bif q75 y_1 then bif q2 then bif gL (fun (i : Nat) => true) x.ldq.length
  then bif q4 then bif q76 then bif q4 then bif q5 then bif q6 then bif q7 then bif q8 then bif q10 then bif q11 then bif q12 then bif q13 then aA (q25 y) r else False else False else
  False else False else False else False else False else False else False else bif q4 then bif q78 then bif y_6.2 then bif q79 then bif q79 then bif q79 then bif q4 then bif q10 then
  bif q12 then bif q4 then bif q5 then bif q6 then bif q7 then bif q8 then bif q10 then bif q11 then bif q12 then bif q13 then bif q4 then bif q5 then bif q6 then bif q7 then bif q8 then
  bif q10 then bif q11 then bif q12 then bif q13 then bif q79 then bif q5 then bif q6 then bif q7 then bif q8 then bif q10 then bif q11 then bif q12 then bif q13 then bif q4 then bif
  q5 then bif q6 then bif q7 then bif q8 then bif q10 then bif q11 then bif q12 then bif q13 then bif q4 then bif q5 then bif q6 then bif q7 then bif q8 then bif q10 then bif q11 then
  bif q12 then bif q13 then bif q4 then bif q5 then bif q6 then bif q7 then bif q8 then bif q10 then bif q11 then bif q12 then bif q13 then ∃ (s : List Slot × Int × Int),aC (q82
  y_7) (q83 s) ∧ aK (s.1.length ≤ (1000000 : Nat)) ∧ ∀ (y_8 : List Slot × Bool),y_8 = fO s.1 s.2.1 s.2.2 → bif !y_6.2 then False else aA (q86 y y_8) r else False else False
  else False else False else False else False else False else False else False else False else False else False else False else False else False else False else False else False else
  False else False else False else False else False else False else False else False else False else False else False else False else False else False else False else False else False
  else False else False else False else False else False else False else False else False else False else False else False else False else False else False else False else False else
  False else False else False else False else False else False else False else False else False else bif !y_6.2 then bif q11 then bif q88 then bif q79 then bif q5 then bif q6 then bif
  q7 then bif q8 then bif q10 then bif q89 then bif q12 then bif q13 then aA (q97 y y_1 y_5) r else False else False else False else False else False else False else False else False
  else False else False else False else bif q79 then bif q5 then bif q6 then bif q7 then bif q8 then bif q10 then bif q11 then bif q12 then bif q13 then aA (q98 y) r else False else
  False else False else False else False else False else False else False else False else False else False else False else False else False else bif y_6.2 then bif q38 y_1 then bif q39
  y_1 then bif q40 y_1 then bif q41 y_1 then bif q44 y_1 then bif q45 y_1 then bif q45 y_1 then bif q40 y_1 then bif q41 y_1 then bif q47 y_1 then bif q45 y_1 then bif q45 y_1 then bif
  !y_6.2 then bif q11 then bif q88 then bif q4 then bif q5 then bif q6 then bif q7 then bif q8 then bif q10 then bif q89 then bif q12 then bif q13 then aA (q101 y_1 y_7 y y_5) r else
  False else False else False else False else False else False else False else False else False else False else False else bif q4 then bif q5 then bif q6 then bif q7 then bif q8 then
  bif q10 then bif q11 then bif q12 then bif q13 then aA (q102 y_1 y_7 y) r else False else False else False else False else False else False else False else False else False else
  False else False else False else False else False else False else False else False else False else False else bif !y_6.2 then bif q11 then bif q88 then bif q4 then bif q5 then bif q6
  then bif q7 then bif q8 then bif q10 then bif q89 then bif q12 then bif q13 then aA (q103 y y_1 y_5) r else False else False else False else False else False else False else False
  else False else False else False else False else bif q4 then bif q5 then bif q6 then bif q7 then bif q8 then bif q10 then bif q11 then bif q12 then bif q13 then aA (q53 y) r else
  False else False else False else False else False else False else False else False else False else False else bif q104 y_1 then bif q40 y_1 then bif q41 y_1 then bif q47 y_1 then bif
  q45 y_1 then bif q45 y_1 then bif !y_6.2 then bif q11 then bif q88 then bif q4 then bif q5 then bif q6 then bif q7 then bif q8 then bif q10 then bif q89 then bif q12 then bif q13 then
  aA (q106 y_1 y y_5) r else False else False else False else False else False else False else False else False else False else False else False else bif q4 then bif q5 then bif q6
  then bif q7 then bif q8 then bif q10 then bif q11 then bif q12 then bif q13 then aA (q107 y_1 y) r else False else False else False else False else False else False else False else
  False else False else False else False else False else False else False else bif !y_6.2 then bif q11 then bif q88 then bif q4 then bif q5 then bif q6 then bif q7 then bif q8 then bif
  q10 then bif q89 then bif q12 then bif q13 then aA (q103 y y_1 y_5) r else False else False else False else False else False else False else False else False else False else False
  else False else bif q4 then bif q5 then bif q6 then bif q7 then bif q8 then bif q10 then bif q11 then bif q12 then bif q13 then aA (q53 y) r else False else False else False else
  False else False else False else False else False else False else False else False else False else False else False else False else False else False else False else False else False
  else False else False else False else bif q108 y_1 then bif q4 then bif q5 then bif q6 then bif q7 then bif q8 then bif q10 then bif q11 then bif q12 then bif q13 then ∃ (s : cM ×
  Int),aC (q31 y y_1) (q32 s) ∧ aK True ∧ ∀ (y_5 : Int),y_5 = fV s.1 s.2 → bif q60 y_1 y_5 then bif q12 then bif q4 then bif q5 then bif q6 then bif q7 then bif q8 then bif
  q10 then bif q11 then bif q12 then bif q13 then bif q4 then bif q5 then bif q6 then bif q7 then bif q8 then bif q10 then bif q11 then bif q12 then bif q13 then bif q4 then bif q5 then
  bif q6 then bif q7 then bif q8 then bif q10 then bif q11 then bif q12 then bif q13 then bif q4 then bif q5 then bif q6 then bif q7 then bif q8 then bif q10 then bif q11 then bif q12
  then bif q13 then bif q4 then bif q5 then bif q6 then bif q7 then bif q8 then bif q10 then bif q11 then bif q12 then bif q13 then bif q4 then bif q5 then bif q6 then bif q7 then bif
  q8 then bif q10 then bif q11 then bif q12 then bif q13 then bif q4 then bif q5 then bif q6 then bif q7 then bif q8 then bif q10 then bif q11 then bif q12 then bif q13 then bif q4 then
  bif q5 then bif q6 then bif q7 then bif q8 then bif q10 then bif q11 then bif q12 then bif q13 then ∃ (s : Stt × Int × Int × Int),aC (q61 y y_1 y_5) (q29 s) ∧ aK s.1.ok ∧ ∀
  (y : Stt),y = q30 s → aA (aO y) r else False else False else False else False else False else False else False else False else False else False else False else False else False
  else False else False else False else False else False else False else False else False else False else False else False else False else False else False else False else False else
  False else False else False else False else False else False else False else False else False else False else False else False else False else False else False else False else False
  else False else False else False else False else False else False else False else False else False else False else False else False else False else False else False else False else
  False else False else False else False else False else False else False else False else False else False else False else bif q109 then bif q10 then bif q110 then bif q4 then bif q5
  then bif q6 then bif q7 then bif q8 then bif q10 then bif q11 then bif q12 then bif q13 then aA (q25 y) r else False else False else False else False else False else False else False
  else False else False else bif q111 then bif q113 then bif q4 then bif q5 then bif q6 then bif q7 then bif q8 then bif q114 then bif q11 then bif q12 then bif q13 then aA (q116 y
  y_5 y_1) r else False else False else False else False else False else False else False else False else False else False else False else False else False else False else False else
  False else False else False else False else False else False else False else bif q117 y_1 then bif q118 then ∃ (s : cM × Int),aC (q31 y y_1) (q32 s) ∧ aK True ∧ ∀ (y_5 : Int),
  y_5 = fV s.1 s.2 → ∃ (s : cM × Int),aC (q33 y y_1) (q32 s) ∧ aK True ∧ ∀ (y_6 : Int),y_6 = fV s.1 s.2 → bif q34 y_5 then bif q35 y_5 then bif q34 y_6 then bif q35 y_6
  then bif q7 then bif q120 then ∃ (s : Split × Pos × Bool),aC (q121 y y_1 y_5 y_6) (q122 s) ∧ aK True ∧ ∀ (y : Pos),y = q123 s → bif Alu.tkB y_1.1.ins.op y_5 y_6 then bif q4
  then bif q5 then bif q6 then bif q124 then bif q8 then bif q10 then bif q11 then bif q12 then bif q13 then aA (q127 y y_1 y_5 y_6) r else False else False else False else False else
  False else False else False else False else False else bif q4 then bif q5 then bif q6 then bif q124 then bif q8 then bif q10 then bif q11 then bif q12 then bif q13 then aA (q129
  y y_1 y_5 y_6) r else False else False else False else False else False else False else False else False else False else False else False else False else False else False else False
  else bif q4 then bif q5 then bif q6 then bif q7 then bif q8 then bif q10 then bif q11 then bif q12 then bif q13 then aA (q25 y) r else False else False else False else False else
  False else False else False else False else False else bif q130 y_1 then bif q132 then bif q133 then bif q134 then bif q135 then ∃ (s : Split × Pos × Bool),aC (q136 y) (q122 s)
  ∧ aK True ∧ ∀ (y : Pos),y = q123 s → bif ix x.ebq 0 then bif q4 then bif q5 then bif q6 then bif q7 then bif q138 then bif q10 then bif q11 then bif q12 then bif q13 then aA
  (q140 y) r else False else False else False else False else False else False else False else False else False else bif q4 then bif q5 then bif q6 then bif q7 then bif q138 then bif
  q10 then bif q11 then bif q12 then bif q13 then aA (q141 y) r else False else False else False else False else False else False else False else False else False else False else False
  else False else bif q4 then bif q5 then bif q6 then bif q7 then bif q8 then bif q10 then bif q11 then bif q12 then bif q13 then aA (q25 y) r else False else False else False else
  False else False else False else False else False else False else bif q142 y_1 then ∃ (s : Split × Pos × Bool),aC (q143 y) (q122 s) ∧ aK True ∧ ∀ (y : Pos),y = q123 s → bif
  q4 then bif q5 then bif q6 then bif q7 then bif q8 then bif q10 then bif q11 then bif q12 then bif q13 then aA (q144 y) r else False else False else False else False else False else
  False else False else False else False else bif q145 y_1 then bif q4 then bif q5 then bif q6 then bif q7 then bif q8 then bif q10 then bif q11 then bif q12 then bif q13 then aA (q146
  y) r else False else False else False else False else False else False else False else False else False else bif q4 then bif q5 then bif q6 then bif q7 then bif q8 then bif q10 then
  bif q11 then bif q12 then bif q13 then aA (q25 y) r else False else False else False else False else False else False else False else False else False else bif bif y_2 then true
  else y_3 then bif q4 then bif q5 then bif q6 then bif q7 then bif q8 then bif q10 then bif q11 then bif q12 then bif q13 then aA (q25 y) r else False else False else False else False
  else False else False else False else False else False else False else False else False else False else False else False else False else False else False else False else bif y_2 then
  bif q4 then bif q5 then bif q6 then bif q7 then bif q8 then bif q10 then bif q11 then bif q12 then bif q13 then aA (q25 y) r else False else False else False else False else False
  else False else False else False else False else False else False else False else False else False else False else False else False else False else False else False else False else
  False else False else False else False else False else False else False else False else False else False else False else False else False else False else False else False else False
  else False else False):=by kernel_rfl
theorem bCD : bX Try.prog TPF:=bV (fJ.app cZ) trivial fI ⟨aJV,trivial⟩ trivial
theorem a8E : eI Try.prog (46,bB9):=bB fun ⟨c,s,x⟩ hl => by
 have hl : s.blocks.length ≤ 1000000:=hl
 show Pure _ _ (cons [aU c,aH s,aO x]) (con (.bool (uI c s x)))
 refine eS (u:=80) (k:=20) mix bCD ?_
 refine Eq.mpr (bCB c s x _) ?_
 refine ⟨(s,false,x.a.pos),.rfl,⟨hl⟩, ?_⟩
 intro y hy
 replace hy : y = bY s false x.a.pos:=hy
 refine ⟨(s,true,x.e.pos),.rfl,⟨hl⟩, ?_⟩
 intro z hz
 replace hz : z = bY s true x.e.pos:=hz
 unfold uI
 rw [← hy,← hz]
 simp only [aV,zaB]
 simp only [qC,Bool.and_assoc]
 exact .rfl
theorem bCE : bX Try.prog TPA:=bV (fJ.app cZ) ⟨Alu.aX2,Alu.aX3,zK,aBN,trivial⟩ fI ⟨aJT,aO1,aJV,aRF,aO2,aYD,a8E,a4N,aYA,aYB,aYC,a7Z,a70,aME,trivial⟩ trivial
theorem aYF {s : Split} {x : Stt} (hs : jJ s) (h : x.ok) : (atA s x).ok:=by
 obtain ⟨⟨w0,w1,w2⟩,o⟩:=h
 exact ⟨⟨w0,⟨w1.1,w1.2.1,aJX hs false _ _ w1.2.2.1,w1.2.2.2⟩,w2⟩,o⟩
theorem aC4 {l : List Entry} (h : ∀ e ∈ l,e.wf) {a s : Int} : ∀ k : Nat,k ≤ l.length → (aE9 l a s k).1.wf
 | 0,_ => ⟨fK,fK,fK,⟨by show (0 : Int) ≤ 0;omega,by show (0 : Int) ≤ 4294967295;omega⟩⟩
 | k + 1,hk => by
  unfold aE9
  split
  ·exact h _ (cH hk)
  ·exact aC4 h k (by omega)
theorem aJY (op : Int) : bZ (szI op):=by
 unfold szI bZ
 repeat' split
 all_goals omega
theorem kW (c : Cfg) (x : Stt) (k : Cell) (st ad : Int) (h : ad = pW x.a k.ins) : aFA c x k st =
  if ¬ jW (szI k.ins.op) ad x.mem.length = 0 then eO x (jW (szI k.ins.op) ad x.mem.length) st k.pc
  else if ((jZ x.saq (IntKind.i64.wrap ad) (szI k.ins.op)).2 = true ∧ (uE (jZ x.saq (IntKind.i64.wrap ad) (szI k.ins.op)).1 k.ins.op (IntKind.i64.wrap ad)).2 = false) ∨ ((jZ x.saq (IntKind.i64.wrap ad) (szI k.ins.op)).2 = false ∧ (x.table.length : Int) ≥ c.cA) then x
  else if k.kind = 3 then
   (if (x.ldq.length : Int) ≥ c.ldq then x
    else if (jZ x.saq (IntKind.i64.wrap ad) (szI k.ins.op)).2 then { x with ldq:=(fO (x.ldq ++ [⟨x.tags,false,0⟩]) x.tags (uE (jZ x.saq (IntKind.i64.wrap ad) (szI k.ins.op)).1 k.ins.op (IntKind.i64.wrap ad)).1).1,tags:=IntKind.i64.wrap (x.tags + 1),a:=onF x.a }
    else { x with ldq:=x.ldq ++ [⟨x.tags,false,0⟩],tags:=IntKind.i64.wrap (x.tags + 1),a:=onF x.a,table:=x.table ++ [⟨false,k.ins.op,IntKind.i64.wrap ad,szI k.ins.op,0,0,-1,x.tags⟩] })
  else if (jZ x.saq (IntKind.i64.wrap ad) (szI k.ins.op)).2 then { x with a:=onF (dE x.a k.ins.d (uE (jZ x.saq (IntKind.i64.wrap ad) (szI k.ins.op)).1 k.ins.op (IntKind.i64.wrap ad)).1 (IntKind.i64.wrap (x.aG + 1))) }
  else { x with a:=onF (if k.ins.d = 0 then x.a else { x.a with ready:=fun i => bif Nat.beq i k.ins.d.toNat then -1 else x.a.ready i }),table:=x.table ++ [⟨false,k.ins.op,IntKind.i64.wrap ad,szI k.ins.op,0,0,k.ins.d,0⟩] }:=by
 subst h
 rfl
theorem a8F {s : Split} (hs : jJ s) {q : Pos} : 0 ≤ (bY s false q).1.ins.d ∧ (bY s false q).1.ins.d ≤ 15:=by
 unfold bY
 split
 ·exact ⟨by show (0 : Int) ≤ 0;omega,by show (0 : Int) ≤ 15;omega⟩
 ·show 0 ≤ (ix (jX s false (aT s false q).1.block) (aT s false q).1.index.toNat).ins.d ∧ _
  unfold jX
  split
  ·exact ⟨by show (0 : Int) ≤ 0;omega,by show (0 : Int) ≤ 15;omega⟩
  ·rename_i h1 h2
   simp only [zaU,if_false]
   have hb:=hs.2 _ (cH (show (aT s false q).1.block.toNat < s.blocks.length by omega))
   by_cases hi : (aT s false q).1.index.toNat < (ix s.blocks (aT s false q).1.block.toNat).a.length
   ·exact hb.1 _ (cH hi)
   ·rw [aV7 (by omega)]
    exact ⟨by show (0 : Int) ≤ 0;omega,by show (0 : Int) ≤ 15;omega⟩
theorem jY {c : Cfg} (h : dD c = true) : (1 ≤ c.ldq ∧ c.ldq ≤ 64) ∧ (1 ≤ c.sdq ∧ c.sdq ≤ 64) ∧ (1 ≤ c.aeq ∧ c.aeq ≤ 64) ∧ (1 ≤ c.abq ∧ c.abq ≤ 64) ∧ (1 ≤ c.ebq ∧ c.ebq ≤ 64) ∧ (1 ≤ c.saq ∧ c.saq ≤ 64) ∧ (1 ≤ c.dA ∧ c.dA ≤ 16) ∧ (1 ≤ c.cA ∧ c.cA ≤ 64) ∧ (1 ≤ c.nI ∧ c.nI ≤ 64) ∧ (1 ≤ c.lat ∧ c.lat ≤ 1000) ∧ (1 ≤ c.mul ∧ c.mul ≤ 50) ∧ (1 ≤ c.div ∧ c.div ≤ 50):=by
 simp only [dD,cE,List.all_cons,List.all_nil,zaG,zaK,zaT] at h
 omega
theorem n5 {c : Cfg} {s : Split} {x : Stt} (h : aY c s x = true) : dD c = true:=by
 unfold aY at h
 rw [zaG] at h
 exact h.1
theorem a8G : eI Try.prog (25,bCA):=bB fun ⟨c,s,x⟩ h => by
 obtain ⟨h,hs⟩ : x.ok ∧ jJ s:=h
 show Pure _ _ (cons [aU c,aH s,aO x]) (con (aO (fT c s x)))
 refine eS (u:=80) (k:=20) mix bCE ?_
 refine Eq.mpr (bCC c s x _) ?_
 obtain ⟨b1,b2,b3,b4,b5,b6,b7,b8,b9⟩:=aXL h
 simp only [b1,b2,b3,b4,b5,b6,b7,b8,b9,aD,zaF,cB,zaC,zaB,zaQ]
 refine ⟨(c,s,x),.rfl,⟨h⟩, ?_⟩
 rintro y rfl
 show cond (cond (!aY c s x) true (!!aY c s x)) _ _
 simp only [bJ,zaB]
 simp only [bor]
 unfold fT
 refine jQ (fun h1 => ?_) (fun h1 => ?_)
 ·rw [if_pos (by simpa [or_assoc] using h1)]
  exact .rfl
 have h1' : ¬ (aY c s x = false ∨ x.a.halted = true ∨ x.a.wait > x.aG):=by
  simp only [Bool.or_eq_false_iff,Bool.not_eq_false',zaP] at h1
  rintro (h2 | h2 | h2)
  ·rw [h1.1.1] at h2;cases h2
  ·rw [h1.1.2] at h2;cases h2
  ·exact h1.2 h2
 rw [if_neg h1']
 refine ⟨(s,false,x.a.pos),.rfl,⟨hs.1⟩, ?_⟩
 intro q hq
 replace hq : q = aT s false x.a.pos:=hq
 refine ⟨(s,false,q.1),.rfl,⟨hs.1⟩, ?_⟩
 intro m hm
 replace hm : m = bY s false q.1:=hm
 have hmd : 0 ≤ m.1.ins.d ∧ m.1.ins.d ≤ 15:=by rw [hm];exact a8F hs
 have hcfg:=jY (n5 (show aY c s x = true by cases hR : aY c s x with
  | true => rfl
  | false => exact (h1' (.inl hR)).elim))
 have hat : atA s x = { x with a:={ x.a with pos:=q.1 } }:=by rw [hq];rfl
 have hok:=aYF hs h
 rw [show (bY s false (atA s x).a.pos) = m by rw [hm,hat],← hq]
 have hb : (atA s x).a.pos.block = q.1.block:=by rw [hat]
 rw [hb]
 generalize hX : atA s x = X at hok hat
 have hnote : ∀ k st pc : Int,∃ s : Stt × Int × Int × Int,aC [aO X,.int .i64 k,.int .i64 st,.int .i64 pc] [aO s.1,.int .i64 s.2.1,.int .i64 s.2.2.1,.int .i64 s.2.2.2] ∧ aK s.1.ok ∧ ∀ y : Stt,y = eO s.1 s.2.1 s.2.2.1 s.2.2.2 → aA (aO y) (aO (eO X k st pc)):=fun k st pc =>
  ⟨(X,k,st,pc),.rfl,⟨hok⟩,fun y hy => by rw [hy];exact .rfl⟩
 have hst : aA (aO X) (aO X):=.rfl
 clear hX
 subst hat
 cases hf : q.2 with
 | true =>
  simp only [zaB,if_true]
  refine ⟨(s,q.1.block),.rfl,⟨trivial⟩, ?_⟩
  rintro z rfl
  exact hnote _ _ _
 | false =>
  simp only [zaD,zaU,if_false]
  refine ⟨({ x with a:={ x.a with pos:=q.1 } },m.2.1),.rfl,⟨trivial⟩, ?_⟩
  intro z hz
  replace hz : z = dB x m.2.1:=hz
  rw [← hz]
  cases z with
  | true =>
   simp only [zaI,zaD,zaB,true_or,if_true]
   exact hst
  | false =>
   simp only [zaH,zaD,zaB,zaU,false_or]
   refine ⟨(c,s,{ x with a:={ x.a with pos:=q.1 } }),.rfl,⟨hs.1⟩, ?_⟩
   intro z hz
   replace hz : z = uI c s { x with a:={ x.a with pos:=q.1 } }:=hz
   rw [← hz]
   cases z with
   | true =>
    simp only [Bool.or_true,zaI,zaD,zaB,true_or,if_true]
    exact hst
   | false =>
   simp only [Bool.or_false,Bool.false_or,zaH,zaD,zaB,zaU,false_or]
   refine ⟨({ x.a with pos:=q.1 },m.1,x.aG),.rfl,⟨trivial⟩, ?_⟩
   intro w hw
   replace hw : w = uF x.a m.1 x.aG:=hw
   rw [← hw]
   cases w with
   | false =>
    simp only [zaH,zaB,if_true]
    exact hst
   | true =>
    simp only [zaI,zaD,Bool.true_eq_false,if_false]
    clear hz hw hq hm
    obtain ⟨k,st,ok⟩:=m
    replace hmd : 0 ≤ k.ins.d ∧ k.ins.d ≤ 15:=hmd
    have hX : ∀ n,0 ≤ fV { x.a with pos:=q.1 } n ∧ fV { x.a with pos:=q.1 } n ≤ 4294967295:=uH ⟨h.1.2.1.1,h.1.2.1.2.1,(hok.1.2.1).2.2⟩
    show cond (decide (k.kind = 1)) _ _
    unfold rN
    by_cases k1 : k.kind = 1
    ·simp only [k1,zaC,zaB,if_true]
     refine ⟨({ x.a with pos:=q.1 },k.ins.a),.rfl,⟨trivial⟩, ?_⟩
     intro va hva
     replace hva : va = fV { x.a with pos:=q.1 } k.ins.a:=hva
     refine ⟨({ x.a with pos:=q.1 },k.ins.b),.rfl,⟨trivial⟩, ?_⟩
     intro vb hvb
     replace hvb : vb = fV { x.a with pos:=q.1 } k.ins.b:=hvb
     have ra:=hX k.ins.a
     have rb:=hX k.ins.b
     rw [← hva] at ra
     rw [← hvb] at rb
     simp only [ra.1,ra.2,rb.1,rb.2,zaC,zaB]
     show cond (!Alu.dkB k.ins.op k.ins.d k.ins.a k.ins.b k.ins.imm vb) _ _
     cases hd : Alu.dkB k.ins.op k.ins.d k.ins.a k.ins.b k.ins.imm vb with
     | false =>
      rw [if_neg (show ¬ doK { x.a with pos:=q.1 } k.ins = true by unfold doK;rw [← hvb,hd];simp)]
      exact hnote _ _ _
     | true =>
      rw [if_pos (show doK { x.a with pos:=q.1 } k.ins = true by unfold doK;rw [← hvb,hd])]
      refine ⟨(c,k.ins.op),.rfl,⟨trivial⟩, ?_⟩
      rintro lt rfl
      simp only [zaI,zaD]
      unfold doV
      rw [← hva,← hvb]
      refine uG k.ins.d (fun h => ?_) (fun h => ?_)
      ·rw [dE,if_pos h];exact .rfl
      ·rw [dE,if_neg h];exact .rfl
    simp only [k1,zaE,zaD,if_false]
    by_cases k5 : k.kind = 5
    ·simp only [k5,zaC,zaB,if_true]
     by_cases g : (x.aeq.length : Int) < c.aeq
     ·simp only [g,zaC,zaB,if_true]
      refine ⟨({ x.a with pos:=q.1 },k.reg),.rfl,⟨trivial⟩, ?_⟩
      intro v hv
      replace hv : v = fV { x.a with pos:=q.1 } k.reg:=hv
      rw [← hv]
      have g6 : (x.aeq.length + 1) * 4 ≤ 140737488355328:=by have:=h.2.2.2.1;omega
      simp only [g6,zaC,zaB]
      refine ⟨fX ?_⟩
      repeat' (first | with_reducible exact .refl _ | exact bO | refine aF ?_ ?_ | exact .refl _ | exact oP (fun i hi => by simp only [hi,zaC,zaB];rfl) (by simp only [Nat.lt_irrefl,zaE,zaD];rfl))
     ·simp only [g,zaE,zaD,if_false]
      exact hst
    simp only [k5,zaE,zaD,if_false]
    by_cases k2 : k.kind = 2
    ·simp only [k2,zaC,zaB,true_or,if_true]
     refine ⟨({ x.a with pos:=q.1 },k.ins.a),.rfl,⟨trivial⟩, ?_⟩
     intro va hva
     replace hva : va = fV { x.a with pos:=q.1 } k.ins.a:=hva
     have had2 : (IntKind.u32.wrap (va + IntKind.u32.wrap k.ins.imm)) = pW { x.a with pos:=q.1 } k.ins:=by rw [hva];rfl
     rw [kW c { x with a:={ x.a with pos:=q.1 } } k st (IntKind.u32.wrap (va + IntKind.u32.wrap k.ins.imm)) had2]
     by_cases g0 : jW (szI k.ins.op) (IntKind.u32.wrap (va + IntKind.u32.wrap k.ins.imm)) x.mem.length = 0
     case neg =>
      simp only [g0,zaM,zaC,zaB,if_true]
      exact hnote _ _ _
     simp only [g0,zaN,zaE,zaD,if_false]
     have hen : ∀ e ∈ x.saq,e.wf:=h.1.2.2.2.2.2.2.2.2.1.1
     refine ⟨(x.saq,IntKind.i64.wrap (IntKind.u32.wrap (va + IntKind.u32.wrap k.ins.imm)),szI k.ins.op),.rfl,⟨⟨h.2.2.2.2.2.2.1,hen,dY _,aJY _⟩⟩, ?_⟩
     intro e he
     replace he : e = jZ x.saq (IntKind.i64.wrap (IntKind.u32.wrap (va + IntKind.u32.wrap k.ins.imm))) (szI k.ins.op):=he
     refine ⟨(e.1,k.ins.op,IntKind.i64.wrap (IntKind.u32.wrap (va + IntKind.u32.wrap k.ins.imm))),.rfl,⟨by rw [he];exact aC4 hen _ (zaF _)⟩, ?_⟩
     intro v hv
     replace hv : v = uE e.1 k.ins.op (IntKind.i64.wrap (IntKind.u32.wrap (va + IntKind.u32.wrap k.ins.imm))):=hv
     rw [← he,← hv]
     clear he hv had2 hva hen
     obtain ⟨en,th⟩:=e
     obtain ⟨vv,okv⟩:=v
     have b10 : (x.table.length + 1) * 64 ≤ 140737488355328:=by have:=h.2.2.2.2.2.2.2.1;omega
     have b11 : (x.ldq.length + 1) * 16 ≤ 140737488355328:=by have:=h.2.1;omega
     cases th with
     | true =>
      cases okv with
      | false =>
       simp only [zaB,zaD,zaI,zaH,Bool.or_true,Bool.true_or,Bool.or_false,Bool.false_or,Bool.true_eq_false,zaU,true_and,and_true,false_and,and_false,true_or,or_true,false_or,or_false,and_self,or_self,if_true,if_false,zaC,zaE,zaN,zaM]
       exact hst
      | true =>
       simp only [zaB,zaD,zaI,zaH,Bool.or_true,Bool.true_or,Bool.or_false,Bool.false_or,Bool.true_eq_false,zaU,true_and,and_true,false_and,and_false,true_or,or_true,false_or,or_false,and_self,or_self,if_true,if_false,zaC,zaE,zaN,zaM,k2,Int.reduceEq]
       refine uG k.ins.d (fun h => ?_) (fun h => ?_)
       ·rw [dE,if_pos h];exact .rfl
       ·rw [dE,if_neg h];exact .rfl
     | false =>
      by_cases g1 : (x.table.length : Int) ≥ c.cA
      ·simp only [zaB,zaD,zaI,zaH,Bool.or_true,Bool.true_or,Bool.or_false,Bool.false_or,Bool.true_eq_false,zaU,true_and,and_true,false_and,and_false,true_or,or_true,false_or,or_false,and_self,or_self,if_true,if_false,zaC,zaE,zaN,zaM,g1]
       exact hst
      ·simp only [zaB,zaD,zaI,zaH,Bool.or_true,Bool.true_or,Bool.or_false,Bool.false_or,Bool.true_eq_false,zaU,true_and,and_true,false_and,and_false,true_or,or_true,false_or,or_false,and_self,or_self,if_true,if_false,zaC,zaE,zaN,zaM,g1,k2,Int.reduceEq,b10]
       by_cases hd : k.ins.d = 0
       ·simp only [hd,zaN,zaE,zaD,if_true]
        refine ⟨fX ?_⟩
        repeat' (first | with_reducible exact .refl _ | exact bO | refine aF ?_ ?_ | exact .refl _ | exact oP (fun i hi => by simp only [hi,zaC,zaB];rfl) (by simp only [Nat.lt_irrefl,zaE,zaD];rfl))
       ·have d1 : 0 ≤ k.ins.d:=hmd.1
        have d2 : k.ins.d < 16:=by omega
        have d3 : k.ins.d.toNat < 16:=by omega
        simp only [hd,d1,d2,d3,zaM,zaC,zaB,if_false]
        refine ⟨fX ?_⟩
        repeat' (first | with_reducible exact .refl _ | exact bO | refine aF ?_ ?_ | exact .refl _ | exact oP (fun i hi => by simp only [hi,zaC,zaB];rfl) (by simp only [Nat.lt_irrefl,zaE,zaD];rfl))
    by_cases k3 : k.kind = 3
    ·simp only [k2,k3,Int.reduceEq,zaC,zaE,zaB,zaD,or_true,if_true]
     refine ⟨({ x.a with pos:=q.1 },k.ins.a),.rfl,⟨trivial⟩, ?_⟩
     intro va hva
     replace hva : va = fV { x.a with pos:=q.1 } k.ins.a:=hva
     have had2 : (IntKind.u32.wrap (va + IntKind.u32.wrap k.ins.imm)) = pW { x.a with pos:=q.1 } k.ins:=by rw [hva];rfl
     rw [kW c { x with a:={ x.a with pos:=q.1 } } k st (IntKind.u32.wrap (va + IntKind.u32.wrap k.ins.imm)) had2]
     by_cases g0 : jW (szI k.ins.op) (IntKind.u32.wrap (va + IntKind.u32.wrap k.ins.imm)) x.mem.length = 0
     case neg =>
      simp only [g0,zaM,zaC,zaB,if_true]
      exact hnote _ _ _
     simp only [g0,zaN,zaE,zaD,if_false]
     have hen : ∀ e ∈ x.saq,e.wf:=h.1.2.2.2.2.2.2.2.2.1.1
     refine ⟨(x.saq,IntKind.i64.wrap (IntKind.u32.wrap (va + IntKind.u32.wrap k.ins.imm)),szI k.ins.op),.rfl,⟨⟨h.2.2.2.2.2.2.1,hen,dY _,aJY _⟩⟩, ?_⟩
     intro e he
     replace he : e = jZ x.saq (IntKind.i64.wrap (IntKind.u32.wrap (va + IntKind.u32.wrap k.ins.imm))) (szI k.ins.op):=he
     refine ⟨(e.1,k.ins.op,IntKind.i64.wrap (IntKind.u32.wrap (va + IntKind.u32.wrap k.ins.imm))),.rfl,⟨by rw [he];exact aC4 hen _ (zaF _)⟩, ?_⟩
     intro v hv
     replace hv : v = uE e.1 k.ins.op (IntKind.i64.wrap (IntKind.u32.wrap (va + IntKind.u32.wrap k.ins.imm))):=hv
     rw [← he,← hv]
     clear he hv had2 hva hen
     obtain ⟨en,th⟩:=e
     obtain ⟨vv,okv⟩:=v
     have b10 : (x.table.length + 1) * 64 ≤ 140737488355328:=by have:=h.2.2.2.2.2.2.2.1;omega
     have b11 : (x.ldq.length + 1) * 16 ≤ 140737488355328:=by have:=h.2.1;omega
     cases th with
     | true =>
      cases okv with
      | false =>
       simp only [zaB,zaD,zaI,zaH,Bool.or_true,Bool.true_or,Bool.or_false,Bool.false_or,Bool.true_eq_false,zaU,true_and,and_true,false_and,and_false,true_or,or_true,false_or,or_false,and_self,or_self,if_true,if_false,zaC,zaE,zaN,zaM]
       exact hst
      | true =>
       by_cases g2 : (x.ldq.length : Int) ≥ c.ldq
       ·simp only [zaB,zaD,zaI,zaH,Bool.or_true,Bool.true_or,Bool.or_false,Bool.false_or,Bool.true_eq_false,zaU,true_and,and_true,false_and,and_false,true_or,or_true,false_or,or_false,and_self,or_self,if_true,if_false,zaC,zaE,zaN,zaM,k3,g2]
        exact hst
       ·simp only [zaB,zaD,zaI,zaH,Bool.or_true,Bool.true_or,Bool.or_false,Bool.false_or,Bool.true_eq_false,zaU,true_and,and_true,false_and,and_false,true_or,or_true,false_or,or_false,and_self,or_self,if_true,if_false,zaC,zaE,zaN,zaM,k3,g2,b11]
        refine ⟨(x.ldq ++ [⟨x.tags,false,0⟩],x.tags,vv),⟨aF (oP (fun i hi => by simp only [hi,zaC,zaB];rfl) (by simp only [Nat.lt_irrefl,zaE,zaD];rfl)) (aF (.refl _) (aF (.refl _) bO))⟩,⟨by rw [cD];omega⟩, ?_⟩
        rintro y rfl
        exact .rfl
     | false =>
      by_cases g1 : (x.table.length : Int) ≥ c.cA
      ·simp only [zaB,zaD,zaI,zaH,Bool.or_true,Bool.true_or,Bool.or_false,Bool.false_or,Bool.true_eq_false,zaU,true_and,and_true,false_and,and_false,true_or,or_true,false_or,or_false,and_self,or_self,if_true,if_false,zaC,zaE,zaN,zaM,g1]
       exact hst
      ·by_cases g2 : (x.ldq.length : Int) ≥ c.ldq
       ·simp only [zaB,zaD,zaI,zaH,Bool.or_true,Bool.true_or,Bool.or_false,Bool.false_or,Bool.true_eq_false,zaU,true_and,and_true,false_and,and_false,true_or,or_true,false_or,or_false,and_self,or_self,if_true,if_false,zaC,zaE,zaN,zaM,k3,g1,g2]
        exact hst
       ·simp only [zaB,zaD,zaI,zaH,Bool.or_true,Bool.true_or,Bool.or_false,Bool.false_or,Bool.true_eq_false,zaU,true_and,and_true,false_and,and_false,true_or,or_true,false_or,or_false,and_self,or_self,if_true,if_false,zaC,zaE,zaN,zaM,k3,g1,g2,b10,b11]
        refine ⟨fX ?_⟩
        repeat' (first | with_reducible exact .refl _ | exact bO | refine aF ?_ ?_ | exact .refl _ | exact oP (fun i hi => by simp only [hi,zaC,zaB];rfl) (by simp only [Nat.lt_irrefl,zaE,zaD];rfl))
    simp only [k2,k3,zaE,zaD,or_self,if_false]
    by_cases k4 : k.kind = 4
    ·simp only [k4,zaC,zaB,if_true]
     refine ⟨({ x.a with pos:=q.1 },k.ins.a),.rfl,⟨trivial⟩, ?_⟩
     intro va hva
     replace hva : va = fV { x.a with pos:=q.1 } k.ins.a:=hva
     have had2 : (IntKind.u32.wrap (va + IntKind.u32.wrap k.ins.imm)) = pW { x.a with pos:=q.1 } k.ins:=by rw [hva];rfl
     rw [← had2]
     clear had2 hva
     by_cases g0 : jW (szI k.ins.op) (IntKind.u32.wrap (va + IntKind.u32.wrap k.ins.imm)) x.mem.length = 0
     case neg =>
      simp only [g0,zaM,zaC,zaB,if_true]
      exact hnote _ _ _
     have b12 : (x.saq.length + 1) * 32 ≤ 140737488355328:=by have:=h.2.2.2.2.2.2.1;omega
     by_cases g1 : (x.saq.length : Int) ≥ c.saq
     ·simp only [g0,g1,zaN,zaE,zaC,zaD,zaB,if_false,if_true]
      exact hst
     ·simp only [g0,g1,b12,zaN,zaE,zaC,zaD,zaB,if_false]
      refine ⟨fX ?_⟩
      repeat' (first | with_reducible exact .refl _ | exact bO | refine aF ?_ ?_ | exact .refl _ | exact oP (fun i hi => by simp only [hi,zaC,zaB];rfl) (by simp only [Nat.lt_irrefl,zaE,zaD];rfl))
    simp only [k4,zaE,zaD,if_false]
    by_cases k9 : k.kind = 9
    ·simp only [k9,zaC,zaB,if_true]
     by_cases g : (x.abq.length : Int) < c.abq
     ·simp only [g,zaC,zaB,if_true]
      refine ⟨({ x.a with pos:=q.1 },k.ins.a),.rfl,⟨trivial⟩, ?_⟩
      intro va hva
      replace hva : va = fV { x.a with pos:=q.1 } k.ins.a:=hva
      refine ⟨({ x.a with pos:=q.1 },k.ins.b),.rfl,⟨trivial⟩, ?_⟩
      intro vb hvb
      replace hvb : vb = fV { x.a with pos:=q.1 } k.ins.b:=hvb
      have ra:=hX k.ins.a
      have rb:=hX k.ins.b
      rw [← hva] at ra
      rw [← hvb] at rb
      have g6 : (x.abq.length + 1) * 1 ≤ 140737488355328:=by have:=h.2.2.2.2.1;omega
      simp only [ra.1,ra.2,rb.1,rb.2,g6,zaC,zaB]
      refine ⟨(s,q.1,Alu.tkB k.ins.op va vb),.rfl,⟨trivial⟩, ?_⟩
      intro z hz
      replace hz : z = goF s q.1 (Alu.tkB k.ins.op va vb):=hz
      show cond (Alu.tkB k.ins.op va vb) _ _
      rw [show aAQ { x.a with pos:=q.1 } k.ins = Alu.tkB k.ins.op va vb by unfold aAQ;rw [hva,hvb]]
      unfold mH
      subst hz
      cases Alu.tkB k.ins.op va vb
      ·refine ⟨fX ?_⟩
       repeat' (first | with_reducible exact .refl _ | exact bO | refine aF ?_ ?_ | exact .refl _ | exact oP (fun i hi => by simp only [hi,zaC,zaB];rfl) (by simp only [Nat.lt_irrefl,zaE,zaD];rfl))
      ·refine ⟨fX ?_⟩
       repeat' (first | with_reducible exact .refl _ | exact bO | refine aF ?_ ?_ | exact .refl _ | exact oP (fun i hi => by simp only [hi,zaC,zaB];rfl) (by simp only [Nat.lt_irrefl,zaE,zaD];rfl))
     ·simp only [g,zaE,zaD,if_false]
      exact hst
    simp only [k9,zaE,zaD,if_false]
    by_cases k10 : k.kind = 10
    ·simp only [k10,zaC,zaB,if_true]
     by_cases g : x.ebq = []
     ·simp only [g,List.length_nil,Int.ofNat_zero,Int.lt_irrefl,gt_iff_lt,zaE,zaD,if_true]
      rw [g] at hst
      exact hst
     have g1 : 0 < x.ebq.length:=List.length_pos_iff.2 g
     have g2 : (0 : Int) < (x.ebq.length : Int):=by omega
     have g3 : (1 : Int) ≤ (x.ebq.length : Int):=by omega
     have g4 : 1 + (x.ebq.length - 1) ≤ x.ebq.length:=by omega
     simp only [g,g1,g2,g3,g4,gt_iff_lt,zaC,zaB,if_false]
     refine ⟨(s,q.1,ix x.ebq 0),.rfl,⟨trivial⟩, ?_⟩
     intro z hz
     replace hz : z = goF s q.1 (ix x.ebq 0):=hz
     unfold mH
     subst hz
     cases ix x.ebq 0
     ·simp only [zaD]
      refine ⟨fX ?_⟩
      repeat' (first | with_reducible exact .refl _ | exact bO | refine aF ?_ ?_ | exact .refl _ | exact pN)
     ·simp only [zaB]
      refine ⟨fX ?_⟩
      repeat' (first | with_reducible exact .refl _ | exact bO | refine aF ?_ ?_ | exact .refl _ | exact pN)
    simp only [k10,zaE,zaD,if_false]
    by_cases k11 : k.kind = 11
    ·simp only [k11,zaC,zaB,if_true]
     refine ⟨(s,q.1,true),.rfl,⟨trivial⟩, ?_⟩
     intro z hz
     replace hz : z = goF s q.1 true:=hz
     subst hz
     exact .rfl
    simp only [k11,zaE,zaD,if_false]
    by_cases k12 : k.kind = 12
    ·simp only [k12,zaC,zaB,if_true]
     exact .rfl
    simp only [k12,zaE,zaD,if_false]
    exact hst
theorem aHS {α : Type} [Inhabited α] (l : List α) (i : Nat) : ix l i ∈ l ∨ ix l i = default:=by
 by_cases h : i < l.length
 ·exact .inl (cH h)
 ·exact .inr (aV7 (by omega))
theorem uJ {d : cM} (h : d.wf) {n w r : Int} (hw : j9 w) (hr : bZ r) : (dE d n w r).wf:=by
 unfold dE
 split
 ·refine ⟨fun i hi => ?_,fun i hi => ?_,h.2.2⟩
  ·show j9 (bif Nat.beq i n.toNat then w else d.oW i)
   cases Nat.beq i n.toNat
   ·exact h.1 i hi
   ·exact hw
  ·show bZ (bif Nat.beq i n.toNat then r else d.ready i)
   cases Nat.beq i n.toNat
   ·exact h.2.1 i hi
   ·exact hr
 ·exact h
theorem oR {d : cM} (h : d.wf) : (onF d).wf:=⟨h.1,h.2.1,⟨h.2.2.1.1,dY _,h.2.2.1.2.2⟩,h.2.2.2.1,dY _⟩
theorem a8H {s : Split} (hs : jJ s) {q : Pos} (h : q.wf) (t : Bool) : (goF s q t).wf:=by
 unfold goF
 split
 ·rename_i h1
  have hb:=(hs.2 _ (cH (show q.block.toNat < s.blocks.length by omega))).2
  exact ⟨hb.2.2.2.1,fK,dY _⟩
 ·exact ⟨h.1,dY _,h.2.2⟩
theorem qL {s : Split} (hs : jJ s) {d : cM} (h : d.wf) (t : Bool) (n : Int) : (mH s d t n).wf:=by
 refine ⟨h.1,h.2.1,a8H hs h.2.2.1 t, ?_,dY _⟩
 show bZ (if t = true then IntKind.i64.wrap (n + 2) else d.wait)
 split
 ·exact dY _
 ·exact h.2.2.2.1
theorem aMN {d : cM} (h : d.wf) : (aMM d).wf:=⟨h.1,h.2.1,h.2.2.1,h.2.2.2.1,dY _⟩
theorem aMO {d : cM} (h : d.wf) (n : Int) : j9 (fV d n):=uH h n
theorem aRG {d : cM} (h : d.wf) (i : Ins) : j9 (doV d i):=by
 have h1:=uH h i.a
 have h2:=uH h i.b
 exact Alu.a7S _ _ _ _ _ h1.1 h1.2 h2.1 h2.2
theorem qM {x : Stt} (h : x.ok) {k st pc : Int} (h1 : bZ k) (h2 : bZ st) (h3 : bZ pc) : (eO x k st pc).ok:=by
 unfold eO
 split
 ·obtain ⟨⟨w0,w1,w2,w3,w4,w5,w6,w7,w8,w9,w10,w11,w12,w13⟩,o⟩:=h
  exact ⟨⟨w0,w1,w2,w3,w4,w5,w6,w7,w8,w9,w10,w11,⟨h1,h2,h3⟩,w13⟩,o⟩
 ·exact h
theorem aHT {s : Split} (hs : jJ s) (e : Bool) (q : Pos) : bZ (bY s e q).1.pc ∧ bZ (bY s e q).2.1:=by
 have h0 : bZ noCell.pc:=fK
 unfold bY
 split
 ·exact ⟨h0,dY _⟩
 ·refine ⟨?_,dY _⟩
  show bZ (ix (jX s e (aT s e q).1.block) (aT s e q).1.index.toNat).pc
  rcases aHS (jX s e (aT s e q).1.block) (aT s e q).1.index.toNat with h | h
  ·unfold jX at h
   split at h
   ·cases h
   ·rename_i h2
    have hb:=(hs.2 _ (cH (show (aT s e q).1.block.toNat < s.blocks.length by omega))).2
    have key : ∀ k : Cell,(k ∈ (ix s.blocks (aT s e q).1.block.toNat).a ∨ k ∈ (ix s.blocks (aT s e q).1.block.toNat).e) → bZ k.pc:=fun k hk => by
     rcases hk with hk | hk
     ·exact (hb.2.2.2.2.1.1 k hk).2.2.2.1
     ·exact (hb.2.2.2.2.2.1 k hk).2.2.2.1
    refine key _ ?_
    unfold jX
    rw [if_neg h2]
    cases e
    ·exact .inl (by simpa using h)
    ·exact .inr (by simpa using h)
  ·rw [h];exact fK
theorem aMP {s : Split} (hs : jJ s) (n : Int) : bZ (aAO s n):=by
 unfold aAO
 split
 ·exact fK
 ·exact (hs.2 _ (cH (by omega))).2.2.1
theorem aO3 (n : Int) (h : -9223372036854775808 ≤ n ∧ n ≤ 9223372036854775807) : bZ n:=h
theorem aFB {c : Cfg} {s : Split} {x : Stt} (h : aY c s x = true) : x.ldq.length ≤ 64 ∧ x.sdq.length ≤ 64 ∧ x.aeq.length ≤ 64 ∧ x.abq.length ≤ 64 ∧ x.ebq.length ≤ 64 ∧ x.saq.length ≤ 64 ∧ x.table.length ≤ 64 ∧ x.mem.length ≤ 65536:=by
 have hc:=jY (n5 h)
 simp only [aY,aQ5,zaG,zaK] at h
 omega
theorem a2X {c : Cfg} {s : Split} {x : Stt} (hs : jJ s) (h : x.ok) : (eF c s x).ok ∧ (eF c s x).writes = x.writes ∧ (eF c s x).table = x.table:=by
 unfold eF
 split
 ·exact ⟨h,rfl,rfl⟩
 rename_i hn
 have hR : aY c s x = true:=by
  cases hR : aY c s x with
  | true => rfl
  | false => exact (hn (.inl hR)).elim
 have hl:=aFB hR
 have ha:=aYE hs h
 have hc:=aHT hs true (atE s x).e.pos
 have nw : ∀ (y : Stt) (k st pc : Int),(eO y k st pc).writes = y.writes ∧ (eO y k st pc).table = y.table:=fun y k st pc => by unfold eO;split <;> exact ⟨rfl,rfl⟩
 split
 ·exact ⟨qM ha (aO3 _ (by omega)) hc.2 (aMP hs _),nw _ _ _ _⟩
 split
 ·exact ⟨ha,rfl,rfl⟩
 generalize (bY s true (atE s x).e.pos).2.1 = st at hc
 generalize (bY s true (atE s x).e.pos).1 = k at hc
 have e1 : (atE s x).aG = x.aG:=rfl
 have hl2 : (atE s x).ldq.length ≤ 64 ∧ (atE s x).sdq.length ≤ 64 ∧ (atE s x).ebq.length ≤ 64:=⟨hl.1,hl.2.1,hl.2.2.2.2.1⟩
 have hw2 : (atE s x).writes = x.writes ∧ (atE s x).table = x.table:=⟨rfl,rfl⟩
 generalize atE s x = y at ha hl2 hw2 e1
 rw [← hw2.1,← hw2.2]
 clear hn hR hl hw2 h e1
 unfold pV
 obtain ⟨⟨w0,w1,w2,w3,w4,w5,w6,w7,w8,w9,w10,w11,w12,w13,w14,w15⟩,o⟩:=ha
 have ho : ∀ d : cM,d.wf → ({ y with e:=d } : Stt).ok:=fun d hd => ⟨⟨w0,w1,hd,w3,w4,w5,w6,w7,w8,w9,w10,w11,w12,w13,w14,w15⟩,o⟩
 split
 ·split
  ·exact ⟨ho _ (oR (uJ w2 (aRG w2 _) (dY _))),rfl,rfl⟩
  ·exact ⟨qM ⟨⟨w0,w1,w2,w3,w4,w5,w6,w7,w8,w9,w10,w11,w12,w13,w14,w15⟩,o⟩ (aO3 _ (by omega)) hc.2 hc.1,nw _ _ _ _⟩
 split
 ·split
  ·exact ⟨ho _ w2,rfl,rfl⟩
  ·rename_i hq
   have h5 : j9 (ix y.aeq 0):=w5.1 _ (cH (List.length_pos_iff.2 hq))
   refine ⟨⟨⟨w0,w1,oR (uJ w2 h5 (dY _)),w3,w4,⟨fun z hz => w5.1 z (List.mem_of_mem_tail hz), ?_⟩,w6,w7,w8,w9,w10,w11,w12,w13,w14,w15⟩, ?_⟩,rfl,rfl⟩
   ·show y.aeq.tail.length * 4 ≤ _
    rw [List.length_tail];have:=w5.2;omega
   ·show _ ∧ _ ∧ y.aeq.tail.length ≤ _ ∧ _
    rw [List.length_tail]
    exact ⟨o.1,o.2.1,by have:=o.2.2.1;omega,o.2.2.2⟩
 split
 ·by_cases hp : y.ldq = [] ∨ (ix y.ldq 0).full = false
  ·rw [show xR y.ldq = (y.ldq,0,false) by unfold xR;rw [if_pos hp]]
   exact ⟨ho _ w2,rfl,rfl⟩
  ·rw [show xR y.ldq = (y.ldq.tail,(ix y.ldq 0).val,true) by unfold xR;rw [if_neg hp]]
   have hq : ¬ y.ldq = []:=fun e => hp (.inl e)
   have h5 : j9 (ix y.ldq 0).val:=(w3.1 _ (cH (List.length_pos_iff.2 hq))).2
   refine ⟨⟨⟨w0,w1,oR (uJ w2 h5 (dY _)),⟨fun z hz => w3.1 z (List.mem_of_mem_tail hz), ?_⟩,w4,w5,w6,w7,w8,w9,w10,w11,w12,w13,w14,w15⟩, ?_⟩,rfl,rfl⟩
   ·show y.ldq.tail.length * 16 ≤ _
    rw [List.length_tail];have:=w3.2;omega
   ·show y.ldq.tail.length ≤ _ ∧ _
    rw [List.length_tail]
    exact ⟨by have:=o.1;omega,o.2⟩
 split
 ·split
  ·refine ⟨⟨⟨w0,w1,oR w2,w3,⟨fun z hz => ?_, ?_⟩,w5,w6,w7,w8,w9,w10,w11,w12,w13,w14,w15⟩, ?_⟩,rfl,rfl⟩
   ·rcases List.mem_append.1 hz with hz | hz
    ·exact w4.1 z hz
    ·obtain rfl:=List.mem_singleton.1 hz;exact aMO w2 _
   ·show (y.sdq ++ [_]).length * 4 ≤ _
    rw [cD];omega
   ·show _ ∧ (y.sdq ++ [_]).length ≤ _ ∧ _
    rw [cD]
    exact ⟨o.1,by omega,o.2.2⟩
  ·exact ⟨ho _ w2,rfl,rfl⟩
 split
 ·split
  ·refine ⟨⟨⟨w0,w1,qL hs w2 _ _,w3,w4,w5,w6,⟨fun z hz => trivial, ?_⟩,w8,w9,w10,w11,w12,w13,w14,w15⟩, ?_⟩,rfl,rfl⟩
   ·show (y.ebq ++ [_]).length * 1 ≤ _
    rw [cD];omega
   ·show _ ∧ _ ∧ _ ∧ _ ∧ (y.ebq ++ [_]).length ≤ _ ∧ _
    rw [cD]
    exact ⟨o.1,o.2.1,o.2.2.1,o.2.2.2.1,by omega,o.2.2.2.2.2⟩
  ·exact ⟨ho _ w2,rfl,rfl⟩
 split
 ·split
  ·exact ⟨ho _ w2,rfl,rfl⟩
  ·refine ⟨⟨⟨w0,w1,qL hs w2 _ _,w3,w4,w5,⟨fun z hz => trivial, ?_⟩,w7,w8,w9,w10,w11,w12,w13,w14,w15⟩, ?_⟩,rfl,rfl⟩
   ·show y.abq.tail.length * 1 ≤ _
    rw [List.length_tail];have:=w6.2;omega
   ·show _ ∧ _ ∧ _ ∧ y.abq.tail.length ≤ _ ∧ _
    rw [List.length_tail]
    exact ⟨o.1,o.2.1,o.2.2.1,by have:=o.2.2.2.1;omega,o.2.2.2.2⟩
 split
 ·exact ⟨ho _ (qL hs w2 _ _),rfl,rfl⟩
 split
 ·exact ⟨ho _ (aMN w2),rfl,rfl⟩
 ·exact ⟨ho _ w2,rfl,rfl⟩
theorem a2Y {e : Entry} (h : e.wf) (op a : Int) : j9 (uE e op a).1:=by
 unfold uE
 split
 ·exact aQ1 h.2.2.2
 ·exact ⟨by show (0 : Int) ≤ 0;omega,by show (0 : Int) ≤ 4294967295;omega⟩
theorem a2Z {l : List Slot} (h : ∀ z ∈ l,z.wf) {t w : Int} (hw : j9 w) : ∀ z ∈ (fO l t w).1,z.wf:=by
 unfold fO
 split
 ·exact h
 ·rename_i hn
  obtain ⟨_,_,b3⟩:=aE4 hn
  intro y hy
  rcases List.mem_or_eq_of_mem_set hy with hy | rfl
  ·exact h y hy
  ·exact ⟨(h _ (cH b3)).1,hw⟩
theorem aTQ {d : cM} (h : d.wf) (n : Nat) : ({ d with ready:=fun i => bif Nat.beq i n then -1 else d.ready i } : cM).wf:=by
 refine ⟨h.1,fun i hi => ?_,h.2.2⟩
 show bZ (bif Nat.beq i n then -1 else d.ready i)
 cases Nat.beq i n
 ·exact h.2.1 i hi
 ·show bZ (-1)
  exact aO3 _ (by omega)
theorem aRH (s a n : Int) : bZ (jW s a n):=by
 unfold jW
 repeat' split
 all_goals exact aO3 _ (by omega)
theorem aYG {c : Cfg} {y : Stt} {k : Cell} {st : Int} (ho : y.ok) (hk : k.ins.wf) (hc : bZ k.pc ∧ bZ st) (hl : y.ldq.length ≤ 64 ∧ y.table.length ≤ 64) : (aFA c y k st).ok ∧ (aFA c y k st).writes = y.writes ∧ (aFA c y k st).table.length ≤ y.table.length + 1:=by
 have nw : ∀ (y : Stt) (k st pc : Int),(eO y k st pc).writes = y.writes ∧ (eO y k st pc).table = y.table:=fun y k st pc => by unfold eO;split <;> exact ⟨rfl,rfl⟩
 rw [kW c y k st _ rfl]
 have h0:=ho
 obtain ⟨⟨w0,w1,w2,w3,w4,w5,w6,w7,w8,w9,w10,w11,w12,w13,w14,w15⟩,o⟩:=ho
 split
 ·exact ⟨qM h0 (aRH _ _ _) hc.2 hc.1,(nw _ _ _ _).1,by rw [(nw _ _ _ _).2];omega⟩
 split
 ·exact ⟨h0,rfl,by omega⟩
 have he : (jZ y.saq (IntKind.i64.wrap (pW y.a k.ins)) (szI k.ins.op)).1.wf:=aC4 w8.1 _ (zaF _)
 have hv:=a2Y he k.ins.op (IntKind.i64.wrap (pW y.a k.ins))
 generalize jZ y.saq (IntKind.i64.wrap (pW y.a k.ins)) (szI k.ins.op) = e at he hv
 generalize uE e.1 k.ins.op (IntKind.i64.wrap (pW y.a k.ins)) = v at hv
 have hs : ∀ z ∈ y.ldq ++ [(⟨y.tags,false,0⟩ : Slot)],z.wf:=fun z hz => by
  rcases List.mem_append.1 hz with hz | hz
  ·exact w3.1 z hz
  ·obtain rfl:=List.mem_singleton.1 hz;exact ⟨w15,by show (0 : Int) ≤ 0;omega,by show (0 : Int) ≤ 4294967295;omega⟩
 have hq : ∀ (r t : Int),bZ r → bZ t → ∀ z ∈ y.table ++ [(⟨false,k.ins.op,IntKind.i64.wrap (pW y.a k.ins),szI k.ins.op,0,0,r,t⟩ : Req)],z.wf:=fun r t hr ht z hz => by
  rcases List.mem_append.1 hz with hz | hz
  ·exact w9.1 z hz
  ·obtain rfl:=List.mem_singleton.1 hz;exact ⟨hk.1,dY _,aJY _,⟨by show (0 : Int) ≤ 0;omega,by show (0 : Int) ≤ 4294967295;omega⟩,fK,hr,ht⟩
 split
 ·split
  ·exact ⟨h0,rfl,by omega⟩
  split
  ·have hlen : (fO (y.ldq ++ [(⟨y.tags,false,0⟩ : Slot)]) y.tags v.1).1.length = y.ldq.length + 1:=by rw [uC,cD]
   refine ⟨⟨⟨w0,oR w1,w2,⟨a2Z hs hv, ?_⟩,w4,w5,w6,w7,w8,w9,w10,w11,w12,w13,w14,dY _⟩, ?_⟩,rfl,by show y.table.length ≤ _;omega⟩
   ·show (fO _ _ _).1.length * 16 ≤ _
    rw [hlen];omega
   ·show (fO _ _ _).1.length ≤ _ ∧ _
    rw [hlen];exact ⟨by omega,o.2⟩
  ·refine ⟨⟨⟨w0,oR w1,w2,⟨hs, ?_⟩,w4,w5,w6,w7,w8,⟨hq _ _ (aO3 _ (by omega)) w15, ?_⟩,w10,w11,w12,w13,w14,dY _⟩, ?_⟩,rfl, ?_⟩
   ·show (y.ldq ++ [_]).length * 16 ≤ _
    rw [cD];omega
   ·show (y.table ++ [_]).length * 64 ≤ _
    rw [cD];omega
   ·show (y.ldq ++ [_]).length ≤ _ ∧ _ ∧ _ ∧ _ ∧ _ ∧ _ ∧ (y.table ++ [_]).length ≤ _ ∧ _
    rw [cD,cD]
    exact ⟨by omega,o.2.1,o.2.2.1,o.2.2.2.1,o.2.2.2.2.1,o.2.2.2.2.2.1,by omega,o.2.2.2.2.2.2.2⟩
   ·show (y.table ++ [_]).length ≤ _
    rw [cD];omega
 split
 ·exact ⟨⟨⟨w0,oR (uJ w1 hv (dY _)),w2,w3,w4,w5,w6,w7,w8,w9,w10,w11,w12,w13,w14,w15⟩,o⟩,rfl,by show y.table.length ≤ _;omega⟩
 ·refine ⟨⟨⟨w0,oR ?_,w2,w3,w4,w5,w6,w7,w8,⟨hq _ _ hk.2.1 fK, ?_⟩,w10,w11,w12,w13,w14,w15⟩, ?_⟩,rfl, ?_⟩
  ·split
   ·exact w1
   ·exact aTQ w1 _
  ·show (y.table ++ [_]).length * 64 ≤ _
   rw [cD];omega
  ·show _ ∧ _ ∧ _ ∧ _ ∧ _ ∧ _ ∧ (y.table ++ [_]).length ≤ _ ∧ _
   rw [cD]
   exact ⟨o.1,o.2.1,o.2.2.1,o.2.2.2.1,o.2.2.2.2.1,o.2.2.2.2.2.1,by omega,o.2.2.2.2.2.2.2⟩
  ·show (y.table ++ [_]).length ≤ _
   rw [cD];omega
theorem aYH {s : Split} (hs : jJ s) (q : Pos) : (bY s false q).1.ins.wf:=by
 have h0 : noCell.ins.wf:=⟨fK,fK,fK,fK,fK⟩
 unfold bY
 split
 ·exact h0
 ·show (ix (jX s false (aT s false q).1.block) (aT s false q).1.index.toNat).ins.wf
  unfold jX
  split
  ·exact h0
  ·rename_i h1 h2
   simp only [zaU,if_false]
   have hb:=(hs.2 _ (cH (show (aT s false q).1.block.toNat < s.blocks.length by omega))).2
   rcases aHS (ix s.blocks (aT s false q).1.block.toNat).a (aT s false q).1.index.toNat with h | h
   ·exact (hb.2.2.2.2.1.1 _ h).2.1
   ·rw [h];exact h0
theorem a20 {c : Cfg} {s : Split} {x : Stt} (hs : jJ s) (h : x.ok) : (fT c s x).ok ∧ (fT c s x).writes = x.writes ∧ (fT c s x).table.length ≤ x.table.length + 1:=by
 unfold fT
 split
 ·exact ⟨h,rfl,by omega⟩
 rename_i hn
 have hR : aY c s x = true:=by
  cases hR : aY c s x with
  | true => rfl
  | false => exact (hn (.inl hR)).elim
 have hl:=aFB hR
 have ha:=aYF hs h
 have hc:=aHT hs false (atA s x).a.pos
 have hki:=aYH hs (atA s x).a.pos
 have nw : ∀ (y : Stt) (k st pc : Int),(eO y k st pc).writes = y.writes ∧ (eO y k st pc).table = y.table:=fun y k st pc => by unfold eO;split <;> exact ⟨rfl,rfl⟩
 split
 ·exact ⟨qM ha (aO3 _ (by omega)) hc.2 (aMP hs _),(nw _ _ _ _).1,by rw [(nw _ _ _ _).2];show x.table.length ≤ _;omega⟩
 split
 ·exact ⟨ha,rfl,by show x.table.length ≤ _;omega⟩
 generalize (bY s false (atA s x).a.pos).2.1 = st at hc
 generalize (bY s false (atA s x).a.pos).1 = k at hc hki
 have hl2 : ((atA s x).ldq.length ≤ 64 ∧ (atA s x).table.length ≤ 64) ∧ (atA s x).aeq.length ≤ 64 ∧ (atA s x).abq.length ≤ 64 ∧ (atA s x).saq.length ≤ 64:=⟨⟨hl.1,hl.2.2.2.2.2.2.1⟩,hl.2.2.1,hl.2.2.2.1,hl.2.2.2.2.2.1⟩
 have hw2 : (atA s x).writes = x.writes ∧ (atA s x).table = x.table:=⟨rfl,rfl⟩
 generalize atA s x = y at ha hl2 hw2
 rw [← hw2.1,← hw2.2]
 clear hn hR hl hw2 h
 unfold rN
 have ha2:=ha
 obtain ⟨⟨w0,w1,w2,w3,w4,w5,w6,w7,w8,w9,w10,w11,w12,w13,w14,w15⟩,o⟩:=ha
 have ho : ∀ d : cM,d.wf → ({ y with a:=d } : Stt).ok:=fun d hd => ⟨⟨w0,hd,w2,w3,w4,w5,w6,w7,w8,w9,w10,w11,w12,w13,w14,w15⟩,o⟩
 have ht : y.table.length ≤ y.table.length + 1:=by omega
 split
 ·split
  ·exact ⟨ho _ (oR (uJ w1 (aRG w1 _) (dY _))),rfl,ht⟩
  ·exact ⟨qM ha2 (aO3 _ (by omega)) hc.2 hc.1,(nw _ _ _ _).1,by rw [(nw _ _ _ _).2];exact ht⟩
 split
 ·split
  ·refine ⟨⟨⟨w0,oR w1,w2,w3,w4,⟨fun z hz => ?_, ?_⟩,w6,w7,w8,w9,w10,w11,w12,w13,w14,w15⟩, ?_⟩,rfl,ht⟩
   ·rcases List.mem_append.1 hz with hz | hz
    ·exact w5.1 z hz
    ·obtain rfl:=List.mem_singleton.1 hz;exact aMO w1 _
   ·show (y.aeq ++ [_]).length * 4 ≤ _
    rw [cD];omega
   ·show _ ∧ _ ∧ (y.aeq ++ [_]).length ≤ _ ∧ _
    rw [cD]
    exact ⟨o.1,o.2.1,by omega,o.2.2.2⟩
  ·exact ⟨ha2,rfl,ht⟩
 split
 ·exact aYG ha2 hki hc hl2.1
 split
 ·split
  ·exact ⟨qM ha2 (aRH _ _ _) hc.2 hc.1,(nw _ _ _ _).1,by rw [(nw _ _ _ _).2];exact ht⟩
  split
  ·exact ⟨ha2,rfl,ht⟩
  ·refine ⟨⟨⟨w0,oR w1,w2,w3,w4,w5,w6,w7,⟨fun z hz => ?_, ?_⟩,w9,w10,w11,w12,w13,w14,w15⟩, ?_⟩,rfl,ht⟩
   ·rcases List.mem_append.1 hz with hz | hz
    ·exact w8.1 z hz
    ·obtain rfl:=List.mem_singleton.1 hz;exact ⟨dY _,aJY _,hc.2,by show (0 : Int) ≤ 0;omega,by show (0 : Int) ≤ 4294967295;omega⟩
   ·show (y.saq ++ [_]).length * 32 ≤ _
    rw [cD];omega
   ·show _ ∧ _ ∧ _ ∧ _ ∧ _ ∧ (y.saq ++ [_]).length ≤ _ ∧ _
    rw [cD]
    exact ⟨o.1,o.2.1,o.2.2.1,o.2.2.2.1,o.2.2.2.2.1,by omega,o.2.2.2.2.2.2⟩
 split
 ·split
  ·refine ⟨⟨⟨w0,qL hs w1 _ _,w2,w3,w4,w5,⟨fun z hz => trivial, ?_⟩,w7,w8,w9,w10,w11,w12,w13,w14,w15⟩, ?_⟩,rfl,ht⟩
   ·show (y.abq ++ [_]).length * 1 ≤ _
    rw [cD];omega
   ·show _ ∧ _ ∧ _ ∧ (y.abq ++ [_]).length ≤ _ ∧ _
    rw [cD]
    exact ⟨o.1,o.2.1,o.2.2.1,by omega,o.2.2.2.2⟩
  ·exact ⟨ha2,rfl,ht⟩
 split
 ·split
  ·exact ⟨ha2,rfl,ht⟩
  ·refine ⟨⟨⟨w0,qL hs w1 _ _,w2,w3,w4,w5,w6,⟨fun z hz => trivial, ?_⟩,w8,w9,w10,w11,w12,w13,w14,w15⟩, ?_⟩,rfl,ht⟩
   ·show y.ebq.tail.length * 1 ≤ _
    rw [List.length_tail];have:=w7.2;omega
   ·show _ ∧ _ ∧ _ ∧ _ ∧ y.ebq.tail.length ≤ _ ∧ _
    rw [List.length_tail]
    exact ⟨o.1,o.2.1,o.2.2.1,o.2.2.2.1,by have:=o.2.2.2.2.1;omega,o.2.2.2.2.2⟩
 split
 ·exact ⟨ho _ (qL hs w1 _ _),rfl,ht⟩
 split
 ·exact ⟨ho _ (aMN w1),rfl,ht⟩
 ·exact ⟨ha2,rfl,ht⟩
end Go.Proofs.Ytooojfbfobmkfaa
namespace Go.Proofs.Ytooojfbfobmkfaa
open Go.Ra
set_option linter.unusedVariables false
set_option linter.unusedSimpArgs false
theorem aTR {l : List Int} (hs : l.Pairwise (· < ·)) {i j : Nat} (hi : i < l.length) (hj : j < l.length) (h : ix l i < ix l j) : i < j:=by
 rcases Nat.lt_trichotomy i j with h1 | h1 | h1
 ·exact h1
 ·subst h1;omega
 ·have:=aL2 hs h1 hi;omega
theorem aRI {l : List Int} (hs : l.Pairwise (· < ·)) {i : Nat} (hi : i < l.length) : findF l (ix l i) = i:=by
 unfold findF
 refine u9 hi (by simp) fun j hj => ?_
 have:=aL2 hs hj hi
 simp only [zaP]
 omega
theorem a21 {l : List Int} {x : Int} (hx : x ∉ l) : findF l x = -1:=by
 unfold findF
 refine vB fun j hj => ?_
 simp only [zaP]
 intro h
 exact hx (h ▸ cH hj)
theorem xS {α : Type} [Inhabited α] {l : List α} {x : α} (h : x ∈ l) : ∃ i,i < l.length ∧ ix l i = x:=by
 obtain ⟨i,hi,rfl⟩:=List.mem_iff_getElem.1 h
 exact ⟨i,hi,fY hi⟩
section
variable {p : Prog} (hr : aX p = true)
include hr
theorem rO : 1 ≤ p.code.length ∧ p.code.length ≤ 2000:=by
 simp only [aX,zaG,zaK] at hr
 exact ⟨hr.1.1,hr.1.2.1⟩
theorem aFC {x : Int} : x ∈ aM p ↔ ∃ j : Nat,j < p.code.length ∧ kU p p.code.length j = true ∧ (j : Int) = x:=by
 unfold aM pG
 rw [if_pos hr,List.mem_map]
 constructor
 ·rintro ⟨j,hj,rfl⟩
  obtain ⟨h1,h2⟩:=List.mem_filter.1 hj
  exact ⟨j,List.mem_range.1 h1,h2,rfl⟩
 ·rintro ⟨j,h1,h2,rfl⟩
  exact ⟨j,List.mem_filter.2 ⟨List.mem_range.2 h1,h2⟩,rfl⟩
theorem aHU : (0 : Int) ∈ aM p:=(aFC hr).2 ⟨0,(rO hr).1,by unfold kU;simp,rfl⟩
theorem aYI {i : Nat} (hi : i < p.code.length) (h : 0 ≤ bQ p i) : bQ p i ∈ aM p:=by
 have h1:=aWN h
 refine (aFC hr).2 ⟨(bQ p i).toNat,by omega, ?_,by omega⟩
 unfold kU
 rw [zaV,List.any_eq_true]
 refine .inr ⟨i,List.mem_range.2 hi, ?_⟩
 rw [zaV,zaK]
 exact .inl (by omega)
theorem aYJ {i : Nat} (hi : i + 1 < p.code.length) (h : fC (ix p.code i) = true) : ((i + 1 : Nat) : Int) ∈ aM p:=by
 refine (aFC hr).2 ⟨i + 1,hi, ?_,rfl⟩
 unfold kU
 rw [zaV,List.any_eq_true]
 refine .inr ⟨i,List.mem_range.2 (by omega), ?_⟩
 simp [h,hi]
end
def cV (p : Prog) (b : Nat) : Nat:=(ix (aM p) b).toNat
def dL (p : Prog) (b : Nat) : Nat:=(cS p (aM p) b).toNat
def nbN (p : Prog) : Nat:=(aM p).length
theorem rP {p : Prog} {b : Nat} (h : b < nbN p) : ix (aM p) b = (cV p b : Int):=by
 have:=(kI (p:=p)).1 _ (cH h)
 unfold cV;omega
theorem rQ {p : Prog} {b : Nat} (h : b < nbN p) : cS p (aM p) b = (dL p b : Int):=by
 have:=tO h
 unfold dL;omega
theorem eP {p : Prog} {b : Nat} (h : b < nbN p) : cV p b < dL p b ∧ dL p b ≤ p.code.length:=by
 have h1:=tO h
 rw [rP h,rQ h] at h1
 omega
theorem aMQ {p : Prog} {b : Nat} (h : b + 1 < nbN p) : dL p b = cV p (b + 1):=by
 have h1:=rQ (show b < nbN p by omega)
 unfold cS at h1
 rw [if_pos (show b + 1 < (aM p).length from h),rP h] at h1
 omega
theorem aMR {p : Prog} {b : Nat} (h : b + 1 = nbN p) : dL p b = p.code.length:=by
 have h1:=rQ (show b < nbN p by omega)
 unfold cS at h1
 rw [if_neg (by unfold nbN at h;omega)] at h1
 omega
section
variable {p : Prog} (hr : aX p = true)
include hr
theorem aYK : 0 < nbN p:=List.length_pos_of_mem (aHU hr)
theorem aYL : cV p 0 = 0:=by
 have h0:=aYK hr
 obtain ⟨k,hk,he⟩:=xS (aHU hr)
 have h1:=rP h0
 rcases Nat.eq_zero_or_pos k with rfl | hp
 ·omega
 ·have:=aL2 (kI (p:=p)).2.1 hp hk
  omega
theorem a8I {b : Nat} {x : Int} (hb : b < nbN p) (hx : x ∈ aM p) (h1 : (cV p b : Int) < x) : (dL p b : Int) ≤ x:=by
 have _:=hr
 obtain ⟨k,hk,rfl⟩:=xS hx
 rw [← rP hb] at h1
 have h2:=aTR (kI (p:=p)).2.1 hb hk h1
 have h3 : b + 1 < nbN p:=Nat.lt_of_le_of_lt h2 hk
 rw [aMQ h3,← rP h3]
 rcases Nat.lt_or_ge (b + 1) k with h | h
 ·exact Int.le_of_lt (aL2 (kI (p:=p)).2.1 h hk)
 ·obtain rfl : k = b + 1:=by omega
  exact Int.le_refl _
theorem aYM {b i : Nat} (hb : b < nbN p) (h1 : cV p b ≤ i) (h2 : i + 1 < dL p b) : fC (ix p.code i) = false:=by
 have:=eP hb
 cases h : fC (ix p.code i) with
 | false => rfl
 | true =>
  have:=a8I hr hb (aYJ hr (by omega) h) (by omega)
  omega
theorem aRJ {b : Nat} (hb : b < nbN p) (h1 : ¬ (ix p.code (dL p b - 1)).op = 40) (h2 : ¬ (ix p.code (dL p b - 1)).op = 41) : r5 p (aM p) b = if b + 1 < nbN p then ((b + 1 : Nat) : Int) else -1:=by
 have _:=hr
 unfold r5
 have e : (cS p (aM p) b - 1).toNat = dL p b - 1:=by rw [rQ hb];omega
 rw [e,if_pos ⟨h1,h2⟩]
 split
 ·rename_i h
  have : cS p (aM p) b = ix (aM p) (b + 1):=by unfold cS;rw [if_pos (show b + 1 < (aM p).length from h)]
  rw [this,aRI (kI (p:=p)).2.1 h]
 ·rename_i h
  refine a21 fun hx => ?_
  have h3:=(kI (p:=p)).1 _ hx
  rw [rQ hb,aMR (by omega)] at h3
  omega
theorem a8J {b : Nat} (hb : b < nbN p) (h : 0 ≤ bQ p (dL p b - 1)) : ∃ t,t < nbN p ∧ pH p (aM p) b = (t : Int) ∧ (cV p t : Int) = bQ p (dL p b - 1):=by
 have h0:=eP hb
 obtain ⟨t,ht,he⟩:=xS (aYI hr (by omega) h)
 have ht : t < nbN p:=ht
 refine ⟨t,ht, ?_, ?_⟩
 ·unfold pH
  have e : (cS p (aM p) b - 1).toNat = dL p b - 1:=by rw [rQ hb];omega
  rw [e,if_pos h,← he,aRI (kI (p:=p)).2.1 ht]
 ·rw [← rP ht];exact he
theorem aTS {i : Nat} (hi : i < p.code.length) (hf : aI (ix p.code i).op = 6 ∨ aI (ix p.code i).op = 7) : 0 ≤ bQ p i:=by
 simp only [aX,zaG] at hr
 have:=dS.1 hr.2.2 i hi
 simp only [aB9,Bool.not_eq_true',zaW,Bool.or_eq_false_iff,zaP] at this
 omega
end
theorem aYN {p : Prog} : (tN p).length = nbN p:=zI
theorem a22 {p : Prog} {l : List Int} {k b : Nat} (h : b < k) : ix (oY p l k) b = qF p l b:=by
 unfold oY
 rw [tK (by simpa using h)]
 congr 1
 rw [fY (by simpa using h)]
 simp
structure Spl (p : Prog) (o : Nat → Int) (s : Split) : Prop where
 cl : fR p o = true
 eq : s = ⟨(tN p).map (aQR p o),o⟩
theorem a8K {p : Prog} {o : Nat → Int} (h : fR p o = true) : Spl p o (nV p o).1:=⟨h,by unfold nV;rw [if_pos h]⟩
section
variable {p : Prog} {o : Nat → Int} {s : Split} (hs : Spl p o s)
include hs
theorem Spl.rp : aX p = true:=by
 have:=hs.cl
 simp only [fR,zaG] at this
 exact this.1
theorem Spl.nb : s.blocks.length = nbN p:=by rw [hs.eq];simp [aYN]
theorem Spl.blk {b : Nat} (hb : b < nbN p) : ix s.blocks b = ⟨(cV p b : Int),(dL p b : Int),r5 p (aM p) b,pH p (aM p) b,emA p o (qF p (aM p) b) (dL p b - cV p b),emE p o (qF p (aM p) b) (dL p b - cV p b)⟩:=by
 rw [hs.eq]
 show ix ((tN p).map (aQR p o)) b = _
 rw [tK (by rw [aYN];exact hb)]
 unfold tN
 rw [a22 (show b < (aM p).length from hb)]
 have h1:=rP hb
 have h2:=rQ hb
 have e : vS (qF p (aM p) b) = dL p b - cV p b:=by
  show (cS p (aM p) b - ix (aM p) b).toNat = _
  rw [h1,h2];omega
 show Block.mk (ix (aM p) b) (cS p (aM p) b) _ _ _ _ = _
 rw [e,h1,h2]
 rfl
end
end Go.Proofs.Ytooojfbfobmkfaa
namespace Go.Proofs.Ytooojfbfobmkfaa
open Go.Ra
set_option linter.unusedVariables false
set_option linter.unusedSimpArgs false
def e8 (f : Int) (c : Cell) : Cell:={ c with off:=f }
theorem aMS (i : Ins) (o : Nat → Int) (pc off : Int) : (iO i o pc off).1 = (iO i o pc 0).1.map (e8 off) ∧ (iO i o pc off).2 = (iO i o pc 0).2.map (e8 off):=by
 unfold iO
 repeat' split
 all_goals simp [e8,cI,cR,cP,Function.comp_def]
def cel (p : Prog) (o : Nat → Int) (e : Bool) (i : Nat) : List Cell:=if e then (iO (ix p.code i) o i 0).2 else (iO (ix p.code i) o i 0).1
def kin (p : Prog) (o : Nat → Int) (e : Bool) (i : Nat) : List Int:=(cel p o e i).map Cell.kind
def Shp (f : Int) (m : Nat) (tA tE : List Int) : Prop :=
 ((1 ≤ f ∧ f ≤ 3) ∧ tA = [1] ∧ tE = [] ∧ m = 0) ∨ ((1 ≤ f ∧ f ≤ 3) ∧ tA = [] ∧ tE = [1]) ∨ (f = 4 ∧ tA = [3] ∧ tE = [7] ∧ m = 0) ∨ (f = 4 ∧ tA = [2] ∧ tE = [] ∧ m = 0) ∨ (f = 5 ∧ tA = [4] ∧ tE = [8]) ∨
 (f = 6 ∧ tA = [9] ∧ tE = [10] ∧ m = 0) ∨ (f = 6 ∧ tA = [10] ∧ tE = [9]) ∨ (f = 7 ∧ tA = [11] ∧ tE = [11] ∧ m = 0) ∨ (f = 8 ∧ tA = [12] ∧ tE = [12] ∧ m = 0)
theorem aAR (l : List Int) (pc off k : Int) : (l.map (cR k pc off)).map Cell.kind = List.replicate l.length k:=by
 rw [List.map_map]
 exact List.map_eq_replicate_iff.2 fun x _ => rfl
theorem aYO (op : Int) : 0 ≤ aI op ∧ aI op ≤ 8:=by
 unfold aI
 repeat' split
 all_goals omega
theorem shape {p : Prog} {o : Nat → Int} (hr : aX p = true) {i : Nat} (hi : i < p.code.length) : ∃ m tA tE,kin p o false i = List.replicate m 5 ++ tA ∧ kin p o true i = List.replicate m 6 ++ tE ∧ Shp (aI (ix p.code i).op) m tA tE:=by
 have h1:=vF hr hi
 have h2 : ¬ aI (ix p.code i).op = 0:=by
  have h1:=h1
  simp only [cT,zaG,zaK] at h1
  exact h1.1
 have h3:=aYO (ix p.code i).op
 unfold kin cel
 simp only [zaU,if_false,if_true]
 unfold iO
 rw [if_neg (by rw [h1];simp)]
 generalize hf : aI (ix p.code i).op = f at *
 by_cases f1 : f = 1 ∨ f = 2 ∨ f = 3
 ·simp only [if_pos f1]
  by_cases hs : aCC (ix p.code i) o = 1
  ·simp only [if_pos hs]
   exact ⟨0,[1],[],rfl,rfl,.inl ⟨by omega,rfl,rfl,rfl⟩⟩
  ·simp only [if_neg hs]
   refine ⟨(hP (ix p.code i) o).length,[],[1], ?_, ?_,.inr (.inl ⟨by omega,rfl,rfl⟩)⟩
   ·rw [aAR];simp
   ·rw [List.map_append,aAR];rfl
 simp only [if_neg f1]
 by_cases f4 : f = 4
 ·simp only [if_pos f4]
  by_cases hs : vR o (ix p.code i).d = true
  ·simp only [if_pos hs]
   exact ⟨0,[3],[7],rfl,rfl,.inr (.inr (.inl ⟨f4,rfl,rfl,rfl⟩))⟩
  ·simp only [if_neg hs]
   exact ⟨0,[2],[],rfl,rfl,.inr (.inr (.inr (.inl ⟨f4,rfl,rfl,rfl⟩)))⟩
 simp only [if_neg f4]
 by_cases f5 : f = 5
 ·simp only [if_pos f5]
  by_cases hs : iJ o (ix p.code i).b = 1
  ·simp only [if_pos hs]
   exact ⟨1,[4],[8],rfl,rfl,.inr (.inr (.inr (.inr (.inl ⟨f5,rfl,rfl⟩))))⟩
  ·simp only [if_neg hs]
   exact ⟨0,[4],[8],rfl,rfl,.inr (.inr (.inr (.inr (.inl ⟨f5,rfl,rfl⟩))))⟩
 simp only [if_neg f5]
 by_cases f6 : f = 6
 ·simp only [if_pos f6]
  by_cases hs : m8 o (aS (ix p.code i)) = false
  ·simp only [if_pos hs]
   exact ⟨0,[9],[10],rfl,rfl,.inr (.inr (.inr (.inr (.inr (.inl ⟨f6,rfl,rfl,rfl⟩)))))⟩
  ·simp only [if_neg hs]
   refine ⟨(hP (ix p.code i) o).length,[10],[9], ?_, ?_,.inr (.inr (.inr (.inr (.inr (.inr (.inl ⟨f6,rfl,rfl⟩))))))⟩
   ·rw [List.map_append,aAR];rfl
   ·rw [List.map_append,aAR];rfl
 simp only [if_neg f6]
 by_cases f7 : f = 7
 ·simp only [if_pos f7]
  exact ⟨0,[11],[11],rfl,rfl,.inr (.inr (.inr (.inr (.inr (.inr (.inr (.inl ⟨f7,rfl,rfl,rfl⟩)))))))⟩
 simp only [if_neg f7]
 have f8 : f = 8:=by omega
 simp only [if_pos f8]
 exact ⟨0,[12],[12],rfl,rfl,.inr (.inr (.inr (.inr (.inr (.inr (.inr (.inr ⟨f8,rfl,rfl,rfl⟩)))))))⟩
theorem a23 {p : Prog} {o : Nat → Int} {e : Bool} {i : Nat} (hi : p.code.length ≤ i) : cel p o e i = []:=by
 unfold cel
 rw [aV7 hi]
 cases e <;> rfl
def aO4 (p : Prog) (i : Nat) (d : Bool) : Nat:=if aI (ix p.code i).op = 7 ∨ (aI (ix p.code i).op = 6 ∧ d = true) then (bQ p i).toNat else i + 1
def rho (p : Prog) (D : Nat → Bool) : Nat → Nat
 | 0 => 0
 | n + 1 => aO4 p (rho p D n) (D n)
theorem aO5 {p : Prog} {D D' : Nat → Bool} : ∀ {n : Nat},(∀ m,m < n → D m = D' m) → rho p D n = rho p D' n
 | 0,_ => rfl
 | n + 1,h => by
  show aO4 p (rho p D n) (D n) = aO4 p (rho p D' n) (D' n)
  rw [aO5 fun m hm => h m (by omega),h n (by omega)]
def o4 {α : Type} (f : Nat → List α) : Nat → Nat
 | 0 => 0
 | k + 1 => o4 f k + (f k).length
theorem aFD {α : Type} {f : Nat → List α} : ∀ {k : Nat},((List.range k).flatMap f).length = o4 f k
 | 0 => rfl
 | k + 1 => by rw [iQ,List.length_append,aFD];rfl
theorem aHV {α : Type} {f : Nat → List α} {j k : Nat} (h : j ≤ k) : o4 f j ≤ o4 f k:=by
 induction k with
 | zero =>
      obtain rfl : j = 0:=by omega
      exact zaF _
 | succ k ih =>
  rcases Nat.lt_or_ge j (k + 1) with h1 | h1
  ·exact Nat.le_trans (ih (by omega)) (Nat.le_add_right _ _)
  ·obtain rfl : j = k + 1:=by omega
   exact zaF _
theorem aRK {α : Type} [Inhabited α] {f : Nat → List α} {j k : Nat} : ∀ {K : Nat},j < K → k < (f j).length → o4 f j + k < o4 f K ∧ ix ((List.range K).flatMap f) (o4 f j + k) = ix (f j) k
 | 0,h,_ => by omega
 | K + 1,h,hk => by
  rw [iQ,gO,aFD]
  have hs : o4 f (j + 1) = o4 f j + (f j).length:=rfl
  rcases Nat.lt_or_ge j K with h1 | h1
  ·obtain ⟨h2,h3⟩:=aRK (K:=K) h1 hk
   rw [if_pos h2]
   exact ⟨Nat.lt_of_lt_of_le h2 (aHV (by omega)),h3⟩
  ·obtain rfl : j = K:=by omega
   rw [if_neg (by omega),Nat.add_sub_cancel_left]
   exact ⟨by omega,rfl⟩
theorem aAS {α β : Type} {f : Nat → List α} {g : Nat → α → β} : ∀ {k : Nat},o4 (fun j => (f j).map (g j)) k = o4 f k
 | 0 => rfl
 | k + 1 => by simp [o4,aAS]
theorem Spl.cells {p : Prog} {o : Nat → Int} {s : Split} (hs : Spl p o s) {b : Nat} (hb : b < nbN p) (e : Bool) : jX s e (b : Int) = (List.range (dL p b - cV p b)).flatMap fun j => (cel p o e (cV p b + j)).map (e8 (j : Int)):=by
 unfold jX
 have h1:=hs.nb
 rw [if_neg (by omega),zaO,hs.blk hb]
 have hsr : (qF p (aM p) b).src.toNat = cV p b:=rfl
 cases e with
 | true =>
  simp only [if_true]
  unfold emE
  rw [hsr]
  congr 1
  funext j
  exact (aMS _ _ _ _).2
 | false =>
  simp only [zaU,if_false]
  unfold emA
  rw [hsr]
  congr 1
  funext j
  exact (aMS _ _ _ _).1
theorem Spl.vH {p : Prog} {o : Nat → Int} {s : Split} (hs : Spl p o s) {b : Nat} (hb : b < nbN p) (e : Bool) : (jX s e (b : Int)).length = o4 (fun j => cel p o e (cV p b + j)) (dL p b - cV p b):=by
 rw [hs.cells hb,aFD,aAS]
theorem Spl.aFE {p : Prog} {o : Nat → Int} {s : Split} (hs : Spl p o s) {b : Nat} (hb : b < nbN p) (e : Bool) {j k : Nat} (hj : cV p b + j < dL p b) (hk : k < (cel p o e (cV p b + j)).length) : o4 (fun j => cel p o e (cV p b + j)) j + k < (jX s e (b : Int)).length ∧ ix (jX s e (b : Int)) (o4 (fun j => cel p o e (cV p b + j)) j + k) = e8 (j : Int) (ix (cel p o e (cV p b + j)) k):=by
 have h:=aRK (f:=fun j => (cel p o e (cV p b + j)).map (e8 (j : Int))) (j:=j) (k:=k) (K:=dL p b - cV p b) (by omega) (by simpa using hk)
 rw [aAS,aAS] at h
 rw [hs.vH hb,hs.cells hb]
 refine ⟨h.1,h.2.trans ?_⟩
 exact tK hk
end Go.Proofs.Ytooojfbfobmkfaa
namespace Go.Proofs.Ytooojfbfobmkfaa
open Go.Ra
set_option linter.unusedVariables false
set_option linter.unusedSimpArgs false
theorem bCF {op : Int} : aI op = 7 ↔ op = 40:=by
 unfold aI
 repeat' split
 all_goals omega
theorem a4R {op : Int} : aI op = 8 ↔ op = 41:=by
 unfold aI
 repeat' split
 all_goals omega
def aMT (p : Prog) (D : Nat → Bool) (n : Nat) : Prop:=fC (ix p.code (rho p D n)) = false ∨ (aI (ix p.code (rho p D n)).op = 6 ∧ D n = false)
theorem aMU {i : Ins} : fC i = true ↔ aI i.op = 6 ∨ aI i.op = 7 ∨ aI i.op = 8:=by unfold fC;exact decide_eq_true_iff
theorem aFF {i : Ins} : fC i = false ↔ ¬ (aI i.op = 6 ∨ aI i.op = 7 ∨ aI i.op = 8):=by unfold fC;exact zaP
theorem aFG {p : Prog} {D : Nat → Bool} {n : Nat} (h : aMT p D n) : rho p D (n + 1) = rho p D n + 1:=by
 show aO4 p (rho p D n) (D n) = _
 unfold aO4
 rw [if_neg]
 rcases h with h | ⟨h,h2⟩
 ·have:=aFF.1 h
  omega
 ·rw [h2];simp;omega
theorem aRL {p : Prog} {D : Nat → Bool} {n : Nat} (h : aMT p D n) : ¬ (ix p.code (rho p D n)).op = 40 ∧ ¬ (ix p.code (rho p D n)).op = 41:=by
 rw [← bCF,← a4R]
 rcases h with h | ⟨h,h2⟩
 ·have:=aFF.1 h
  omega
 ·omega
theorem eX {p : Prog} {o : Nat → Int} {e : Bool} {i : Nat} : (kin p o e i).length = (cel p o e i).length:=by simp [kin]
theorem aC5 {p : Prog} {o : Nat → Int} (hr : aX p = true) {i : Nat} (hi : i < p.code.length) (h : fC (ix p.code i) = true) (e : Bool) : 0 < (cel p o e i).length:=by
 obtain ⟨m,tA,tE,h1,h2,h3⟩:=shape (o:=o) hr hi
 have h4:=aMU.1 h
 rw [← eX]
 rcases h3 with h3 | h3 | h3 | h3 | h3 | h3 | h3 | h3 | h3
 all_goals first
  |(exfalso;omega)
  |(cases e
    ·rw [h1,h3.2.1];simp
    ·rw [h2];first | rw [h3.2.2.1] | rw [h3.2.2]
     simp)
structure PR (p : Prog) (o : Nat → Int) (D : Nat → Bool) (e : Bool) (q : Pos) (n k b j : Nat) : Prop where
 blk : q.block = (b : Int)
 hb : b < nbN p
 pc : rho p D n = cV p b + j
 base : q.base + (j : Int) = (n : Int)
 aFH : 0 ≤ q.base
 idx : q.index = ((o4 (fun j => cel p o e (cV p b + j)) j + k : Nat) : Int)
 here : (cV p b + j < dL p b ∧ k ≤ (cel p o e (rho p D n)).length ∧ (k = (cel p o e (rho p D n)).length → aMT p D n)) ∨ (cV p b + j = dL p b ∧ k = 0 ∧ ¬ (ix p.code (dL p b - 1)).op = 40 ∧ ¬ (ix p.code (dL p b - 1)).op = 41)
def Dn (p : Prog) (o : Nat → Int) (D : Nat → Bool) (e : Bool) (n k : Nat) : List (Nat × Cell):=(List.range n).flatMap (fun m => (cel p o e (rho p D m)).map (Prod.mk m)) ++ ((cel p o e (rho p D n)).take k).map (Prod.mk n)
section
variable {p : Prog} {o : Nat → Int} {D : Nat → Bool} {e : Bool}
theorem aJZ {n : Nat} : Dn p o D e n (cel p o e (rho p D n)).length = Dn p o D e (n + 1) 0:=by
 unfold Dn
 rw [iQ,List.take_length]
 simp
theorem aRM {n k : Nat} (h : k < (cel p o e (rho p D n)).length) : Dn p o D e n (k + 1) = Dn p o D e n k ++ [(n,ix (cel p o e (rho p D n)) k)]:=by
 unfold Dn
 rw [aC3 h]
 simp
theorem PR.next {q : Pos} {n b j : Nat} (hr : aX p = true) (h : PR p o D e q n (cel p o e (rho p D n)).length b j) (h1 : cV p b + j < dL p b) (hf : aMT p D n) : PR p o D e q (n + 1) 0 b (j + 1):=by
 have hd:=(eP h.hb).2
 have h2:=aFG hf
 refine ⟨h.blk,h.hb,by rw [h2,h.pc];omega,by have:=h.base;omega,h.aFH, ?_, ?_⟩
 ·rw [h.idx,h.pc];rfl
 ·rw [h2,h.pc]
  rcases Nat.lt_or_ge (cV p b + (j + 1)) (dL p b) with h3 | h3
  ·refine .inl ⟨h3,Nat.zero_le _,fun h4 => .inl ?_⟩
   rw [h2,h.pc]
   cases h5 : fC (ix p.code (cV p b + j + 1)) with
   | false => rfl
   | true =>
    have:=aC5 (o:=o) hr (by omega) h5 e
    omega
  ·have h4:=aRL hf
   have h5 : dL p b - 1 = rho p D n:=by rw [h.pc];omega
   rw [h5]
   exact .inr ⟨by omega,rfl,h4⟩
theorem PR.walk {q : Pos} {b : Nat} (hr : aX p = true) {T : Nat} (hT : T = o4 (fun j => cel p o e (cV p b + j)) (dL p b - cV p b)) (hlt : q.index < (T : Int)) : ∀ {d n k j : Nat},d = dL p b - (cV p b + j) → PR p o D e q n k b j → ∃ n' k' j',PR p o D e q n' k' b j' ∧ cV p b + j' < dL p b ∧ k' < (cel p o e (rho p D n')).length ∧ Dn p o D e n' k' = Dn p o D e n k ∧ n ≤ n' ∧ n' + rho p D n = n + rho p D n' ∧ ∀ m,n ≤ m → m < n' → aMT p D m:=by
 intro d
 induction d with
 | zero =>
  intro n k j hd h
  rcases h.here with h1 | h1
  ·omega
  ·have h2:=h.idx
   have h3 : dL p b - cV p b = j:=by omega
   rw [h1.2.1] at h2
   rw [h3] at hT
   omega
 | succ d ih =>
  intro n k j hd h
  have hs:=(eP h.hb).1
  rcases h.here with h1 | h1
  ·rcases Nat.lt_or_ge k (cel p o e (rho p D n)).length with h2 | h2
   ·exact ⟨n,k,j,h,h1.1,h2,rfl,zaF _,rfl,fun m h3 h4 => by omega⟩
   ·obtain rfl : k = (cel p o e (rho p D n)).length:=by omega
    have hf:=h1.2.2 rfl
    obtain ⟨n',k',j',a1,a2,a3,a4,a5,a6,a7⟩:=ih (by omega) (h.next hr h1.1 hf)
    refine ⟨n',k',j',a1,a2,a3,a4.trans aJZ.symm,by omega, ?_,fun m h3 h4 => ?_⟩
    ·rw [aFG hf] at a6
     omega
    ·rcases Nat.lt_or_ge n m with h5 | h5
     ·exact a7 m h5 h4
     ·obtain rfl : m = n:=by omega
      exact hf
  ·omega
theorem PR.fin {q : Pos} {b : Nat} (hr : aX p = true) {T : Nat} (hT : T = o4 (fun j => cel p o e (cV p b + j)) (dL p b - cV p b)) (hge : ¬ q.index < (T : Int)) : ∀ {d n k j : Nat},d = dL p b - (cV p b + j) → PR p o D e q n k b j → ∃ n' j',PR p o D e q n' 0 b j' ∧ cV p b + j' = dL p b ∧ Dn p o D e n' 0 = Dn p o D e n k ∧ n ≤ n' ∧ n' + rho p D n = n + rho p D n' ∧ ∀ m,n ≤ m → m < n' → aMT p D m:=by
 intro d
 induction d with
 | zero =>
  intro n k j hd h
  rcases h.here with h1 | h1
  ·omega
  ·obtain ⟨h2,rfl,h3⟩:=h1
   exact ⟨n,j,h,h2,rfl,zaF _,rfl,fun m h3 h4 => by omega⟩
 | succ d ih =>
  intro n k j hd h
  have hs:=(eP h.hb).1
  rcases h.here with h1 | h1
  ·have h2 : k = (cel p o e (rho p D n)).length:=by
    rcases Nat.lt_or_ge k (cel p o e (rho p D n)).length with h2 | h2
    ·exfalso
     have h3:=h.idx
     have h4 : o4 (fun j => cel p o e (cV p b + j)) j + k < o4 (fun j => cel p o e (cV p b + j)) (j + 1):=by
      rw [h.pc] at h2
      exact Nat.add_lt_add_left h2 _
     have h5:=aHV (f:=fun j => cel p o e (cV p b + j)) (show j + 1 ≤ dL p b - cV p b by omega)
     omega
    ·omega
   subst h2
   have hf:=h1.2.2 rfl
   obtain ⟨n',j',a1,a2,a3,a4,a5,a7⟩:=ih (by omega) (h.next hr h1.1 hf)
   refine ⟨n',j',a1,a2,a3.trans aJZ.symm,by omega, ?_,fun m h3 h4 => ?_⟩
   ·rw [aFG hf] at a5
    omega
   ·rcases Nat.lt_or_ge n m with h5 | h5
    ·exact a7 m h5 h4
    ·obtain rfl : m = n:=by omega
     exact hf
  ·omega
end
theorem Spl.lng {p : Prog} {o : Nat → Int} {s : Split} (hs : Spl p o s) {b : Nat} (hb : b < nbN p) : xQ s (b : Int) = ((dL p b - cV p b : Nat) : Int):=by
 unfold xQ
 have h1:=hs.nb
 have h2:=eP hb
 have h3:=(rO hs.rp).2
 rw [if_neg (by omega),zaO,hs.blk hb]
 show IntKind.i64.wrap ((dL p b : Int) - (cV p b : Int)) = _
 rw [wrap_i64 (by omega) (by omega)]
 omega
def Stl (p : Prog) (o : Nat → Int) (D : Nat → Bool) (e : Bool) (r : Pos × Bool) (n k b j : Nat) : Prop :=
 PR p o D e r.1 n k b j ∧ ((r.2 = false ∧ k < (cel p o e (rho p D n)).length ∧ cV p b + j < dL p b) ∨ (r.2 = true ∧ rho p D n = p.code.length ∧ k = 0 ∧ cV p b + j = dL p b ∧ b + 1 = nbN p))
theorem Spl.aO6 {p : Prog} {o : Nat → Int} {s : Split} (hs : Spl p o s) {D : Nat → Bool} {e : Bool} : ∀ (K : Nat) {q : Pos} {n k b j : Nat},PR p o D e q n k b j → nbN p + 1 ≤ b + K → n + p.code.length ≤ 2305843009213693952 + rho p D n →
  ∃ n' k' b' j',Stl p o D e (kD s e K q) n' k' b' j' ∧ Dn p o D e n' k' = Dn p o D e n k ∧ n ≤ n' ∧ n' + rho p D n = n + rho p D n' ∧ ∀ m,n ≤ m → m < n' → aMT p D m
 | 0,q,n,k,b,j,h,hK,hn => by have:=h.hb;omega
 | K + 1,q,n,k,b,j,h,hK,hn => by
  have hr:=hs.rp
  have hb:=h.hb
  have h1:=hs.nb
  have h2:=hs.vH hb e
  have h3:=eP hb
  rw [aAM,h.blk,if_neg (by omega)]
  by_cases hi : q.index < ((jX s e (b : Int)).length : Int)
  ·rw [if_pos hi]
   rw [h2] at hi
   obtain ⟨n',k',j',a1,a2,a3,a4,a5,a6,a7⟩:=h.walk hr rfl hi rfl
   exact ⟨n',k',b,j',⟨a1,.inl ⟨rfl,a3,a2⟩⟩,a4,a5,a6,a7⟩
  ·rw [if_neg hi]
   rw [h2] at hi
   obtain ⟨n',j',a1,a2,a3,a4,a5,a7⟩:=h.fin hr rfl hi rfl
   have hops : ¬ (ix p.code (dL p b - 1)).op = 40 ∧ ¬ (ix p.code (dL p b - 1)).op = 41:=by
    rcases a1.here with h5 | h5
    ·omega
    ·exact h5.2.2
   have hnx : (ix s.blocks (b : Int).toNat).next = if b + 1 < nbN p then ((b + 1 : Nat) : Int) else -1:=by
    rw [zaO,hs.blk hb]
    exact aRJ hr hb hops.1 hops.2
   have hpc:=a1.pc
   rw [hnx]
   by_cases hl : b + 1 < nbN p
   ·rw [if_pos hl,if_neg (by omega),hs.lng hb]
    have hbase:=a1.base
    have e1 : IntKind.i64.wrap (q.base + ((dL p b - cV p b : Nat) : Int)) = (n' : Int):=by
     rw [wrap_i64 (by omega) (by omega)]
     omega
    rw [e1]
    have hsd:=aMQ hl
    have h5:=eP hl
    have hp : PR p o D e ⟨((b + 1 : Nat) : Int),0,(n' : Int)⟩ n' 0 (b + 1) 0:=by
     refine ⟨rfl,hl,by omega,by show (n' : Int) + ((0 : Nat) : Int) = _;omega,by show (0 : Int) ≤ (n' : Int);omega,rfl,.inl ⟨by omega,Nat.zero_le _,fun h6 => .inl ?_⟩⟩
     cases h7 : fC (ix p.code (rho p D n')) with
     | false => rfl
     | true =>
      have:=aC5 (o:=o) hr (by omega) h7 e
      omega
    obtain ⟨n2,k2,b2,j2,c1,c2,c3,c4,c5⟩:=Spl.aO6 hs K hp (by omega) (by omega)
    refine ⟨n2,k2,b2,j2,c1,c2.trans a3,by omega,by omega,fun m h6 h7 => ?_⟩
    rcases Nat.lt_or_ge m n' with h8 | h8
    ·exact a7 m h6 h8
    ·exact c5 m h8 h7
   ·rw [if_neg hl,if_pos (.inl (by omega))]
    have hlast:=aMR (p:=p) (b:=b) (by omega)
    exact ⟨n',0,b,j',⟨a1,.inr ⟨rfl,by omega,rfl,a2,by omega⟩⟩,a3,a4,a5,a7⟩
theorem Spl.next {p : Prog} {o : Nat → Int} {s : Split} (hs : Spl p o s) {D : Nat → Bool} {e : Bool} {q : Pos} {n k b j : Nat} (h : Stl p o D e (aT s e q) n k b j) (hn : n ≤ 2305843009213693952) :
  bY s e q = (if (aT s e q).2 then noCell else e8 (j : Int) (ix (cel p o e (rho p D n)) k),(n : Int),!(aT s e q).2):=by
 unfold bY
 obtain ⟨h1,h2⟩:=h
 have hidx:=h1.idx
 have hbase:=h1.base
 have hb0:=h1.aFH
 have hr:=(rO hs.rp).2
 have h3:=eP h1.hb
 rcases h2 with ⟨hf,hk,hj⟩ | ⟨hf,hk,hk0,hj,hb⟩
 ·rw [hf,if_neg (by simp;omega)]
  rw [h1.pc] at hk
  have hc:=hs.aFE h1.hb e hj hk
  rw [h1.blk,hidx,zaO,hc.2,h1.pc]
  have e1 : IntKind.i64.wrap ((aT s e q).1.base + (e8 (j : Int) (ix (cel p o e (cV p b + j)) k)).off) = (n : Int):=by
   show IntKind.i64.wrap ((aT s e q).1.base + (j : Int)) = _
   rw [hbase,wrap_i64 (by omega) (by omega)]
  rw [e1];rfl
 ·rw [hf,if_pos (.inl rfl),h1.blk,hs.lng h1.hb]
  rw [wrap_i64 (by omega) (by omega)]
  have : (aT s e q).1.base + ((dL p b - cV p b : Nat) : Int) = (n : Int):=by omega
  rw [this];rfl
end Go.Proofs.Ytooojfbfobmkfaa
namespace Go.Proofs.Ytooojfbfobmkfaa
open Go.Ra
set_option linter.unusedVariables false
set_option linter.unusedSimpArgs false
def nS (s : Split) (e : Bool) (d : cM) (x : Stt) : Bool:=d.halted || dB x (bY s e d.pos).2.1
def bCG : List XV → Option ((XV → Prop) → Prop):=eQ (fun q : Split × Bool × cM × Stt => [aH q.1,.bool q.2.1,aR q.2.2.1,aO q.2.2.2]) (fun q => q.1.blocks.length ≤ 1000000) (fun q => nS q.1 q.2.1 q.2.2.1 q.2.2.2) (fun y => .bool y)
def TPR : Tab:=fM qq iB [] [] [(40,aX4),(41,a2W)] []
def aAT (x : Stt) (e : Entry) : Bool:=decide (x.bP.kind = 0) || decide (e.step < x.bP.step)
def pO (c : Cfg) (s : Split) (x : Stt) : Bool:=!aY c s x || (nS s false x.a x && (nS s true x.e x && (decide (x.table.length = 0) && !x.saq.any (aAT x))))
def bCH : List XV → Option ((XV → Prop) → Prop):=eQ (fun q : Cfg × Split × Stt => [aU q.1,aH q.2.1,aO q.2.2]) (fun q => q.2.2.ok ∧ q.2.1.blocks.length ≤ 1000000) (fun q => pO q.1 q.2.1 q.2.2) (fun y => .bool y)
def TPO : Tab:=fM qq iB [] [] [(22,aXO),(23,bCG)] []
def fQ (c : Cfg) (s : Split) (t : bG) (x : Stt) : Stt:=if aY c s x then { fT c s (eF c s (gS c (mA c t x))) with aG:=IntKind.i64.wrap ((fT c s (eF c s (gS c (mA c t x)))).aG + 1) } else x
def aYP (x : Stt) : Prop:=x.ok ∧ x.writes.length + x.table.length ≤ 900000
def bCI : List XV → Option ((XV → Prop) → Prop):=eQ (fun q : Cfg × Split × bG × Stt => [aU q.1,aH q.2.1,bI q.2.2.1,aO q.2.2.2]) (fun q => aYP q.2.2.2 ∧ jJ q.2.1) (fun q => fQ q.1 q.2.1 q.2.2.1 q.2.2.2) (fun y => aO y)
def TPS : Tab:=fM qq (iB ++ dX) [] iA [(22,aXO),(28,avS),(27,a4F),(26,bB6),(25,bCA)] []
def bCJ (x : Stt) (i : Nat) : XSt:=⟨[(7,.int .i64 i),(5,.ptr 2 [] 0)],[(2,some (aO x))],3⟩
theorem a8L (s : Split) (e : Bool) (d : cM) (x : Stt) (r : XV) : (aQ TPR 80 (bT TPR 80 20) 23 [aH s,.bool e,aR d,aO x] (fun v => aA v r)) = (∃ (s_1 : Split × Bool × Pos),aC [aH s,.bool e,dH d.pos] [aH s_1.1,.bool s_1.2.1,dH s_1.2.2] ∧ aK (s_1.1.blocks.length ≤ 1000000) ∧ ∀ (y : Cell × Int ×
 Bool),y = bY s_1.1 s_1.2.1 s_1.2.2 → bif !d.halted then ∃ (s : Stt × Int),aC [aO x,.int .i64 y.2.1] [aO s.1,.int .i64 s.2] ∧ aK True ∧ ∀ (y : Bool),y = dB s.1
 s.2 → aA (.bool (bif d.halted then true else y)) r else bif d.halted then aA (.bool true) r else False):=by kernel_rfl
theorem a8M (c : Cfg) (s : Split) (x : Stt) (r : XV) : (goQ Try.prog TPO [(.tmp 6)] r (.run lY) [] ⟨jO 0 [aU c,aH s,aO x],[],0⟩) = (
 let q1 : Split × Bool × cM × Stt → Bool:=fun s => s.2.1;
 let q2 : Split × Bool × cM × Stt → cM:=fun s => s.2.2.1;
 let q3 : Split × Bool × cM × Stt → Stt:=fun s => s.2.2.2;
 let q4 : Split × Bool × cM × Stt → List XV:=fun s => [aH s.1,.bool (q1 s),aR (q2 s),aO (q3 s)];
 let q5 : Split × Bool × cM × Stt → Bool:=fun s => nS s.1 (q1 s) (q2 s) (q3 s);∃ (s_1 : Cfg × Split × Stt),aC [aU c,aH s,aO x] [aU s_1.1,aH s_1.2.1,
  aO s_1.2.2] ∧ aK s_1.2.2.ok ∧ ∀ (y : Bool),y = aY s_1.1 s_1.2.1 s_1.2.2 → bif !y then aA (.bool true) r else ∃ (s_2 : Split × Bool × cM × Stt),aC [aH s,
  .bool false,aR x.a,aO x] (q4 s_2) ∧ aK (s_2.1.blocks.length ≤ 1000000) ∧ ∀ (y : Bool),y = q5 s_2 → bif !!y then ∃ (s_3 : Split × Bool × cM × Stt),aC [aH s,
  .bool true,aR x.e,aO x] (q4 s_3) ∧ aK (s_3.1.blocks.length ≤ 1000000) ∧ ∀ (y_1 : Bool),y_1 = q5 s_3 → bif bif bif !y then true else !y_1 then true else !bif !y then true
  else !y_1 then bif bif bif !y then true else !y_1 then true else decide ((↑(x.table.length) : Int) > 0) then aA (.bool false) r else aP (Ok Try.prog (Tab.q TPO)) nP
  (XSt.mk [(7,.int .i64 0),(6,.bool false),(5,.ptr 2 [] 0)] [(2,some (aO x)),(1,some (aH s)),(0,some (aU c))] 3) [Frm.blk 0,Frm.seq sC] (bC [AR.tmp
  6] r) else False else bif !y then aA (.bool false) r else False):=by kernel_rfl
theorem bCK (c : Cfg) (s : Split) (t : bG) (x : Stt) (r : XV) : (aQ TPS 80 (bT TPS 80 20) 11 [aU c,aH s,bI t,aO x] (fun v => aA v r)) = (
 let q1 : Cfg × Split × Stt → List XV:=fun s => [aU s.1,aH s.2.1,aO s.2.2];
 let q2 : Nat:=x.ldq.length * 16;
 let q3 : Stt → List XV:=fun y => [aU c,aH s,aO y];∃ (s_1 : Cfg × Split × Stt),aC [aU c,aH s,aO x] (q1 s_1) ∧ aK s_1.2.2.ok ∧ ∀ (y : Bool),y = aY
  s_1.1 s_1.2.1 s_1.2.2 → bif !y then bif decide (q2 ≤ 140737488355328) then bif gL (fun i => true) x.ldq.length then bif decide (x.sdq.length * 4 ≤ 140737488355328) then bif decide
  (x.aeq.length * 4 ≤ 140737488355328) then bif decide (x.abq.length * 1 ≤ 140737488355328) then bif decide (x.ebq.length * 1 ≤ 140737488355328) then bif decide (x.saq.length * 32 ≤ 140737488355328)
  then bif decide (x.table.length * 64 ≤ 140737488355328) then bif decide (x.mem.length * 1 ≤ 140737488355328) then bif decide (x.writes.length * 24 ≤ 140737488355328) then bif decide
  (x.ldq.length ≤ x.ldq.length) then bif decide (x.sdq.length ≤ x.sdq.length) then bif decide (x.aeq.length ≤ x.aeq.length) then bif decide (x.abq.length ≤ x.abq.length) then bif decide
  (x.ebq.length ≤ x.ebq.length) then bif decide (x.saq.length ≤ x.saq.length) then bif decide (x.table.length ≤ x.table.length) then bif decide (x.mem.length ≤ x.mem.length) then bif
  decide (x.writes.length ≤ x.writes.length) then aA (aO x) r else False else False else False else False else False else False else False else False else False else False else
  False else False else False else False else False else False else False else False else False else ∃ (s : Cfg × bG × Stt),aC [aU c,bI t,aO x] [aU s.1,bI
  s.2.1,aO s.2.2] ∧ aK (wJ s.2.2) ∧ ∀ (y : Stt),y = mA s.1 s.2.1 s.2.2 → ∃ (s : Cfg × Stt),aC [aU c,aO y] [aU s.1,aO s.2] ∧ aK s.2.ok ∧ ∀ (y : Stt),
  y = gS s.1 s.2 → ∃ (s : Cfg × Split × Stt),aC (q3 y) (q1 s) ∧ aK (s.2.2.ok ∧ jJ s.2.1) ∧ ∀ (y : Stt),y = eF s.1 s.2.1 s.2.2 → ∃ (s : Cfg × Split × Stt),aC (q3
  y) (q1 s) ∧ aK (s.2.2.ok ∧ jJ s.2.1) ∧ ∀ (y : Stt),y = fT s.1 s.2.1 s.2.2 → aA (.agg 92 [.int .i64 (IntKind.wrap .i64 (y.aG + 1)),aR y.a,aR y.e,aB 3 cN
  y.ldq,aB 1 cU y.sdq,aB 1 cU y.aeq,aB 1 cJ y.abq,aB 1 cJ y.ebq,aB 5 bW y.saq,aB 8 dK y.table,aB 1 kM y.mem,aB 3 oX y.writes,
  oH y.bP,.int .i64 y.dN,.int .i64 y.cF,.int .i64 y.tags]) r):=by kernel_rfl
theorem a8N (x : Stt) (i : Nat) (r : XV) (A : XSt → Prop) : (goQ Try.prog TPO [(.tmp 6)] r (.run nP) [.lp nP A,.blk 0,.seq sC] (bCJ x i)) = (
 let q1 : Bool:=decide ((↑i : Int) < (↑(x.saq.length) : Int));
 let q2 : Bool:=decide (x.bP.kind = 0);
 let q3 : Bool:=!q2;bif q1 then bif bif q1 then true else !q3 then bif bif q2 then true else q3 then bif bif q2 then true else decide ((ix x.saq i).step < x.bP.step) then aA
  (.bool false) r else A (XSt.mk [(7,.int .i64 (IntKind.wrap .i64 ((↑i : Int) + 1))),(5,.ptr 2 [] 0)] [(2,some (aO x))] 3) else False else False else aA (.bool true) r):=by
 kernel_rfl
theorem bCL : bX Try.prog TPR:=bV fJ trivial trivial ⟨aJV,aO2,trivial⟩ trivial
theorem a24 : eI Try.prog (23,bCG):=bB fun ⟨s,e,d,x⟩ hl => by
 have hl : s.blocks.length ≤ 1000000:=hl
 show Pure _ _ (cons [aH s,.bool e,aR d,aO x]) (con (.bool (nS s e d x)))
 refine eS (u:=80) (k:=20) mix bCL ?_
 refine Eq.mpr (a8L s e d x _) ?_
 refine ⟨(s,e,d.pos),.rfl,⟨hl⟩, ?_⟩
 intro y hy
 replace hy : y = bY s e d.pos:=hy
 unfold nS
 rw [← hy]
 cases d.halted with
 | true => exact .rfl
 | false =>
  refine ⟨(x,y.2.1),.rfl,⟨trivial⟩, ?_⟩
  rintro z rfl
  exact .rfl
theorem a4S : bX Try.prog TPO:=bV fJ trivial trivial ⟨aJT,a24,trivial⟩ trivial
theorem a8O : eI Try.prog (10,bCH):=bB fun ⟨c,s,x⟩ h => by
 obtain ⟨h,hl⟩ : x.ok ∧ s.blocks.length ≤ 1000000:=h
 show Pure _ _ (cons [aU c,aH s,aO x]) (con (.bool (pO c s x)))
 refine jB mix a4S zZ (Nat.le_of_ble_eq_true rfl) ?_
 refine Eq.mpr (a8M c s x _) ?_
 refine ⟨(c,s,x),.rfl,⟨h⟩, ?_⟩
 intro y hy
 replace hy : y = aY c s x:=hy
 unfold pO
 rw [← hy]
 cases y with
 | false => exact .rfl
 | true =>
 show ∃ _,_
 refine ⟨(s,false,x.a,x),.rfl,⟨hl⟩, ?_⟩
 intro ra hra
 replace hra : ra = nS s false x.a x:=hra
 rw [← hra]
 cases ra with
 | false => exact .rfl
 | true =>
 show ∃ _,_
 refine ⟨(s,true,x.e,x),.rfl,⟨hl⟩, ?_⟩
 intro re hre
 replace hre : re = nS s true x.e x:=hre
 rw [← hre]
 cases re with
 | false => exact .rfl
 | true =>
 simp only [zaI,zaD,Bool.false_or,zaR]
 show cond (decide ((x.table.length : Int) > 0)) _ _
 by_cases ht : x.table.length = 0
 case neg =>
  have h1 : (x.table.length : Int) > 0:=by omega
  simp only [ht,decide_eq_true h1,zaE,zaB,Bool.false_and]
  exact .rfl
 have h1 : ¬ (x.table.length : Int) > 0:=by omega
 simp only [ht,decide_eq_false h1,zaC,zaD,zaR]
 have hsl : x.saq.length ≤ 1000000:=h.2.2.2.2.2.2.1
 refine fS mix a4S (fun i : Nat => bCJ x i) (fun i => i ≤ x.saq.length ∧ ∀ j,j < i → aAT x (ix x.saq j) = false) (fun i => x.saq.length - i) 0 ⟨Nat.zero_le _,fun j hj => by omega⟩ (.of (dG ⟨rfl,rfl,trivial⟩ ⟨rfl,trivial⟩ (zaF _))) ?_
 rintro i ⟨hi,hp⟩
 refine Eq.mpr (a8N x i _ _) ?_
 by_cases hlt : i < x.saq.length
 ·have h2 : (i : Int) < (x.saq.length : Int):=by omega
  have w1 : IntKind.i64.wrap ((i : Int) + 1) = ((i + 1 : Nat) : Int):=wrap_i64 (by omega) (by omega)
  simp only [h2,w1,zaC,zaE,zaB,zaD,aD,zaF,zaO,zaQ,aV,bJ,zaI,zaH,zaN,zaM,zaT,zaR,zaS,ge_iff_le,Int.le_refl,if_true,if_false,reduceCtorEq,eq_self,BEq.rfl]
  simp only [bor]
  refine jQ (fun h => ?_) (fun h => ?_)
  ·have e : x.saq.any (aAT x) = true:=List.any_eq_true.2 ⟨_,cH hlt,h⟩
   rw [e];exact .rfl
  ·refine ⟨i + 1,⟨hlt,fun j hj => ?_⟩,.of (dG ⟨rfl,rfl,trivial⟩ ⟨rfl,trivial⟩ (zaF _)),by omega⟩
   by_cases hji : j = i
   ·subst hji;exact h
   ·exact hp j (by omega)
 ·have h2 : ¬ (i : Int) < (x.saq.length : Int):=by omega
  simp only [h2,zaC,zaE,zaB,zaD,aD,zaF,zaO,zaQ,aV,bJ,zaI,zaH,zaN,zaM,zaT,zaR,zaS,ge_iff_le,Int.le_refl,if_true,if_false,reduceCtorEq,eq_self,BEq.rfl]
  have e : x.saq.any (aAT x) = false:=by
   rw [← Bool.not_eq_true,List.any_eq_true]
   rintro ⟨z,hz,hz2⟩
   obtain ⟨j,hj,rfl⟩:=xS hz
   have:=hp j (by omega)
   rw [this] at hz2
   cases hz2
  rw [e];exact .rfl
theorem bCM : bX Try.prog TPS:=bV (fJ.app cZ) trivial fI ⟨aJT,a1O,a1T,a8D,a8G,trivial⟩ trivial
theorem a25 {c : Cfg} {t : bG} {x : Stt} (h : x.ok) (hb : x.writes.length + x.table.length ≤ 1000000) : (mA c t x).table.length ≤ x.writes.length + x.table.length ∧ (mA c t x).writes.length + (mA c t x).table.length ≤ x.writes.length + x.table.length:=by
 unfold mA
 split
 ·have h1:=aQ2 h.1 h.2.2.2.2.2.2.2.2.1 hb
  have h2:=aAJ (c:=c) (s:=t) (x:=eZ x) h1.1 c.dA.toNat
  have h3:=h1.2.2.2.2.2.2.2.2
  obtain ⟨_,_,_,_,_,_,_,a8,_,a10,_⟩:=h2
  rw [a8,a10]
  omega
 ·omega
theorem aYQ {c : Cfg} {x : Stt} : (gS c x).writes = x.writes ∧ (gS c x).table.length ≤ x.table.length + 1:=by
 unfold gS
 split
 ·refine ⟨rfl, ?_⟩
  show (x.table ++ [_]).length ≤ _
  rw [cD];omega
 ·exact ⟨rfl,by omega⟩
theorem a8P {x : Stt} (h : x.ok) : ({ x with aG:=IntKind.i64.wrap (x.aG + 1) } : Stt).ok:=by
 obtain ⟨⟨w0,w⟩,o⟩:=h
 exact ⟨⟨dY _,w⟩,o⟩
theorem aRN {c : Cfg} {s : Split} {t : bG} {x : Stt} (hs : jJ s) (h : aYP x) : (mA c t x).ok ∧ (gS c (mA c t x)).ok ∧ (eF c s (gS c (mA c t x))).ok ∧ (fQ c s t x).ok ∧ (fQ c s t x).writes.length + (fQ c s t x).table.length ≤ x.writes.length + x.table.length + 2:=by
 obtain ⟨ho,hb⟩:=h
 have a1 : (mA c t x).ok:=(aXE ⟨ho,by omega⟩).1
 have a2:=a25 (c:=c) (t:=t) ho (by omega)
 have a3 : (gS c (mA c t x)).ok:=a1U a1 (by omega)
 have a4:=aYQ (c:=c) (x:=mA c t x)
 have a5:=a2X (c:=c) hs a3
 have a6:=a20 (c:=c) hs a5.1
 refine ⟨a1,a3,a5.1, ?_⟩
 unfold fQ
 split
 ·refine ⟨a8P a6.1, ?_⟩
  show (fT c s (eF c s (gS c (mA c t x)))).writes.length + (fT c s (eF c s (gS c (mA c t x)))).table.length ≤ _
  have:=a6.2.2
  rw [a6.2.1,a5.2.1,a4.1]
  rw [a5.2.2] at this
  omega
 ·exact ⟨ho,by omega⟩
theorem a8Q : eI Try.prog (11,bCI):=bB fun ⟨c,s,t,x⟩ h => by
 obtain ⟨h,hs⟩ : aYP x ∧ jJ s:=h
 show Pure _ _ (cons [aU c,aH s,bI t,aO x]) (con (aO (fQ c s t x)))
 refine eS (u:=80) (k:=20) mix bCM ?_
 refine Eq.mpr (bCK c s t x _) ?_
 obtain ⟨b1,b2,b3,b4,b5,b6,b7,b8,b9⟩:=aXL h.1
 have hc:=aRN (c:=c) (t:=t) hs h
 simp only [b1,b2,b3,b4,b5,b6,b7,b8,b9,aD,zaF,cB,zaC,zaB]
 refine ⟨(c,s,x),.rfl,⟨h.1⟩, ?_⟩
 intro y hy
 replace hy : y = aY c s x:=hy
 unfold fQ
 rw [← hy]
 cases y with
 | false => exact .rfl
 | true =>
 show ∃ _,_
 refine ⟨(c,t,x),.rfl,⟨⟨h.1,by have:=h.2;show x.writes.length + x.table.length ≤ _;omega⟩⟩, ?_⟩
 rintro y rfl
 refine ⟨(c,mA c t x),.rfl,⟨hc.1⟩, ?_⟩
 rintro y rfl
 refine ⟨(c,s,gS c (mA c t x)),.rfl,⟨hc.2.1,hs⟩, ?_⟩
 rintro y rfl
 refine ⟨(c,s,eF c s (gS c (mA c t x))),.rfl,⟨hc.2.2.1,hs⟩, ?_⟩
 rintro y rfl
 exact .rfl
end Go.Proofs.Ytooojfbfobmkfaa
namespace Go.Proofs.Ytooojfbfobmkfaa
open Go.Ra
set_option linter.unusedVariables false
set_option linter.unusedSimpArgs false
def kc (K : Int) (l : List (Nat × Cell)) : Nat:=l.countP fun z => decide (z.2.kind = K)
def stK (K : Int) (l : List (Nat × Cell)) : List Nat:=(l.filter fun z => decide (z.2.kind = K)).map Prod.fst
theorem aYR {K : Int} {l r : List (Nat × Cell)} : kc K (l ++ r) = kc K l + kc K r:=List.countP_append
theorem aYS {K : Int} {n : Nat} {c : Cell} : kc K [(n,c)] = if c.kind = K then 1 else 0:=by
 unfold kc
 by_cases h : c.kind = K <;> simp [h]
theorem mR {K : Int} {l r : List (Nat × Cell)} : stK K (l ++ r) = stK K l ++ stK K r:=by simp [stK]
theorem pP {K : Int} {n : Nat} {c : Cell} : stK K [(n,c)] = if c.kind = K then [n] else []:=by
 unfold stK
 by_cases h : c.kind = K <;> simp [h]
theorem vI {K : Int} {l : List (Nat × Cell)} : (stK K l).length = kc K l:=by
 unfold stK kc
 rw [List.length_map,List.countP_eq_length_filter]
theorem aRO {K : Int} {m : Nat} {l : List Cell} : stK K (l.map (Prod.mk m)) = List.replicate ((l.map Cell.kind).count K) m:=by
 induction l with
 | nil => rfl
 | cons c l ih =>
  have h1 : stK K ((c :: l).map (Prod.mk m)) = stK K [(m,c)] ++ stK K (l.map (Prod.mk m)):=by
   rw [← mR];rfl
  rw [h1,ih,pP,List.map_cons,List.count_cons]
  by_cases h : c.kind = K
  ·simp only [h,if_true,beq_self_eq_true]
   rw [List.replicate_succ];rfl
  ·simp [h]
def SL (f : Nat → Nat) (n : Nat) : List Nat:=(List.range n).flatMap fun m => List.replicate (f m) m
def tot (f : Nat → Nat) : Nat → Nat
 | 0 => 0
 | n + 1 => tot f n + f n
theorem aAU {f : Nat → Nat} {n : Nat} : SL f (n + 1) = SL f n ++ List.replicate (f n) n:=iQ
theorem xT {f : Nat → Nat} : ∀ {n : Nat},(SL f n).length = tot f n
 | 0 => rfl
 | n + 1 => by rw [aAU,List.length_append,xT,List.length_replicate];rfl
theorem aRP {f : Nat → Nat} : ∀ {n : Nat} {x : Nat},x ∈ SL f n → x < n
 | 0,x,h => by cases h
 | n + 1,x,h => by
  rw [aAU] at h
  rcases List.mem_append.1 h with h | h
  ·have:=aRP h;omega
  ·rw [List.eq_of_mem_replicate h];omega
theorem aAV {f : Nat → Nat} {n m : Nat} (h : n ≤ m) : tot f n ≤ tot f m:=by
 induction m with
 | zero =>
      obtain rfl : n = 0:=by omega
      exact zaF _
 | succ m ih =>
  rcases Nat.lt_or_ge n (m + 1) with h1 | h1
  ·exact Nat.le_trans (ih (by omega)) (Nat.le_add_right _ _)
  ·obtain rfl : n = m + 1:=by omega
   exact zaF _
theorem aYT {f : Nat → Nat} {n m : Nat} (h : n ≤ m) : ∃ r,SL f m = SL f n ++ r ∧ ∀ x ∈ r,n ≤ x:=by
 induction m with
 | zero =>
      obtain rfl : n = 0:=by omega
      exact ⟨[],by simp,fun x hx => by cases hx⟩
 | succ m ih =>
  rcases Nat.lt_or_ge n (m + 1) with h1 | h1
  ·obtain ⟨r,e1,e2⟩:=ih (by omega)
   refine ⟨r ++ List.replicate (f m) m,by rw [aAU,e1,List.append_assoc],fun x hx => ?_⟩
   rcases List.mem_append.1 hx with hx | hx
   ·exact e2 x hx
   ·rw [List.eq_of_mem_replicate hx];omega
  ·obtain rfl : n = m + 1:=by omega
   exact ⟨[],by simp,fun x hx => by cases hx⟩
section
variable (p : Prog) (o : Nat → Int) (D : Nat → Bool)
def cK (e : Bool) (K : Int) (m : Nat) : Nat:=(kin p o e (rho p D m)).count K
end
section
variable {p : Prog} {o : Nat → Int} {D : Nat → Bool} {e : Bool} {K : Int}
theorem uK {n k : Nat} : stK K (Dn p o D e n k) = SL (cK p o D e K) n ++ List.replicate (((kin p o e (rho p D n)).take k).count K) n:=by
 unfold Dn
 rw [mR,aRO]
 congr 1
 ·induction n with
  | zero => rfl
  | succ n ih => rw [iQ,mR,ih,aAU,aRO];rfl
 ·unfold kin
  rw [List.map_take]
theorem aHW {n k : Nat} : kc K (Dn p o D e n k) = tot (cK p o D e K) n + ((kin p o e (rho p D n)).take k).count K:=by
 rw [← vI,uK,List.length_append,xT,List.length_replicate]
theorem a4T {n k : Nat} : tot (cK p o D e K) n ≤ kc K (Dn p o D e n k):=by rw [aHW];omega
theorem a4U {n k : Nat} : kc K (Dn p o D e n k) ≤ tot (cK p o D e K) (n + 1):=by
 rw [aHW]
 have : ((kin p o e (rho p D n)).take k).count K ≤ cK p o D e K n:=(List.take_sublist _ _).count_le K
 show _ ≤ tot _ n + cK p o D e K n
 omega
theorem aJ0 {i : Nat} (hi : p.code.length ≤ i) : kin p o e i = []:=by
 unfold kin;rw [a23 hi];rfl
theorem bal (hr : aX p = true) (m : Nat) : cK p o D false 5 m = cK p o D true 6 m ∧ cK p o D false 3 m = cK p o D true 7 m ∧ cK p o D false 4 m = cK p o D true 8 m ∧ cK p o D false 9 m = cK p o D true 10 m ∧ cK p o D false 10 m = cK p o D true 9 m:=by
 unfold cK
 by_cases hi : rho p D m < p.code.length
 ·obtain ⟨k,tA,tE,h1,h2,h3⟩:=shape (o:=o) hr hi
  rw [h1,h2]
  simp only [List.count_append,List.count_replicate]
  rcases h3 with h3 | h3 | h3 | h3 | h3 | h3 | h3 | h3 | h3
  all_goals first
   |(obtain ⟨_,rfl,rfl,rfl⟩:=h3;simp)
   |(obtain ⟨_,rfl,rfl⟩:=h3;simp)
 ·rw [aJ0 (by omega),aJ0 (by omega)]
  simp
end
end Go.Proofs.Ytooojfbfobmkfaa
namespace Go.Proofs.Ytooojfbfobmkfaa
open Go.Ra
set_option linter.unusedVariables false
set_option linter.unusedSimpArgs false
theorem aAW {p : Prog} {o : Nat → Int} {e : Bool} {i : Nat} : (cel p o e i).length ≤ 4:=by
 unfold cel
 have:=qG (i:=ix p.code i) (o:=o) (pc:=(i : Int)) (off:=0)
 cases e
 ·exact this.1
 ·exact this.2
theorem aFI {α : Type} {f : Nat → List α} (h : ∀ j,(f j).length ≤ 4) : ∀ k,o4 f k ≤ 4 * k
 | 0 => zaF _
 | k + 1 => by have:=aFI h k;have:=h k;show o4 f k + (f k).length ≤ _;omega
theorem aYU {a d : Int} {m i : Nat} (h : i < m) : ix (List.replicate m a) i = a:=by rw [fY (by simpa using h)];simp
def aO7 (f : Int) (en : Bool) (l : List Int) (k : Nat) : Prop :=
 ((ix l k = 9 ∨ ix l k = 10) → f = 6 ∧ k + 1 = l.length ∧ (l.take k).count 9 = 0 ∧ (l.take k).count 10 = 0) ∧
 (ix l k = 11 → f = 7 ∧ k + 1 = l.length) ∧ (ix l k = 12 → f = 8) ∧ (en = true → k + 1 = l.length → 9 ≤ ix l k) ∧ (f = 8 → ix l k = 12)
theorem uL {p : Prog} {o : Nat → Int} {e : Bool} {i k : Nat} (hk : k < (cel p o e i).length) : (ix (cel p o e i) k).kind = ix (kin p o e i) k:=(tK hk).symm
theorem vJ {p : Prog} {o : Nat → Int} (hr : aX p = true) {i : Nat} (hi : i < p.code.length) {e : Bool} {k : Nat} (hk : k < (kin p o e i).length) : aO7 (aI (ix p.code i).op) (fC (ix p.code i)) (kin p o e i) k:=by
 obtain ⟨m,tA,tE,h1,h2,h3⟩:=shape (o:=o) hr hi
 have hE : ∀ (c : Int) (t : List Int) (z : Int),(c = 5 ∨ c = 6) → kin p o e i = List.replicate m c ++ t → ((t = [] ∧ aI (ix p.code i).op ≤ 5) ∨ (t = [z] ∧ ((z ≤ 8 ∧ aI (ix p.code i).op ≤ 5) ∨ ((z = 9 ∨ z = 10) ∧ aI (ix p.code i).op = 6) ∨ (z = 11 ∧ aI (ix p.code i).op = 7) ∨ (z = 12 ∧ m = 0 ∧ aI (ix p.code i).op = 8)))) → aO7 (aI (ix p.code i).op) (fC (ix p.code i)) (kin p o e i) k:=by
  intro c t z hc he ht
  rw [he] at hk ⊢
  have hlt : k < m → ix (List.replicate m c ++ t) k = c:=fun h => by rw [gO,if_pos (by simpa using h)];exact aYU (d:=0) h
  have hend : ¬ k < m → (t = [z] ∧ k = m ∧ ix (List.replicate m c ++ t) k = z):=fun h => by
   rcases ht with ⟨rfl,_⟩ | ⟨rfl,_⟩
   ·simp at hk;omega
   ·simp at hk
    obtain rfl : k = m:=by omega
    refine ⟨rfl,rfl, ?_⟩
    rw [gO,if_neg (by simp)]
    simp [ix]
  have htk : k = m → (List.replicate m c ++ t).take k = List.replicate m c:=fun h => by subst h;simp
  have hform:=aMU (i:=ix p.code i)
  have hcnt : ∀ K : Int,(K = 9 ∨ K = 10) → (List.replicate m c).count K = 0:=fun K hK => by
   rw [List.count_replicate,if_neg]
   simp;omega
  unfold aO7
  by_cases hkm : k < m
  ·rw [hlt hkm]
   refine ⟨fun h => by omega,fun h => by omega,fun h => by omega,fun h5 h6 => ?_,fun h5 => ?_⟩
   ·exfalso
    have h7:=hform.1 h5
    rcases ht with ⟨rfl,h8⟩ | ⟨rfl,h8⟩
    ·omega
    ·simp at h6;omega
   ·exfalso
    rcases ht with ⟨rfl,h8⟩ | ⟨rfl,h8⟩ <;> omega
  ·obtain ⟨hz,hkm2,hix⟩:=hend hkm
   rw [hix]
   subst hz
   have hz2 : (z ≤ 8 ∧ aI (ix p.code i).op ≤ 5) ∨ ((z = 9 ∨ z = 10) ∧ aI (ix p.code i).op = 6) ∨ (z = 11 ∧ aI (ix p.code i).op = 7) ∨ (z = 12 ∧ m = 0 ∧ aI (ix p.code i).op = 8):=by
    rcases ht with ⟨h8,_⟩ | ⟨h8,h9⟩
    ·cases h8
    ·exact h9
   have hlen : k + 1 = (List.replicate m c ++ [z]).length:=by simp;omega
   refine ⟨fun h => ⟨by omega,hlen, ?_, ?_⟩,fun h => ⟨by omega,hlen⟩,fun h => by omega,fun h5 h6 => ?_,fun h5 => by omega⟩
   ·rw [htk hkm2];exact hcnt 9 (.inl rfl)
   ·rw [htk hkm2];exact hcnt 10 (.inr rfl)
   ·have:=hform.1 h5;omega
 cases e with
 | true =>
  refine hE 6 tE (ix tE 0) (.inr rfl) h2 ?_
  rcases h3 with h3 | h3 | h3 | h3 | h3 | h3 | h3 | h3 | h3
  ·have hf:=h3.1
   exact .inl ⟨h3.2.2.1,by omega⟩
  ·have hf:=h3.1
   rw [h3.2.2]
   refine .inr ⟨rfl, ?_⟩
   simp only [aW]
   first | omega | (simp [hf];done) | (simp [hf];omega)
  ·have hf:=h3.1
   rw [h3.2.2.1]
   refine .inr ⟨rfl, ?_⟩
   simp only [aW]
   first | omega | (simp [hf];done) | (simp [hf];omega)
  ·have hf:=h3.1
   exact .inl ⟨h3.2.2.1,by omega⟩
  ·have hf:=h3.1
   rw [h3.2.2]
   refine .inr ⟨rfl, ?_⟩
   simp only [aW]
   first | omega | (simp [hf];done) | (simp [hf];omega)
  ·have hf:=h3.1
   rw [h3.2.2.1]
   refine .inr ⟨rfl, ?_⟩
   simp only [aW]
   first | omega | (simp [hf];done) | (simp [hf];omega)
  ·have hf:=h3.1
   rw [h3.2.2]
   refine .inr ⟨rfl, ?_⟩
   simp only [aW]
   first | omega | (simp [hf];done) | (simp [hf];omega)
  ·have hf:=h3.1
   rw [h3.2.2.1]
   refine .inr ⟨rfl, ?_⟩
   simp only [aW]
   first | omega | (simp [hf];done) | (simp [hf];omega)
  ·have hf:=h3.1
   rw [h3.2.2.1]
   refine .inr ⟨rfl, ?_⟩
   simp only [aW]
   first | omega | (simp [hf];done) | (simp [hf];omega)
 | false =>
  refine hE 5 tA (ix tA 0) (.inl rfl) h1 ?_
  rcases h3 with h3 | h3 | h3 | h3 | h3 | h3 | h3 | h3 | h3
  ·have hf:=h3.1
   rw [h3.2.1]
   refine .inr ⟨rfl, ?_⟩
   simp only [aW]
   first | omega | (simp [hf];done) | (simp [hf];omega)
  ·have hf:=h3.1
   exact .inl ⟨h3.2.1,by omega⟩
  ·have hf:=h3.1
   rw [h3.2.1]
   refine .inr ⟨rfl, ?_⟩
   simp only [aW]
   first | omega | (simp [hf];done) | (simp [hf];omega)
  ·have hf:=h3.1
   rw [h3.2.1]
   refine .inr ⟨rfl, ?_⟩
   simp only [aW]
   first | omega | (simp [hf];done) | (simp [hf];omega)
  ·have hf:=h3.1
   rw [h3.2.1]
   refine .inr ⟨rfl, ?_⟩
   simp only [aW]
   first | omega | (simp [hf];done) | (simp [hf];omega)
  ·have hf:=h3.1
   rw [h3.2.1]
   refine .inr ⟨rfl, ?_⟩
   simp only [aW]
   first | omega | (simp [hf];done) | (simp [hf];omega)
  ·have hf:=h3.1
   rw [h3.2.1]
   refine .inr ⟨rfl, ?_⟩
   simp only [aW]
   first | omega | (simp [hf];done) | (simp [hf];omega)
  ·have hf:=h3.1
   rw [h3.2.1]
   refine .inr ⟨rfl, ?_⟩
   simp only [aW]
   first | omega | (simp [hf];done) | (simp [hf];omega)
  ·have hf:=h3.1
   rw [h3.2.1]
   refine .inr ⟨rfl, ?_⟩
   simp only [aW]
   first | omega | (simp [hf];done) | (simp [hf];omega)
end Go.Proofs.Ytooojfbfobmkfaa
namespace Go.Proofs.Ytooojfbfobmkfaa
open Go.Ra
set_option linter.unusedVariables false
set_option linter.unusedSimpArgs false
def cW {α : Type} (f : Bool → α) (e : Bool) (v : α) : Bool → α:=fun e' => bif e' == e then v else f e'
theorem cL {α : Type} (f : Bool → α) (e : Bool) (v : α) : cW f e v e = v:=by cases e <;> rfl
theorem bM {α : Type} (f : Bool → α) (e : Bool) (v : α) : cW f e v (!e) = f (!e):=by cases e <;> rfl
theorem two (P : Bool → Prop) (e : Bool) (h1 : P e) (h2 : P (!e)) : ∀ e',P e':=by
 intro e'
 cases e <;> cases e' <;> assumption
structure Ctl (p : Prog) (o : Nat → Int) (D : Nat → Bool) (n k : Bool → Nat) (q : Bool → Pos) (b : Bool → List Bool) : Prop where
 pr : ∀ e,∃ B j,PR p o D e (q e) (n e) (k e) B j
 nh : ∀ e m,m < n e → ¬ aI (ix p.code (rho p D m)).op = 8
 bq : ∀ e,(stK 9 (Dn p o D e (n e) (k e))).map D = (stK 10 (Dn p o D (!e) (n (!e)) (k (!e)))).map D ++ b e
section
variable {p : Prog} {o : Nat → Int} {s : Split} (hs : Spl p o s) {D : Nat → Bool} {n k : Bool → Nat} {q : Bool → Pos} {b : Bool → List Bool}
theorem a8R (hr : aX p = true) (e : Bool) (m : Nat) : cK p o D e 9 m = cK p o D (!e) 10 m:=by
 have:=bal (o:=o) (D:=D) hr m
 cases e
 ·exact this.2.2.2.1
 ·exact this.2.2.2.2.symm
include hs
theorem Ctl.settle (h : Ctl p o D n k q b) (e : Bool) (hn : n e ≤ 1152921504606846976) : ∃ n' k' B j,Ctl p o D (cW n e n') (cW k e k') (cW q e (aT s e (q e)).1) b ∧ Stl p o D e (aT s e (q e)) n' k' B j ∧ Dn p o D e n' k' = Dn p o D e (n e) (k e) ∧ n e ≤ n' ∧ n' ≤ n e + p.code.length:=by
 obtain ⟨B,j,hp⟩:=h.pr e
 have hr:=hs.rp
 have hN:=(rO hr).2
 have hpc : rho p D (n e) ≤ p.code.length:=by
  have h1:=eP hp.hb
  have h2:=hp.pc
  rcases hp.here with h3 | h3 <;> omega
 obtain ⟨n',k',B',j',a1,a2,a3,a4,a5⟩:=hs.aO6 (nbN p + 1) hp (by omega) (by omega)
 have hpc' : rho p D n' ≤ p.code.length:=by
  have h1:=eP a1.1.hb
  have h2:=a1.1.pc
  rcases a1.1.here with h3 | h3 <;> omega
 have e0 : aT s e (q e) = kD s e (nbN p + 1) (q e):=by unfold aT;rw [hs.nb]
 rw [← e0] at a1
 refine ⟨n',k',B',j',⟨two _ e ?_ ?_,two _ e ?_ ?_,two _ e ?_ ?_⟩,a1,a2,a3,by omega⟩
 ·rw [cL,cL,cL];exact ⟨B',j',a1.1⟩
 ·rw [bM,bM,bM];exact h.pr _
 ·rw [cL]
  intro m hm
  rcases Nat.lt_or_ge m (n e) with h1 | h1
  ·exact h.nh e m h1
  ·have:=aRL (a5 m h1 hm)
   rw [a4R];exact this.2
 ·rw [bM];exact h.nh _
 ·rw [cL,cL,bM,bM,a2];exact h.bq e
 ·rw [bM,bM,Bool.not_not,cL,cL,a2]
  have:=h.bq (!e)
  rwa [Bool.not_not] at this
theorem Ctl.on (h : Ctl p o D n k q b) (e : Bool) {B j : Nat} (hp : PR p o D e (q e) (n e) (k e) B j) (hk : k e < (cel p o e (rho p D (n e))).length) (hj : cV p B + j < dL p B) (hc : (ix (cel p o e (rho p D (n e))) (k e)).kind ≤ 8) :
  Ctl p o D n (cW k e (k e + 1)) (cW q e { q e with index:=IntKind.i64.wrap ((q e).index + 1) }) b ∧ Dn p o D e (n e) (k e + 1) = Dn p o D e (n e) (k e) ++ [(n e,ix (cel p o e (rho p D (n e))) (k e))]:=by
 have hr:=hs.rp
 have h1:=eP hp.hb
 have h2:=hp.pc
 have hN:=(rO hr).2
 have hd:=aRM hk
 have hka:=vJ (o:=o) (e:=e) hr (show rho p D (n e) < p.code.length by omega) (by rw [eX];exact hk)
 rw [uL hk] at hc
 have s9 : ∀ K : Int,9 ≤ K → stK K (Dn p o D e (n e) (k e + 1)) = stK K (Dn p o D e (n e) (k e)):=fun K hK => by
  rw [hd,mR,pP,if_neg (by rw [uL hk];omega),List.append_nil]
 have hidx:=hp.idx
 have hpl:=aFI (f:=fun j => cel p o e (cV p B + j)) (fun j => aAW) j
 have h4:=aAW (p:=p) (o:=o) (e:=e) (i:=rho p D (n e))
 refine ⟨⟨two _ e ?_ ?_,h.nh,two _ e ?_ ?_⟩,hd⟩
 ·rw [cL,cL]
  refine ⟨B,j,hp.blk,hp.hb,hp.pc,hp.base,hp.aFH, ?_,.inl ⟨hj,by omega,fun h5 => .inl ?_⟩⟩
  ·show IntKind.i64.wrap ((q e).index + 1) = _
   rw [hidx,wrap_i64 (by omega) (by omega)]
   omega
  ·cases h6 : fC (ix p.code (rho p D (n e))) with
   | false => rfl
   | true =>
    have:=hka.2.2.2.1 h6 (by rw [eX];exact h5)
    omega
 ·rw [bM,bM];exact h.pr _
 ·rw [cL,bM,s9 9 (by omega)];exact h.bq e
 ·rw [bM,Bool.not_not,cL,s9 10 (by omega)]
  have:=h.bq (!e)
  rwa [Bool.not_not] at this
theorem aJ1 {e : Bool} {q : Pos} {n k B j : Nat} (hp : PR p o D e q n k B j) (hk : k + 1 = (cel p o e (rho p D n)).length) (hj : cV p B + j < dL p B) {t : Bool} (hn : n ≤ 1152921504606846976)
  (hf : (aI (ix p.code (rho p D n)).op = 6 ∧ D n = t) ∨ (aI (ix p.code (rho p D n)).op = 7 ∧ t = true)) :
  ∃ n' k' B' j',PR p o D e (goF s q t) n' k' B' j' ∧ Dn p o D e n' k' = Dn p o D e n (k + 1) ∧ n ≤ n' ∧ n' ≤ n + 1:=by
 have hr:=hs.rp
 have h1:=eP hp.hb
 have h2:=hp.pc
 have hN:=(rO hr).2
 have hb:=hp.hb
 have hnb:=hs.nb
 have hlast : cV p B + j + 1 = dL p B:=by
  rcases Nat.lt_or_ge (cV p B + j + 1) (dL p B) with h3 | h3
  ·have h4:=aYM hr hb (show cV p B ≤ rho p D n by omega) (by omega)
   have:=aFF.1 h4
   omega
  ·omega
 have hl : dL p B - 1 = rho p D n:=by omega
 cases t with
 | true =>
  obtain ⟨T,hT,h3,h4⟩:=a8J hr hb (by rw [hl];exact aTS hr (by omega) (by omega))
  have hgo : goF s q true = ⟨(T : Int),0,(n : Int) + 1⟩:=by
   unfold goF
   rw [hp.blk,zaO,hs.blk hb]
   show (if true = true ∧ 0 ≤ (B : Int) ∧ (B : Int) < (s.blocks.length : Int) ∧ 0 ≤ pH p (aM p) B ∧ pH p (aM p) B < (s.blocks.length : Int) then Pos.mk (pH p (aM p) B) 0 (IntKind.i64.wrap (q.base + xQ s (B : Int))) else _) = _
   rw [h3,if_pos ⟨rfl,by omega,by omega,by omega,by omega⟩,hs.lng hb]
   have:=hp.base
   rw [wrap_i64 (by omega) (by omega)]
   congr 1
   omega
  have hrho : rho p D (n + 1) = cV p T:=by
   show aO4 p (rho p D n) (D n) = _
   unfold aO4
   rw [if_pos (by
           rcases hf with hf | hf
           ·exact .inr hf
           ·exact .inl hf.1)]
   rw [hl] at h4
   omega
  have hsd:=eP hT
  refine ⟨n + 1,0,T,0,⟨by rw [hgo],hT,by omega,by rw [hgo];show (n : Int) + 1 + ((0 : Nat) : Int) = ((n + 1 : Nat) : Int);omega,by rw [hgo];show (0 : Int) ≤ (n : Int) + 1;omega,by rw [hgo];rfl,.inl ⟨by omega,Nat.zero_le _,fun h6 => .inl ?_⟩⟩, ?_,by omega,by omega⟩
  ·cases h7 : fC (ix p.code (rho p D (n + 1))) with
   | false => rfl
   | true =>
    have:=aC5 (o:=o) hr (by omega) h7 e
    omega
  ·rw [hk,aJZ]
 | false =>
  have hgo : goF s q false = { q with index:=IntKind.i64.wrap (q.index + 1) }:=by
   unfold goF;rw [if_neg (by simp)]
  have hidx:=hp.idx
  have hpl:=aFI (f:=fun j => cel p o e (cV p B + j)) (fun j => aAW) j
  have h4:=aAW (p:=p) (o:=o) (e:=e) (i:=rho p D n)
  refine ⟨n,k + 1,B,j,⟨by rw [hgo];exact hp.blk,hb,hp.pc,by rw [hgo];exact hp.base,by rw [hgo];exact hp.aFH, ?_,.inl ⟨hj,by omega,fun _ => .inr ?_⟩⟩,rfl,zaF _,by omega⟩
  ·rw [hgo]
   show IntKind.i64.wrap (q.index + 1) = _
   rw [hidx,wrap_i64 (by omega) (by omega)]
   omega
  ·rcases hf with hf | hf
   ·exact hf
   ·cases hf.2
end
end Go.Proofs.Ytooojfbfobmkfaa
namespace Go.Proofs.Ytooojfbfobmkfaa
open Go.Ra
set_option linter.unusedVariables false
set_option linter.unusedSimpArgs false
theorem aFJ {α : Type} {f g : Nat → List α} : ∀ {n : Nat},(∀ m,m < n → f m = g m) → (List.range n).flatMap f = (List.range n).flatMap g
 | 0,_ => rfl
 | n + 1,h => by rw [iQ,iQ,aFJ fun m hm => h m (by omega),h n (by omega)]
section
variable {p : Prog} {o : Nat → Int} {s : Split} (hs : Spl p o s) {D : Nat → Bool} {n k : Bool → Nat} {q : Bool → Pos} {b : Bool → List Bool}
include hs
theorem Ctl.jump (h : Ctl p o D n k q b) (e : Bool) {B j : Nat} (hp : PR p o D e (q e) (n e) (k e) B j) (hk : k e < (cel p o e (rho p D (n e))).length) (hj : cV p B + j < dL p B) (hn : n e ≤ 1152921504606846976) (hc : (ix (cel p o e (rho p D (n e))) (k e)).kind = 11) :
  ∃ n' k',Ctl p o D (cW n e n') (cW k e k') (cW q e (goF s (q e) true)) b ∧ Dn p o D e n' k' = Dn p o D e (n e) (k e) ++ [(n e,ix (cel p o e (rho p D (n e))) (k e))] ∧ n e ≤ n' ∧ n' ≤ n e + 1:=by
 have hr:=hs.rp
 have h1:=eP hp.hb
 have h2:=hp.pc
 have hka:=vJ (o:=o) (e:=e) hr (show rho p D (n e) < p.code.length by omega) (by rw [eX];exact hk)
 have hk11:=hka.2.1 (by rw [← uL hk];exact hc)
 rw [eX] at hk11
 have hd:=aRM hk
 obtain ⟨n',k',B',j',c1,c2,c3,c4⟩:=aJ1 hs hp hk11.2 hj hn (t:=true) (.inr ⟨hk11.1,rfl⟩)
 rw [hd] at c2
 have s9 : ∀ K : Int,K ≤ 10 → stK K (Dn p o D e n' k') = stK K (Dn p o D e (n e) (k e)):=fun K hK => by
  rw [c2,mR,pP,if_neg (by rw [hc];omega),List.append_nil]
 refine ⟨n',k',⟨two _ e ?_ ?_,two _ e ?_ ?_,two _ e ?_ ?_⟩,c2,c3,c4⟩
 ·rw [cL,cL,cL];exact ⟨B',j',c1⟩
 ·rw [bM,bM,bM];exact h.pr _
 ·rw [cL]
  intro m hm
  rcases Nat.lt_or_ge m (n e) with h3 | h3
  ·exact h.nh e m h3
  ·obtain rfl : m = n e:=by omega
   omega
 ·rw [bM];exact h.nh _
 ·rw [cL,cL,bM,bM,s9 9 (by omega)];exact h.bq e
 ·rw [bM,bM,Bool.not_not,cL,cL,s9 10 (by omega)]
  have:=h.bq (!e)
  rwa [Bool.not_not] at this
theorem Ctl.follow (h : Ctl p o D n k q b) (e : Bool) {B j : Nat} (hp : PR p o D e (q e) (n e) (k e) B j) (hk : k e < (cel p o e (rho p D (n e))).length) (hj : cV p B + j < dL p B) (hn : n e ≤ 1152921504606846976) (hc : (ix (cel p o e (rho p D (n e))) (k e)).kind = 10) {t : Bool} {r : List Bool} (hb : b (!e) = t :: r) :
  D (n e) = t ∧ ∃ n' k',Ctl p o D (cW n e n') (cW k e k') (cW q e (goF s (q e) t)) (cW b (!e) r) ∧ Dn p o D e n' k' = Dn p o D e (n e) (k e) ++ [(n e,ix (cel p o e (rho p D (n e))) (k e))] ∧ n e ≤ n' ∧ n' ≤ n e + 1:=by
 have hr:=hs.rp
 have h1:=eP hp.hb
 have h2:=hp.pc
 have hka:=vJ (o:=o) (e:=e) hr (show rho p D (n e) < p.code.length by omega) (by rw [eX];exact hk)
 have hkk : ix (kin p o e (rho p D (n e))) (k e) = 10:=by rw [← uL hk];exact hc
 obtain ⟨k1,k2,k3,k4⟩:=hka.1 (.inr hkk)
 rw [eX] at k2
 have hd:=aRM hk
 have hq:=h.bq (!e)
 rw [Bool.not_not,hb] at hq
 have hf10 : cK p o D e 10 (n e) = 1:=by
  unfold cK
  have e1 : kin p o e (rho p D (n e)) = (kin p o e (rho p D (n e))).take (k e) ++ [ix (kin p o e (rho p D (n e))) (k e)]:=by
   rw [← aC3 (by rw [eX];exact hk),k2,← eX,List.take_length]
  rw [e1,List.count_append,k4,hkk];rfl
 have hfg : cK p o D (!e) 9 = cK p o D e 10:=by
  funext m
  have:=a8R (o:=o) (D:=D) hr (!e) m
  rwa [Bool.not_not] at this
 have hDt : D (n e) = t:=by
  rw [uK,uK,k4,List.replicate_zero,List.append_nil,hfg] at hq
  have hcb : ((kin p o (!e) (rho p D (n (!e)))).take (k (!e))).count 9 ≤ cK p o D (!e) 9 (n (!e)):=(List.take_sublist _ _).count_le 9
  rw [hfg] at hcb
  generalize ((kin p o (!e) (rho p D (n (!e)))).take (k (!e))).count 9 = c at hq hcb
  have hlen:=congrArg List.length hq
  simp only [List.length_map,List.length_append,xT,List.length_replicate,List.length_cons] at hlen
  have hkc : c ≤ 0 ∨ 1 ≤ c:=by omega
  rcases Nat.lt_trichotomy (n (!e)) (n e) with h3 | h3 | h3
  ·exfalso
   have h4 : tot (cK p o D e 10) (n (!e) + 1) = tot (cK p o D e 10) (n (!e)) + cK p o D e 10 (n (!e)):=rfl
   have h5:=aAV (f:=cK p o D e 10) (show n (!e) + 1 ≤ n e by omega)
   omega
  ·rw [h3] at hq hlen
   have h4 : c = c - 1 + 1:=by omega
   rw [h4,List.replicate_succ,List.map_append,List.append_cancel_left_eq,List.map_cons,List.cons.injEq] at hq
   exact hq.1
  ·obtain ⟨r',e1,_⟩:=aYT (f:=cK p o D e 10) (show n e + 1 ≤ n (!e) from h3)
   rw [e1,aAU,hf10,List.append_assoc,List.append_assoc,List.map_append,List.append_cancel_left_eq] at hq
   have : (List.replicate 1 (n e) ++ (r' ++ List.replicate c (n (!e)))).map D = D (n e) :: (r' ++ List.replicate c (n (!e))).map D:=rfl
   rw [this,List.cons.injEq] at hq
   exact hq.1
 refine ⟨hDt, ?_⟩
 obtain ⟨n',k',B',j',c1,c2,c3,c4⟩:=aJ1 hs hp k2 hj hn (t:=t) (.inl ⟨k1,hDt⟩)
 rw [hd] at c2
 refine ⟨n',k',⟨two _ e ?_ ?_,two _ e ?_ ?_,two _ e ?_ ?_⟩,c2,c3,c4⟩
 ·rw [cL,cL,cL];exact ⟨B',j',c1⟩
 ·rw [bM,bM,bM];exact h.pr _
 ·rw [cL]
  intro m hm
  rcases Nat.lt_or_ge m (n e) with h3 | h3
  ·exact h.nh e m h3
  ·obtain rfl : m = n e:=by omega
   omega
 ·rw [bM];exact h.nh _
 ·rw [cL,cL,bM,bM]
  have h3 : cW b (!e) r e = b e:=by cases e <;> rfl
  rw [h3,c2,mR,pP,if_neg (by rw [hc];omega),List.append_nil];exact h.bq e
 ·rw [bM,bM,Bool.not_not,cL,cL,cL,c2,mR,pP,if_pos hc,List.map_append,List.append_assoc]
  have:=h.bq (!e)
  rw [Bool.not_not,hb] at this
  rw [this,← hDt]
  rfl
theorem Ctl.branch (h : Ctl p o D n k q b) (e : Bool) {B j : Nat} (hp : PR p o D e (q e) (n e) (k e) B j) (hk : k e < (cel p o e (rho p D (n e))).length) (hj : cV p B + j < dL p B) (hn : n e ≤ 1152921504606846976) (hc : (ix (cel p o e (rho p D (n e))) (k e)).kind = 9) (t : Bool) {D' : Nat → Bool} (hD' : D' = fun m => bif m == n e then t else D m) :
  ∃ n' k',Ctl p o D' (cW n e n') (cW k e k') (cW q e (goF s (q e) t)) (cW b e (b e ++ [t])) ∧ Dn p o D' e n' k' = Dn p o D e (n e) (k e) ++ [(n e,ix (cel p o e (rho p D (n e))) (k e))] ∧ Dn p o D' (!e) (n (!e)) (k (!e)) = Dn p o D (!e) (n (!e)) (k (!e)) ∧ n e ≤ n' ∧ n' ≤ n e + 1 ∧ rho p D' (n e) = rho p D (n e) ∧ n (!e) ≤ n e:=by
 have hr:=hs.rp
 have h1:=eP hp.hb
 have h2:=hp.pc
 have hka:=vJ (o:=o) (e:=e) hr (show rho p D (n e) < p.code.length by omega) (by rw [eX];exact hk)
 have hkk : ix (kin p o e (rho p D (n e))) (k e) = 9:=by rw [← uL hk];exact hc
 obtain ⟨k1,k2,k3,k4⟩:=hka.1 (.inl hkk)
 rw [eX] at k2
 have hsplit : kin p o e (rho p D (n e)) = (kin p o e (rho p D (n e))).take (k e) ++ [ix (kin p o e (rho p D (n e))) (k e)]:=by
  rw [← aC3 (by rw [eX];exact hk),k2,← eX,List.take_length]
 have hf9 : cK p o D e 9 (n e) = 1:=by
  unfold cK;rw [hsplit,List.count_append,k3,hkk];rfl
 have hf10 : cK p o D e 10 (n e) = 0:=by
  unfold cK;rw [hsplit,List.count_append,k4,hkk];rfl
 have hg : cK p o D (!e) 10 = cK p o D e 9:=by
  funext m
  exact (a8R (o:=o) (D:=D) hr e m).symm
 have hg9 : cK p o D (!e) 9 = cK p o D e 10:=by
  funext m
  have:=a8R (o:=o) (D:=D) hr (!e) m
  rwa [Bool.not_not] at this
 have hq:=h.bq e
 have hlen:=congrArg List.length hq
 simp only [List.length_map,List.length_append,vI] at hlen
 rw [aHW,aHW,k3,hg] at hlen
 have hno : n (!e) ≤ n e:=by
  rcases Nat.lt_or_ge (n e) (n (!e)) with h3 | h3
  ·exfalso
   have h4:=aAV (f:=cK p o D e 9) (show n e + 1 ≤ n (!e) from h3)
   have h5 : tot (cK p o D e 9) (n e + 1) = tot (cK p o D e 9) (n e) + cK p o D e 9 (n e):=rfl
   omega
  ·exact h3
 have hsame : n (!e) = n e → ((kin p o (!e) (rho p D (n (!e)))).take (k (!e))).count 10 = 0 ∧ k (!e) < (cel p o (!e) (rho p D (n (!e)))).length:=fun h3 => by
  have h4 : ((kin p o (!e) (rho p D (n (!e)))).take (k (!e))).count 10 = 0:=by
   rw [h3] at hlen ⊢
   omega
  refine ⟨h4, ?_⟩
  rcases Nat.lt_or_ge (k (!e)) (cel p o (!e) (rho p D (n (!e)))).length with h5 | h5
  ·exact h5
  ·rw [List.take_of_length_le (by rw [eX];exact h5)] at h4
   have h6 : cK p o D (!e) 10 (n (!e)) = 0:=h4
   rw [hg,h3] at h6
   omega
 have hag : ∀ m,m < n e → D m = D' m:=fun m hm => by
  rw [hD']
  show D m = bif m == n e then t else D m
  rw [show (m == n e) = false by simp;omega];rfl
 have hat : D' (n e) = t:=by rw [hD'];simp
 have hrho : ∀ m,m ≤ n e → rho p D' m = rho p D m:=fun m hm => (aO5 fun i hi => hag i (by omega)).symm
 have hDn : ∀ (e' : Bool) (m i : Nat),m ≤ n e → Dn p o D' e' m i = Dn p o D e' m i:=fun e' m i hm => by
  unfold Dn
  rw [hrho m hm]
  congr 1
  exact aFJ fun x hx => by rw [hrho x (by omega)]
 have hp' : PR p o D' e (q e) (n e) (k e) B j:=⟨hp.blk,hp.hb,by rw [hrho _ (zaF _)];exact hp.pc,hp.base,hp.aFH,hp.idx,.inl ⟨hj,by rw [hrho _ (zaF _)];omega,fun h6 => by rw [hrho _ (zaF _)] at h6;omega⟩⟩
 obtain ⟨n',k',B',j',c1,c2,c3,c4⟩:=aJ1 hs hp' (by rw [hrho _ (zaF _)];exact k2) hj hn (t:=t) (.inl ⟨by rw [hrho _ (zaF _)];exact k1,hat⟩)
 rw [hDn e _ _ (zaF _),aRM hk] at c2
 have mapD : ∀ l : List Nat,(∀ x ∈ l,x < n e) → l.map D' = l.map D:=fun l hl => List.map_congr_left fun x hx => (hag x (hl x hx)).symm
 have ltS : ∀ (f : Nat → Nat) (m c : Nat),m ≤ n e → (m = n e → c = 0) → ∀ x ∈ SL f m ++ List.replicate c m,x < n e:=fun f m c hm h0 x hx => by
  rcases List.mem_append.1 hx with hx | hx
  ·have:=aRP hx;omega
  ·have h3:=List.eq_of_mem_replicate hx
   rcases Nat.lt_or_ge m (n e) with h4 | h4
   ·omega
   ·have:=h0 (by omega)
    subst this
    cases hx
 have lt9e : ∀ x ∈ stK 9 (Dn p o D e (n e) (k e)),x < n e:=by
  rw [uK];exact ltS _ _ _ (zaF _) fun _ => k3
 have lt10e : ∀ x ∈ stK 10 (Dn p o D e (n e) (k e)),x < n e:=by
  rw [uK];exact ltS _ _ _ (zaF _) fun _ => k4
 have lt10o : ∀ x ∈ stK 10 (Dn p o D (!e) (n (!e)) (k (!e))),x < n e:=by
  rw [uK];exact ltS _ _ _ hno fun h3 => (hsame h3).1
 have lt9o : ∀ x ∈ stK 9 (Dn p o D (!e) (n (!e)) (k (!e))),x < n e:=by
  rw [uK]
  refine ltS _ _ _ hno fun h3 => ?_
  have h4 : cK p o D (!e) 9 (n (!e)) = 0:=by rw [hg9,h3];exact hf10
  have h5 : ((kin p o (!e) (rho p D (n (!e)))).take (k (!e))).count 9 ≤ cK p o D (!e) 9 (n (!e)):=(List.take_sublist _ _).count_le 9
  omega
 refine ⟨n',k',⟨two _ e ?_ ?_,two _ e ?_ ?_,two _ e ?_ ?_⟩,c2,hDn _ _ _ hno,c3,c4,hrho _ (zaF _),hno⟩
 ·rw [cL,cL,cL];exact ⟨B',j',c1⟩
 ·rw [bM,bM,bM]
  obtain ⟨B2,j2,h3⟩:=h.pr (!e)
  have h4:=hrho _ hno
  refine ⟨B2,j2,h3.blk,h3.hb,by rw [h4];exact h3.pc,h3.base,h3.aFH,h3.idx, ?_⟩
  rw [h4]
  rcases h3.here with ⟨a1,a2,a3⟩ | a1
  ·refine .inl ⟨a1,a2,fun a4 => ?_⟩
   rcases Nat.lt_or_ge (n (!e)) (n e) with h5 | h5
   ·have:=a3 a4
    unfold aMT at this ⊢
    rw [h4,← hag _ h5]
    exact this
   ·have:=(hsame (by omega)).2
    omega
  ·exact .inr a1
 ·rw [cL]
  intro m hm
  rw [hrho m (by omega)]
  rcases Nat.lt_or_ge m (n e) with h3 | h3
  ·exact h.nh e m h3
  ·obtain rfl : m = n e:=by omega
   omega
 ·rw [bM]
  intro m hm
  rw [hrho m (by omega)]
  exact h.nh _ m hm
 ·rw [cL,cL,bM,bM,cL,c2,hDn _ _ _ hno,mR,pP,if_pos hc,List.map_append,mapD _ lt9e,mapD _ lt10o,hq,List.append_assoc]
  show _ ++ (_ ++ [D' (n e)]) = _
  rw [hat]
 ·rw [bM,bM,bM,Bool.not_not,cL,cL,c2,hDn _ _ _ hno,mR,pP,if_neg (by rw [hc];omega),List.append_nil,mapD _ lt9o,mapD _ lt10e]
  have:=h.bq (!e)
  rwa [Bool.not_not] at this
end
end Go.Proofs.Ytooojfbfobmkfaa
namespace Go.Proofs.Ytooojfbfobmkfaa
open Go.Ra
set_option linter.unusedVariables false
set_option linter.unusedSimpArgs false
def eG (f : Req → Int) : List Req → Int
 | [] => 0
 | r :: l => f r + eG f l
theorem uM {f : Req → Int} {l r : List Req} : eG f (l ++ r) = eG f l + eG f r:=by
 induction l with
 | nil => simp [eG]
 | cons a l ih => simp only [List.cons_append,eG,ih];omega
theorem aMV {f : Req → Int} {a : Req} : ∀ {l : List Req} {k : Nat},k < l.length → eG f (l.set k a) = eG f l - f (ix l k) + f a
 | [],k,h => absurd h (Nat.not_lt_zero _)
 | r :: l,0,h => by
  show f a + eG f l = f r + eG f l - f r + f a
  omega
 | r :: l,k + 1,h => by
  show f r + eG f (l.set k a) = f r + eG f l - f (ix l k) + f a
  rw [aMV (Nat.lt_of_succ_lt_succ h)]
  omega
theorem a26 {f : Req → Int} (hf : ∀ r,0 ≤ f r) {l : List Req} : 0 ≤ eG f l:=by
 induction l with
 | nil => exact Int.le_refl _
 | cons a l ih => have:=hf a;simp only [eG];omega
def wgI (M : Int) (r : Req) : Int:=if r.left > 0 then r.left else M + 1
theorem aRQ {c : Cfg} {b : Int} {l : List Req} {k : Nat} {x : Int} (h : x ∈ eD c b l k) : xP c b (ix l x.toNat) = true:=by
 unfold eD at h
 obtain ⟨j,hj,rfl⟩:=List.mem_map.1 h
 have:=(List.mem_filter.1 hj).2
 simpa using this
theorem a27 {c : Cfg} {b : Int} {l : List Req} {k j : Nat} (hj : j < k) (h : xP c b (ix l j) = true) : ¬ (eD c b l k).length = 0:=by
 intro h0
 have h1 : ((j : Nat) : Int) ∈ eD c b l k:=by
  unfold eD
  exact List.mem_map.2 ⟨j,List.mem_filter.2 ⟨List.mem_range.2 hj,h⟩,rfl⟩
 rw [List.eq_nil_of_length_eq_zero h0] at h1
 cases h1
theorem aYV {c : Cfg} {s : bG} {x : Stt} {b : Int} (h : ¬ (eD c b x.table x.table.length).length = 0) : xP c b (ix x.table (l7 s x (eD c b x.table x.table.length))) = true:=by
 unfold l7
 split
 ·rename_i hm
  have:=aE3 s x.cF (n:=((eD c b x.table x.table.length).length : Int)) (by omega)
  exact aRQ (cH (by omega))
 ·exact aRQ (cH (by show (0 : Int).toNat < _;simp;omega))
theorem aHX {c : Cfg} {s : bG} {x : Stt} {b : Int} : (sM c s x b = x ∧ (x.table.any (vU c b) = true ∨ (eD c b x.table x.table.length).length = 0)) ∨ (x.table.any (vU c b) = false ∧ ∃ k pi,k < x.table.length ∧ xP c b (ix x.table k) = true ∧ sM c s x b = { x with cF:=pi,dN:=IntKind.i64.wrap (x.dN + 1),table:=x.table.set k { ix x.table k with left:=sK s x.dN c.lat } }):=by
 by_cases h1 : x.table.any (vU c b) = true
 ·exact .inl ⟨by unfold sM;rw [if_pos h1],.inl h1⟩
 ·by_cases h2 : (eD c b x.table x.table.length).length = 0
  ·exact .inl ⟨by unfold sM;rw [if_neg h1,if_pos h2],.inr h2⟩
  ·refine .inr ⟨by simpa using h1,l7 s x (eD c b x.table x.table.length),(if (eD c b x.table x.table.length).length > 1 then IntKind.i64.wrap (x.cF + 1) else x.cF),aMI (s:=s) h2,aYV h2, ?_⟩
   unfold sM
   rw [if_neg h1,if_neg h2]
def opn (t : Int) (l : List Slot) : Nat:=l.countP (xO t)
def aAX (t : Int) (q : Req) : Bool:=!q.store && (decide (q.reg < 0) && decide (q.tag = t))
def pnd (t : Int) (l : List Req) : Nat:=l.countP (aAX t)
theorem aMW {l : List Slot} {t w : Int} (t' : Int) : opn t' (fO l t w).1 ≤ opn t' l ∧ opn t (fO l t w).1 ≤ opn t l - 1:=by
 unfold fO
 split
 ·rename_i h
  refine ⟨zaF _, ?_⟩
  have : opn t l = 0:=by
   unfold opn
   rw [List.countP_eq_zero]
   intro z hz h2
   have h3 : l.any (xO t) = true:=List.any_eq_true.2 ⟨z,hz,h2⟩
   unfold mK at h
   rw [if_pos h3] at h
   omega
  show opn t l ≤ _
  omega
 ·rename_i h
  obtain ⟨b1,b2,b3⟩:=aE4 h
  have hp : xO t (ix l (mK (xO t) l).toNat) = true:=by
   unfold mK at h ⊢
   split
   ·rename_i h3
    rw [if_pos h3] at h
    rw [zaO]
    have h4:=List.findIdx_lt_length.2 (List.any_eq_true.1 h3)
    rw [fY h4]
    exact List.findIdx_getElem
   ·rename_i h3
    rw [if_neg h3] at h
    omega
  generalize (mK (xO t) l).toNat = i at b3 hp
  have key : ∀ t',opn t' (l.set i ⟨(ix l i).tag,true,w⟩) = opn t' l - (if xO t' (ix l i) then 1 else 0):=fun t' => by
   unfold opn
   rw [List.countP_set b3,fY b3]
   simp [xO]
  refine ⟨?_, ?_⟩
  ·rw [key];omega
  ·rw [key,hp];simp
theorem aBQ {l r : List Req} : fP (l ++ r) = fP l + fP r:=List.countP_append
theorem aFK {q : Req} {l : List Req} : fP (q :: l) = fP l + if q.store then 1 else 0:=List.countP_cons
theorem vK {t : Int} {l r : List Req} : pnd t (l ++ r) = pnd t l + pnd t r:=List.countP_append
theorem aMX {t : Int} {q : Req} {l : List Req} : pnd t (q :: l) = pnd t l + if aAX t q then 1 else 0:=List.countP_cons
structure FI (x : Stt) (M : Int) (z : Stt) (l : List Req) : Prop where
 same : z.aG = x.aG ∧ z.e = x.e ∧ z.sdq = x.sdq ∧ z.aeq = x.aeq ∧ z.abq = x.abq ∧ z.ebq = x.ebq ∧ z.bP = x.bP ∧ z.tags = x.tags ∧ z.a.pos = x.a.pos ∧ z.a.wait = x.a.wait ∧ z.a.halted = x.a.halted ∧ z.a.done = x.a.done ∧ z.ldq.length = x.ldq.length
 st : (z.saq = x.saq ∧ z.writes.length = x.writes.length ∧ fP l = fP x.table) ∨ (z.saq = x.saq.tail ∧ z.writes.length = x.writes.length + 1 ∧ fP x.table = fP l + 1)
 op : ∀ t,opn t z.ldq ≤ pnd t l
 pe : ∀ r : Nat,1 ≤ r → r ≤ 15 → z.a.ready r < 0 → ∃ q ∈ l,q.store = false ∧ q.reg = (r : Int)
 rd : ∀ r,z.a.ready r = x.a.ready r ∨ z.a.ready r = x.aG + 1
 lf : ∀ q ∈ l,0 ≤ q.left ∧ q.left ≤ M
theorem a28 {x : Stt} {M : Int} (hc : 0 ≤ x.aG ∧ x.aG ≤ 2000000000000) (h1 : fP x.table ≤ 1) {z : Stt} {acc rest : List Req} {r : Req} (h : FI x M z (acc ++ r :: rest)) :
  FI x M (sL (z,acc) r).1 ((sL (z,acc) r).2 ++ rest) ∧ eG (wgI M) ((sL (z,acc) r).2 ++ rest) ≤ eG (wgI M) (acc ++ r :: rest) ∧ (r.left > 0 → eG (wgI M) ((sL (z,acc) r).2 ++ rest) < eG (wgI M) (acc ++ r :: rest)):=by
 have hw : ∀ l : List Req,eG (wgI M) (r :: l) = wgI M r + eG (wgI M) l:=fun l => rfl
 unfold sL
 by_cases hl : r.left > 0
 case neg =>
  rw [if_neg hl]
  show FI x M z (acc ++ [r] ++ rest) ∧ eG (wgI M) (acc ++ [r] ++ rest) ≤ _ ∧ _
  rw [List.append_assoc,List.singleton_append]
  exact ⟨h,Int.le_refl _,fun h2 => absurd h2 hl⟩
 rw [if_pos hl]
 by_cases hl1 : r.left = 1
 case neg =>
  rw [if_neg hl1]
  show FI x M z (acc ++ [{ r with left:=r.left - 1 }] ++ rest) ∧ eG (wgI M) (acc ++ [{ r with left:=r.left - 1 }] ++ rest) ≤ _ ∧ _
  rw [List.append_assoc,List.singleton_append]
  have e1 : wgI M { r with left:=r.left - 1 } = wgI M r - 1:=by
   unfold wgI
   rw [if_pos hl,if_pos (by show r.left - 1 > 0;omega)]
  have e2 : eG (wgI M) (acc ++ { r with left:=r.left - 1 } :: rest) = eG (wgI M) (acc ++ r :: rest) - 1:=by
   rw [uM,uM,hw]
   show _ + (wgI M { r with left:=r.left - 1 } + _) = _
   rw [e1];omega
  refine ⟨⟨h.same, ?_,fun t => ?_,fun i hi hi2 hi3 => ?_,h.rd,fun q hq => ?_⟩,by omega,fun _ => by omega⟩
  ·have:=h.st
   rw [aBQ,aFK] at this ⊢
   exact this
  ·have:=h.op t
   rw [vK,aMX] at this ⊢
   exact this
  ·obtain ⟨q,hq,h2,h3⟩:=h.pe i hi hi2 hi3
   rcases List.mem_append.1 hq with hq | hq
   ·exact ⟨q,List.mem_append_left _ hq,h2,h3⟩
   ·rcases List.mem_cons.1 hq with rfl | hq
    ·exact ⟨{ q with left:=q.left - 1 },List.mem_append_right _ (List.mem_cons_self ..),h2,h3⟩
    ·exact ⟨q,List.mem_append_right _ (List.mem_cons_of_mem _ hq),h2,h3⟩
  ·rcases List.mem_append.1 hq with hq | hq
   ·exact h.lf q (List.mem_append_left _ hq)
   ·rcases List.mem_cons.1 hq with rfl | hq
    ·have:=h.lf r (List.mem_append_right _ (List.mem_cons_self ..))
     show 0 ≤ r.left - 1 ∧ r.left - 1 ≤ M
     omega
    ·exact h.lf q (List.mem_append_right _ (List.mem_cons_of_mem _ hq))
 rw [if_pos hl1]
 have e1 : wgI M r = 1:=by unfold wgI;rw [if_pos hl,hl1]
 have e2 : eG (wgI M) (acc ++ rest) = eG (wgI M) (acc ++ r :: rest) - 1:=by
  rw [uM,uM,hw,e1];omega
 have hsub : ∀ q,q ∈ acc ++ rest → q ∈ acc ++ r :: rest:=fun q hq => by
  rcases List.mem_append.1 hq with hq | hq
  ·exact List.mem_append_left _ hq
  ·exact List.mem_append_right _ (List.mem_cons_of_mem _ hq)
 have hrm : ∀ q,q ∈ acc ++ r :: rest → q ≠ r → q ∈ acc ++ rest:=fun q hq hne => by
  rcases List.mem_append.1 hq with hq | hq
  ·exact List.mem_append_left _ hq
  ·rcases List.mem_cons.1 hq with hq | hq
   ·exact absurd hq hne
   ·exact List.mem_append_right _ hq
 refine ⟨?_,by show eG (wgI M) (acc ++ rest) ≤ _;omega,fun _ => by show eG (wgI M) (acc ++ rest) < _;omega⟩
 show FI x M (kV z r) (acc ++ rest)
 have hst:=h.st
 have hop:=h.op
 have hcs : fP (acc ++ r :: rest) = fP (acc ++ rest) + if r.store then 1 else 0:=by rw [aBQ,aBQ,aFK];omega
 have hps : ∀ t,pnd t (acc ++ r :: rest) = pnd t (acc ++ rest) + if aAX t r then 1 else 0:=fun t => by rw [vK,vK,aMX];omega
 rw [hcs] at hst
 by_cases hs : r.store = true
 ·rw [aAH hs]
  rw [if_pos hs] at hst
  have hpz : ∀ t,aAX t r = false:=fun t => by unfold aAX;rw [hs];rfl
  refine ⟨h.same, ?_,fun t => ?_,fun i hi hi2 hi3 => ?_,h.rd,fun q hq => h.lf q (hsub q hq)⟩
  ·rcases hst with ⟨a1,a2,a3⟩ | ⟨a1,a2,a3⟩
   ·refine .inr ⟨by show z.saq.tail = _;rw [a1],by show (z.writes ++ [_]).length = _;rw [cD,a2],by omega⟩
   ·omega
  ·have:=hop t
   rw [hps,hpz] at this
   exact this
  ·obtain ⟨q,hq,h2,h3⟩:=h.pe i hi hi2 hi3
   exact ⟨q,hrm q hq fun e => (by rw [e,hs] at h2;cases h2),h2,h3⟩
 ·have hs : r.store = false:=by simpa using hs
  rw [hs] at hst
  simp only [zaU,if_false,Nat.add_zero] at hst
  by_cases g1 : r.reg < 0
  ·rw [uA hs g1]
   refine ⟨?_,hst,fun t => ?_,fun i hi hi2 hi3 => ?_,h.rd,fun q hq => h.lf q (hsub q hq)⟩
   ·have:=h.same
    exact ⟨this.1,this.2.1,this.2.2.1,this.2.2.2.1,this.2.2.2.2.1,this.2.2.2.2.2.1,this.2.2.2.2.2.2.1,this.2.2.2.2.2.2.2.1,this.2.2.2.2.2.2.2.2.1,this.2.2.2.2.2.2.2.2.2.1,this.2.2.2.2.2.2.2.2.2.2.1,this.2.2.2.2.2.2.2.2.2.2.2.1,by show (fO _ _ _).1.length = _;rw [uC];exact this.2.2.2.2.2.2.2.2.2.2.2.2⟩
   ·have h2:=hop t
    have h3:=aMW (l:=z.ldq) (t:=r.tag) (w:=ldF z r) t
    rw [hps] at h2
    show opn t (fO z.ldq r.tag (ldF z r)).1 ≤ _
    by_cases ht : r.tag = t
    ·subst ht
     have h4 : aAX r.tag r = true:=by unfold aAX;rw [hs];simp [g1]
     rw [if_pos h4] at h2
     omega
    ·have h4 : aAX t r = false:=by unfold aAX;rw [decide_eq_false ht];simp
     rw [h4] at h2
     simp only [zaU,if_false,Nat.add_zero] at h2
     omega
   ·obtain ⟨q,hq,h2,h3⟩:=h.pe i hi hi2 hi3
    exact ⟨q,hrm q hq fun e => (by rw [e] at h3;omega),h2,h3⟩
  ·have hpz : ∀ t,aAX t r = false:=fun t => by unfold aAX;rw [decide_eq_false g1];simp
   have hop2 : ∀ t,opn t z.ldq ≤ pnd t (acc ++ rest):=fun t => by
    have:=hop t
    rw [hps,hpz] at this
    exact this
   by_cases g2 : 1 ≤ r.reg ∧ r.reg ≤ 15
   ·rw [uB hs g2]
    have hcy : IntKind.i64.wrap (z.aG + 1) = x.aG + 1:=by rw [h.same.1];exact wrap_i64 (by omega) (by omega)
    refine ⟨h.same,hst,hop2,fun i hi hi2 hi3 => ?_,fun i => ?_,fun q hq => h.lf q (hsub q hq)⟩
    ·by_cases hi4 : i = r.reg.toNat
     ·exfalso
      have : (bif Nat.beq i r.reg.toNat then IntKind.i64.wrap (z.aG + 1) else z.a.ready i) < 0:=hi3
      rw [hi4,zaQ,zaB,hcy] at this
      omega
     ·have : (bif Nat.beq i r.reg.toNat then IntKind.i64.wrap (z.aG + 1) else z.a.ready i) < 0:=hi3
      rw [gT hi4,zaD] at this
      obtain ⟨q,hq,h2,h3⟩:=h.pe i hi hi2 this
      exact ⟨q,hrm q hq fun e => hi4 (by rw [e] at h3;omega),h2,h3⟩
    ·show (bif Nat.beq i r.reg.toNat then IntKind.i64.wrap (z.aG + 1) else z.a.ready i) = _ ∨ (bif Nat.beq i r.reg.toNat then IntKind.i64.wrap (z.aG + 1) else z.a.ready i) = _
     cases Nat.beq i r.reg.toNat
     ·exact h.rd i
     ·exact .inr hcy
   ·rw [aAI hs g1 g2]
    refine ⟨h.same,hst,hop2,fun i hi hi2 hi3 => ?_,h.rd,fun q hq => h.lf q (hsub q hq)⟩
    obtain ⟨q,hq,h2,h3⟩:=h.pe i hi hi2 hi3
    exact ⟨q,hrm q hq fun e => (by rw [e] at h3;omega),h2,h3⟩
theorem aYW {x : Stt} {M : Int} (hc : 0 ≤ x.aG ∧ x.aG ≤ 2000000000000) (h1 : fP x.table ≤ 1) : ∀ {rest acc : List Req} {z : Stt},FI x M z (acc ++ rest) →
  FI x M (oZ rest (z,acc)).1 (oZ rest (z,acc)).2 ∧ eG (wgI M) (oZ rest (z,acc)).2 ≤ eG (wgI M) (acc ++ rest) ∧ ((∃ r ∈ rest,r.left > 0) → eG (wgI M) (oZ rest (z,acc)).2 < eG (wgI M) (acc ++ rest)) ∧ ((∀ r ∈ rest,¬ r.left > 0) → oZ rest (z,acc) = (z,acc ++ rest))
 | [],acc,z,h => by
  rw [List.append_nil] at h ⊢
  exact ⟨h,Int.le_refl _,fun ⟨r,hr,_⟩ => (by cases hr),fun _ => rfl⟩
 | r :: rest,acc,z,h => by
  obtain ⟨a1,a2,a3⟩:=a28 hc h1 h
  have e : oZ (r :: rest) (z,acc) = oZ rest ((sL (z,acc) r).1,(sL (z,acc) r).2):=rfl
  obtain ⟨b1,b2,b3,b4⟩:=aYW hc h1 a1
  rw [e]
  refine ⟨b1,by omega,fun ⟨q,hq,hq2⟩ => ?_,fun hn => ?_⟩
  ·rcases List.mem_cons.1 hq with rfl | hq
   ·have:=a3 hq2;omega
   ·have:=b3 ⟨q,hq,hq2⟩;omega
  ·have h5 : sL (z,acc) r = (z,acc ++ [r]):=by unfold sL;rw [if_neg (hn r (List.mem_cons_self ..))]
   rw [b4 fun q hq => hn q (List.mem_cons_of_mem _ hq),h5]
   simp
structure Adv (M : Int) (x y : Stt) : Prop extends FI x M y y.table where
 ph : eG (wgI M) y.table ≤ eG (wgI M) x.table
 dn : ¬ x.table = [] → eG (wgI M) y.table < eG (wgI M) x.table
 no : x.table = [] → y = x
theorem a29 {l l' : List Req} (h : l'.map (fun q : Req => (q.store,q.reg,q.tag)) = l.map fun q : Req => (q.store,q.reg,q.tag)) : (∀ t,pnd t l' = pnd t l) ∧ fP l' = fP l ∧ ∀ r : Nat,(∃ q ∈ l,q.store = false ∧ q.reg = (r : Int)) → ∃ q ∈ l',q.store = false ∧ q.reg = (r : Int):=by
 refine ⟨fun t => ?_, ?_,fun r ⟨q,hq,h1,h2⟩ => ?_⟩
 ·have e : ∀ l : List Req,pnd t l = (l.map fun q : Req => (q.store,q.reg,q.tag)).countP (fun k => !k.1 && (decide (k.2.1 < 0) && decide (k.2.2 = t))):=fun l => by
   rw [List.countP_map];rfl
  rw [e,e,h]
 ·have e : ∀ l : List Req,fP l = (l.map fun q : Req => (q.store,q.reg,q.tag)).countP (fun k => k.1):=fun l => by
   rw [List.countP_map];rfl
  rw [e,e,h]
 ·have h3 : (q.store,q.reg,q.tag) ∈ l'.map fun q : Req => (q.store,q.reg,q.tag):=by rw [h];exact List.mem_map.2 ⟨q,hq,rfl⟩
  obtain ⟨q',hq',h4⟩:=List.mem_map.1 h3
  simp only [zaJ] at h4
  exact ⟨q',hq',by rw [h4.1];exact h1,by rw [h4.2.1];exact h2⟩
theorem a3A {l : List Req} {k : Nat} (h : k < l.length) (v : Int) : (l.set k { ix l k with left:=v }).map (fun q : Req => (q.store,q.reg,q.tag)) = l.map fun q : Req => (q.store,q.reg,q.tag):=by
 rw [List.map_set]
 refine List.ext_getElem (by simp) fun i h1 h2 => ?_
 rw [List.getElem_set]
 split
 ·rename_i h3
  subst h3
  simp [fY h]
 ·rfl
theorem a3B {a n : Int} (h : 1 ≤ n) : 0 ≤ aBO a n ∧ aBO a n < n:=by
 unfold aBO
 split
 ·omega
 ·have:=Int.emod_nonneg (a / 4) (show n ≠ 0 by omega)
  have:=Int.emod_lt_of_pos (a / 4) (show 0 < n by omega)
  omega
theorem a8S {c : Cfg} {t : bG} {y : Stt} {b : Int} (hlat : 1 ≤ c.lat) (hl : ∀ q ∈ y.table,0 ≤ q.left ∧ q.left ≤ c.lat) : (sM c t y b).table.map (fun q : Req => (q.store,q.reg,q.tag)) = y.table.map (fun q : Req => (q.store,q.reg,q.tag)) ∧ (∀ q ∈ (sM c t y b).table,0 ≤ q.left ∧ q.left ≤ c.lat) ∧
  ((sM c t y b = y ∧ ((∀ q ∈ y.table,q.left = 0) → ∀ q ∈ y.table,¬ aBO q.addr c.dA = b)) ∨ eG (wgI c.lat) (sM c t y b).table < eG (wgI c.lat) y.table):=by
 rcases aHX (c:=c) (s:=t) (x:=y) (b:=b) with ⟨h1,h2⟩ | ⟨_,k,pi,hk,hw,h1⟩
 ·rw [h1]
  refine ⟨rfl,hl,.inl ⟨rfl,fun h3 q hq hb => ?_⟩⟩
  rcases h2 with h2 | h2
  ·obtain ⟨z,hz,hz2⟩:=List.any_eq_true.1 h2
   simp only [vU,zaG,zaK] at hz2
   have:=h3 z hz
   omega
  ·obtain ⟨i,hi,rfl⟩:=xS hq
   refine a27 hi ?_ h2
   simp only [xP,zaG,zaK]
   exact ⟨hb,h3 _ hq⟩
 ·have hr:=a1C t y.dN hlat
  simp only [xP,zaG,zaK] at hw
  rw [h1]
  refine ⟨a3A hk _,fun q hq => ?_,.inr ?_⟩
  ·rcases List.mem_or_eq_of_mem_set hq with hq | rfl
   ·exact hl q hq
   ·show 0 ≤ sK t y.dN c.lat ∧ _
    exact ⟨by omega,hr.2⟩
  ·show eG (wgI c.lat) (y.table.set k _) < _
   rw [aMV hk]
   have e1 : wgI c.lat (ix y.table k) = c.lat + 1:=by unfold wgI;rw [if_neg (by omega)]
   have e2 : wgI c.lat { ix y.table k with left:=sK t y.dN c.lat } = sK t y.dN c.lat:=by unfold wgI;rw [if_pos (by show sK t y.dN c.lat > 0;omega)]
   rw [e1,e2];omega
theorem aYX {c : Cfg} {t : bG} {y : Stt} (hlat : 1 ≤ c.lat) (hl : ∀ q ∈ y.table,0 ≤ q.left ∧ q.left ≤ c.lat) : ∀ k : Nat,(bgK c t y k).table.map (fun q : Req => (q.store,q.reg,q.tag)) = y.table.map (fun q : Req => (q.store,q.reg,q.tag)) ∧ (∀ q ∈ (bgK c t y k).table,0 ≤ q.left ∧ q.left ≤ c.lat) ∧
  ((bgK c t y k = y ∧ ((∀ q ∈ y.table,q.left = 0) → ∀ q ∈ y.table,(k : Int) ≤ aBO q.addr c.dA ∨ aBO q.addr c.dA < 0)) ∨ eG (wgI c.lat) (bgK c t y k).table < eG (wgI c.lat) y.table)
 | 0 => ⟨rfl,hl,.inl ⟨rfl,fun _ q _ => by omega⟩⟩
 | k + 1 => by
  obtain ⟨a1,a2,a3⟩:=aYX (t:=t) hlat hl k
  obtain ⟨b1,b2,b3⟩:=a8S (t:=t) (b:=(k : Int)) hlat a2
  have e : bgK c t y (k + 1) = sM c t (bgK c t y k) (k : Int):=rfl
  rw [e]
  refine ⟨b1.trans a1,b2, ?_⟩
  rcases a3 with ⟨a3,a4⟩ | a3
  ·rw [a3] at b3 ⊢
   rcases b3 with ⟨b3,b4⟩ | b3
   ·refine .inl ⟨b3,fun h q hq => ?_⟩
    have h1:=a4 h q hq
    have h2:=b4 h q hq
    omega
   ·exact .inr b3
  ·rcases b3 with ⟨b3,_⟩ | b3
   ·rw [b3];exact .inr a3
   ·exact .inr (by omega)
theorem a8T {c : Cfg} {t : bG} {x : Stt} (hb : 1 ≤ c.dA ∧ c.dA ≤ 16) (hm : 1 ≤ c.lat ∧ c.lat ≤ 1000) (hc : 0 ≤ x.aG ∧ x.aG ≤ 2000000000000) (h1 : fP x.table ≤ 1) (hop : ∀ t,opn t x.ldq ≤ pnd t x.table)
  (hpe : ∀ r : Nat,1 ≤ r → r ≤ 15 → x.a.ready r < 0 → ∃ q ∈ x.table,q.store = false ∧ q.reg = (r : Int)) (hlf : ∀ q ∈ x.table,0 ≤ q.left ∧ q.left ≤ c.lat) (hw : x.wf) : Adv c.lat x (mA c t x):=by
 have e0 : mA c t x = bgK c t (eZ x) c.dA.toNat:=by unfold mA;rw [if_pos ⟨hb.1,hb.2,hm.1,hm.2⟩]
 have h0 : FI x c.lat x ([] ++ x.table):=⟨⟨rfl,rfl,rfl,rfl,rfl,rfl,rfl,rfl,rfl,rfl,rfl,rfl,rfl⟩,.inl ⟨rfl,rfl,rfl⟩,hop,hpe,fun _ => .inl rfl,hlf⟩
 obtain ⟨f1,f2,f3,f4⟩:=aYW hc h1 h0
 rw [List.nil_append] at f2 f3 f4
 have f1 : FI x c.lat (eZ x) (eZ x).table:=⟨f1.same,f1.st,f1.op,f1.pe,f1.rd,f1.lf⟩
 have f2 : eG (wgI c.lat) (eZ x).table ≤ eG (wgI c.lat) x.table:=f2
 have f3 : (∃ r ∈ x.table,r.left > 0) → eG (wgI c.lat) (eZ x).table < eG (wgI c.lat) x.table:=f3
 have f5 : (∀ r ∈ x.table,¬ r.left > 0) → eZ x = x:=fun h => by
  unfold eZ;rw [f4 h]
 obtain ⟨g1,g2,g3⟩:=aYX (t:=t) (y:=eZ x) hm.1 f1.lf c.dA.toNat
 have hbi : aGH (eZ x) (bgK c t (eZ x) c.dA.toNat) ∨ True:=.inr trivial
 have hsame : ∀ k : Nat,(bgK c t (eZ x) k).aG = (eZ x).aG ∧ (bgK c t (eZ x) k).a = (eZ x).a ∧ (bgK c t (eZ x) k).e = (eZ x).e ∧ (bgK c t (eZ x) k).ldq = (eZ x).ldq ∧ (bgK c t (eZ x) k).sdq = (eZ x).sdq ∧ (bgK c t (eZ x) k).aeq = (eZ x).aeq ∧ (bgK c t (eZ x) k).abq = (eZ x).abq ∧ (bgK c t (eZ x) k).ebq = (eZ x).ebq ∧ (bgK c t (eZ x) k).saq = (eZ x).saq ∧ (bgK c t (eZ x) k).writes = (eZ x).writes ∧ (bgK c t (eZ x) k).bP = (eZ x).bP ∧ (bgK c t (eZ x) k).tags = (eZ x).tags:=by
  intro k
  induction k with
  | zero => exact ⟨rfl,rfl,rfl,rfl,rfl,rfl,rfl,rfl,rfl,rfl,rfl,rfl⟩
  | succ k ih =>
   have e : bgK c t (eZ x) (k + 1) = sM c t (bgK c t (eZ x) k) (k : Int):=rfl
   rw [e]
   rcases aHX (c:=c) (s:=t) (x:=bgK c t (eZ x) k) (b:=(k : Int)) with ⟨h1,_⟩ | ⟨_,k2,pi,hk,hw,h1⟩
   ·rw [h1];exact ih
   ·rw [h1];exact ih
 obtain ⟨s1,s2,s3,s4,s5,s6,s7,s8,s9,s10,s11,s12⟩:=hsame c.dA.toNat
 obtain ⟨k1,k2,k3⟩:=a29 g1
 rw [e0]
 have fs:=f1.same
 refine ⟨⟨?_, ?_,fun t' => ?_,fun r hr hr2 hr3 => ?_,fun r => ?_,g2⟩, ?_,fun hne => ?_,fun hz => ?_⟩
 ·rw [s1,s2,s3,s4,s5,s6,s7,s8,s11,s12];exact fs
 ·rw [s9,s10,k2];exact f1.st
 ·rw [s4,k1];exact f1.op t'
 ·rw [s2] at hr3
  exact k3 r (f1.pe r hr hr2 hr3)
 ·rw [s2];exact f1.rd r
 ·rcases g3 with ⟨g3,_⟩ | g3
  ·rw [g3];exact f2
  ·omega
 ·rcases g3 with ⟨g3,g4⟩ | g3
  ·by_cases hp : ∃ r ∈ x.table,r.left > 0
   ·rw [g3];exact f3 hp
   ·exfalso
    have hp2 : ∀ r ∈ x.table,¬ r.left > 0:=fun r hr h => hp ⟨r,hr,h⟩
    have e1:=f5 hp2
    rw [e1] at g4
    obtain ⟨q,hq⟩:=List.exists_mem_of_ne_nil _ hne
    have h2:=g4 (fun r hr => by have:=hp2 r hr;have:=hlf r hr;omega) q hq
    have h3:=a3B (a:=q.addr) hb.1
    omega
  ·omega
 ·have e1:=f5 (by rw [hz];intro r hr;cases hr)
  rcases g3 with ⟨g3,_⟩ | g3
  ·rw [g3,e1]
  ·exfalso
   rw [e1,hz] at g3
   have : (bgK c t x c.dA.toNat).table = []:=by
    rw [e1,hz] at g1
    simpa using g1
   rw [this] at g3
   omega
end Go.Proofs.Ytooojfbfobmkfaa
namespace Go.Proofs.Ytooojfbfobmkfaa
open Go.Ra
set_option linter.unusedVariables false
set_option linter.unusedSimpArgs false
def gX (x : Stt) : Bool → Pos
 | true => x.e.pos
 | false => x.a.pos
def bqB (x : Stt) : Bool → List Bool
 | true => x.ebq
 | false => x.abq
def jK (x : Stt) : Bool → Bool
 | true => x.e.halted
 | false => x.a.halted
def knS (l : List Entry) : Nat:=if 0 < l.length ∧ (ix l 0).known = true then 1 else 0
structure Cnt (c : Cfg) (hA hE : List (Nat × Cell)) (x : Stt) : Prop where
 aq : kc 5 hA = kc 6 hE + x.aeq.length
 lq : kc 3 hA = kc 7 hE + x.ldq.length
 sq : ∃ pre : List Int,(stK 4 hA).map (fun m : Nat => (m : Int)) = pre ++ x.saq.map Entry.step ∧ pre.length = x.writes.length
 dq : kc 8 hE = x.writes.length + knS x.saq + x.sdq.length
 op : ∀ t,opn t x.ldq ≤ pnd t x.table
 pe : ∀ r : Nat,1 ≤ r → r ≤ 15 → x.a.ready r < 0 → ∃ q ∈ x.table,q.store = false ∧ q.reg = (r : Int)
 rde : ∀ r : Nat,1 ≤ r → r ≤ 15 → 0 ≤ x.e.ready r
 lf : ∀ q ∈ x.table,0 ≤ q.left ∧ q.left ≤ c.lat
structure Inv (c : Cfg) (p : Prog) (o : Nat → Int) (D : Nat → Bool) (n k : Bool → Nat) (x : Stt) : Prop where
 ctl : Ctl p o D n k (gX x) (bqB x)
 hal : ∀ e,jK x e = true → aI (ix p.code (rho p D (n e))).op = 8
 cnt : Cnt c (Dn p o D false (n false) (k false)) (Dn p o D true (n true) (k true)) x
theorem uN {c : Cfg} {s : Split} {x : Stt} (h : aY c s x = true) : fP x.table = knS x.saq ∧ (∀ i,0 < i → i < x.saq.length → (ix x.saq i).known = false) ∧ (0 ≤ x.aG ∧ x.aG ≤ 1099511627776) ∧ (0 ≤ x.a.done ∧ x.a.done ≤ 1099511627776) ∧ (0 ≤ x.e.done ∧ x.e.done ≤ 1099511627776) ∧ (∀ r,r < 16 → -1 ≤ x.a.ready r):=by
 simp only [aY,zaG] at h
 obtain ⟨_,ha,he,hn,_,hs,_⟩:=h
 simp only [rM,zaG] at hs
 obtain ⟨h1,_,h2⟩:=hs
 simp only [aQ6,zaG,zaK] at h2
 refine ⟨?_,fun i hi hl => ?_, ?_, ?_, ?_,fun r hr => ?_⟩
 ·rw [h2.2];rfl
 ·have:=dS.1 h1 i hl
  simp only [aAK,zaG,Bool.not_eq_true'] at this
  have h3:=this.2.2
  rw [zaW] at h3
  rcases h3 with h3 | h3
  ·exact h3
  ·rw [zaP] at h3;omega
 ·simp only [cE,List.all_cons,zaG,zaK] at hn
  exact hn.1
 ·simp only [iT,cE,List.all_cons,zaG,zaK] at ha
  omega
 ·simp only [iT,cE,List.all_cons,zaG,zaK] at he
  omega
 ·simp only [iT,zaG] at ha
  have h3:=ha.2.2.2
  unfold cE at h3
  rw [List.all_eq_true] at h3
  have h4:=h3 (x.a.ready r) (by rw [← pC (n:=16) (f:=x.a.ready) hr];exact cH (by rw [bH];exact hr))
  simp only [zaK] at h4
  exact h4.1
theorem aYY {l : List Entry} (h : ∀ i,0 < i → i < l.length → (ix l i).known = false) : knS l.tail = 0:=by
 unfold knS
 rw [if_neg]
 rintro ⟨h1,h2⟩
 rw [List.length_tail] at h1
 rw [aC0,h 1 (by omega) (by omega)] at h2
 cases h2
section
variable {c : Cfg} {p : Prog} {o : Nat → Int} {D : Nat → Bool} {n k : Bool → Nat} {s : Split}
theorem Inv.adv {x y : Stt} (h : Inv c p o D n k x) (hr : aY c s x = true) (ha : Adv c.lat x y) : Inv c p o D n k y:=by
 obtain ⟨s1,s2,s3,s4,s5,s6,s7,s8,s9,s10,s11,s12,s13⟩:=ha.same
 obtain ⟨r1,r2,_⟩:=uN hr
 have hp : gX y = gX x:=by funext e;cases e;exact s9;show y.e.pos = _;rw [s2];rfl
 have hb : bqB y = bqB x:=by funext e;cases e;exact s5;exact s6
 have hh : jK y = jK x:=by funext e;cases e;exact s11;show y.e.halted = _;rw [s2];rfl
 refine ⟨by rw [hp,hb];exact h.ctl,by rw [hh];exact h.hal, ?_⟩
 obtain ⟨q1,q2,⟨pre,q3,q3'⟩,q4,q5,q6,q7,q8⟩:=h.cnt
 refine ⟨by rw [s4];exact q1,by rw [s13];exact q2, ?_, ?_,ha.op,ha.pe,by rw [s2];exact q7,ha.lf⟩
 ·rcases ha.st with ⟨a1,a2,_⟩ | ⟨a1,a2,a3⟩
  ·exact ⟨pre,by rw [a1];exact q3,by rw [a2];exact q3'⟩
  ·cases hq : x.saq with
   | nil =>
    exfalso
    rw [hq] at r1
    have : knS ([] : List Entry) = 0:=by unfold knS;simp
    omega
   | cons e l =>
    refine ⟨pre ++ [e.step], ?_,by rw [List.length_append,a2,q3'];rfl⟩
    rw [a1,hq,q3,hq]
    simp
 ·rcases ha.st with ⟨a1,a2,_⟩ | ⟨a1,a2,a3⟩
  ·rw [a1,a2,s3];exact q4
  ·have h1 : knS x.saq = 1:=by
    have : knS x.saq ≤ 1:=by unfold knS;split <;> omega
    omega
   rw [a1,a2,s3,aYY r2]
   omega
theorem Inv.send {x : Stt} (h : Inv c p o D n k x) (hlat : 1 ≤ c.lat) : Inv c p o D n k (gS c x):=by
 unfold gS
 split
 ·rename_i hu
  simp only [nR,zaG,zaK] at hu
  obtain ⟨u1,u2,u3,_⟩:=hu
  have l8 : 0 < x.saq.length:=List.length_pos_iff.2 u1
  have l4 : 0 < x.sdq.length:=List.length_pos_iff.2 u3
  refine ⟨?_, ?_, ?_⟩
  ·have hp : gX (jI x) = gX x:=by funext e;cases e <;> rfl
   have hb : bqB (jI x) = bqB x:=by funext e;cases e <;> rfl
   rw [hp,hb];exact h.ctl
  ·have hh : jK (jI x) = jK x:=by funext e;cases e <;> rfl
   rw [hh];exact h.hal
  ·obtain ⟨q1,q2,⟨pre,q3,q3'⟩,q4,q5,q6,q7,q8⟩:=h.cnt
   have t8 : (jI x).saq.map Entry.step = x.saq.map Entry.step:=by
    show (x.saq.set 0 _).map Entry.step = _
    rw [List.map_set]
    refine List.ext_getElem (by simp) fun i h1 h2 => ?_
    rw [List.getElem_set]
    split
    ·rename_i h3
     subst h3
     simp [fY l8]
    ·rfl
   refine ⟨q1,q2,⟨pre,by rw [t8];exact q3,q3'⟩, ?_,fun t => ?_,fun r hr hr2 hr3 => ?_,q7,fun q hq => ?_⟩
   ·have e1 : knS x.saq = 0:=by
     unfold knS;rw [if_neg]
     rintro ⟨_,h1⟩
     rw [h1] at u2;cases u2
    have e2 : knS (jI x).saq = 1:=by
     unfold knS
     rw [if_pos]
     refine ⟨by show 0 < (x.saq.set 0 _).length;rw [List.length_set];exact l8, ?_⟩
     show (ix (x.saq.set 0 _) 0).known = true
     rw [aBI,if_pos ⟨rfl,l8⟩]
    have e3 : (jI x).sdq.length = x.sdq.length - 1:=by simp [jI]
    rw [e2,e3]
    show _ = x.writes.length + 1 + _
    omega
   ·show opn t x.ldq ≤ pnd t (x.table ++ [_])
    rw [vK]
    have:=q5 t
    omega
   ·obtain ⟨q,hq,h1⟩:=q6 r hr hr2 hr3
    exact ⟨q,List.mem_append_left _ hq,h1⟩
   ·rcases List.mem_append.1 hq with hq | hq
    ·exact q8 q hq
    ·obtain rfl:=List.mem_singleton.1 hq
     show 0 ≤ (0 : Int) ∧ (0 : Int) ≤ c.lat
     omega
 ·exact h
variable (hs : Spl p o s)
include hs
theorem aYZ {e : Bool} {r : Pos × Bool} {m i b j : Nat} (h : Stl p o D e r m i b j) : aT s e r.1 = r:=by
 obtain ⟨h1,h2⟩:=h
 have hr:=hs.rp
 have hb:=h1.hb
 have hnb:=hs.nb
 unfold aT
 rw [aAM,h1.blk,if_neg (by omega)]
 rcases h2 with ⟨hf,hk,hj⟩ | ⟨hf,hk,hk0,hj,hl⟩
 ·rw [h1.pc] at hk
  rw [if_pos (by rw [h1.idx];have:=(hs.aFE hb e hj hk).1;omega),← hf]
 ·have h3 : dL p b - cV p b = j:=by omega
  rw [if_neg (by rw [h1.idx,hs.vH hb,h3,hk0];omega)]
  have hops : ¬ (ix p.code (dL p b - 1)).op = 40 ∧ ¬ (ix p.code (dL p b - 1)).op = 41:=by
   rcases h1.here with h4 | h4
   ·omega
   ·exact h4.2.2
  rw [if_pos (.inl (by rw [zaO,hs.blk hb];show r5 p (aM p) b < 0;rw [aRJ hr hb hops.1 hops.2,if_neg (by omega)];omega)),← hf]
end
end Go.Proofs.Ytooojfbfobmkfaa
namespace Go.Proofs.Ytooojfbfobmkfaa
open Go.Ra
set_option linter.unusedVariables false
set_option linter.unusedSimpArgs false
section
variable {c : Cfg} {p : Prog} {o : Nat → Int} {s : Split} (hs : Spl p o s) {D : Nat → Bool} {n k : Bool → Nat} {x y : Stt}
def more (p : Prog) (o : Nat → Int) (D : Nat → Bool) (n k : Bool → Nat) (e : Bool) : Bool → List (Nat × Cell):=cW (fun e' => Dn p o D e' (n e') (k e')) e (Dn p o D e (n e) (k e) ++ [(n e,ix (cel p o e (rho p D (n e))) (k e))])
include hs
theorem Inv.on (h : Inv c p o D n k x) (e : Bool) {B j : Nat} (hp : PR p o D e (gX x e) (n e) (k e) B j) (hk : k e < (cel p o e (rho p D (n e))).length) (hj : cV p B + j < dL p B) (hc : (ix (cel p o e (rho p D (n e))) (k e)).kind ≤ 8)
  (h1 : gX y = cW (gX x) e { gX x e with index:=IntKind.i64.wrap ((gX x e).index + 1) }) (h2 : bqB y = bqB x) (h3 : jK y = jK x) (h4 : Cnt c (more p o D n k e false) (more p o D n k e true) y) : Inv c p o D n (cW k e (k e + 1)) y:=by
 obtain ⟨a1,a2⟩:=h.ctl.on hs e hp hk hj hc
 refine ⟨by rw [h1,h2];exact a1,by rw [h3];exact h.hal, ?_⟩
 unfold more at h4
 rw [← a2] at h4
 cases e
 ·exact h4
 ·exact h4
theorem Inv.con (h : Inv c p o D n k x) (e : Bool) {D' : Nat → Bool} {m i : Nat} (a1 : Ctl p o D' (cW n e m) (cW k e i) (gX y) (bqB y)) (a2 : Dn p o D' e m i = Dn p o D e (n e) (k e) ++ [(n e,ix (cel p o e (rho p D (n e))) (k e))]) (a3 : Dn p o D' (!e) (n (!e)) (k (!e)) = Dn p o D (!e) (n (!e)) (k (!e))) (a4 : rho p D' (n (!e)) = rho p D (n (!e)))
  (h3 : jK y = jK x) (h5 : jK x e = false) (h4 : Cnt c (more p o D n k e false) (more p o D n k e true) y) : Inv c p o D' (cW n e m) (cW k e i) y:=by
 have _:=hs
 refine ⟨a1, ?_, ?_⟩
 ·rw [h3]
  refine two _ e ?_ ?_
  ·intro h6;rw [h5] at h6;cases h6
  ·intro h6
   rw [bM,a4]
   exact h.hal _ h6
 ·unfold more at h4
  rw [← a2] at h4
  cases e
  ·have : Dn p o D' true (n true) (k true) = Dn p o D true (n true) (k true):=a3
   show Cnt c (Dn p o D' false m i) (Dn p o D' true (n true) (k true)) y
   rw [this];exact h4
  ·have : Dn p o D' false (n false) (k false) = Dn p o D false (n false) (k false):=a3
   show Cnt c (Dn p o D' false (n false) (k false)) (Dn p o D' true m i) y
   rw [this];exact h4
theorem Inv.jump (h : Inv c p o D n k x) (e : Bool) {B j : Nat} (hp : PR p o D e (gX x e) (n e) (k e) B j) (hk : k e < (cel p o e (rho p D (n e))).length) (hj : cV p B + j < dL p B) (hn : n e ≤ 1152921504606846976) (hc : (ix (cel p o e (rho p D (n e))) (k e)).kind = 11)
  (h1 : gX y = cW (gX x) e (goF s (gX x e) true)) (h2 : bqB y = bqB x) (h3 : jK y = jK x) (h5 : jK x e = false) (h4 : Cnt c (more p o D n k e false) (more p o D n k e true) y) : ∃ m i,m ≤ n e + 1 ∧ Inv c p o D (cW n e m) (cW k e i) y:=by
 obtain ⟨m,i,a1,a2,_,a3⟩:=h.ctl.jump hs e hp hk hj hn hc
 exact ⟨m,i,a3,h.con hs e (by rw [h1,h2];exact a1) a2 rfl rfl h3 h5 h4⟩
theorem Inv.follow (h : Inv c p o D n k x) (e : Bool) {B j : Nat} (hp : PR p o D e (gX x e) (n e) (k e) B j) (hk : k e < (cel p o e (rho p D (n e))).length) (hj : cV p B + j < dL p B) (hn : n e ≤ 1152921504606846976) (hc : (ix (cel p o e (rho p D (n e))) (k e)).kind = 10) {t : Bool} {r : List Bool} (hb : bqB x (!e) = t :: r)
  (h1 : gX y = cW (gX x) e (goF s (gX x e) t)) (h2 : bqB y = cW (bqB x) (!e) r) (h3 : jK y = jK x) (h5 : jK x e = false) (h4 : Cnt c (more p o D n k e false) (more p o D n k e true) y) : ∃ m i,m ≤ n e + 1 ∧ Inv c p o D (cW n e m) (cW k e i) y:=by
 obtain ⟨_,m,i,a1,a2,_,a3⟩:=h.ctl.follow hs e hp hk hj hn hc hb
 exact ⟨m,i,a3,h.con hs e (by rw [h1,h2];exact a1) a2 rfl rfl h3 h5 h4⟩
theorem Inv.branch (h : Inv c p o D n k x) (e : Bool) {B j : Nat} (hp : PR p o D e (gX x e) (n e) (k e) B j) (hk : k e < (cel p o e (rho p D (n e))).length) (hj : cV p B + j < dL p B) (hn : n e ≤ 1152921504606846976) (hc : (ix (cel p o e (rho p D (n e))) (k e)).kind = 9) (t : Bool)
  (h1 : gX y = cW (gX x) e (goF s (gX x e) t)) (h2 : bqB y = cW (bqB x) e (bqB x e ++ [t])) (h3 : jK y = jK x) (h5 : jK x e = false) (h4 : Cnt c (more p o D n k e false) (more p o D n k e true) y) : ∃ D' m i,m ≤ n e + 1 ∧ Inv c p o D' (cW n e m) (cW k e i) y:=by
 obtain ⟨m,i,a1,a2,a3,_,a4,_,a5⟩:=h.ctl.branch hs e hp hk hj hn hc t rfl
 refine ⟨_,m,i,a4,h.con hs e (by rw [h1,h2];exact a1) a2 a3 (aO5 fun j hj => ?_) h3 h5 h4⟩
 show (bif j == n e then t else D j) = D j
 rw [show (j == n e) = false by simp;omega];rfl
theorem Inv.halt (h : Inv c p o D n k x) (e : Bool) (hk : k e < (cel p o e (rho p D (n e))).length) (hi : rho p D (n e) < p.code.length) (hc : (ix (cel p o e (rho p D (n e))) (k e)).kind = 12)
  (h1 : gX y = gX x) (h2 : bqB y = bqB x) (h3 : jK y = cW (jK x) e true) (h4 : Cnt c (Dn p o D false (n false) (k false)) (Dn p o D true (n true) (k true)) y) : Inv c p o D n k y:=by
 refine ⟨by rw [h1,h2];exact h.ctl, ?_,h4⟩
 rw [h3]
 refine two _ e ?_ ?_
 ·intro _
  have hka:=vJ (o:=o) (e:=e) hs.rp hi (by rw [eX];exact hk)
  exact hka.2.2.1 (by rw [← uL hk];exact hc)
 ·rw [bM];exact h.hal _
end
theorem eB (d : cM) (n w r : Int) : (dE d n w r).pos = d.pos ∧ (dE d n w r).halted = d.halted ∧ (dE d n w r).wait = d.wait ∧ (dE d n w r).done = d.done:=by
 unfold dE;split <;> exact ⟨rfl,rfl,rfl,rfl⟩
theorem uO {d : cM} {n w r : Int} (i : Nat) : (dE d n w r).ready i = d.ready i ∨ (dE d n w r).ready i = r:=by
 unfold dE
 split
 ·show (bif Nat.beq i n.toNat then r else d.ready i) = _ ∨ (bif Nat.beq i n.toNat then r else d.ready i) = _
  cases Nat.beq i n.toNat
  ·exact .inl rfl
  ·exact .inr rfl
 ·exact .inl rfl
theorem vL (c : Cfg) (op : Int) : 1 ≤ aAP c op ∧ aAP c op ≤ 50:=by
 unfold aAP
 repeat' split
 all_goals omega
section
variable {c : Cfg} {p : Prog} {o : Nat → Int} {s : Split} (hs : Spl p o s) {D : Nat → Bool} {n k : Bool → Nat} {x : Stt}
theorem Inv.note (h : Inv c p o D n k x) (kd st pc : Int) : Inv c p o D n k (eO x kd st pc):=by
 unfold eO
 split
 ·have hp : gX { x with bP:=⟨kd,st,pc⟩ } = gX x:=by funext e;cases e <;> rfl
  have hb : bqB { x with bP:=⟨kd,st,pc⟩ } = bqB x:=by funext e;cases e <;> rfl
  have hh : jK { x with bP:=⟨kd,st,pc⟩ } = jK x:=by funext e;cases e <;> rfl
  obtain ⟨q1,q2,q3,q4,q5,q6,q7,q8⟩:=h.cnt
  exact ⟨by rw [hp,hb];exact h.ctl,by rw [hh];exact h.hal,⟨q1,q2,q3,q4,q5,q6,q7,q8⟩⟩
 ·exact h
theorem Cnt.aO8 {hA hE : List (Nat × Cell)} (h : Cnt c hA hE x) {z : Nat × Cell} {y : Stt} (h1 : hA.length = hA.length) (a1 : x.aeq.length = (if z.2.kind = 6 then 1 else 0) + y.aeq.length) (a2 : x.ldq.length = (if z.2.kind = 7 then 1 else 0) + y.ldq.length) (a3 : y.saq = x.saq ∧ y.writes = x.writes) (a4 : y.sdq.length = x.sdq.length + (if z.2.kind = 8 then 1 else 0))
  (a5 : ∀ t,opn t y.ldq ≤ opn t x.ldq) (a6 : y.a = x.a ∧ y.table = x.table) (a7 : ∀ r : Nat,1 ≤ r → r ≤ 15 → 0 ≤ y.e.ready r) : Cnt c hA (hE ++ [z]) y:=by
 obtain ⟨q1,q2,q3,q4,q5,q6,q7,q8⟩:=h
 have hz : ∀ K : Int,kc K (hE ++ [z]) = kc K hE + if z.2.kind = K then 1 else 0:=fun K => by rw [aYR];congr 1;exact aYS
 refine ⟨by rw [hz];omega,by rw [hz];omega,by rw [a3.1,a3.2];exact q3,by rw [hz,a3.1,a3.2];omega,fun t => by rw [a6.2];have:=q5 t;have:=a5 t;omega,by rw [a6.1,a6.2];exact q6,a7,by rw [a6.2];exact q8⟩
include hs
theorem Inv.bCN (h : Inv c p o D n k x) {B j : Nat} (hp : PR p o D true x.e.pos (n true) (k true) B j) (hk : k true < (cel p o true (rho p D (n true))).length) (hj : cV p B + j < dL p B) (hn : n true ≤ 1152921504606846976) (hh : x.e.halted = false) (hcy : 0 ≤ x.aG ∧ x.aG ≤ 2000000000000) (st : Int) :
  ∃ D' m i,m ≤ n true + 1 ∧ Inv c p o D' (cW n true m) (cW k true i) (pV c s x (e8 (j : Int) (ix (cel p o true (rho p D (n true))) (k true))) st):=by
 have hi : rho p D (n true) < p.code.length:=by have:=eP hp.hb;have:=hp.pc;omega
 have same : ∀ y : Stt,Inv c p o D n k y → ∃ D' m i,m ≤ n true + 1 ∧ Inv c p o D' (cW n true m) (cW k true i) y:=fun y hy => by
  refine ⟨D,n true,k true,by omega, ?_⟩
  rw [show cW n true (n true) = n by funext e;cases e <;> rfl,show cW k true (k true) = k by funext e;cases e <;> rfl]
  exact hy
 have onn : ∀ y : Stt,Inv c p o D n (cW k true (k true + 1)) y → ∃ D' m i,m ≤ n true + 1 ∧ Inv c p o D' (cW n true m) (cW k true i) y:=fun y hy => by
  refine ⟨D,n true,k true + 1,by omega, ?_⟩
  rw [show cW n true (n true) = n by funext e;cases e <;> rfl]
  exact hy
 generalize hcell : ix (cel p o true (rho p D (n true))) (k true) = cell
 have hrd:=h.cnt.rde
 have rdy : ∀ (d : cM) (a w r : Int),d = x.e → 0 ≤ r → ∀ i : Nat,1 ≤ i → i ≤ 15 → 0 ≤ (onF (dE d a w r)).ready i:=fun d a w r hd hr i h1 h2 => by
  show 0 ≤ (dE d a w r).ready i
  rcases uO (d:=d) (n:=a) (w:=w) (r:=r) i with h3 | h3
  ·rw [h3,hd];exact hrd i h1 h2
  ·rw [h3];exact hr
 have hw : ∀ v : Int,0 ≤ v → v ≤ 50 → 0 ≤ IntKind.i64.wrap (x.aG + v):=fun v h1 h2 => by rw [wrap_i64 (by omega) (by omega)];omega
 have hmore : more p o D n k true false = Dn p o D false (n false) (k false) ∧ more p o D n k true true = Dn p o D true (n true) (k true) ++ [(n true,cell)]:=⟨rfl,by rw [← hcell];rfl⟩
 unfold pV
 show ∃ D' m i,m ≤ n true + 1 ∧ Inv c p o D' (cW n true m) (cW k true i) (if cell.kind = 1 then _ else _)
 split
 ·rename_i g
  have g : cell.kind = 1:=g
  split
  ·refine onn _ (h.on hs true hp hk hj (by rw [hcell];omega) ?_ ?_ ?_ ?_)
   ·funext e;cases e
    ·rfl
    ·show (onF (dE _ _ _ _)).pos = _
     unfold onF
     rw [(eB _ _ _ _).1];rfl
   ·funext e;cases e <;> rfl
   ·funext e;cases e
    ·rfl
    ·exact (eB _ _ _ _).2.1
   ·rw [hmore.1,hmore.2]
    exact h.cnt.aO8 rfl (by rw [if_neg (by show ¬ cell.kind = 6;omega)];show x.aeq.length = 0 + x.aeq.length;omega) (by rw [if_neg (by show ¬ cell.kind = 7;omega)];show x.ldq.length = 0 + x.ldq.length;omega) ⟨rfl,rfl⟩ (by rw [if_neg (by show ¬ cell.kind = 8;omega)];rfl) (fun t => zaF _) ⟨rfl,rfl⟩ (rdy _ _ _ _ rfl (hw _ (Int.le_trans (by decide) (vL c _).1) (vL c _).2))
  ·exact same _ (h.note _ _ _)
 split
 ·rename_i _ g
  split
  ·exact same _ h
  ·rename_i hq
   have l5 : 0 < x.aeq.length:=List.length_pos_iff.2 hq
   refine onn _ (h.on hs true hp hk hj (by rw [hcell];have : cell.kind = 6:=g;omega) ?_ ?_ ?_ ?_)
   ·funext e;cases e
    ·rfl
    ·show (onF (dE _ _ _ _)).pos = _
     unfold onF
     rw [(eB _ _ _ _).1];rfl
   ·funext e;cases e <;> rfl
   ·funext e;cases e
    ·rfl
    ·exact (eB _ _ _ _).2.1
   ·rw [hmore.1,hmore.2]
    have g : cell.kind = 6:=g
    exact h.cnt.aO8 rfl (by rw [if_pos g];show _ = 1 + x.aeq.tail.length;rw [List.length_tail];omega) (by rw [if_neg (by show ¬ cell.kind = 7;omega)];show x.ldq.length = 0 + x.ldq.length;omega) ⟨rfl,rfl⟩ (by rw [if_neg (by show ¬ cell.kind = 8;omega)];rfl) (fun t => zaF _) ⟨rfl,rfl⟩ (rdy _ _ _ _ rfl (hw 1 (by omega) (by omega)))
 split
 ·rename_i _ _ g
  have g : cell.kind = 7:=g
  by_cases hpq : x.ldq = [] ∨ (ix x.ldq 0).full = false
  ·rw [show xR x.ldq = (x.ldq,0,false) by unfold xR;rw [if_pos hpq]]
   exact same _ h
  ·rw [show xR x.ldq = (x.ldq.tail,(ix x.ldq 0).val,true) by unfold xR;rw [if_neg hpq]]
   have hq : ¬ x.ldq = []:=fun e => hpq (.inl e)
   have l3 : 0 < x.ldq.length:=List.length_pos_iff.2 hq
   simp only [if_true]
   refine onn _ (h.on hs true hp hk hj (by rw [hcell];omega) ?_ ?_ ?_ ?_)
   ·funext e;cases e
    ·rfl
    ·show (onF (dE _ _ _ _)).pos = _
     unfold onF
     rw [(eB _ _ _ _).1];rfl
   ·funext e;cases e <;> rfl
   ·funext e;cases e
    ·rfl
    ·exact (eB _ _ _ _).2.1
   ·rw [hmore.1,hmore.2]
    exact h.cnt.aO8 rfl (by rw [if_neg (by show ¬ cell.kind = 6;omega)];show x.aeq.length = 0 + x.aeq.length;omega) (by rw [if_pos g];show _ = 1 + x.ldq.tail.length;rw [List.length_tail];omega) ⟨rfl,rfl⟩ (by rw [if_neg (by show ¬ cell.kind = 8;omega)];rfl) (fun t => (List.tail_sublist _).countP_le) ⟨rfl,rfl⟩ (rdy _ _ _ _ rfl (hw 1 (by omega) (by omega)))
 split
 ·rename_i _ _ _ g
  have g : cell.kind = 8:=g
  split
  ·refine onn _ (h.on hs true hp hk hj (by rw [hcell];omega) ?_ ?_ ?_ ?_)
   ·funext e;cases e <;> rfl
   ·funext e;cases e <;> rfl
   ·funext e;cases e <;> rfl
   ·rw [hmore.1,hmore.2]
    exact h.cnt.aO8 rfl (by rw [if_neg (by show ¬ cell.kind = 6;omega)];show x.aeq.length = 0 + x.aeq.length;omega) (by rw [if_neg (by show ¬ cell.kind = 7;omega)];show x.ldq.length = 0 + x.ldq.length;omega) ⟨rfl,rfl⟩ (by rw [if_pos g];exact cD _ _) (fun t => zaF _) ⟨rfl,rfl⟩ hrd
  ·exact same _ h
 split
 ·rename_i _ _ _ _ g
  have g : cell.kind = 9:=g
  split
  ·obtain ⟨D',m,i,a1,a2⟩:=h.branch (y:={ x with e:=mH s x.e (aAQ x.e cell.ins) x.aG,ebq:=x.ebq ++ [aAQ x.e cell.ins] }) hs true hp hk hj hn (by rw [hcell];exact g) (aAQ x.e cell.ins) (by funext e;cases e <;> rfl) (by funext e;cases e <;> rfl) (by funext e;cases e <;> rfl) hh (by
    rw [hmore.1,hmore.2]
    exact h.cnt.aO8 rfl (by rw [if_neg (by show ¬ cell.kind = 6;omega)];show x.aeq.length = 0 + x.aeq.length;omega) (by rw [if_neg (by show ¬ cell.kind = 7;omega)];show x.ldq.length = 0 + x.ldq.length;omega) ⟨rfl,rfl⟩ (by rw [if_neg (by show ¬ cell.kind = 8;omega)];rfl) (fun t => zaF _) ⟨rfl,rfl⟩ hrd)
   exact ⟨D',m,i,a1,a2⟩
  ·exact same _ h
 split
 ·rename_i _ _ _ _ _ g
  have g : cell.kind = 10:=g
  split
  ·exact same _ h
  ·rename_i hq
   cases hab : x.abq with
   | nil => exact absurd hab hq
   | cons t r =>
    obtain ⟨m,i,a1,a2⟩:=h.follow (y:={ x with e:=mH s x.e t x.aG,abq:=r }) hs true hp hk hj hn (by rw [hcell];exact g) (t:=t) (r:=r) hab (by funext e;cases e <;> rfl) (by funext e;cases e <;> rfl) (by funext e;cases e <;> rfl) hh (by
     rw [hmore.1,hmore.2]
     exact h.cnt.aO8 rfl (by rw [if_neg (by show ¬ cell.kind = 6;omega)];show x.aeq.length = 0 + x.aeq.length;omega) (by rw [if_neg (by show ¬ cell.kind = 7;omega)];show x.ldq.length = 0 + x.ldq.length;omega) ⟨rfl,rfl⟩ (by rw [if_neg (by show ¬ cell.kind = 8;omega)];rfl) (fun t => zaF _) ⟨rfl,rfl⟩ hrd)
    exact ⟨D,m,i,a1,a2⟩
 split
 ·rename_i _ _ _ _ _ _ g
  have g : cell.kind = 11:=g
  obtain ⟨m,i,a1,a2⟩:=h.jump (y:={ x with e:=mH s x.e true x.aG }) hs true hp hk hj hn (by rw [hcell];exact g) (by funext e;cases e <;> rfl) (by funext e;cases e <;> rfl) (by funext e;cases e <;> rfl) hh (by
   rw [hmore.1,hmore.2]
   exact h.cnt.aO8 rfl (by rw [if_neg (by show ¬ cell.kind = 6;omega)];show x.aeq.length = 0 + x.aeq.length;omega) (by rw [if_neg (by show ¬ cell.kind = 7;omega)];show x.ldq.length = 0 + x.ldq.length;omega) ⟨rfl,rfl⟩ (by rw [if_neg (by show ¬ cell.kind = 8;omega)];rfl) (fun t => zaF _) ⟨rfl,rfl⟩ hrd)
  exact ⟨D,m,i,a1,a2⟩
 split
 ·rename_i _ _ _ _ _ _ _ g
  have g : cell.kind = 12:=g
  obtain ⟨q1,q2,q3,q4,q5,q6,q7,q8⟩:=h.cnt
  exact same _ (h.halt (y:={ x with e:=aMM x.e }) hs true hk hi (by rw [hcell];exact g) (by funext e;cases e <;> rfl) (by funext e;cases e <;> rfl) (by funext e;cases e <;> rfl) ⟨q1,q2,q3,q4,q5,q6,q7,q8⟩)
 ·exact same _ h
end
end Go.Proofs.Ytooojfbfobmkfaa
