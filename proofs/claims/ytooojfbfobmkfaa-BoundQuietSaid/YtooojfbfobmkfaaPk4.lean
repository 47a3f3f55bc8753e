/- Texts put together. -/
import Derived.Test.YtooojfbfobmkfaaPk3
noncomputable section
namespace Go.Proofs.Ytooojfbfobmkfaa
open Go.Ra
set_option linter.unusedVariables false
set_option linter.unusedSimpArgs false
def aE2 (l : List Int) (i most : Int) : Int:=if l.length = 0 ∨ i < 0 ∨ most < 1 then 0 else Int.tmod (eH .and .i64 (ix l (i.toNat % l.length)) 1073741823) most
def sK (s : bG) (i most : Int) : Int:=1 + aE2 s.dN i most
def aAG (s : bG) (i n : Int) : Int:=aE2 s.cF i n
def bG.ok (s : bG) : Prop:=s.dN.length ≤ 1000000 ∧ s.cF.length ≤ 1000000
def a96 : List XV → Option ((XV → Prop) → Prop):=eQ (fun q : bG × Int × Int => [bI q.1,.int .i64 q.2.1,.int .i64 q.2.2]) (fun q => True) (fun q => sK q.1 q.2.1 q.2.2) (fun y => .int .i64 y)
def a97 : List XV → Option ((XV → Prop) → Prop):=eQ (fun q : bG × Int × Int => [bI q.1,.int .i64 q.2.1,.int .i64 q.2.2]) (fun q => True) (fun q => aAG q.1 q.2.1 q.2.2) (fun y => .int .i64 y)
def TN2 : Tab:=fM qq dX [] [] [] []
theorem a63 (s : bG) (i most : Int) (r : XV) : (aQ TN2 80 (bT TN2 80 20) 66 [bI s,.int .i64 i,.int .i64 most] (fun v => aA v r)) = (
 let q1 : Bool:=decide ((↑(s.dN.length) : Int) = 0);
 let q2 : Bool:=!q1;
 let q3 : Bool:=!decide (most = 0);bif decide (most < 1) then aA (.int .i64 1) r else bif bif q1 then true else q2 then bif bif q1 then true else decide (i < 0) then bif q3 then
  aA (.int .i64 (IntKind.wrap .i64 ((1 : Int) + Int.tmod (0 : Int) most))) r else False else bif q2 then bif decide (0 ≤ Int.tmod i (↑(s.dN.length) : Int)) then bif decide (Int.tmod
  i (↑(s.dN.length) : Int) < (↑(s.dN.length) : Int)) then bif q3 then aA (.int .i64 (IntKind.wrap .i64 ((1 : Int) + Int.tmod (eH .and .i64 (ix s.dN (Int.toNat (Int.tmod i
  (↑(s.dN.length) : Int)))) (1073741823 : Int)) most))) r else False else False else False else False else False):=by kernel_rfl
theorem a64 (s : bG) (i most : Int) (r : XV) : (aQ TN2 80 (bT TN2 80 20) 65 [bI s,.int .i64 i,.int .i64 most] (fun v => aA v r)) = (
 let q1 : Bool:=decide ((↑(s.cF.length) : Int) = 0);
 let q2 : Bool:=!q1;
 let q3 : Bool:=!decide (most = 0);bif decide (most < 1) then aA (.int .i64 0) r else bif bif q1 then true else q2 then bif bif q1 then true else decide (i < 0) then bif q3 then
  aA (.int .i64 (Int.tmod (0 : Int) most)) r else False else bif q2 then bif decide (0 ≤ Int.tmod i (↑(s.cF.length) : Int)) then bif decide (Int.tmod i (↑(s.cF.length) : Int)
  < (↑(s.cF.length) : Int)) then bif q3 then aA (.int .i64 (Int.tmod (eH .and .i64 (ix s.cF (Int.toNat (Int.tmod i (↑(s.cF.length) : Int)))) (1073741823 : Int)) most))
  r else False else False else False else False else False):=by kernel_rfl
theorem aW8 {k : IntKind} {x y : Int} (h : x = y) : aA (.int k x) (.int k y):=by rw [h];exact .rfl
theorem aMD {l : List Int} {i : Int} (h0 : ¬ l.length = 0) (h1 : ¬ i < 0) : 0 ≤ Int.tmod i (l.length : Int) ∧ Int.tmod i (l.length : Int) < (l.length : Int) ∧ (Int.tmod i (l.length : Int)).toNat = i.toNat % l.length:=by
 obtain ⟨j,rfl⟩:=Int.eq_ofNat_of_zero_le (show 0 ≤ i by omega)
 have e1 : Int.tmod (j : Int) (l.length : Int) = ((j % l.length : Nat) : Int):=rfl
 have e2:=Nat.mod_lt j (show 0 < l.length by omega)
 rw [e1]
 refine ⟨Int.natCast_nonneg _,by omega,rfl⟩
theorem a98 (x : Int) : ∃ K : Nat,K ≤ 1073741823 ∧ eH .and .i64 x 1073741823 = (K : Int):=by
 refine ⟨(BitVec.ofInt 64 x).toNat &&& 1073741823,Nat.and_le_right, ?_⟩
 show IntKind.i64.wrap (((BitVec.ofInt 64 x) &&& (BitVec.ofInt 64 1073741823)).toNat : Int) = _
 have h : (BitVec.ofInt 64 x).toNat &&& 1073741823 ≤ 1073741823:=Nat.and_le_right
 rw [BitVec.toNat_and,show (BitVec.ofInt 64 1073741823).toNat = 1073741823 from rfl]
 exact wrap_i64 (by omega) (by omega)
theorem aJP (l : List Int) (i : Int) {most : Int} (h : 1 ≤ most) : 0 ≤ aE2 l i most ∧ aE2 l i most < most ∧ aE2 l i most ≤ 1073741823:=by
 unfold aE2
 split
 ·omega
 ·obtain ⟨K,h1,h2⟩:=a98 (ix l (i.toNat % l.length))
  rw [h2,Int.tmod_eq_emod_of_nonneg (by omega)]
  have m1:=Int.emod_nonneg (K : Int) (show most ≠ 0 by omega)
  have m2:=Int.emod_lt_of_pos (K : Int) (show 0 < most by omega)
  have m3 : (K : Int) % most ≤ K:=by
   by_cases g : (K : Int) < most
   ·rw [Int.emod_eq_of_lt (by omega) g];exact Int.le_refl _
   ·omega
  omega
theorem aQZ (l : List Int) (i most : Int) : 0 ≤ aE2 l i most ∧ aE2 l i most ≤ 1073741823:=by
 by_cases h : 1 ≤ most
 ·have:=aJP l i h;omega
 ·unfold aE2;rw [if_pos (by omega)];omega
theorem a1C (s : bG) (i : Int) {most : Int} (h : 1 ≤ most) : 1 ≤ sK s i most ∧ sK s i most ≤ most:=by
 have:=aJP s.dN i h
 unfold sK;omega
theorem aE3 (s : bG) (i : Int) {n : Int} (h : 1 ≤ n) : 0 ≤ aAG s i n ∧ aAG s i n < n:=by
 have:=aJP s.cF i h
 unfold aAG;omega
theorem a4B : bX Try.prog TN2:=bV cZ trivial trivial trivial trivial
theorem a1D : eI Try.prog (66,a96):=bB fun ⟨s,i,most⟩ h => by
 show Pure _ _ (cons [bI s,.int .i64 i,.int .i64 most]) (con (.int .i64 (sK s i most)))
 refine eS (u:=80) (k:=20) mix a4B ?_
 refine Eq.mpr (a63 s i most _) ?_
 have zz : ((s.dN.length : Int) = 0) ↔ s.dN.length = 0:=by omega
 have bb:=aQZ s.dN i most
 unfold sK
 unfold aE2 at bb ⊢
 by_cases g2 : most < 1
 ·simp only [g2,or_true,if_true,zaC,zaE,zaB,zaD,aD,zaF,zaO,zaQ,aV,bJ,zaI,zaH,zaN,zaM,zaT,zaR,zaS,ge_iff_le,Int.le_refl,if_true,if_false,reduceCtorEq,eq_self,BEq.rfl];exact .rfl
 have g3 : ¬ most = 0:=by omega
 by_cases g0 : s.dN.length = 0
 ·simp only [g0,g2,g3,zz,true_or,if_true,zaC,zaE,zaB,zaD,aD,zaF,zaO,zaQ,aV,bJ,zaI,zaH,zaN,zaM,zaT,zaR,zaS,ge_iff_le,Int.le_refl,if_true,if_false,reduceCtorEq,eq_self,BEq.rfl]
  exact aW8 (by rw [Int.zero_tmod];rfl)
 by_cases g1 : i < 0
 ·simp only [g0,g1,g2,g3,zz,true_or,or_true,if_true,zaC,zaE,zaB,zaD,aD,zaF,zaO,zaQ,aV,bJ,zaI,zaH,zaN,zaM,zaT,zaR,zaS,ge_iff_le,Int.le_refl,if_true,if_false,reduceCtorEq,eq_self,BEq.rfl]
  exact aW8 (by rw [Int.zero_tmod];rfl)
 obtain ⟨t1,t2,t3⟩:=aMD g0 g1
 rw [if_neg (by omega)] at bb ⊢
 simp only [g0,g1,g2,g3,zz,t1,t2,t3,zaC,zaE,zaB,zaD,aD,zaF,zaO,zaQ,aV,bJ,zaI,zaH,zaN,zaM,zaT,zaR,zaS,ge_iff_le,Int.le_refl,if_true,if_false,reduceCtorEq,eq_self,BEq.rfl]
 exact aW8 (wrap_i64 (by omega) (by omega))
theorem aW9 : eI Try.prog (65,a97):=bB fun ⟨s,i,most⟩ h => by
 show Pure _ _ (cons [bI s,.int .i64 i,.int .i64 most]) (con (.int .i64 (aAG s i most)))
 refine eS (u:=80) (k:=20) mix a4B ?_
 refine Eq.mpr (a64 s i most _) ?_
 have zz : ((s.cF.length : Int) = 0) ↔ s.cF.length = 0:=by omega
 unfold aAG aE2
 by_cases g2 : most < 1
 ·simp only [g2,or_true,if_true,zaC,zaE,zaB,zaD,aD,zaF,zaO,zaQ,aV,bJ,zaI,zaH,zaN,zaM,zaT,zaR,zaS,ge_iff_le,Int.le_refl,if_true,if_false,reduceCtorEq,eq_self,BEq.rfl];exact .rfl
 have g3 : ¬ most = 0:=by omega
 by_cases g0 : s.cF.length = 0
 ·simp only [g0,g2,g3,zz,true_or,if_true,zaC,zaE,zaB,zaD,aD,zaF,zaO,zaQ,aV,bJ,zaI,zaH,zaN,zaM,zaT,zaR,zaS,ge_iff_le,Int.le_refl,if_true,if_false,reduceCtorEq,eq_self,BEq.rfl]
  exact aW8 (by rw [Int.zero_tmod])
 by_cases g1 : i < 0
 ·simp only [g0,g1,g2,g3,zz,true_or,or_true,if_true,zaC,zaE,zaB,zaD,aD,zaF,zaO,zaQ,aV,bJ,zaI,zaH,zaN,zaM,zaT,zaR,zaS,ge_iff_le,Int.le_refl,if_true,if_false,reduceCtorEq,eq_self,BEq.rfl]
  exact aW8 (by rw [Int.zero_tmod])
 obtain ⟨t1,t2,t3⟩:=aMD g0 g1
 rw [if_neg (by omega)]
 simp only [g0,g1,g2,g3,zz,t1,t2,t3,zaC,zaE,zaB,zaD,aD,zaF,zaO,zaQ,aV,bJ,zaI,zaH,zaN,zaM,zaT,zaR,zaS,ge_iff_le,Int.le_refl,if_true,if_false,reduceCtorEq,eq_self,BEq.rfl]
 exact .rfl
def TN3 : Tab:=fM qq (jV ++ dX) [] iA [] []
def xO (tag : Int) (s : Slot) : Bool:=decide (s.tag = tag) && !s.full
def fO (l : List Slot) (tag w : Int) : List Slot × Bool:=if mK (xO tag) l < 0 then (l,false) else (l.set (mK (xO tag) l).toNat ⟨(ix l (mK (xO tag) l).toNat).tag,true,w⟩,true)
def a65 : List XV → Option ((XV → Prop) → Prop):=eQ (fun p : List Slot × Int × Int => [aB 3 cN p.1,.int .i64 p.2.1,.int .u32 p.2.2]) (fun p => p.1.length ≤ 1000000) (fun p => fO p.1 p.2.1 p.2.2) (fun y => .tup [aB 3 cN y.1,.bool y.2])
def a99 (l : List Slot) (tag w : Int) (i : Nat) : XSt:=⟨[(8,.int .i64 i),(2,.int .u32 w),(1,.int .i64 tag),(0,.sl 0 [] 0 0 l.length 3)],[(0,some (.tab l.length 3 (fun i => cN (ix l i))))],1⟩
theorem a4C : bX Try.prog TN3:=bV (iE.app cZ) trivial fI trivial trivial
theorem a1E (l : List Slot) (tag w : Int) (r : XV) : (goQ Try.prog TN3 [(.tmp 6),(.tmp 7)] r (.run lX) [] ⟨jO 0 [aB 3 cN l,.int .i64 tag,.int .u32 w],[],0⟩) = (
 let q1 : Nat:=l.length * 16;bif decide (q1 ≤ 140737488355328) then bif gL (fun i => true) l.length then aP (Ok Try.prog (Tab.q TN3)) nO (XSt.mk [(8,.int .i64
  0),(0,.sl 0 [] 0 0 l.length 3),(7,.bool false),(6,.row true 0 0 fun x => .unk),(1,.int .i64 tag),(2,.int .u32 w)] [(0,some (.tab l.length 3 fun i => cN (ix l i)))] 1)
  [Frm.blk 0,Frm.seq sB] (bC [AR.tmp 6,AR.tmp 7] r) else False else False):=by kernel_rfl 
theorem a1F (l : List Slot) (tag w : Int) (i : Nat) (r : XV) (A : XSt → Prop) : (goQ Try.prog TN3 [(.tmp 6),(.tmp 7)] r (.run nO) [.lp nO A,.blk 0,.seq sB] (a99 l tag w i)) = (
 let q1 : Bool:=decide ((↑i : Int) < (↑(l.length) : Int));
 let q2 : Nat:=i * 3;
 let q3 : Nat:=pl q2 0;
 let q4 : Bool:=decide (i < l.length);
 let q5 : Bool:=decide ((ix l i).tag = tag);
 let q6 : Bool:=!q5;
 let q7 : Nat:=pl q2 1;
 let q8 : Bool:=Nat.beq q7 q7;
 let q9 : Nat:=pl q2 2;
 let q10 : Bool:=decide (l.length ≤ l.length);bif q1 then bif q1 then bif Nat.beq q3 q3 then bif q4 then bif bif q1 then true else q6 then bif bif q8 then true else q6 then bif bif
  q4 then true else q6 then bif bif q5 then q5 else true then bif bif q5 then !(ix l i).full else false then bif q1 then bif q8 then bif q4 then bif q4 then bif q1 then bif Nat.beq q9
  q9 then bif q4 then bif q4 then bif q10 then aA (.tup [.row false 3 l.length fun i_1 => .agg 3 [.int .i64 (bif Nat.beq i_1 i then bif Nat.beq i i then (ix l i).tag else (ix l i).tag
  else bif Nat.beq i_1 i then (ix l i).tag else (ix l i_1).tag),.bool (bif Nat.beq i_1 i then bif Nat.beq i i then true else (ix l i).full else bif Nat.beq i_1 i then true else (ix l
  i_1).full),.int .u32 (bif Nat.beq i_1 i then w else bif Nat.beq i_1 i then (ix l i).val else (ix l i_1).val)],.bool true]) r else False else False else False else False else False
  else False else False else False else False else A (XSt.mk [(8,.int .i64 (IntKind.wrap .i64 ((↑i : Int) + 1))),(2,.int .u32 w),(1,.int .i64 tag),(0,.sl 0 [] 0 0 l.length 3)]
  [(0,some (.tab l.length 3 fun i => cN (ix l i)))] 1) else False else False else False else False else False else False else False else bif q10 then aA (.tup [aB 3 cN
  l,.bool false]) r else False):=by kernel_rfl
theorem aE4 {α : Type} {p : α → Bool} {l : List α} (h : ¬ mK p l < 0) : 0 ≤ mK p l ∧ mK p l < l.length ∧ (mK p l).toNat < l.length:=by
 unfold mK at h ⊢
 split
 ·rename_i ha
  have h2:=List.findIdx_lt_length.2 (List.any_eq_true.1 ha)
  omega
 ·rename_i ha
  rw [if_neg ha] at h
  omega
theorem a66 {l : List Slot} {k : Nat} {w : Int} (hk : k < l.length) {f : Nat → XV} (h1 : con (f k) = con (cN ⟨(ix l k).tag,true,w⟩)) (h2 : ∀ i,i < l.length → ¬ i = k → con (f i) = con (cN (ix l i))) : aA (.tup [.row false 3 l.length f,.bool true]) (.tup [aB 3 cN (l.set k ⟨(ix l k).tag,true,w⟩),.bool true]):=by
 refine ⟨iH (aF (gH (by simp) (.inl rfl) fun i hi => ?_) (aF (.refl _) bO))⟩
 rw [aBI]
 by_cases he : i = k
 ·rw [if_pos ⟨he,hk⟩,he,h1];exact .refl _
 ·rw [if_neg (fun h => he h.1),h2 i hi he];exact .refl _
theorem aME : eI Try.prog (94,a65):=bB fun ⟨l,tag,w⟩ h => by
 have hl : l.length ≤ 1000000:=h
 show Pure _ _ (cons [aB 3 cN l,.int .i64 tag,.int .u32 w]) (con (.tup [aB 3 cN (fO l tag w).1,.bool (fO l tag w).2]))
 refine jB mix a4C zY (Nat.le_of_ble_eq_true rfl) ?_
 refine Eq.mpr (a1E l tag w _) ?_
 have hb : l.length * 16 ≤ 140737488355328:=by omega
 simp only [hb,g1,g2,g3,g4,g5,g6,g7,aD,zaB,zaF,zaC,cB]
 refine fS mix a4C (fun i : Nat => a99 l tag w i) (fun i => i ≤ l.length ∧ ∀ j,j < i → xO tag (ix l j) = false) (fun i => l.length - i) 0 ⟨Nat.zero_le _,fun j hj => by omega⟩ (.of (dG ⟨rfl,rfl,rfl,rfl,trivial⟩ ⟨rfl,trivial⟩ (zaF _))) ?_
 rintro i ⟨hi,hp⟩
 refine Eq.mpr (a1F l tag w i _ _) ?_
 by_cases hlt : i < l.length
 ·have h1 : (i : Int) < (l.length : Int):=by omega
  have w1 : IntKind.i64.wrap ((i : Int) + 1) = ((i + 1 : Nat) : Int):=wrap_i64 (by omega) (by omega)
  have e1 : xO tag (ix l i) = bif decide ((ix l i).tag = tag) then !(ix l i).full else false:=by
   unfold xO;cases decide ((ix l i).tag = tag) <;> rfl
  simp only [g1,g2,g3,g4,g5,g6,g7,aD,zaB,zaF,zaC,cB,h1,hlt,w1,zaQ]
  simp only [← e1]
  refine jQ (fun h => ?_) (fun h => ?_)
  ·unfold fO
   rw [u9 hlt h hp,if_neg (by omega),zaO]
   refine a66 hlt ?_ fun j hj he => ?_
   ·simp only [zaQ,zaB];rfl
   ·simp only [gT he,zaD];rfl
  ·refine ⟨i + 1,⟨hlt,fun j hj => ?_⟩,.of (dG ⟨rfl,rfl,rfl,rfl,trivial⟩ ⟨rfl,trivial⟩ (zaF _)),by omega⟩
   by_cases hji : j = i
   ·subst hji;exact h
   ·exact hp j (by omega)
 ·have h1 : ¬ (i : Int) < (l.length : Int):=by omega
  simp only [h1,g1,g2,g3,g4,g5,g6,g7,aD,zaB,zaF,zaC,cB,zaE,zaD]
  unfold fO
  rw [vB fun j hj => hp j (by omega)]
  exact .rfl
def aBO (a n : Int) : Int:=if a < 0 ∨ n < 1 then 0 else a / 4 % n
def aXA : List XV → Option (List Bool × XV)
 | [.int .i64 a,.int .i64 n] => some ([decide (a ≤ 9223372036854775807)],.int .i64 (aBO a n))
 | _ => none
def aQ0 (m : List Int) (op a : Int) : Int:=aCD m.length (fun i => kM (ix m i)) op a
def ldF (x : Stt) (r : Req) : Int:=if 0 ≤ r.addr ∧ r.addr ≤ 4294967295 then aQ0 x.mem r.op r.addr else 0
def kV (x : Stt) (r : Req) : Stt :=
 if r.store then { x with mem:=aJA x.mem ⟨r.addr,r.size,r.val⟩,writes:=x.writes ++ [⟨r.addr,r.size,r.val⟩],saq:=x.saq.tail }
 else if r.reg < 0 then { x with ldq:=(fO x.ldq r.tag (ldF x r)).1 }
 else if 1 ≤ r.reg ∧ r.reg ≤ 15 then { x with a:={ x.a with oW:=fun i => bif Nat.beq i r.reg.toNat then ldF x r else x.a.oW i,ready:=fun i => bif Nat.beq i r.reg.toNat then IntKind.i64.wrap (x.aG + 1) else x.a.ready i } }
 else x
def sL (p : Stt × List Req) (r : Req) : Stt × List Req :=
 if r.left > 0 then (if r.left = 1 then (kV p.1 r,p.2) else (p.1,p.2 ++ [{ r with left:=r.left - 1 }])) else (p.1,p.2 ++ [r])
def oZ (l : List Req) (p : Stt × List Req) : Stt × List Req:=l.foldl sL p
def eZ (x : Stt) : Stt:={ (oZ x.table (x,[])).1 with table:=(oZ x.table (x,[])).2 }
def TE0 : Tab:=fM qq dX [] [] [] []
def zSd : XV:=.agg 38 [.tab 16 1 (fun _ => .int .u32 0),.tab 16 1 (fun _ => .int .i64 0),.agg 3 [.int .i64 0,.int .i64 0,.int .i64 0],.int .i64 0,.bool false,.int .i64 0]
def aBP : XV:=.row true 0 0 (fun _ => .unk)
def zX : XV:=.agg 92 [.int .i64 0,zSd,zSd,aBP,aBP,aBP,aBP,aBP,aBP,aBP,aBP,aBP,.agg 3 [.int .i64 0,.int .i64 0,.int .i64 0],.int .i64 0,.int .i64 0,.int .i64 0]
def gK {α : Type} [Inhabited α] (es : Nat) (en : α → XV) (l : List α) : XV:=.tab l.length es (fun i => en (ix l i))
theorem bAA : bX Try.prog TE0:=bV cZ trivial trivial trivial trivial
theorem a67 (a n : Int) (K : XV → Prop) : (aQ TE0 80 (bT TE0 80 20) 64 [.int .i64 a,.int .i64 n] K) = (
 let q1 : Bool:=decide (a < 0);bif bif q1 then true else !q1 then bif bif q1 then true else decide (n < 1) then K (.int .i64 0) else bif !decide (n = 0) then K (.int .i64 (Int.tmod
  (IntKind.wrap .i64 (Int.tdiv a (4 : Int))) n)) else False else False):=by kernel_rfl
theorem aAH {x : Stt} {r : Req} (h : r.store = true) : kV x r = { x with mem:=aJA x.mem ⟨r.addr,r.size,r.val⟩,writes:=x.writes ++ [⟨r.addr,r.size,r.val⟩],saq:=x.saq.tail }:=by
 unfold kV;rw [if_pos h]
theorem uA {x : Stt} {r : Req} (h : r.store = false) (h2 : r.reg < 0) : kV x r = { x with ldq:=(fO x.ldq r.tag (ldF x r)).1 }:=by
 unfold kV;rw [if_neg (by rw [h];simp),if_pos h2]
theorem uB {x : Stt} {r : Req} (h : r.store = false) (h2 : 1 ≤ r.reg ∧ r.reg ≤ 15) : kV x r = { x with a:={ x.a with oW:=fun i => bif Nat.beq i r.reg.toNat then ldF x r else x.a.oW i,ready:=fun i => bif Nat.beq i r.reg.toNat then IntKind.i64.wrap (x.aG + 1) else x.a.ready i } }:=by
 unfold kV;rw [if_neg (by rw [h];simp),if_neg (by omega),if_pos h2]
theorem aAI {x : Stt} {r : Req} (h : r.store = false) (h1 : ¬ r.reg < 0) (h2 : ¬ (1 ≤ r.reg ∧ r.reg ≤ 15)) : kV x r = x:=by
 unfold kV;rw [if_neg (by rw [h];simp),if_neg h1,if_neg h2]
theorem aC2 {m : List Int} {w : Wr} : (aJA m w).length = m.length:=bH
theorem uC {l : List Slot} {t w : Int} : (fO l t w).1.length = l.length:=by
 unfold fO;split <;> simp
theorem a68 {m : List Int} {w : Wr} (h : ∀ x ∈ m,u8R x) : ∀ x ∈ aJA m w,u8R x:=fun x hx => by
 obtain ⟨j,hj,rfl⟩:=List.mem_iff_getElem.1 hx
 rw [← fY hj]
 rw [aC2] at hj
 unfold aJA
 rw [pC hj]
 show u8R (bif _ then _ else _)
 cases (okW m.length w.addr w.size && (decide (w.addr.toNat ≤ j) && decide (j < w.addr.toNat + w.size.toNat))) with
 | true => rw [zaB];unfold u8R;omega
 | false => rw [zaD];exact h _ (cH hj)
theorem aQ1 {op w : Int} (h : 0 ≤ w ∧ w ≤ 4294967295) : j9 (aL5 op w):=by
 unfold aL5 j9
 repeat' split
 all_goals omega
theorem aXB {m : List Int} {op a : Int} (hm : ∀ x ∈ m,u8R x) (hl : m.length ≤ 1000000) (ha : 0 ≤ a) (ha2 : a ≤ 4294967295) : j9 (aQ0 m op a):=by
 unfold aQ0 aCD
 split
 ·rename_i h
  refine aQ1 ?_
  have hs:=aQW h.1 h.2.1
  obtain ⟨h1,_⟩:=aEV hs ha ha2 (by omega) h.2.2
  have hb:=aI8 (n:=m.length) (f:=fun i => kM (ix m i)) (fun i hi => hm _ (cH hi)) a.toNat (szI op).toNat (by omega)
  have : (2 : Int) ^ (8 * (szI op).toNat) ≤ 4294967296:=by
   rcases hs with e | e | e <;> rw [e] <;> decide
  omega
 ·unfold j9;omega
theorem a69 {x : Stt} {r : Req} (hm : ∀ y ∈ x.mem,u8R y) (hl : x.mem.length ≤ 1000000) : j9 (ldF x r):=by
 unfold ldF
 split
 ·rename_i h;exact aXB hm hl h.1 h.2
 ·unfold j9;omega
theorem dY (x : Int) : bZ (IntKind.i64.wrap x):=by
 rw [IntKind.wrap_i64]
 unfold bZ
 omega
theorem a1G {x : Stt} {r : Req} (hx : x.wf) (hr : r.wf) (hm : x.mem.length ≤ 1000000) (hb : x.writes.length ≤ 1000000) : (kV x r).wf:=by
 obtain ⟨a1,a2,a3,a4,a5,a6,a7,a8,a9,a10,a11,a12,a13⟩:=hx
 have hld:=a69 (r:=r) a11.1 hm
 by_cases hs : r.store = true
 ·rw [aAH hs]
  refine ⟨a1,a2,a3,a4,a5,a6,a7,a8,⟨fun y hy => a9.1 y (List.mem_of_mem_tail hy), ?_⟩,a10,⟨a68 a11.1, ?_⟩,⟨fun y hy => ?_, ?_⟩,a13⟩
  ·have:=a9.2
   show x.saq.tail.length * 32 ≤ _
   rw [List.length_tail];omega
  ·show (aJA _ _).length * 1 ≤ _
   rw [aC2];exact a11.2
  ·rcases List.mem_append.1 hy with hy | hy
   ·exact a12.1 y hy
   ·obtain rfl:=List.mem_singleton.1 hy
    exact ⟨hr.2.1,hr.2.2.1,hr.2.2.2.1⟩
  ·show (x.writes ++ [_]).length * 24 ≤ _
   rw [cD];omega
 ·have hs : r.store = false:=by simpa using hs
  by_cases h1 : r.reg < 0
  ·rw [uA hs h1]
   refine ⟨a1,a2,a3,⟨?_, ?_⟩,a5,a6,a7,a8,a9,a10,a11,a12,a13⟩
   ·show ∀ y ∈ (fO x.ldq r.tag (ldF x r)).1,y.wf
    unfold fO
    split
    ·exact a4.1
    ·rename_i hn
     obtain ⟨_,_,b3⟩:=aE4 hn
     intro y hy
     rcases List.mem_or_eq_of_mem_set hy with hy | rfl
     ·exact a4.1 y hy
     ·exact ⟨(a4.1 _ (cH b3)).1,hld⟩
   ·show (fO x.ldq r.tag (ldF x r)).1.length * 16 ≤ _
    rw [uC];exact a4.2
  ·by_cases h2 : 1 ≤ r.reg ∧ r.reg ≤ 15
   ·rw [uB hs h2]
    refine ⟨a1,⟨fun i hi => ?_,fun i hi => ?_,a2.2.2⟩,a3,a4,a5,a6,a7,a8,a9,a10,a11,a12,a13⟩
    ·show j9 (bif Nat.beq i r.reg.toNat then ldF x r else x.a.oW i)
     cases Nat.beq i r.reg.toNat with
     | true => exact hld
     | false => exact a2.1 i hi
    ·show bZ (bif Nat.beq i r.reg.toNat then IntKind.i64.wrap (x.aG + 1) else x.a.ready i)
     cases Nat.beq i r.reg.toNat with
     | true => exact dY _
     | false => exact a2.2.1 i hi
   ·rw [aAI hs h1 h2]
    exact ⟨a1,a2,a3,a4,a5,a6,a7,a8,a9,a10,a11,a12,a13⟩
def a1H (x0 : Stt) (i : Nat) (p : Stt × List Req) : Prop:=p.1.wf ∧ p.1.ldq.length = x0.ldq.length ∧ p.1.sdq = x0.sdq ∧ p.1.aeq = x0.aeq ∧ p.1.abq = x0.abq ∧ p.1.ebq = x0.ebq ∧ p.1.saq.length ≤ x0.saq.length ∧ p.1.table = x0.table ∧ p.1.mem.length = x0.mem.length ∧ p.1.writes.length + p.2.length ≤ x0.writes.length + i ∧ p.1.dN = x0.dN ∧ p.1.cF = x0.cF ∧ ∀ r ∈ p.2,r.wf
theorem aXC {x0 : Stt} {i : Nat} {p : Stt × List Req} {r : Req} (h : a1H x0 i p) (hr : r.wf) (hm : x0.mem.length ≤ 1000000) (hb : x0.writes.length + i ≤ 1000000) : a1H x0 (i + 1) (sL p r):=by
 obtain ⟨a1,a2,a3,a4,a5,a6,a7,a8,a9,a10,a11,a12,a13⟩:=h
 have aKW : ∀ q : Req,q.wf → a1H x0 (i + 1) (p.1,p.2 ++ [q]):=fun q hq => ⟨a1,a2,a3,a4,a5,a6,a7,a8,a9,by show p.1.writes.length + (p.2 ++ [q]).length ≤ _;rw [cD];omega,a11,a12,fun y hy => by
  rcases List.mem_append.1 hy with hy | hy
  ·exact a13 y hy
  ·obtain rfl:=List.mem_singleton.1 hy;exact hq⟩
 unfold sL
 split
 ·split
  ·have hw:=a1G a1 hr (by omega) (by omega)
   by_cases hs : r.store = true
   ·rw [aAH hs] at hw ⊢
    exact ⟨hw,a2,a3,a4,a5,a6,by show x0.saq.length ≥ p.1.saq.tail.length;rw [List.length_tail];omega,a8,by show (aJA _ _).length = _;rw [aC2];exact a9,by show (p.1.writes ++ [_]).length + p.2.length ≤ _;rw [cD];omega,a11,a12,a13⟩
   ·have hs : r.store = false:=by simpa using hs
    by_cases h1 : r.reg < 0
    ·rw [uA hs h1] at hw ⊢
     exact ⟨hw,by show (fO _ _ _).1.length = _;rw [uC];exact a2,a3,a4,a5,a6,a7,a8,a9,by show p.1.writes.length + p.2.length ≤ _;omega,a11,a12,a13⟩
    ·by_cases h2 : 1 ≤ r.reg ∧ r.reg ≤ 15
     ·rw [uB hs h2] at hw ⊢
      exact ⟨hw,a2,a3,a4,a5,a6,a7,a8,a9,by show p.1.writes.length + p.2.length ≤ _;omega,a11,a12,a13⟩
     ·rw [aAI hs h1 h2]
      exact ⟨a1,a2,a3,a4,a5,a6,a7,a8,a9,by show p.1.writes.length + p.2.length ≤ _;omega,a11,a12,a13⟩
  ·rename_i hp _
   exact aKW _ ⟨hr.1,hr.2.1,hr.2.2.1,hr.2.2.2.1,(by
    have:=hr.2.2.2.2.1
    show bZ (r.left - 1)
    unfold bZ at this ⊢
    omega),hr.2.2.2.2.2.1,hr.2.2.2.2.2.2⟩
 ·exact aKW _ hr
theorem aHN {l : List Req} {p : Stt × List Req} {i : Nat} (h : i < l.length) : oZ (l.take (i + 1)) p = sL (oZ (l.take i) p) (ix l i):=by
 unfold oZ
 rw [List.take_succ_eq_append_getElem h,List.foldl_append,fY h]
 rfl
theorem aE5 {x0 : Stt} (hw : x0.wf) (hm : x0.mem.length ≤ 1000000) (hb : x0.writes.length + x0.table.length ≤ 1000000) : ∀ {i : Nat},i ≤ x0.table.length → a1H x0 i (oZ (x0.table.take i) (x0,[]))
 | 0,_ => ⟨hw,rfl,rfl,rfl,rfl,rfl,zaF _,rfl,rfl,zaF _,rfl,rfl,fun r hr => by cases hr⟩
 | i + 1,h => by
  rw [aHN h]
  exact aXC (aE5 hw hm hb (Nat.le_of_succ_le h)) (hw.2.2.2.2.2.2.2.2.2.1.1 _ (cH h)) hm (by omega)
theorem aMF {α : Type} [Inhabited α] {κ : Nat → Option Nat} {es : Nat} {f : Nat → XV} {en : α → XV} {l : List α} {x : α} (h1 : ∀ i,i < l.length → con (f i) = con (en (ix l i))) (h2 : con (f l.length) = con (en x)) : leK κ (con (.tab (l.length + 1) es f)) (con (gK es en (l ++ [x]))):=by
 unfold gK
 rw [cD]
 exact aLX h1 h2 rfl
def xP (c : Cfg) (bank : Int) (r : Req) : Bool:=decide (aBO r.addr c.dA = bank) && decide (r.left = 0)
def vU (c : Cfg) (bank : Int) (r : Req) : Bool:=decide (aBO r.addr c.dA = bank) && decide (r.left > 0)
def eD (c : Cfg) (bank : Int) (l : List Req) (k : Nat) : List Int:=((List.range k).filter (fun j => xP c bank (ix l j))).map (fun j : Nat => (j : Int))
def l7 (s : bG) (x : Stt) (w : List Int) : Nat:=(ix w (if w.length > 1 then aAG s x.cF w.length else 0).toNat).toNat
def sM (c : Cfg) (s : bG) (x : Stt) (bank : Int) : Stt :=
 if x.table.any (vU c bank) then x else
 if (eD c bank x.table x.table.length).length = 0 then x else
 { x with cF:=if (eD c bank x.table x.table.length).length > 1 then IntKind.i64.wrap (x.cF + 1) else x.cF,dN:=IntKind.i64.wrap (x.dN + 1),table:=x.table.set (l7 s x (eD c bank x.table x.table.length)) { ix x.table (l7 s x (eD c bank x.table x.table.length)) with left:=sK s x.dN c.lat } }
theorem a1I : oV Try.prog (64,aXA):=fun args nd v h hn => by
 simp only [aXA] at h
 split at h
 ·simp only [zaA,zaJ] at h
  obtain ⟨rfl,rfl⟩:=h
  simp only [bD,zaK] at hn
  rename_i a n
  have h:=hn.1
  refine fL (u:=80) (k:=20) mix bAA ?_
  refine Eq.mpr (a67 a n _) ?_
  unfold aBO
  by_cases g1 : a < 0
  ·simp [g1]
  by_cases g2 : n < 1
  ·simp [g1,g2]
  have g3 : ¬ n = 0:=by omega
  rw [if_neg (by omega)]
  simp only [g1,g2,g3,zaC,zaE,zaB,zaD,aD,zaF,zaO,zaQ,aV,bJ,zaI,zaH,zaN,zaM,zaT,zaR,zaS,ge_iff_le,Int.le_refl,if_true,if_false,reduceCtorEq,eq_self,BEq.rfl]
  refine aEL ?_
  rw [Int.tdiv_eq_ediv_of_nonneg (by omega),wrap_i64 (x:=a / 4) (by omega) (by omega),Int.tmod_eq_emod_of_nonneg (by omega)]
 ·cases h
theorem aMG {c : Cfg} {b : Int} {l : List Req} {k : Nat} {x : Int} (h : x ∈ eD c b l k) : 0 ≤ x ∧ x < k:=by
 unfold eD at h
 obtain ⟨j,hj,rfl⟩:=List.mem_map.1 h
 have:=List.mem_range.1 (List.mem_filter.1 hj).1
 omega
theorem aTJ {c : Cfg} {b : Int} {l : List Req} {k : Nat} : eD c b l (k + 1) = if xP c b (ix l k) then eD c b l k ++ [(k : Int)] else eD c b l k:=by
 unfold eD
 rw [List.range_succ,List.filter_append,List.map_append]
 by_cases h : xP c b (ix l k) = true
 ·simp [h]
 ·have h : xP c b (ix l k) = false:=by simpa using h
  simp [h]
theorem aXD {c : Cfg} {b : Int} {l : List Req} {k : Nat} : (eD c b l k).length ≤ k:=by
 unfold eD
 rw [List.length_map]
 have:=List.length_filter_le (fun j => xP c b (ix l j)) (List.range k)
 rw [List.length_range] at this
 exact this
def bgK (c : Cfg) (s : bG) (x : Stt) : Nat → Stt
 | 0 => x
 | k + 1 => sM c s (bgK c s x k) (k : Int)
def mA (c : Cfg) (s : bG) (x : Stt) : Stt:=if 1 ≤ c.dA ∧ c.dA ≤ 16 ∧ 1 ≤ c.lat ∧ c.lat ≤ 1000 then bgK c s (eZ x) c.dA.toNat else x
def aGH (x y : Stt) : Prop:=y.wf ∧ y.ldq = x.ldq ∧ y.sdq = x.sdq ∧ y.aeq = x.aeq ∧ y.abq = x.abq ∧ y.ebq = x.ebq ∧ y.saq = x.saq ∧ y.table.length = x.table.length ∧ y.mem = x.mem ∧ y.writes = x.writes ∧ y.a = x.a ∧ y.e = x.e ∧ y.bP = x.bP ∧ y.tags = x.tags ∧ y.aG = x.aG
theorem aGH.refl {x : Stt} (h : x.wf) : aGH x x:=⟨h,rfl,rfl,rfl,rfl,rfl,rfl,rfl,rfl,rfl,rfl,rfl,rfl,rfl,rfl⟩
theorem aGH.trans {x y z : Stt} (h : aGH x y) (k : aGH y z) : aGH x z:=by
 obtain ⟨_,a2,a3,a4,a5,a6,a7,a8,a9,a10,a11,a12,a13,a14,a15⟩:=h
 obtain ⟨b1,b2,b3,b4,b5,b6,b7,b8,b9,b10,b11,b12,b13,b14,b15⟩:=k
 exact ⟨b1,b2.trans a2,b3.trans a3,b4.trans a4,b5.trans a5,b6.trans a6,b7.trans a7,b8.trans a8,b9.trans a9,b10.trans a10,b11.trans a11,b12.trans a12,b13.trans a13,b14.trans a14,b15.trans a15⟩
theorem aMH {c : Cfg} {b : Int} {l : List Req} {m : Nat} (h : m < (eD c b l l.length).length) : 0 ≤ ix (eD c b l l.length) m ∧ (ix (eD c b l l.length) m).toNat < l.length:=by
 have:=aMG (cH h)
 omega
theorem aMI {c : Cfg} {s : bG} {x : Stt} {b : Int} (h : ¬ (eD c b x.table x.table.length).length = 0) : l7 s x (eD c b x.table x.table.length) < x.table.length:=by
 unfold l7
 split
 ·rename_i hm
  have:=aE3 s x.cF (n:=((eD c b x.table x.table.length).length : Int)) (by omega)
  exact (aMH (by omega)).2
 ·exact (aMH (m:=0) (by omega)).2
theorem a1J (s : bG) (i most : Int) : bZ (sK s i most):=by
 have:=aQZ s.dN i most
 unfold sK bZ
 omega
theorem a1K {c : Cfg} {s : bG} {x : Stt} {b : Int} (hw : x.wf) : aGH x (sM c s x b):=by
 unfold sM
 split
 ·exact .refl hw
 ·split
  ·exact .refl hw
  ·rename_i hz
   obtain ⟨a1,a2,a3,a4,a5,a6,a7,a8,a9,a10,a11,a12,a13,a14,a15,a16⟩:=hw
   have hk:=aMI (s:=s) hz
   generalize l7 s x (eD c b x.table x.table.length) = k at hk ⊢
   refine ⟨⟨a1,a2,a3,a4,a5,a6,a7,a8,a9,⟨fun y hy => ?_, ?_⟩,a11,a12,a13,dY _, ?_,a16⟩,rfl,rfl,rfl,rfl,rfl,rfl,List.length_set,rfl,rfl,rfl,rfl,rfl,rfl,rfl⟩
   ·rcases List.mem_or_eq_of_mem_set hy with hy | rfl
    ·exact a10.1 y hy
    ·have:=a10.1 _ (cH hk)
     exact ⟨this.1,this.2.1,this.2.2.1,this.2.2.2.1,a1J _ _ _,this.2.2.2.2.2⟩
   ·show (x.table.set k _).length * 64 ≤ _
    rw [List.length_set];exact a10.2
   ·show bZ (if _ then _ else _)
    split
    ·exact dY _
    ·exact a15
theorem aAJ {c : Cfg} {s : bG} {x : Stt} (hw : x.wf) : ∀ k,aGH x (bgK c s x k)
 | 0 => .refl hw
 | k + 1 => (aAJ hw k).trans (a1K (aAJ hw k).1)
theorem aQ2 {x : Stt} (hw : x.wf) (hm : x.mem.length ≤ 1000000) (hb : x.writes.length + x.table.length ≤ 1000000) : (eZ x).wf ∧ (eZ x).ldq.length = x.ldq.length ∧ (eZ x).sdq = x.sdq ∧ (eZ x).aeq = x.aeq ∧ (eZ x).abq = x.abq ∧ (eZ x).ebq = x.ebq ∧ (eZ x).saq.length ≤ x.saq.length ∧ (eZ x).mem.length = x.mem.length ∧ (eZ x).writes.length + (eZ x).table.length ≤ x.writes.length + x.table.length:=by
 have h:=aE5 hw hm hb (zaF x.table.length)
 rw [List.take_length] at h
 unfold eZ
 generalize oZ x.table (x,[]) = p at h ⊢
 obtain ⟨⟨a1,a2,a3,a4,a5,a6,a7,a8,a9,a10,a11,a12,a13⟩,b2,b3,b4,b5,b6,b7,b8,b9,b10,_,_,b11⟩:=h
 exact ⟨⟨a1,a2,a3,a4,a5,a6,a7,a8,a9,⟨b11,by show p.2.length * 64 ≤ _;omega⟩,a11,a12,a13⟩,b2,b3,b4,b5,b6,b7,b9,b10⟩
def wJ (x : Stt) : Prop:=x.ok ∧ x.writes.length + x.table.length ≤ 1000000
theorem aE6 {x : Stt} (h : wJ x) : wJ (eZ x):=by
 obtain ⟨ho,hb⟩:=h
 have hw : x.wf:=ho.1
 obtain ⟨c1,c2,c3,c4,c5,c6,c7,c8,c9⟩:=aQ2 hw ho.2.2.2.2.2.2.2.2.1 hb
 obtain ⟨_,b1,b2,b3,b4,b5,b6,b7,b8,b9⟩:=ho
 refine ⟨⟨c1,by omega,by rw [c3];exact b2,by rw [c4];exact b3,by rw [c5];exact b4,by rw [c6];exact b5,by omega,by omega,by omega,by omega⟩,by omega⟩
theorem aHO {x y : Stt} (h : wJ x) (hb : aGH x y) : wJ y:=by
 obtain ⟨⟨_,b1,b2,b3,b4,b5,b6,b7,b8,b9⟩,hl⟩:=h
 obtain ⟨c1,c2,c3,c4,c5,c6,c7,c8,c9,c10,_⟩:=hb
 exact ⟨⟨c1,by rw [c2];exact b1,by rw [c3];exact b2,by rw [c4];exact b3,by rw [c5];exact b4,by rw [c6];exact b5,by rw [c7];exact b6,by rw [c8];exact b7,by rw [c9];exact b8,by rw [c10];exact b9⟩,by rw [c8,c10];exact hl⟩
theorem aXE {c : Cfg} {s : bG} {x : Stt} (h : wJ x) : wJ (mA c s x):=by
 unfold mA
 split
 ·exact aHO (aE6 h) (aAJ (aE6 h).1.1 _)
 ·exact h
def avS : List XV → Option ((XV → Prop) → Prop):=eQ (fun q : Cfg × bG × Stt => [aU q.1,bI q.2.1,aO q.2.2]) (fun q => wJ q.2.2) (fun q => mA q.1 q.2.1 q.2.2) (fun y => aO y)
theorem okb {s : Stt} (h : s.ok) : s.ldq.length * 16 ≤ 140737488355328 ∧ s.sdq.length * 4 ≤ 140737488355328 ∧ s.aeq.length * 4 ≤ 140737488355328 ∧ s.abq.length * 1 ≤ 140737488355328 ∧ s.ebq.length * 1 ≤ 140737488355328 ∧ s.saq.length * 32 ≤ 140737488355328 ∧ s.table.length * 64 ≤ 140737488355328 ∧ s.mem.length * 1 ≤ 140737488355328 ∧ s.writes.length * 24 ≤ 140737488355328:=by
 obtain ⟨_,h⟩:=h
 omega
def TRv : Tab:=fM qq dX [(98,aW1),(97,a4A),(64,aXA)] iA [(94,a65),(66,a96),(65,a97)] []
def bxR (x : Stt) : XV:=.agg 92 [.int .i64 x.aG,aR x.a,aR x.e,aB 3 cN x.ldq,aB 1 cU x.sdq,aB 1 cU x.aeq,aB 1 cJ x.abq,aB 1 cJ x.ebq,aB 5 bW x.saq,aB 8 dK x.table,aB 1 kM x.mem,.sl 16 [] 0 0 x.writes.length 3,oH x.bP,.int .i64 x.dN,.int .i64 x.cF,.int .i64 x.tags]
def aXF (c : Cfg) (s : bG) (l : List Req) (x : Stt) (left : List Req) (i : Nat) : XSt:=⟨[(9,.int .i64 i),(8,aB 8 dK l),(7,.sl 15 [] 0 0 left.length 8),(6,.ptr 3 [] 0),(5,.ptr 2 [] 0),(4,.ptr 1 [] 0),(3,.ptr 0 [] 0)],[(16,some (gK 3 oX x.writes)),(15,some (gK 8 dK left)),(3,some zX),(2,some (bxR x)),(1,some (bI s)),(0,some (aU c))],17⟩
def aTK (c : Cfg) (s : bG) (l : List Req) (y : Stt) (k : Nat) : XSt:=⟨[(11,.int .i64 k),(7,.sl 15 [] 0 0 y.table.length 8),(6,.ptr 3 [] 0),(5,.ptr 2 [] 0),(4,.ptr 1 [] 0),(3,.ptr 0 [] 0)],[(15,some (gK 8 dK y.table)),(3,some zX),(2,some (aO { y with table:=l })),(1,some (bI s)),(0,some (aU c))],17⟩
def aXG (c : Cfg) (s : bG) (l : List Req) (y : Stt) (k : Int) (b : Bool) (w : List Int) (i : Nat) : XSt:=⟨[(14,.int .i64 i),(13,.sl 17 [] 0 0 w.length 1),(12,.bool b),(11,.int .i64 k),(7,.sl 15 [] 0 0 y.table.length 8),(6,.ptr 3 [] 0),(5,.ptr 2 [] 0),(4,.ptr 1 [] 0),(3,.ptr 0 [] 0)],[(17,some (gK 1 bF w)),(15,some (gK 8 dK y.table)),(3,some zX),(2,some (aO { y with table:=l })),(1,some (bI s)),(0,some (aU c))],18⟩
theorem bAB (c : Cfg) (s : bG) (x : Stt) (r : XV) : (goQ Try.prog TRv [(.cell 6 .true 92)] r (.run iP) [] ⟨jO 0 [aU c,bI s,aO x],[],0⟩) = (
 let q1 : Nat:=x.ldq.length * 16;
 let q2 : Bool:=decide (c.dA ≥ 1);
 let q3 : Bool:=!bif q2 then decide (c.dA ≤ 16) else false;
 let q4 : Bool:=decide (c.lat ≥ 1);
 let q5 : Bool:=decide (x.ldq.length ≤ x.ldq.length);
 let q6 : Bool:=decide (x.sdq.length ≤ x.sdq.length);
 let q7 : Bool:=decide (x.aeq.length ≤ x.aeq.length);
 let q8 : Bool:=decide (x.abq.length ≤ x.abq.length);
 let q9 : Bool:=decide (x.ebq.length ≤ x.ebq.length);
 let q10 : Bool:=decide (x.saq.length ≤ x.saq.length);
 let q11 : Bool:=decide (x.table.length ≤ x.table.length);
 let q12 : Bool:=decide (x.mem.length ≤ x.mem.length);
 let q13 : Bool:=decide (x.writes.length ≤ x.writes.length);
 let q14 : XV:=.sl 12 [] 0 0 x.table.length 8;
 let q15 : XV:=.row true 0 0 fun x => .unk;
 let q16 : XV:=.agg 92 [.int .i64 x.aG,aR x.a,aR x.e,.sl 6 [] 0 0 x.ldq.length 3,.sl 7 [] 0 0 x.sdq.length 1,.sl 8 [] 0 0 x.aeq.length 1,.sl 9 [] 0 0 x.abq.length
  1,.sl 10 [] 0 0 x.ebq.length 1,.sl 11 [] 0 0 x.saq.length 5,q14,.sl 13 [] 0 0 x.mem.length 1,.sl 14 [] 0 0 x.writes.length 3,oH x.bP,.int .i64 x.dN,.int .i64 x.cF,
  .int .i64 x.tags];
 let q17 : List XV:=[.int .i64 0,.int .i64 0,.int .i64 0];
 let q18 : XV:=.agg 3 q17;
 let q19 : XV:=.agg 38 [.tab 16 1 fun x => .int .u32 0,.tab 16 1 fun x => .int .i64 0,q18,.int .i64 0,.bool false,.int .i64 0];bif decide (q1 ≤ 140737488355328) then bif gL
  (fun i => true) x.ldq.length then bif decide (x.sdq.length * 4 ≤ 140737488355328) then bif decide (x.aeq.length * 4 ≤ 140737488355328) then bif decide (x.abq.length * 1 ≤ 140737488355328)
  then bif decide (x.ebq.length * 1 ≤ 140737488355328) then bif decide (x.saq.length * 32 ≤ 140737488355328) then bif decide (x.table.length * 64 ≤ 140737488355328) then bif decide (x.mem.length
  * 1 ≤ 140737488355328) then bif decide (x.writes.length * 24 ≤ 140737488355328) then bif bif q2 then q2 else true then bif !q3 then bif bif q4 then q4 else true then bif bif q3 then
  true else !bif q4 then decide (c.lat ≤ 1000) else false then bif q5 then bif q6 then bif q7 then bif q8 then bif q9 then bif q10 then bif q11 then bif q12 then bif q13 then aA (aO
  x) r else False else False else False else False else False else False else False else False else False else aP (Ok Try.prog (Tab.q TRv)) iK (XSt.mk [(9,.int .i64
  0),(8,q14),(7,q15),(6,.ptr 3 [] 0),(5,.ptr 2 [] 0),(4,.ptr 1 [] 0),(3,.ptr 0 [] 0)] [(14,some (.tab x.writes.length 3 fun i => oX (ix x.writes i))),(13,some (.tab x.mem.length
  1 fun i => kM (ix x.mem i))),(12,some (.tab x.table.length 8 fun i => dK (ix x.table i))),(11,some (.tab x.saq.length 5 fun i => bW (ix x.saq i))),(10,some (.tab x.ebq.length
  1 fun i => cJ (ix x.ebq i))),(9,some (.tab x.abq.length 1 fun i => cJ (ix x.abq i))),(8,some (.tab x.aeq.length 1 fun i => cU (ix x.aeq i))),(7,some (.tab x.sdq.length
  1 fun i => cU (ix x.sdq i))),(6,some (.tab x.ldq.length 3 fun i => cN (ix x.ldq i))),(5,some q16),(4,some q16),(3,some (.agg 92 (.int .i64 0 :: q19 :: q19 :: q15 :: q15
  :: q15 :: q15 :: q15 :: q15 :: q15 :: q15 :: q15 :: q18 :: q17))),(2,some q16),(1,some (bI s)),(0,some (aU c))] 15) [Frm.blk 0,Frm.seq gB] (bC [AR.cell
  6 true 92] r) else False else bif q3 then bif q5 then bif q6 then bif q7 then bif q8 then bif q9 then bif q10 then bif q11 then bif q12 then bif q13 then aA (aO x) r else False
  else False else False else False else False else False else False else False else False else False else False else False else False else False else False else False else False else
  False else False else False else False):=by kernel_rfl
theorem bAC (c : Cfg) (s : bG) (l : List Req) (x : Stt) (left : List Req) (i : Nat) (r : XV) (A : XSt → Prop) : (goQ Try.prog TRv [(.cell 6 .true 92)] r (.run iK) [.lp iK A,.blk 0,.seq gB] (aXF c s l x left i)) = (
 let q1 : Bool:=decide ((↑i : Int) < (↑(l.length) : Int));
 let q2 : Int:=IntKind.wrap .i64 ((ix l i).left - 1);
 let q3 : Bool:=decide (x.mem.length ≤ 1099511627776);
 let q4 : Nat:=x.saq.length - 1;
 let q5 : XV:=.int .i64 (IntKind.wrap .i64 ((↑i : Int) + 1));
 let q6 : List (Nat × XV):=[(6,.ptr 3 [] 0),(5,.ptr 2 [] 0),(4,.ptr 1 [] 0),(3,.ptr 0 [] 0)];
 let q7 : List (Nat × XV):=(7,.sl 15 [] 0 0 left.length 8) :: q6;
 let q8 : List (Nat × XV):=(9,q5) :: (8,aB 8 dK l) :: q7;
 let q9 : Nat → Bool:=fun i => decide (i < x.writes.length);
 let q10 : XV:=.tab (pl x.writes.length 1) 3 fun i_1 => .agg 3 [.int .i64 (bif q9 i_1 then (ix x.writes i_1).addr else (ix l i).addr),.int .i64 (bif q9 i_1 then (ix x.writes i_1).size
  else (ix l i).size),.int .u32 (bif q9 i_1 then (ix x.writes i_1).val else (ix l i).val)];
 let q11 : XV:=.agg 3 [.int .i64 ((ix l i).addr),.int .i64 ((ix l i).size),.int .u32 ((ix l i).val)];
 let q12 : List XV:=[oH x.bP,.int .i64 x.dN,.int .i64 x.cF,.int .i64 x.tags];
 let q13 : List XV:=aB 8 dK x.table :: .row false 1 x.mem.length (qJ (okW x.mem.length ((ix l i).addr) ((ix l i).size)) (fun i => kM (ix x.mem i)) (Int.toNat ((ix l i).addr))
  (Int.toNat ((ix l i).size)) ((ix l i).val)) :: .sl 22 [] 0 0 (pl x.writes.length 1) 3 :: q12;
 let q14 : XV:=.agg 92 (.int .i64 x.aG :: aR x.a :: aR x.e :: aB 3 cN x.ldq :: aB 1 cU x.sdq :: aB 1 cU x.aeq :: aB 1 cJ x.abq :: aB 1 cJ
  x.ebq :: .sl 23 [] 0 0 q4 5 :: q13);
 let q15 : XV:=.agg 8 [.bool ((ix l i).store),.int .i64 ((ix l i).op),.int .i64 ((ix l i).addr),.int .i64 ((ix l i).size),.int .u32 ((ix l i).val),.int .i64 q2,.int .i64 ((ix
  l i).reg),.int .i64 ((ix l i).tag)];
 let q16 : List XV:=[.int .i64 0,.int .i64 0,.int .i64 0];
 let q17 : XV:=.agg 3 q16;
 let q18 : XV:=.agg 38 [.tab 16 1 fun x => .int .u32 0,.tab 16 1 fun x => .int .i64 0,q17,.int .i64 0,.bool false,.int .i64 0];
 let q19 : XV:=.row true 0 0 fun x => .unk;
 let q20 : XV:=.agg 92 (.int .i64 0 :: q18 :: q18 :: q19 :: q19 :: q19 :: q19 :: q19 :: q19 :: q19 :: q19 :: q19 :: q17 :: q16);
 let q21 : List (Nat × Option XV):=[(1,some (bI s)),(0,some (aU c))];
 let q22 : XV:=.agg 92 (.int .i64 x.aG :: aR x.a :: aR x.e :: aB 3 cN x.ldq :: aB 1 cU x.sdq :: aB 1 cU x.aeq :: aB 1 cJ x.abq :: aB 1 cJ
  x.ebq :: aB 5 bW x.saq :: q13);
 let q23 : Bool:=decide ((ix l i).addr ≥ 0);
 let q24 : Int:=IntKind.wrap .u32 (Req.addr (ix l (Int.toNat (↑i : Int))));
 let q25 : Bool:=decide ((ix l i).reg < 0);
 let q26 : Int:=aCD x.mem.length (fun i => kM (ix x.mem i)) ((ix l i).op) (IntKind.wrap .u32 ((ix l i).addr));
 let q27 : List Slot × Int × Int → List XV:=fun s => [aB 3 cN s.1,.int .i64 s.2.1,.int .u32 s.2.2];
 let q28 : List XV:=aB 1 cU x.sdq :: aB 1 cU x.aeq :: aB 1 cJ x.abq :: aB 1 cJ x.ebq :: aB 5 bW x.saq :: aB 8 dK x.table :: aB 1 kM x.mem
  :: .sl 16 [] 0 0 x.writes.length 3 :: q12;
 let q29 : List Slot × Bool → XV:=fun y => .agg 92 (.int .i64 x.aG :: aR x.a :: aR x.e :: aB 3 cN y.1 :: q28);
 let q30 : List Slot × Bool → XSt:=fun y => XSt.mk q8 ((20,some (q29 y)) :: (19,some q15) :: (18,some (q29 y)) :: (17,some q15) :: (16,some (gK 3 oX x.writes)) :: (15,some
  (gK 8 dK left)) :: (3,some q20) :: (2,some (q29 y)) :: q21) 21;
 let q31 : Bool:=decide ((ix l i).reg ≥ 1);
 let q32 : Bool:=bif q31 then q31 else true;
 let q33 : Bool:=bif q31 then decide ((ix l i).reg ≤ 15) else false;
 let q34 : Bool:=decide (0 ≤ (ix l i).reg);
 let q35 : Bool:=decide ((ix l i).reg < 16);
 let q36 : Nat:=Int.toNat ((ix l i).reg) * 1;
 let q37 : Nat:=pl 1 q36;
 let q38 : Bool:=Nat.beq q37 q37;
 let q39 : Bool:=decide (Int.toNat ((ix l i).reg) < 16);
 let q40 : Nat:=pl 17 q36;
 let q41 : Bool:=Nat.beq q40 q40;
 let q42 : List XV:=[.tab 16 1 fun j => .int .i64 (bif Nat.beq j (Int.toNat ((ix l i).reg)) then IntKind.wrap .i64 (x.aG + 1) else x.a.ready j),dH x.a.pos,.int .i64 x.a.wait,
  .bool x.a.halted,.int .i64 x.a.done];
 let q43 : List XV:=aR x.e :: aB 3 cN x.ldq :: q28;
 let q44 : XV:=.agg 92 (.int .i64 x.aG :: .agg 38 ((.tab 16 1 fun j => .int .u32 (bif Nat.beq j (Int.toNat ((ix l i).reg)) then q26 else x.a.oW j)) :: q42) :: q43);
 let q45 : XV:=.agg 92 (.int .i64 x.aG :: aR x.a :: q43);
 let q46 : List (Nat × Option XV):=(3,some q20) :: (2,some q45) :: q21;
 let q47 : List (Nat × Option XV):=(16,some (gK 3 oX x.writes)) :: (15,some (gK 8 dK left)) :: q46;
 let q48 : XSt:=XSt.mk q8 ((20,some q45) :: (19,some q15) :: (18,some q45) :: (17,some q15) :: q47) 21;
 let q49 : XV:=.agg 92 (.int .i64 x.aG :: .agg 38 ((.tab 16 1 fun j => .int .u32 (bif Nat.beq j (Int.toNat ((ix l i).reg)) then (0 : Int) else x.a.oW j)) :: q42) :: q43);
 let q50 : Bool:=decide (left.length ≤ left.length);
 let q51 : Bool:=decide (pl left.length 1 * 64 ≤ 140737488355328);
 let q52 : List (Nat × XV):=(9,q5) :: (7,.sl 18 [] 0 0 (pl left.length 1) 8) :: (8,aB 8 dK l) :: q6;
 let q53 : Nat → Bool:=fun i => decide (i < left.length);
 let q54 : Nat → XV:=fun i_1 => .bool (bif q53 i_1 then (ix left i_1).store else (ix l i).store);
 let q55 : Nat → XV:=fun i_1 => .int .i64 (bif q53 i_1 then (ix left i_1).op else (ix l i).op);
 let q56 : Nat → XV:=fun i_1 => .int .i64 (bif q53 i_1 then (ix left i_1).addr else (ix l i).addr);
 let q57 : Nat → XV:=fun i_1 => .int .i64 (bif q53 i_1 then (ix left i_1).size else (ix l i).size);
 let q58 : Nat → XV:=fun i_1 => .int .u32 (bif q53 i_1 then (ix left i_1).val else (ix l i).val);
 let q59 : Nat → List XV:=fun i_1 => [.int .i64 (bif q53 i_1 then (ix left i_1).reg else (ix l i).reg),.int .i64 (bif q53 i_1 then (ix left i_1).tag else (ix l i).tag)];
 let q60 : List (Nat × Option XV):=(16,some (gK 3 oX x.writes)) :: (15,none) :: q46;bif q1 then bif q1 then bif decide ((ix l i).left > 0) then bif decide (q2 = 0) then bif
  (ix l i).store then bif q3 then bif gL (fun i => true) x.mem.length then bif decide (x.writes.length ≤ x.writes.length) then bif decide (pl x.writes.length 1 * 24 ≤ 140737488355328)
  then bif decide ((↑(x.saq.length) : Int) > 0) then bif decide (1 ≤ (↑(x.saq.length) : Int)) then bif decide (q4 * 32 ≤ 140737488355328) then A (XSt.mk q8 ((23,some (.tab q4 5 fun i
  => bW (ix x.saq (pl 1 i)))) :: (22,some q10) :: (21,some q11) :: (20,some q14) :: (19,some q15) :: (18,some q14) :: (17,some q15) :: (16,none) :: (15,some (gK 8 dK
  left)) :: (3,some q20) :: (2,some q14) :: q21) 24) else False else False else A (XSt.mk q8 ((22,some q10) :: (21,some q11) :: (20,some q22) :: (19,some q15) :: (18,some q22)
  :: (17,some q15) :: (16,none) :: (15,some (gK 8 dK left)) :: (3,some q20) :: (2,some q22) :: q21) 23) else False else False else False else False else bif bif q23 then q23
  else true then bif bif q23 then decide ((ix l i).addr < 4294967296) else false then bif q3 then bif gL (fun i => true) x.mem.length then bif aV4 x.mem.length fun i => kM (ix x.mem
  i) then bif decide (0 ≤ IntKind.wrap .u32 ((ix l i).addr)) then bif decide (IntKind.wrap .u32 ((ix l i).addr) ≤ 4294967295) then bif q25 then ∃ (s : List Slot × Int × Int),aC [aB
  3 cN x.ldq,.int .i64 ((ix l i).tag),.int .u32 q26] (q27 s) ∧ aK (s.1.length ≤ 1000000) ∧ ∀ (y : List Slot × Bool),y = fO s.1 s.2.1 s.2.2 → A (q30 y) else bif q32 then bif
  q33 then bif q34 then bif q35 then bif q38 then bif q39 then bif q39 then bif q34 then bif q35 then bif q41 then bif q39 then bif q39 then A (XSt.mk q8 ((20,some q44) :: (19,some
  q15) :: (18,some q44) :: (17,some q15) :: (16,some (gK 3 oX x.writes)) :: (15,some (gK 8 dK left)) :: (3,some q20) :: (2,some q44) :: q21) 21) else False else False else
  False else False else False else False else False else False else False else False else A q48 else False else False else False else False else False else False else bif q25 then ∃ (s
  : List Slot × Int × Int),aC [aB 3 cN x.ldq,.int .i64 ((ix l i).tag),.int .u32 0] (q27 s) ∧ aK (s.1.length ≤ 1000000) ∧ ∀ (y : List Slot × Bool),y = fO s.1 s.2.1
  s.2.2 → A (q30 y) else bif q32 then bif q33 then bif q34 then bif q35 then bif q38 then bif q39 then bif q39 then bif q34 then bif q35 then bif q41 then bif q39 then bif q39 then A
  (XSt.mk q8 ((20,some q49) :: (19,some q15) :: (18,some q49) :: (17,some q15) :: (16,some (gK 3 oX x.writes)) :: (15,some (gK 8 dK left)) :: (3,some q20) :: (2,some
  q49) :: q21) 21) else False else False else False else False else False else False else False else False else False else False else A q48 else False else False else bif q50 then bif
  q51 then A (XSt.mk q52 ((18,some (.tab (pl left.length 1) 8 fun i => .agg 8 (q54 i :: q55 i :: q56 i :: q57 i :: q58 i :: .int .i64 (bif q53 i then (ix left i).left else q2) :: q59
  i))) :: (17,some q15) :: q60) 19) else False else False else bif q50 then bif q51 then A (XSt.mk q52 ((18,some (.tab (pl left.length 1) 8 fun i_1 => .agg 8 (q54 i_1 :: q55 i_1 ::
  q56 i_1 :: q57 i_1 :: q58 i_1 :: .int .i64 (bif q53 i_1 then (ix left i_1).left else (ix l i).left) :: q59 i_1))) :: (17,some (dK (ix l i))) :: q60) 19) else False else False else
  False else aP (Ok Try.prog (Tab.q TRv)) cO (XSt.mk ((11,.int .i64 0) :: q7) q47 17) [Frm.blk 2,Frm.seq dZ] (bC [AR.cell 6 true 92] r)):=by
 kernel_rfl
theorem bAD (c : Cfg) (s : bG) (l : List Req) (y : Stt) (k : Nat) (r : XV) (A : XSt → Prop) : (goQ Try.prog TRv [(.cell 6 .true 92)] r (.run cO) [.lp cO A,.blk 2,.seq dZ] (aTK c s l y k)) = (
 let q1 : XV:=.row true 0 0 fun x => .unk;
 let q2 : List XV:=[.int .i64 0,.int .i64 0,.int .i64 0];
 let q3 : XV:=.agg 3 q2;
 let q4 : XV:=.agg 38 [.tab 16 1 fun x => .int .u32 0,.tab 16 1 fun x => .int .i64 0,q3,.int .i64 0,.bool false,.int .i64 0];
 let q5 : Stt:=Stt.mk y.aG y.a y.e y.ldq y.sdq y.aeq y.abq y.ebq y.saq l y.mem y.writes y.bP y.dN y.cF y.tags;bif decide ((↑k : Int) < c.dA) then aP (Ok Try.prog
  (Tab.q TRv)) iL (XSt.mk [(14,.int .i64 0),(13,q1),(12,.bool false),(11,.int .i64 (↑k : Int)),(7,.sl 15 [] 0 0 y.table.length 8),(6,.ptr 3 [] 0),(5,.ptr
  2 [] 0),(4,.ptr 1 [] 0),(3,.ptr 0 [] 0)] [(15,some (gK 8 dK y.table)),(3,some (.agg 92 (.int .i64 0 :: q4 :: q4 :: q1 :: q1 :: q1 :: q1 :: q1 :: q1 :: q1 :: q1 :: q1 ::
  q3 :: q2))),(2,some (aO q5)),(1,some (bI s)),(0,some (aU c))] 17) [Frm.blk 4,Frm.seq kQ,Frm.blk 3,Frm.seq kR,Frm.lp cO
  A,Frm.blk 2,Frm.seq dZ] (bC [AR.cell 6 true 92] r) else bif decide (y.table.length ≤ y.table.length) then aA (.agg 92 [.int .i64 q5.aG,aR q5.a,aR
  q5.e,aB 3 cN q5.ldq,aB 1 cU q5.sdq,aB 1 cU q5.aeq,aB 1 cJ q5.abq,aB 1 cJ q5.ebq,aB 5 bW q5.saq,aB 8 dK y.table,aB 1 kM q5.mem,
  aB 3 oX q5.writes,oH q5.bP,.int .i64 q5.dN,.int .i64 q5.cF,.int .i64 q5.tags]) r else False):=by kernel_rfl
theorem bAE (c : Cfg) (s : bG) (l : List Req) (y : Stt) (k : Int) (b : Bool) (w : List Int) (i : Nat) (r : XV) (A B : XSt → Prop) : (goQ Try.prog TRv [(.cell 6 .true 92)] r (.run iL) [.lp iL B,.blk 4,.seq kQ,.blk 3,.seq kR,.lp cO A,.blk 2,.seq dZ] (aXG c s l y k b w i)) = (
 let q1 : Bool:=decide ((↑i : Int) < (↑(y.table.length) : Int));
 let q2 : Nat:=i * 8;
 let q3 : Nat:=pl q2 2;
 let q4 : Bool:=decide (i < y.table.length);
 let q5 : Req:=ix y.table (pl 0 (Int.toNat (↑i : Int)));
 let q6 : Int:=q5.addr;
 let q7 : Int:=aBO q6 c.dA;
 let q8 : XV:=.int .i64 (IntKind.wrap .i64 ((↑i : Int) + 1));
 let q9 : XV:=.sl 17 [] 0 0 w.length 1;
 let q10 : List (Nat × XV):=[(7,.sl 15 [] 0 0 y.table.length 8),(6,.ptr 3 [] 0),(5,.ptr 2 [] 0),(4,.ptr 1 [] 0),(3,.ptr 0 [] 0)];
 let q11 : List (Nat × XV):=(11,.int .i64 k) :: q10;
 let q12 : List (Nat × XV):=(12,.bool b) :: q11;
 let q13 : List XV:=[.int .i64 0,.int .i64 0,.int .i64 0];
 let q14 : XV:=.agg 3 q13;
 let q15 : XV:=.agg 38 [.tab 16 1 fun x => .int .u32 0,.tab 16 1 fun x => .int .i64 0,q14,.int .i64 0,.bool false,.int .i64 0];
 let q16 : XV:=.row true 0 0 fun x => .unk;
 let q17 : XV:=.agg 92 (.int .i64 0 :: q15 :: q15 :: q16 :: q16 :: q16 :: q16 :: q16 :: q16 :: q16 :: q16 :: q16 :: q14 :: q13);
 let q18 : Stt:=Stt.mk y.aG y.a y.e y.ldq y.sdq y.aeq y.abq y.ebq y.saq l y.mem y.writes y.bP y.dN y.cF y.tags;
 let q19 : List (Nat × Option XV):=[(1,some (bI s)),(0,some (aU c))];
 let q20 : List (Nat × Option XV):=(15,some (gK 8 dK y.table)) :: (3,some q17) :: (2,some (aO q18)) :: q19;
 let q21 : List (Nat × Option XV):=(17,some (gK 1 bF w)) :: q20;
 let q22 : XSt:=XSt.mk ((14,q8) :: (13,q9) :: q12) q21 18;
 let q23 : Nat:=pl q2 5;
 let q24 : Bool:=Nat.beq q23 q23;
 let q25 : Int:=q5.left;
 let q26 : Bool:=decide ((ix y.table i).left = 0);
 let q27 : Bool:=decide (w.length ≤ w.length);
 let q28 : Bool:=decide (pl w.length 1 * 8 ≤ 140737488355328);
 let q29 : XV:=.sl 18 [] 0 0 (pl w.length 1) 1;
 let q30 : List (Nat × Option XV):=(18,some (.tab (pl w.length 1) 1 fun i_1 => .int .i64 (bif decide (i_1 < w.length) then ix w i_1 else (↑i : Int)))) :: (17,none) :: q20;
 let q31 : List (Nat × XV):=(11,.int .i64 (IntKind.wrap .i64 (k + 1))) :: q10;
 let q32 : Int:=q18.cF;
 let q33 : XV:=.int .i64 q32;
 let q34 : bG × Int × Int → List XV:=fun s => [bI s.1,.int .i64 s.2.1,.int .i64 s.2.2];
 let q35 : Int → Nat:=fun y => Int.toNat y * 1;
 let q36 : Int:=q18.dN;
 let q37 : List XV:=[bI s,.int .i64 q36,.int .i64 c.lat];
 let q38 : bG × Int × Int → Int:=fun s => sK s.1 s.2.1 s.2.2;
 let q39 : Int → Int:=fun y => ix w (pl 0 (Int.toNat y));
 let q40 : Int → Nat:=fun y => pl (Int.toNat (ix w (Int.toNat y)) * 8) 5;
 let q41 : Int → Bool:=fun y_1 => decide (Int.toNat (ix w (Int.toNat y_1)) < y.table.length);
 let q42 : Int → Req:=fun y_1 => ix y.table (Int.toNat (ix w (Int.toNat y_1)));
 let q43 : XV:=.int .i64 q18.aG;
 let q44 : XV:=aR q18.a;
 let q45 : XV:=aR q18.e;
 let q46 : XV:=aB 3 cN q18.ldq;
 let q47 : XV:=aB 1 cU q18.sdq;
 let q48 : XV:=aB 1 cU q18.aeq;
 let q49 : XV:=aB 1 cJ q18.abq;
 let q50 : XV:=aB 1 cJ q18.ebq;
 let q51 : XV:=aB 5 bW q18.saq;
 let q52 : XV:=aB 8 dK q18.table;
 let q53 : XV:=aB 1 kM q18.mem;
 let q54 : XV:=aB 3 oX q18.writes;
 let q55 : XV:=oH q18.bP;
 let q56 : XV:=.int .i64 (IntKind.wrap .i64 (q36 + 1));
 let q57 : List XV:=[.int .i64 q18.tags];
 let q58 : Nat:=pl 0 (Int.toNat (0 : Int));
 let q59 : Int:=ix w q58;
 let q60 : Nat:=pl (Int.toNat (ix w 0) * 8) 5;
 let q61 : Bool:=decide (Int.toNat (ix w 0) < y.table.length);
 let q62 : Nat → Bool:=fun j => Nat.beq j (Int.toNat (ix w 0));
 let q63 : Req:=ix y.table (Int.toNat (ix w 0));bif q1 then bif q1 then bif Nat.beq q3 q3 then bif q4 then bif decide ((ix y.table i).addr ≤ 9223372036854775807) then bif decide ¬aBO
  ((ix y.table i).addr) c.dA = k then B q22 else bif q1 then bif q24 then bif q4 then bif decide ((ix y.table i).left > 0) then bif q1 then bif q24 then bif q4 then bif q26 then bif
  q27 then bif q28 then B (XSt.mk ((14,q8) :: (13,q29) :: (12,.bool true) :: q11) q30 19) else False else False else B (XSt.mk ((14,q8) :: (12,.bool true) :: (13,q9) :: q11) q21
  18) else False else False else False else bif q1 then bif q24 then bif q4 then bif q26 then bif q27 then bif q28 then B (XSt.mk ((14,q8) :: (13,q29) :: q12) q30 19) else False else
  False else B q22 else False else False else False else False else False else False else False else False else False else False else bif bif b then true else !b then bif bif b then true
  else decide ((↑(w.length) : Int) = 0) then A (XSt.mk q31 q21 18) else bif decide ((↑(w.length) : Int) > 1) then ∃ (s_1 : bG × Int × Int),aC [bI s,q33,.int .i64 (↑(w.length)
  : Int)] (q34 s_1) ∧ aK True ∧ ∀ (y_1 : Int),y_1 = aAG s_1.1 s_1.2.1 s_1.2.2 → bif decide (0 ≤ y_1) then bif decide (y_1 < (↑(w.length) : Int)) then bif Nat.beq (q35 y_1) (q35
  y_1) then bif decide (Int.toNat y_1 < w.length) then ∃ (s : bG × Int × Int),aC q37 (q34 s) ∧ aK True ∧ ∀ (y_2 : Int),y_2 = q38 s → bif decide (0 ≤ ix w (Int.toNat y_1))
  then bif decide (ix w (Int.toNat y_1) < (↑(y.table.length) : Int)) then bif Nat.beq (q40 y_1) (q40 y_1) then bif q41 y_1 then bif q41 y_1 then A (XSt.mk q31 ((17,some (gK 1 bF
  w)) :: (15,some (.tab y.table.length 8 fun j => .agg 8 [.bool (bif Nat.beq j (Int.toNat (ix w (Int.toNat y_1))) then (q42 y_1).store else (ix y.table j).store),.int .i64 (bif Nat.beq
  j (Int.toNat (ix w (Int.toNat y_1))) then (q42 y_1).op else (ix y.table j).op),.int .i64 (bif Nat.beq j (Int.toNat (ix w (Int.toNat y_1))) then (q42 y_1).addr else (ix y.table j).addr),
  .int .i64 (bif Nat.beq j (Int.toNat (ix w (Int.toNat y_1))) then (q42 y_1).size else (ix y.table j).size),.int .u32 (bif Nat.beq j (Int.toNat (ix w (Int.toNat y_1))) then (q42 y_1).val
  else (ix y.table j).val),.int .i64 (bif Nat.beq j (Int.toNat (ix w (Int.toNat y_1))) then y_2 else (ix y.table j).left),.int .i64 (bif Nat.beq j (Int.toNat (ix w (Int.toNat y_1)))
  then (q42 y_1).reg else (ix y.table j).reg),.int .i64 (bif Nat.beq j (Int.toNat (ix w (Int.toNat y_1))) then (q42 y_1).tag else (ix y.table j).tag)])) :: (3,some q17) :: (2,some
  (.agg 92 (q43 :: q44 :: q45 :: q46 :: q47 :: q48 :: q49 :: q50 :: q51 :: q52 :: q53 :: q54 :: q55 :: q56 :: .int .i64 (IntKind.wrap .i64 (q32 + 1)) :: q57))) :: q19) 18) else False
  else False else False else False else False else False else False else False else False else bif decide (0 < (↑(w.length) : Int)) then bif decide (0 < w.length) then ∃ (s : bG ×
  Int × Int),aC q37 (q34 s) ∧ aK True ∧ ∀ (y_1 : Int),y_1 = q38 s → bif decide (0 ≤ ix w 0) then bif decide (ix w 0 < (↑(y.table.length) : Int)) then bif Nat.beq q60 q60 then
  bif q61 then bif q61 then A (XSt.mk q31 ((17,some (gK 1 bF w)) :: (15,some (.tab y.table.length 8 fun j => .agg 8 [.bool (bif q62 j then q63.store else (ix y.table j).store),
  .int .i64 (bif q62 j then q63.op else (ix y.table j).op),.int .i64 (bif q62 j then q63.addr else (ix y.table j).addr),.int .i64 (bif q62 j then q63.size else (ix y.table j).size),
  .int .u32 (bif q62 j then q63.val else (ix y.table j).val),.int .i64 (bif q62 j then y_1 else (ix y.table j).left),.int .i64 (bif q62 j then q63.reg else (ix y.table j).reg),.int
  .i64 (bif q62 j then q63.tag else (ix y.table j).tag)])) :: (3,some q17) :: (2,some (.agg 92 (q43 :: q44 :: q45 :: q46 :: q47 :: q48 :: q49 :: q50 :: q51 :: q52 :: q53 :: q54 :: q55
  :: q56 :: q33 :: q57))) :: q19) 18) else False else False else False else False else False else False else False else False):=by kernel_rfl
theorem aQ3 : bX Try.prog TRv:=bV cZ ⟨aW4,a1B,a1I,trivial⟩ fI ⟨aME,a1D,aW9,trivial⟩ trivial
def aXH (x : Stt) : XV:=.agg 92 [.int .i64 x.aG,aR x.a,aR x.e,.sl 6 [] 0 0 x.ldq.length 3,.sl 7 [] 0 0 x.sdq.length 1,.sl 8 [] 0 0 x.aeq.length 1,.sl 9 [] 0 0 x.abq.length 1,.sl 10 [] 0 0 x.ebq.length 1,.sl 11 [] 0 0 x.saq.length 5,.sl 12 [] 0 0 x.table.length 8,.sl 13 [] 0 0 x.mem.length 1,.sl 14 [] 0 0 x.writes.length 3,oH x.bP,.int .i64 x.dN,.int .i64 x.cF,.int .i64 x.tags]
def aXI (c : Cfg) (s : bG) (x : Stt) : XSt:=⟨[(9,.int .i64 0),(8,.sl 12 [] 0 0 x.table.length 8),(7,aBP),(6,.ptr 3 [] 0),(5,.ptr 2 [] 0),(4,.ptr 1 [] 0),(3,.ptr 0 [] 0)],[(14,some (gK 3 oX x.writes)),(13,some (gK 1 kM x.mem)),(12,some (gK 8 dK x.table)),(11,some (gK 5 bW x.saq)),(10,some (gK 1 cJ x.ebq)),(9,some (gK 1 cJ x.abq)),(8,some (gK 1 cU x.aeq)),(7,some (gK 1 cU x.sdq)),(6,some (gK 3 cN x.ldq)),(5,some (aXH x)),(4,some (aXH x)),(3,some zX),(2,some (aXH x)),(1,some (bI s)),(0,some (aU c))],15⟩
def bAF (c : Cfg) (s : bG) (x : Stt) : XSt:=⟨[(9,.int .i64 0),(8,aB 8 dK x.table),(7,aBP),(6,.ptr 3 [] 0),(5,.ptr 2 [] 0),(4,.ptr 1 [] 0),(3,.ptr 0 [] 0)],[(14,some (gK 3 oX x.writes)),(3,some zX),(2,some (.agg 92 [.int .i64 x.aG,aR x.a,aR x.e,aB 3 cN x.ldq,aB 1 cU x.sdq,aB 1 cU x.aeq,aB 1 cJ x.abq,aB 1 cJ x.ebq,aB 5 bW x.saq,aB 8 dK x.table,aB 1 kM x.mem,.sl 14 [] 0 0 x.writes.length 3,oH x.bP,.int .i64 x.dN,.int .i64 x.cF,.int .i64 x.tags])),(1,some (bI s)),(0,some (aU c))],15⟩
theorem bAG {c : Cfg} {s : bG} {x : Stt} : cG 15 (aXI c s x).st (aXF c s x.table x [] 0).st:=by
 refine (cG.frz (zL (L:=[6,7,8,9,10,11,12,13]) (σ:=aXI c s x) (τ:=bAF c s x) rfl ⟨rfl,.same,rfl,kL rfl rfl,rfl,.same,rfl,.same,rfl,.same,rfl,.same,rfl,.same,trivial⟩ ⟨rfl,.same,rfl,.same,rfl,.agg (.cons .same (.cons .same (.cons .same (.cons (kL rfl rfl) (.cons (kL rfl rfl) (.cons (kL rfl rfl) (.cons (kL rfl rfl) (.cons (kL rfl rfl) (.cons (kL rfl rfl) (.cons (kL rfl rfl) (.cons (kL rfl rfl) (.cons .same (.cons .same (.cons .same (.cons .same (.cons .same .nil)))))))))))))))),rfl,.same,rfl,.same,trivial⟩)).trans ?_
 exact qI [(0,0),(1,1),(2,2),(3,3),(4,4),(5,5),(6,6),(7,7),(8,8),(9,9),(10,10),(11,11),(12,12),(13,13),(14,14),(16,14)] rfl rfl rfl rfl rfl ⟨(aJ rfl rfl),(aJ rfl rfl),tI rfl,.ptr rfl,.ptr rfl,.ptr rfl,.ptr rfl,trivial⟩ ⟨(aJ rfl rfl),⟨8,rfl⟩,(aJ rfl rfl),.agg (.cons (aJ rfl rfl) (.cons (aJ rfl rfl) (.cons (aJ rfl rfl) (.cons (aJ rfl rfl) (.cons (aJ rfl rfl) (.cons (aJ rfl rfl) (.cons (aJ rfl rfl) (.cons (aJ rfl rfl) (.cons (aJ rfl rfl) (.cons (aJ rfl rfl) (.cons (aJ rfl rfl) (.cons (.sl rfl) (.cons (aJ rfl rfl) (.cons (aJ rfl rfl) (.cons (aJ rfl rfl) (.cons (aJ rfl rfl) .nil)))))))))))))))),(aJ rfl rfl),(aJ rfl rfl),trivial⟩
theorem a4D {κ : Nat → Option Nat} {m : List Int} {w : Wr} : leK κ (con (.row false 1 m.length (qJ (okW m.length w.addr w.size) (fun i => kM (ix m i)) w.addr.toNat w.size.toNat w.val))) (con (aB 1 kM (aJA m w))):=aLR aC2.symm (.inl rfl) fun i hi => by
 unfold aJA
 rw [pC hi]
 rfl
theorem a1L {c : Cfg} {s : bG} {x : Stt} {r : XV} (ho : x.ok) (hb : x.writes.length + x.table.length ≤ 1000000)
  (hend : ∀ X L,(X,L) = oZ x.table (x,[]) → aP (Ok Try.prog (Tab.q TRv)) cO (XSt.mk [(11,.int .i64 0),(7,.sl 15 [] 0 0 L.length 8),(6,.ptr 3 [] 0),(5,.ptr 2 [] 0),(4,.ptr 1 [] 0),(3,.ptr 0 [] 0)] [(16,some (gK 3 oX X.writes)),(15,some (gK 8 dK L)),(3,some zX),(2,some (bxR X)),(1,some (bI s)),(0,some (aU c))] 17) [Frm.blk 2,Frm.seq dZ] (bC [AR.cell 6 true 92] r)) :
  aP (Ok Try.prog (Tab.q TRv)) iK (aXI c s x) [Frm.blk 0,Frm.seq gB] (bC [AR.cell 6 true 92] r):=by
 have hw : x.wf:=ho.1
 have hm0 : x.mem.length ≤ 1000000:=ho.2.2.2.2.2.2.2.2.1
 have hl0 : x.table.length ≤ 1000000:=ho.2.2.2.2.2.2.2.1
 have hs0 : x.saq.length ≤ 1000000:=ho.2.2.2.2.2.2.1
 have hq0 : x.ldq.length ≤ 1000000:=ho.2.1
 have hr0 : ∀ r ∈ x.table,r.wf:=hw.2.2.2.2.2.2.2.2.2.1.1
 refine fS mix aQ3 (fun i : Nat => aXF c s x.table (oZ (x.table.take i) (x,[])).1 (oZ (x.table.take i) (x,[])).2 i) (fun i => i ≤ x.table.length) (fun i => x.table.length - i) 0 (Nat.zero_le _) bAG ?_
 intro i hi
 replace hi : i ≤ x.table.length:=hi
 have inv:=aE5 hw hm0 hb hi
 have stp:=fun h : i < x.table.length => aHN (p:=(x,[])) h
 have hfin : i = x.table.length → oZ (x.table.take i) (x,[]) = oZ x.table (x,[]):=fun h => by rw [h,List.take_length]
 generalize oZ (x.table.take i) (x,[]) = p at inv stp hfin ⊢
 obtain ⟨X,L⟩:=p
 obtain ⟨iw,i2,i3,i4,i5,i6,i7,i8,i9,i10,_⟩:=inv
 simp only at iw i2 i3 i4 i5 i6 i7 i8 i9 i10 stp ⊢
 refine Eq.mpr (bAC c s x.table X L i _ _) ?_
 by_cases hlt : i < x.table.length
 case neg =>
  have h1 : ¬ (i : Int) < (x.table.length : Int):=by omega
  simp only [h1,zaE,zaD]
  exact hend X L (hfin (by omega))
 have h1 : (i : Int) < (x.table.length : Int):=by omega
 have w1 : IntKind.i64.wrap ((i : Int) + 1) = ((i + 1 : Nat) : Int):=wrap_i64 (by omega) (by omega)
 have hr : (ix x.table i).wf:=hr0 _ (cH hlt)
 replace stp:=stp hlt
 have hu : aV4 X.mem.length (fun i => kM (ix X.mem i)) = true:=aLU.2 fun i hi => iw.2.2.2.2.2.2.2.2.2.2.1.1 _ (cH hi)
 have nx : ∀ {τ : XSt} (p' : Stt × List Req),sL (X,L) (ix x.table i) = p' → cG 15 τ.st (aXF c s x.table p'.1 p'.2 (i + 1)).st → ∃ j,j ≤ x.table.length ∧ cG 15 τ.st (aXF c s x.table (oZ (x.table.take j) (x,[])).1 (oZ (x.table.take j) (x,[])).2 j).st ∧ x.table.length - j < x.table.length - i:=fun p' hp hk => ⟨i + 1,hlt,by rw [stp,hp];exact hk,by omega⟩
 have wl : IntKind.i64.wrap ((ix x.table i).left - 1) = (ix x.table i).left - 1 ∨ ¬ (ix x.table i).left > 0:=by
  by_cases h : (ix x.table i).left > 0
  ·have:=hr.2.2.2.2.1
   exact .inl (wrap_i64 (by omega) (by unfold bZ at this;omega))
  ·exact .inr h
 generalize hri : ix x.table i = r at hr stp nx wl ⊢
 have b1 : X.writes.length ≤ X.writes.length:=zaF _
 have b2 : (X.writes.length + 1) * 24 ≤ 140737488355328:=by omega
 have b3 : (L.length + 1) * 64 ≤ 140737488355328:=by omega
 have b4 : X.mem.length ≤ 1099511627776:=by omega
 have b5 : (X.saq.length - 1) * 32 ≤ 140737488355328:=by omega
 simp only [h1,w1,hri,zaC,zaB,zaO,zaF,cB,b2,b3,b4,b5,hu,aD]
 by_cases hl : r.left > 0
 case neg =>
  simp only [hl,zaE,zaD]
  refine nx (X,L ++ [r]) (by unfold sL;rw [if_neg hl]) ?_
  exact qI [(0,0),(1,1),(2,2),(3,3),(4,4),(5,5),(6,6),(7,7),(8,8),(9,9),(10,10),(11,11),(12,12),(13,13),(14,14),(15,18),(16,16)] rfl rfl rfl rfl rfl ⟨(aJ rfl rfl),(aJ rfl rfl),(by show leK _ (.sl 18 [] 0 0 (L.length + 1) 8) (.sl 15 [] 0 0 (L ++ [_]).length 8);rw [cD];exact .sl rfl),.ptr rfl,.ptr rfl,.ptr rfl,.ptr rfl,trivial⟩ ⟨(aJ rfl rfl),(aMF (fun j hj => by simp only [hj,zaC,zaB];rfl) (by simp;rfl)),(aJ rfl rfl),.agg (.cons (aJ rfl rfl) (.cons (aJ rfl rfl) (.cons (aJ rfl rfl) (.cons (aJ rfl rfl) (.cons (aJ rfl rfl) (.cons (aJ rfl rfl) (.cons (aJ rfl rfl) (.cons (aJ rfl rfl) (.cons (aJ rfl rfl) (.cons (aJ rfl rfl) (.cons (aJ rfl rfl) (.cons (.sl rfl) (.cons (aJ rfl rfl) (.cons (aJ rfl rfl) (.cons (aJ rfl rfl) (.cons (aJ rfl rfl) .nil)))))))))))))))),(aJ rfl rfl),(aJ rfl rfl),trivial⟩
 obtain wl:=wl.resolve_right (fun h => h hl)
 simp only [hl,wl,zaC,zaB]
 by_cases h1l : r.left = 1
 case neg =>
  have hz : ¬ r.left - 1 = 0:=by omega
  simp only [hz,zaE,zaD]
  refine nx (X,L ++ [{ r with left:=r.left - 1 }]) (by unfold sL;rw [if_pos hl,if_neg h1l]) ?_
  exact qI [(0,0),(1,1),(2,2),(3,3),(4,4),(5,5),(6,6),(7,7),(8,8),(9,9),(10,10),(11,11),(12,12),(13,13),(14,14),(15,18),(16,16)] rfl rfl rfl rfl rfl ⟨(aJ rfl rfl),(aJ rfl rfl),(by show leK _ (.sl 18 [] 0 0 (L.length + 1) 8) (.sl 15 [] 0 0 (L ++ [_]).length 8);rw [cD];exact .sl rfl),.ptr rfl,.ptr rfl,.ptr rfl,.ptr rfl,trivial⟩ ⟨(aJ rfl rfl),(aMF (fun j hj => by simp only [hj,zaC,zaB];rfl) (by simp;rfl)),(aJ rfl rfl),.agg (.cons (aJ rfl rfl) (.cons (aJ rfl rfl) (.cons (aJ rfl rfl) (.cons (aJ rfl rfl) (.cons (aJ rfl rfl) (.cons (aJ rfl rfl) (.cons (aJ rfl rfl) (.cons (aJ rfl rfl) (.cons (aJ rfl rfl) (.cons (aJ rfl rfl) (.cons (aJ rfl rfl) (.cons (.sl rfl) (.cons (aJ rfl rfl) (.cons (aJ rfl rfl) (.cons (aJ rfl rfl) (.cons (aJ rfl rfl) .nil)))))))))))))))),(aJ rfl rfl),(aJ rfl rfl),trivial⟩
 have hz : r.left - 1 = 0:=by omega
 have ed : sL (X,L) r = (kV X r,L):=by unfold sL;rw [if_pos hl,if_pos h1l]
 simp only [hz,zaC,zaB]
 cases hs : r.store with
 | true =>
  simp only [zaB]
  have wsl : leK (kap [(0,0),(1,1),(2,2),(3,3),(4,4),(5,5),(6,6),(7,7),(8,8),(9,9),(10,10),(11,11),(12,12),(13,13),(14,14),(15,15),(16,22)]) (.sl 22 [] 0 0 (X.writes.length + 1) 3) (.sl 16 [] 0 0 (X.writes ++ [(⟨r.addr,r.size,r.val⟩ : Wr)]).length 3):=by rw [cD];exact .sl rfl
  by_cases hq : X.saq.length = 0
  ·have q1 : ¬ (X.saq.length : Int) > 0:=by omega
   have e : X.saq.tail = X.saq:=by rw [List.eq_nil_of_length_eq_zero hq];rfl
   have ssl : leK (kap [(0,0),(1,1),(2,2),(3,3),(4,4),(5,5),(6,6),(7,7),(8,8),(9,9),(10,10),(11,11),(12,12),(13,13),(14,14),(15,15),(16,22)]) (con (aB 5 bW X.saq)) (con (aB 5 bW X.saq.tail)):=by rw [e];exact aJ rfl rfl
   simp only [q1,zaE,zaD]
   refine nx (kV X r,L) ed ?_
   rw [aAH hs]
   exact qI [(0,0),(1,1),(2,2),(3,3),(4,4),(5,5),(6,6),(7,7),(8,8),(9,9),(10,10),(11,11),(12,12),(13,13),(14,14),(15,15),(16,22)] rfl rfl rfl rfl rfl ⟨(aJ rfl rfl),(aJ rfl rfl),.sl rfl,.ptr rfl,.ptr rfl,.ptr rfl,.ptr rfl,trivial⟩ ⟨(aMF (fun j hj => by simp only [hj,zaC,zaB];rfl) (by simp;rfl)),(aJ rfl rfl),(aJ rfl rfl),.agg (.cons (aJ rfl rfl) (.cons (aJ rfl rfl) (.cons (aJ rfl rfl) (.cons (aJ rfl rfl) (.cons (aJ rfl rfl) (.cons (aJ rfl rfl) (.cons (aJ rfl rfl) (.cons (aJ rfl rfl) (.cons ssl (.cons (aJ rfl rfl) (.cons (a4D (m:=X.mem) (w:=⟨r.addr,r.size,r.val⟩)) (.cons wsl (.cons (aJ rfl rfl) (.cons (aJ rfl rfl) (.cons (aJ rfl rfl) (.cons (aJ rfl rfl) .nil)))))))))))))))),(aJ rfl rfl),(aJ rfl rfl),trivial⟩
  ·have q1 : (X.saq.length : Int) > 0:=by omega
   have q2 : 1 ≤ (X.saq.length : Int):=by omega
   have ssl : leK (kap [(0,0),(1,1),(2,2),(3,3),(4,4),(5,5),(6,6),(7,7),(8,8),(9,9),(10,10),(11,11),(12,12),(13,13),(14,14),(15,15),(16,22)]) (con (.row false 5 (X.saq.length - 1) fun i => bW (ix X.saq (1 + i)))) (con (aB 5 bW X.saq.tail)):=aLR (by simp) (.inl rfl) fun i hi => by rw [aC0,Nat.add_comm]
   simp only [q1,q2,zaC,zaB]
   refine nx (kV X r,L) ed ?_
   rw [aAH hs]
   refine cG.trans (τ:=XSt.st ⟨[(9,.int .i64 ((i + 1 : Nat) : Int)),(8,aB 8 dK x.table),(7,.sl 15 [] 0 0 L.length 8),(6,.ptr 3 [] 0),(5,.ptr 2 [] 0),(4,.ptr 1 [] 0),(3,.ptr 0 [] 0)],[(22,some (.tab (X.writes.length + 1) 3 fun j => .agg 3 [.int .i64 (bif decide (j < X.writes.length) then (ix X.writes j).addr else r.addr),.int .i64 (bif decide (j < X.writes.length) then (ix X.writes j).size else r.size),.int .u32 (bif decide (j < X.writes.length) then (ix X.writes j).val else r.val)])),(15,some (gK 8 dK L)),(3,some zX),(2,some (.agg 92 [.int .i64 X.aG,aR X.a,aR X.e,aB 3 cN X.ldq,aB 1 cU X.sdq,aB 1 cU X.aeq,aB 1 cJ X.abq,aB 1 cJ X.ebq,.row false 5 (X.saq.length - 1) fun i => bW (ix X.saq (1 + i)),aB 8 dK X.table,.row false 1 X.mem.length (qJ (okW X.mem.length r.addr r.size) (fun i => kM (ix X.mem i)) r.addr.toNat r.size.toNat r.val),.sl 22 [] 0 0 (X.writes.length + 1) 3,oH X.bP,.int .i64 X.dN,.int .i64 X.cF,.int .i64 X.tags])),(1,some (bI s)),(0,some (aU c))],24⟩) (by
    refine cG.frz ?_
    refine zL (L:=[23]) ?_ ?_ ?_
    ·rfl
    ·exact ⟨rfl,.same,rfl,.same,rfl,.same,rfl,.same,rfl,.same,rfl,.same,rfl,.same,trivial⟩
    ·exact ⟨rfl,.same,rfl,.same,rfl,.same,rfl,.agg (.cons .same (.cons .same (.cons .same (.cons .same (.cons .same (.cons .same (.cons .same (.cons .same (.cons (kL rfl rfl) (.cons .same (.cons .same (.cons .same (.cons .same (.cons .same (.cons .same (.cons .same .nil)))))))))))))))),rfl,.same,rfl,.same,trivial⟩) ?_
   exact qI [(0,0),(1,1),(2,2),(3,3),(4,4),(5,5),(6,6),(7,7),(8,8),(9,9),(10,10),(11,11),(12,12),(13,13),(14,14),(15,15),(16,22)] rfl rfl rfl rfl rfl ⟨(aJ rfl rfl),(aJ rfl rfl),.sl rfl,.ptr rfl,.ptr rfl,.ptr rfl,.ptr rfl,trivial⟩ ⟨(aMF (fun j hj => by simp only [hj,zaC,zaB];rfl) (by simp;rfl)),(aJ rfl rfl),(aJ rfl rfl),.agg (.cons (aJ rfl rfl) (.cons (aJ rfl rfl) (.cons (aJ rfl rfl) (.cons (aJ rfl rfl) (.cons (aJ rfl rfl) (.cons (aJ rfl rfl) (.cons (aJ rfl rfl) (.cons (aJ rfl rfl) (.cons ssl (.cons (aJ rfl rfl) (.cons (a4D (m:=X.mem) (w:=⟨r.addr,r.size,r.val⟩)) (.cons wsl (.cons (aJ rfl rfl) (.cons (aJ rfl rfl) (.cons (aJ rfl rfl) (.cons (aJ rfl rfl) .nil)))))))))))))))),(aJ rfl rfl),(aJ rfl rfl),trivial⟩
 | false =>
  simp only [zaD]
  by_cases hg : r.addr ≥ 0 ∧ r.addr ≤ 4294967295
  ·obtain ⟨g1,g2⟩:=hg
   have gw : IntKind.u32.wrap r.addr = r.addr:=wrap_u32 (by omega) (by omega)
   have g3 : (0 : Int) ≤ r.addr:=g1
   have g4 : r.addr < 4294967296:=by omega
   have hd : ldF X r = aCD X.mem.length (fun i => kM (ix X.mem i)) r.op r.addr:=by unfold ldF aQ0;rw [if_pos ⟨g1,g2⟩]
   simp only [g1,g2,g3,g4,gw,zaC,zaB]
   by_cases hn : r.reg < 0
   ·simp only [hn,zaC,zaB]
    refine ⟨(X.ldq,r.tag,aCD X.mem.length (fun i => kM (ix X.mem i)) r.op r.addr),.rfl,⟨by show X.ldq.length ≤ 1000000;omega⟩, ?_⟩
    intro y hy
    replace hy : y = fO X.ldq r.tag (aCD X.mem.length (fun i => kM (ix X.mem i)) r.op r.addr):=hy
    rw [← hd] at hy
    subst hy
    refine nx (kV X r,L) ed ?_
    rw [uA hs hn]
    exact qI [(0,0),(1,1),(2,2),(3,3),(4,4),(5,5),(6,6),(7,7),(8,8),(9,9),(10,10),(11,11),(12,12),(13,13),(14,14),(15,15),(16,16)] rfl rfl rfl rfl rfl ⟨(aJ rfl rfl),(aJ rfl rfl),.sl rfl,.ptr rfl,.ptr rfl,.ptr rfl,.ptr rfl,trivial⟩ ⟨(aJ rfl rfl),(aJ rfl rfl),(aJ rfl rfl),.agg (.cons (aJ rfl rfl) (.cons (aJ rfl rfl) (.cons (aJ rfl rfl) (.cons (aJ rfl rfl) (.cons (aJ rfl rfl) (.cons (aJ rfl rfl) (.cons (aJ rfl rfl) (.cons (aJ rfl rfl) (.cons (aJ rfl rfl) (.cons (aJ rfl rfl) (.cons (aJ rfl rfl) (.cons (.sl rfl) (.cons (aJ rfl rfl) (.cons (aJ rfl rfl) (.cons (aJ rfl rfl) (.cons (aJ rfl rfl) .nil)))))))))))))))),(aJ rfl rfl),(aJ rfl rfl),trivial⟩
   ·by_cases hk : 1 ≤ r.reg ∧ r.reg ≤ 15
    ·have k1 : r.reg ≥ 1:=hk.1
     have k2 : r.reg ≤ 15:=hk.2
     have k3 : 0 ≤ r.reg:=by omega
     have k4 : r.reg < 16:=by omega
     have k5 : r.reg.toNat < 16:=by omega
     simp only [hn,k1,k2,k3,k4,k5,zaQ,zaC,zaE,zaB,zaD]
     refine nx (kV X r,L) ed ?_
     rw [uB hs hk,hd]
     exact qI [(0,0),(1,1),(2,2),(3,3),(4,4),(5,5),(6,6),(7,7),(8,8),(9,9),(10,10),(11,11),(12,12),(13,13),(14,14),(15,15),(16,16)] rfl rfl rfl rfl rfl ⟨(aJ rfl rfl),(aJ rfl rfl),.sl rfl,.ptr rfl,.ptr rfl,.ptr rfl,.ptr rfl,trivial⟩ ⟨(aJ rfl rfl),(aJ rfl rfl),(aJ rfl rfl),.agg (.cons (aJ rfl rfl) (.cons (aJ rfl rfl) (.cons (aJ rfl rfl) (.cons (aJ rfl rfl) (.cons (aJ rfl rfl) (.cons (aJ rfl rfl) (.cons (aJ rfl rfl) (.cons (aJ rfl rfl) (.cons (aJ rfl rfl) (.cons (aJ rfl rfl) (.cons (aJ rfl rfl) (.cons (.sl rfl) (.cons (aJ rfl rfl) (.cons (aJ rfl rfl) (.cons (aJ rfl rfl) (.cons (aJ rfl rfl) .nil)))))))))))))))),(aJ rfl rfl),(aJ rfl rfl),trivial⟩
    ·have kz : (bif decide (r.reg ≥ 1) then decide (r.reg ≤ 15) else false) = false:=by
      by_cases k1 : r.reg ≥ 1
      ·have k2 : ¬ r.reg ≤ 15:=fun h => hk ⟨k1,h⟩
       simp [k1,k2]
      ·simp [k1]
     simp only [hn,kz,Ra.g2,zaE,zaD,zaB]
     refine nx (kV X r,L) ed ?_
     rw [aAI hs hn hk]
     exact qI [(0,0),(1,1),(2,2),(3,3),(4,4),(5,5),(6,6),(7,7),(8,8),(9,9),(10,10),(11,11),(12,12),(13,13),(14,14),(15,15),(16,16)] rfl rfl rfl rfl rfl ⟨(aJ rfl rfl),(aJ rfl rfl),.sl rfl,.ptr rfl,.ptr rfl,.ptr rfl,.ptr rfl,trivial⟩ ⟨(aJ rfl rfl),(aJ rfl rfl),(aJ rfl rfl),.agg (.cons (aJ rfl rfl) (.cons (aJ rfl rfl) (.cons (aJ rfl rfl) (.cons (aJ rfl rfl) (.cons (aJ rfl rfl) (.cons (aJ rfl rfl) (.cons (aJ rfl rfl) (.cons (aJ rfl rfl) (.cons (aJ rfl rfl) (.cons (aJ rfl rfl) (.cons (aJ rfl rfl) (.cons (.sl rfl) (.cons (aJ rfl rfl) (.cons (aJ rfl rfl) (.cons (aJ rfl rfl) (.cons (aJ rfl rfl) .nil)))))))))))))))),(aJ rfl rfl),(aJ rfl rfl),trivial⟩
  ·have gz : (bif decide (r.addr ≥ 0) then decide (r.addr < 4294967296) else false) = false:=by
    by_cases g1 : r.addr ≥ 0
    ·have g2 : ¬ r.addr < 4294967296:=fun h => hg ⟨g1,by omega⟩
     simp [g1,g2]
    ·simp [g1]
   have hd : ldF X r = 0:=by unfold ldF;rw [if_neg (by omega)]
   simp only [gz,Ra.g2,zaD,zaB]
   by_cases hn : r.reg < 0
   ·simp only [hn,zaC,zaB]
    refine ⟨(X.ldq,r.tag,0),.rfl,⟨by show X.ldq.length ≤ 1000000;omega⟩, ?_⟩
    intro y hy
    replace hy : y = fO X.ldq r.tag (0):=hy
    rw [← hd] at hy
    subst hy
    refine nx (kV X r,L) ed ?_
    rw [uA hs hn]
    exact qI [(0,0),(1,1),(2,2),(3,3),(4,4),(5,5),(6,6),(7,7),(8,8),(9,9),(10,10),(11,11),(12,12),(13,13),(14,14),(15,15),(16,16)] rfl rfl rfl rfl rfl ⟨(aJ rfl rfl),(aJ rfl rfl),.sl rfl,.ptr rfl,.ptr rfl,.ptr rfl,.ptr rfl,trivial⟩ ⟨(aJ rfl rfl),(aJ rfl rfl),(aJ rfl rfl),.agg (.cons (aJ rfl rfl) (.cons (aJ rfl rfl) (.cons (aJ rfl rfl) (.cons (aJ rfl rfl) (.cons (aJ rfl rfl) (.cons (aJ rfl rfl) (.cons (aJ rfl rfl) (.cons (aJ rfl rfl) (.cons (aJ rfl rfl) (.cons (aJ rfl rfl) (.cons (aJ rfl rfl) (.cons (.sl rfl) (.cons (aJ rfl rfl) (.cons (aJ rfl rfl) (.cons (aJ rfl rfl) (.cons (aJ rfl rfl) .nil)))))))))))))))),(aJ rfl rfl),(aJ rfl rfl),trivial⟩
   ·by_cases hk : 1 ≤ r.reg ∧ r.reg ≤ 15
    ·have k1 : r.reg ≥ 1:=hk.1
     have k2 : r.reg ≤ 15:=hk.2
     have k3 : 0 ≤ r.reg:=by omega
     have k4 : r.reg < 16:=by omega
     have k5 : r.reg.toNat < 16:=by omega
     simp only [hn,k1,k2,k3,k4,k5,zaQ,zaC,zaE,zaB,zaD]
     refine nx (kV X r,L) ed ?_
     rw [uB hs hk,hd]
     exact qI [(0,0),(1,1),(2,2),(3,3),(4,4),(5,5),(6,6),(7,7),(8,8),(9,9),(10,10),(11,11),(12,12),(13,13),(14,14),(15,15),(16,16)] rfl rfl rfl rfl rfl ⟨(aJ rfl rfl),(aJ rfl rfl),.sl rfl,.ptr rfl,.ptr rfl,.ptr rfl,.ptr rfl,trivial⟩ ⟨(aJ rfl rfl),(aJ rfl rfl),(aJ rfl rfl),.agg (.cons (aJ rfl rfl) (.cons (aJ rfl rfl) (.cons (aJ rfl rfl) (.cons (aJ rfl rfl) (.cons (aJ rfl rfl) (.cons (aJ rfl rfl) (.cons (aJ rfl rfl) (.cons (aJ rfl rfl) (.cons (aJ rfl rfl) (.cons (aJ rfl rfl) (.cons (aJ rfl rfl) (.cons (.sl rfl) (.cons (aJ rfl rfl) (.cons (aJ rfl rfl) (.cons (aJ rfl rfl) (.cons (aJ rfl rfl) .nil)))))))))))))))),(aJ rfl rfl),(aJ rfl rfl),trivial⟩
    ·have kz : (bif decide (r.reg ≥ 1) then decide (r.reg ≤ 15) else false) = false:=by
      by_cases k1 : r.reg ≥ 1
      ·have k2 : ¬ r.reg ≤ 15:=fun h => hk ⟨k1,h⟩
       simp [k1,k2]
      ·simp [k1]
     simp only [hn,kz,Ra.g2,zaE,zaD,zaB]
     refine nx (kV X r,L) ed ?_
     rw [aAI hs hn hk]
     exact qI [(0,0),(1,1),(2,2),(3,3),(4,4),(5,5),(6,6),(7,7),(8,8),(9,9),(10,10),(11,11),(12,12),(13,13),(14,14),(15,15),(16,16)] rfl rfl rfl rfl rfl ⟨(aJ rfl rfl),(aJ rfl rfl),.sl rfl,.ptr rfl,.ptr rfl,.ptr rfl,.ptr rfl,trivial⟩ ⟨(aJ rfl rfl),(aJ rfl rfl),(aJ rfl rfl),.agg (.cons (aJ rfl rfl) (.cons (aJ rfl rfl) (.cons (aJ rfl rfl) (.cons (aJ rfl rfl) (.cons (aJ rfl rfl) (.cons (aJ rfl rfl) (.cons (aJ rfl rfl) (.cons (aJ rfl rfl) (.cons (aJ rfl rfl) (.cons (aJ rfl rfl) (.cons (aJ rfl rfl) (.cons (.sl rfl) (.cons (aJ rfl rfl) (.cons (aJ rfl rfl) (.cons (aJ rfl rfl) (.cons (aJ rfl rfl) .nil)))))))))))))))),(aJ rfl rfl),(aJ rfl rfl),trivial⟩
theorem bAH {c : Cfg} {s : bG} {X : Stt} {L : List Req} : cG 17 (XSt.st (XSt.mk [(11,.int .i64 0),(7,.sl 15 [] 0 0 L.length 8),(6,.ptr 3 [] 0),(5,.ptr 2 [] 0),(4,.ptr 1 [] 0),(3,.ptr 0 [] 0)] [(16,some (gK 3 oX X.writes)),(15,some (gK 8 dK L)),(3,some zX),(2,some (bxR X)),(1,some (bI s)),(0,some (aU c))] 17)) (aTK c s X.table { X with table:=L } 0).st:=by
 refine cG.frz ?_
 refine zL (L:=[16]) ?_ ?_ ?_
 ·rfl
 ·exact ⟨rfl,.same,rfl,.same,rfl,.same,rfl,.same,rfl,.same,rfl,.same,trivial⟩
 ·exact ⟨rfl,.same,rfl,.same,rfl,.agg (.cons .same (.cons .same (.cons .same (.cons .same (.cons .same (.cons .same (.cons .same (.cons .same (.cons .same (.cons .same (.cons .same (.cons (kL rfl rfl) (.cons .same (.cons .same (.cons .same (.cons .same .nil)))))))))))))))),rfl,.same,rfl,.same,trivial⟩
theorem bAI {c : Cfg} {s : bG} {l : List Req} {y : Stt} {k : Int} : cG 17 (XSt.st (XSt.mk [(14,.int .i64 0),(13,aBP),(12,.bool false),(11,.int .i64 k),(7,.sl 15 [] 0 0 y.table.length 8),(6,.ptr 3 [] 0),(5,.ptr 2 [] 0),(4,.ptr 1 [] 0),(3,.ptr 0 [] 0)] [(15,some (gK 8 dK y.table)),(3,some zX),(2,some (aO { y with table:=l })),(1,some (bI s)),(0,some (aU c))] 17)) (aXG c s l y k false [] 0).st :=
 qI [(0,0),(1,1),(2,2),(3,3),(4,4),(5,5),(6,6),(7,7),(8,8),(9,9),(10,10),(11,11),(12,12),(13,13),(14,14),(15,15),(16,16)] rfl rfl rfl rfl rfl ⟨(aJ rfl rfl),tI rfl,(aJ rfl rfl),(aJ rfl rfl),.sl rfl,.ptr rfl,.ptr rfl,.ptr rfl,.ptr rfl,trivial⟩ ⟨⟨1,rfl⟩,(aJ rfl rfl),(aJ rfl rfl),(aJ rfl rfl),(aJ rfl rfl),(aJ rfl rfl),trivial⟩
theorem aXJ {c : Cfg} {s : bG} {l : List Req} {y : Stt} {k m : Nat} {lt la pi : Int} {w : XV} {f : Nat → XV} (hm : m < y.table.length) (h1 : con (f m) = con (dK { ix y.table m with left:=lt })) (h2 : ∀ j,j < y.table.length → ¬ j = m → con (f j) = con (dK (ix y.table j))) :
  cG 17 (XSt.st (XSt.mk [(11,.int .i64 ((k + 1 : Nat) : Int)),(7,.sl 15 [] 0 0 y.table.length 8),(6,.ptr 3 [] 0),(5,.ptr 2 [] 0),(4,.ptr 1 [] 0),(3,.ptr 0 [] 0)] [(17,some w),(15,some (.tab y.table.length 8 f)),(3,some zX),(2,some (aO { y with table:=l,dN:=la,cF:=pi })),(1,some (bI s)),(0,some (aU c))] 18)) (aTK c s l { y with dN:=la,cF:=pi,table:=y.table.set m { ix y.table m with left:=lt } } (k + 1)).st:=by
 have hl : (y.table.set m { ix y.table m with left:=lt }).length = y.table.length:=List.length_set
 have e1 : con (.tab y.table.length 8 f) = con (gK 8 dK (y.table.set m { ix y.table m with left:=lt })):=by
  unfold gK
  rw [hl]
  refine qB fun j hj => ?_
  rw [aBI]
  by_cases he : j = m
  ·rw [if_pos ⟨he,hm⟩,he,h1]
  ·rw [if_neg (fun h => he h.1),h2 j hj he]
 have e2 : ∀ n,n = y.table.length → con (.sl 15 [] 0 0 y.table.length 8) = con (.sl 15 [] 0 0 n 8):=fun n hn => by rw [hn]
 exact .ofL (rT ⟨bS rfl,bS (e2 _ hl),bS rfl,bS rfl,bS rfl,bS rfl,trivial⟩ ⟨congrArg some e1,rfl,rfl,rfl,rfl,trivial⟩ (zaF _) rfl)
theorem aXK {α : Type} [Inhabited α] {p : α → Bool} {l : List α} {i : Nat} (h : i < l.length) : (l.take (i + 1)).any p = ((l.take i).any p || p (ix l i)):=by
 rw [List.take_succ_eq_append_getElem h,List.any_append,fY h]
 simp
theorem a1M {c : Cfg} {s : bG} {l : List Req} {y : Stt} {k : Nat} {r : XV} {A : XSt → Prop} (hl0 : y.table.length ≤ 1000000) (hr0 : ∀ r ∈ y.table,r.wf) (hk : (k : Int) ≤ 16)
  (hA : ∀ τ y',sM c s y (k : Int) = y' → cG 17 τ.st (aTK c s l y' (k + 1)).st → A τ) :
  aP (Ok Try.prog (Tab.q TRv)) iL (XSt.mk [(14,.int .i64 0),(13,aBP),(12,.bool false),(11,.int .i64 k),(7,.sl 15 [] 0 0 y.table.length 8),(6,.ptr 3 [] 0),(5,.ptr 2 [] 0),(4,.ptr 1 [] 0),(3,.ptr 0 [] 0)] [(15,some (gK 8 dK y.table)),(3,some zX),(2,some (aO { y with table:=l })),(1,some (bI s)),(0,some (aU c))] 17) [Frm.blk 4,Frm.seq kQ,Frm.blk 3,Frm.seq kR,Frm.lp cO A,Frm.blk 2,Frm.seq dZ] (bC [AR.cell 6 true 92] r):=by
 refine fS mix aQ3 (fun i : Nat => aXG c s l y k ((y.table.take i).any (vU c k)) (eD c k y.table i) i) (fun i => i ≤ y.table.length) (fun i => y.table.length - i) 0 (Nat.zero_le _) bAI ?_
 intro i hi
 replace hi : i ≤ y.table.length:=hi
 have stp : eD c k y.table (i + 1) = _:=aTJ
 have hwl:=aXD (c:=c) (b:=(k : Int)) (l:=y.table) (k:=i)
 have hwm : ∀ m,m < (eD c k y.table i).length → 0 ≤ ix (eD c k y.table i) m ∧ ix (eD c k y.table i) m < i:=fun m hm => aMG (cH hm)
 have hfin : i = y.table.length → eD c k y.table i = eD c k y.table y.table.length ∧ (y.table.take i).any (vU c k) = y.table.any (vU c k):=fun h => by rw [h,List.take_length];exact ⟨rfl,rfl⟩
 have bst:=fun h : i < y.table.length => aXK (p:=vU c k) h
 generalize eD c k y.table i = w at stp hwl hwm hfin ⊢
 generalize (y.table.take i).any (vU c k) = b at bst hfin ⊢
 refine Eq.mpr (bAE c s l y k b w i _ _ _) ?_
 by_cases hlt : i < y.table.length
 ·have h1 : (i : Int) < (y.table.length : Int):=by omega
  have w1 : IntKind.i64.wrap ((i : Int) + 1) = ((i + 1 : Nat) : Int):=wrap_i64 (by omega) (by omega)
  have hr : (ix y.table i).wf:=hr0 _ (cH hlt)
  replace bst:=bst hlt
  have nx : ∀ {τ : XSt} (b' : Bool) (w' : List Int),b' = (y.table.take (i + 1)).any (vU c k) → w' = eD c k y.table (i + 1) → cG 17 τ.st (aXG c s l y k b' w' (i + 1)).st → ∃ j,j ≤ y.table.length ∧ cG 17 τ.st (aXG c s l y k ((y.table.take j).any (vU c k)) (eD c k y.table j) j).st ∧ y.table.length - j < y.table.length - i:=fun b' w' hb hw hk => ⟨i + 1,hlt,by rw [← hb,← hw];exact hk,by omega⟩
  have b2 : (w.length + 1) * 8 ≤ 140737488355328:=by omega
  have ha : (ix y.table i).addr ≤ 9223372036854775807:=hr.2.1.2
  simp only [h1,hlt,w1,b2,ha,zaC,zaB,zaO,zaF,cB,zaQ]
  by_cases hb : aBO (ix y.table i).addr c.dA = (k : Int)
  case neg =>
   simp only [hb,zaM,zaC,zaB]
   refine nx b w (by rw [bst];simp [vU,hb]) (by rw [stp,if_neg (by simp [xP,hb])]) ?_
   exact .of (dG ⟨rfl,rfl,rfl,rfl,rfl,rfl,rfl,rfl,rfl,trivial⟩ ⟨rfl,rfl,rfl,rfl,rfl,rfl,trivial⟩ (zaF _))
  simp only [hb,zaN,zaE,zaD]
  by_cases hg : (ix y.table i).left > 0
  ·have hz : ¬ (ix y.table i).left = 0:=by omega
   simp only [hg,hz,zaC,zaE,zaB,zaD]
   refine nx true w (by rw [bst];simp [vU,hb];exact .inr hg) (by rw [stp,if_neg (by simp [xP,hb,hz])]) ?_
   exact .of (dG ⟨rfl,rfl,rfl,rfl,rfl,rfl,rfl,rfl,rfl,trivial⟩ ⟨rfl,rfl,rfl,rfl,rfl,rfl,trivial⟩ (zaF _))
  have nb : vU c k (ix y.table i) = false:=by simp [vU,hb];omega
  simp only [hg,zaE,zaD]
  by_cases hz : (ix y.table i).left = 0
  ·simp only [hz,zaC,zaB]
   refine nx b (w ++ [(i : Int)]) (by rw [bst,nb,Bool.or_false]) (by rw [stp,if_pos (by simp [xP,hb,hz])]) ?_
   exact qI [(0,0),(1,1),(2,2),(3,3),(4,4),(5,5),(6,6),(7,7),(8,8),(9,9),(10,10),(11,11),(12,12),(13,13),(14,14),(15,15),(16,16),(17,18)] rfl rfl rfl rfl rfl ⟨(aJ rfl rfl),(by show leK _ (.sl 18 [] 0 0 (w.length + 1) 1) (.sl 17 [] 0 0 (w ++ [_]).length 1);rw [cD];exact .sl rfl),(aJ rfl rfl),(aJ rfl rfl),.sl rfl,.ptr rfl,.ptr rfl,.ptr rfl,.ptr rfl,trivial⟩ ⟨(aMF (fun j hj => by simp only [hj,zaC,zaB];rfl) (by simp;rfl)),(aJ rfl rfl),(aJ rfl rfl),(aJ rfl rfl),(aJ rfl rfl),(aJ rfl rfl),trivial⟩
  ·simp only [hz,zaE,zaD]
   refine nx b w (by rw [bst,nb,Bool.or_false]) (by rw [stp,if_neg (by simp [xP,hb,hz])]) ?_
   exact .of (dG ⟨rfl,rfl,rfl,rfl,rfl,rfl,rfl,rfl,rfl,trivial⟩ ⟨rfl,rfl,rfl,rfl,rfl,rfl,trivial⟩ (zaF _))
 ·have h1 : ¬ (i : Int) < (y.table.length : Int):=by omega
  obtain rfl : i = y.table.length:=by omega
  obtain ⟨f1,f2⟩:=hfin rfl
  have wk : IntKind.i64.wrap ((k : Int) + 1) = ((k + 1 : Nat) : Int):=wrap_i64 (by omega) (by omega)
  have ef : sM c s y k = if b then y else if w.length = 0 then y else { y with cF:=if w.length > 1 then IntKind.i64.wrap (y.cF + 1) else y.cF,dN:=IntKind.i64.wrap (y.dN + 1),table:=y.table.set (l7 s y w) { ix y.table (l7 s y w) with left:=sK s y.dN c.lat } }:=by
   unfold sM
   rw [← f1,← f2]
  simp only [h1,wk,zaE,zaD]
  cases b with
  | true =>
   simp only [zaB]
   refine hA _ y (by rw [ef];rfl) ?_
   exact .ofL (rT ⟨bS rfl,bS rfl,bS rfl,bS rfl,bS rfl,bS rfl,trivial⟩ ⟨rfl,rfl,rfl,rfl,rfl,trivial⟩ (zaF _) rfl)
  | false =>
  rw [if_neg (by simp)] at ef
  simp only [zaD,zaH,zaB]
  by_cases hz : w.length = 0
  ·have hz' : (w.length : Int) = 0:=by omega
   simp only [hz',zaC,zaB]
   refine hA _ y (by rw [ef,if_pos hz]) ?_
   exact .ofL (rT ⟨bS rfl,bS rfl,bS rfl,bS rfl,bS rfl,bS rfl,trivial⟩ ⟨rfl,rfl,rfl,rfl,rfl,trivial⟩ (zaF _) rfl)
  have hz' : ¬ (w.length : Int) = 0:=by omega
  rw [if_neg hz] at ef
  simp only [hz',zaE,zaD]
  by_cases hm : w.length > 1
  ·have hm' : (w.length : Int) > 1:=by omega
   simp only [hm',zaC,zaB]
   refine ⟨(s,y.cF,(w.length : Int)),.rfl,⟨trivial⟩, ?_⟩
   intro u hu
   replace hu : u = aAG s y.cF w.length:=hu
   have hyr:=aE3 s y.cF (n:=(w.length : Int)) (by omega)
   rw [← hu] at hyr
   have y1 : 0 ≤ u:=hyr.1
   have y2 : u < (w.length : Int):=hyr.2
   have y3 : u.toNat < w.length:=by omega
   simp only [y1,y2,y3,zaC,zaB,zaQ]
   refine ⟨(s,y.dN,c.lat),.rfl,⟨trivial⟩, ?_⟩
   intro z hz2
   replace hz2 : z = sK s y.dN c.lat:=hz2
   obtain ⟨k1,k2⟩:=hwm u.toNat y3
   have k3 : (ix w u.toNat).toNat < y.table.length:=by omega
   simp only [k1,k2,k3,zaC,zaB,zaQ]
   have hwh : l7 s y w = (ix w u.toNat).toNat:=by
    unfold l7
    rw [if_pos hm,← hu]
   rw [hwh,if_pos hm,← hz2] at ef
   refine hA _ _ ef ?_
   refine aXJ (c:=c) (s:=s) (l:=l) (y:=y) (k:=k) (lt:=z) (la:=IntKind.i64.wrap (y.dN + 1)) (pi:=IntKind.i64.wrap (y.cF + 1)) (w:=gK 1 bF w) k3 ?_ fun j hj he => ?_
   ·simp only [zaQ,zaB];rfl
   ·simp only [gT he,zaD];rfl
  ·have hm' : ¬ (w.length : Int) > 1:=by omega
   have y2 : (0 : Int) < (w.length : Int):=by omega
   have y3 : 0 < w.length:=by omega
   simp only [hm',y2,y3,zaC,zaE,zaB,zaD]
   refine ⟨(s,y.dN,c.lat),.rfl,⟨trivial⟩, ?_⟩
   intro z hz2
   replace hz2 : z = sK s y.dN c.lat:=hz2
   obtain ⟨k1,k2⟩:=hwm 0 y3
   have k3 : (ix w 0).toNat < y.table.length:=by omega
   simp only [k1,k2,k3,zaC,zaB,zaQ]
   have hwh : l7 s y w = (ix w 0).toNat:=by
    unfold l7
    rw [if_neg hm];rfl
   rw [hwh,if_neg hm,← hz2] at ef
   refine hA _ _ ef ?_
   refine aXJ (c:=c) (s:=s) (l:=l) (y:=y) (k:=k) (lt:=z) (la:=IntKind.i64.wrap (y.dN + 1)) (pi:=y.cF) (w:=gK 1 bF w) k3 ?_ fun j hj he => ?_
   ·simp only [zaQ,zaB];rfl
   ·simp only [gT he,zaD];rfl
theorem a1N {c : Cfg} {s : bG} {X : Stt} {L : List Req} (hg : wJ { X with table:=L }) (h1 : 1 ≤ c.dA) (h2 : c.dA ≤ 16) :
  aP (Ok Try.prog (Tab.q TRv)) cO (XSt.mk [(11,.int .i64 0),(7,.sl 15 [] 0 0 L.length 8),(6,.ptr 3 [] 0),(5,.ptr 2 [] 0),(4,.ptr 1 [] 0),(3,.ptr 0 [] 0)] [(16,some (gK 3 oX X.writes)),(15,some (gK 8 dK L)),(3,some zX),(2,some (bxR X)),(1,some (bI s)),(0,some (aU c))] 17) [Frm.blk 2,Frm.seq dZ] (bC [AR.cell 6 true 92] (aO (bgK c s { X with table:=L } c.dA.toNat))):=by
 refine fS mix aQ3 (fun k : Nat => aTK c s X.table (bgK c s { X with table:=L } k) k) (fun k => k ≤ c.dA.toNat) (fun k => c.dA.toNat - k) 0 (Nat.zero_le _) bAH ?_
 intro k hk
 replace hk : k ≤ c.dA.toNat:=hk
 have hgk:=aHO hg (aAJ (c:=c) (s:=s) hg.1.1 k)
 refine Eq.mpr (bAD c s X.table _ k _ _) ?_
 by_cases hlt : k < c.dA.toNat
 ·have g1 : (k : Int) < c.dA:=by omega
  simp only [g1,zaC,zaB]
  exact a1M hgk.1.2.2.2.2.2.2.2.1 hgk.1.1.2.2.2.2.2.2.2.2.2.1.1 (by omega) fun τ y' hy hw => ⟨k + 1,hlt,by
   show cG 17 τ.st (aTK c s X.table (sM c s (bgK c s { X with table:=L } k) k) (k + 1)).st
   rw [hy];exact hw,by omega⟩
 ·have g1 : ¬ (k : Int) < c.dA:=by omega
  obtain rfl : k = c.dA.toNat:=by omega
  simp only [g1,zaE,zaD,zaF,zaC,zaB]
  exact .rfl
theorem a1O : eI Try.prog (28,avS):=bB fun ⟨c,s,x⟩ h => by
 have hg : wJ x:=h
 show Pure _ _ (cons [aU c,bI s,aO x]) (con (aO (mA c s x)))
 refine jB mix aQ3 r7 (Nat.le_of_ble_eq_true rfl) ?_
 refine Eq.mpr (bAB c s x _) ?_
 obtain ⟨b1,b2,b3,b4,b5,b6,b7,b8,b9⟩:=okb hg.1
 simp only [b1,b2,b3,b4,b5,b6,b7,b8,b9,aD,zaF,cB,zaC,zaB]
 unfold mA
 by_cases h1 : c.dA ≥ 1 ∧ c.dA ≤ 16
 ·have e1 : (bif decide (c.dA ≥ 1) then decide (c.dA ≤ 16) else false) = true:=by simp [h1.1,h1.2]
  have g1 : c.dA ≥ 1:=h1.1
  by_cases h2 : c.lat ≥ 1 ∧ c.lat ≤ 1000
  ·have e2 : (bif decide (c.lat ≥ 1) then decide (c.lat ≤ 1000) else false) = true:=by simp [h2.1,h2.2]
   simp only [e1,e2,Ra.g2,zaI,zaH,zaB,zaD]
   rw [if_pos (by omega)]
   refine a1L hg.1 hg.2 fun X L hXL => ?_
   have he : eZ x = { X with table:=L }:=by unfold eZ;rw [← hXL]
   rw [he]
   exact a1N (by rw [← he];exact aE6 hg) h1.1 h1.2
  ·have e2 : (bif decide (c.lat ≥ 1) then decide (c.lat ≤ 1000) else false) = false:=by
    by_cases k1 : c.lat ≥ 1
    ·have k2 : ¬ c.lat ≤ 1000:=fun h => h2 ⟨k1,h⟩
     simp [k1,k2]
    ·simp [k1]
   simp only [e1,e2,Ra.g2,zaI,zaH,zaB,zaD]
   rw [if_neg (by omega)]
   exact .rfl
 ·have e1 : (bif decide (c.dA ≥ 1) then decide (c.dA ≤ 16) else false) = false:=by
   by_cases k1 : c.dA ≥ 1
   ·have k2 : ¬ c.dA ≤ 16:=fun h => h1 ⟨k1,h⟩
    simp [k1,k2]
   ·simp [k1]
  simp only [e1,Ra.g2,zaI,zaH,zaB,zaD]
  rw [if_neg (by omega)]
  exact .rfl
def aOY (e : Entry) (r : Req) : Bool:=!r.store && aGB r.addr r.size e.addr e.size
theorem pL {n : Int} (h : bZ n) : xN n = true:=aL7.2 h
def nR (c : Cfg) (s : Stt) : Bool:=decide (¬ s.saq = []) && (!(ix s.saq 0).known && (decide (¬ s.sdq = []) && (decide ((s.table.length : Int) < c.cA) && (!(decide (¬ s.bP.kind = 0) && decide ((ix s.saq 0).step ≥ s.bP.step)) && !s.table.any (aOY (ix s.saq 0))))))
theorem a1P {α : Type} (l : List α) : ((l.length : Int) = 0) = (l = []):=by
 cases l with
 | nil => simp
 | cons a l => simp;omega
def opI (s : Int) : Int:=if s = 1 then 33 else if s = 2 then 32 else 31
def jI (s : Stt) : Stt:={ s with
 saq:=s.saq.set 0 { ix s.saq 0 with known:=true,val:=aGA (ix s.sdq 0) (ix s.saq 0).size }
 sdq:=s.sdq.tail
 table:=s.table ++ [⟨true,opI (ix s.saq 0).size,(ix s.saq 0).addr,(ix s.saq 0).size,aGA (ix s.sdq 0) (ix s.saq 0).size,0,0,0⟩] }
def gS (c : Cfg) (s : Stt) : Stt:=if nR c s then jI s else s
theorem aXL {s : Stt} (h : s.ok) : s.ldq.length * 16 ≤ 140737488355328 ∧ s.sdq.length * 4 ≤ 140737488355328 ∧ s.aeq.length * 4 ≤ 140737488355328 ∧ s.abq.length * 1 ≤ 140737488355328 ∧ s.ebq.length * 1 ≤ 140737488355328 ∧ s.saq.length * 32 ≤ 140737488355328 ∧ s.table.length * 64 ≤ 140737488355328 ∧ s.mem.length * 1 ≤ 140737488355328 ∧ s.writes.length * 24 ≤ 140737488355328:=by
 obtain ⟨_,h⟩:=h
 omega
def TC7 : Tab:=fM qq (dX ++ iB) [(96,aQX)] iA [] []
def a4E : List XV → Option ((XV → Prop) → Prop):=eQ (fun p : Cfg × Stt => [aU p.1,aO p.2]) (fun p => p.2.ok) (fun p => nR p.1 p.2) (fun y => .bool y)
def TC8 : Tab:=fM qq (dX ++ iB) [(62,aWY)] iA [(61,a4E)] []
def a4F : List XV → Option ((XV → Prop) → Prop):=eQ (fun p : Cfg × Stt => [aU p.1,aO p.2]) (fun p => p.2.ok) (fun p => gS p.1 p.2) (fun y => aO y)
theorem a4G : bX Try.prog TC7:=bV (cZ.app fJ) ⟨aQY,trivial⟩ fI trivial trivial
theorem a1Q (c : Cfg) (s : Stt) (r : XV) : (goQ Try.prog TC7 [(.tmp 4)] r (.run nD) [] ⟨jO 0 [aU c,aO s],[],0⟩) = (
 letI q1 : Bool:=decide (0 < (↑(s.saq.length) : Int));
 letI q2 : Bool:=decide ((↑(s.saq.length) : Int) = 0);
 letI q3 : Bool:=!q2;
 letI q4 : Bool:=bif q2 then true else (ix s.saq 0).known;
 letI q5 : Bool:=bif q4 then true else decide ((↑(s.sdq.length) : Int) = 0);
 letI q6 : Bool:=bif q5 then true else decide ((↑(s.table.length) : Int) ≥ c.cA);
 letI q7 : Bool:=!q6;
 letI q8 : Bool:=decide ¬s.bP.kind = 0;
 letI q9 : Bool:=bif q7 then q8 else false;
 letI q10 : Bool:=!q7;bif bif q1 then true else !q3 then bif bif q2 then true else q3 then bif bif q4 then true else !q4 then bif bif q5 then true else !q5 then bif bif q1 then true
  else !q9 then bif bif q7 then true else q10 then bif bif bif q8 then q9 else true then true else q10 then bif bif q6 then true else q7 then bif bif q6 then true else bif q8 then decide
  ((ix s.saq 0).step ≥ s.bP.step) else false then aA (.bool false) r else bif q1 then aP (Ok Try.prog (Tab.q TC7)) l6 (XSt.mk [(6,.int .i64 0),(5,.ptr 2 [] 0),
  (4,.bool false),(3,.ptr 1 [] 0)] [(2,some (bW (ix s.saq 0))),(1,some (aO s)),(0,some (aU c))] 3) [Frm.blk 0,Frm.seq oO] (bC [AR.tmp 4] r) else False
  else False else False else False else False else False else False else False else False):=by kernel_rfl
theorem a1R (c : Cfg) (s : Stt) (i : Nat) (r : XV) (A : XSt → Prop) : (goQ Try.prog TC7 [(.tmp 4)] r (.run l6) [.lp l6 A,.blk 0,.seq oO] ⟨[(6,.int .i64 i),(5,.ptr 2 [] 0),(3,.ptr 1 [] 0)],[(2,some (bW (ix s.saq 0))),(1,some (aO s)),(0,some (aU c))],3⟩) = (
 letI q1 : Bool:=decide ((↑i : Int) < (↑(s.table.length) : Int));bif q1 then bif q1 then bif bif xN ((ix s.table i).addr) then true else !!(ix s.table i).store then bif bif xN
  ((ix s.table i).size) then true else !!(ix s.table i).store then bif bif xN ((ix s.saq 0).addr) then true else !!(ix s.table i).store then bif bif xN ((ix s.saq 0).size) then true
  else !!(ix s.table i).store then bif bif !(ix s.table i).store then !(ix s.table i).store else true then bif bif !(ix s.table i).store then aGB ((ix s.table i).addr) ((ix s.table i).size)
  ((ix s.saq 0).addr) ((ix s.saq 0).size) else false then aA (.bool false) r else A (XSt.mk [(6,.int .i64 (IntKind.wrap .i64 ((↑i : Int) + 1))),(5,.ptr 2 [] 0),(3,.ptr 1 [] 0)]
  [(3,some (dK (ix s.table i))),(2,some (bW (ix s.saq 0))),(1,some (aO s)),(0,some (aU c))] 4) else False else False else False else False else False else False else
  aA (.bool true) r):=by kernel_rfl
theorem a7A (c : Cfg) (s : Stt) (r : XV) : (aQ TC8 80 (bT TC8 80 20) 27 [aU c,aO s] (fun v => aA v r)) = (
 letI q1 : Nat:=s.ldq.length * 16;
 letI q2 : Bool:=decide (s.ldq.length ≤ s.ldq.length);
 letI q3 : Bool:=decide (s.sdq.length ≤ s.sdq.length);
 letI q4 : Bool:=decide (s.aeq.length ≤ s.aeq.length);
 letI q5 : Bool:=decide (s.abq.length ≤ s.abq.length);
 letI q6 : Bool:=decide (s.ebq.length ≤ s.ebq.length);
 letI q7 : Bool:=decide (s.saq.length ≤ s.saq.length);
 letI q8 : Bool:=decide (s.table.length ≤ s.table.length);
 letI q9 : Bool:=decide (s.mem.length ≤ s.mem.length);
 letI q10 : Bool:=decide (s.writes.length ≤ s.writes.length);
 letI q11 : Nat:=pl 0 (Int.toNat (0 : Int));
 letI q12 : Bool:=decide (0 < s.saq.length);
 letI q13 : Int:=(↑(pl 0 s.sdq.length) : Int);
 letI q14 : Bool:=Nat.beq q11 q11;
 letI q15 : Int:=(ix s.saq q11).size;
 letI q16 : Int:=bif q14 then q15 else q15;
 letI q17 : Int:=bif q14 then q16 else q16;
 letI q18 : Nat:=pl (pl 0 s.table.length) (List.length [AX.t 59]);
 letI q19 : Bool:=decide (pl s.table.length 1 * 64 ≤ 140737488355328);
 letI q20 : Nat:=s.sdq.length - 1;
 letI q21 : Bool:=decide (pl 1 q20 ≤ s.sdq.length);
 letI q22 : Bool:=decide (pl s.table.length 1 ≤ pl s.table.length 1);
 letI q23 : XV:=.row false 1 q20 fun i => cU (ix s.sdq (pl 1 i));
 letI q24 : Int:=aGA (ix s.sdq 0) ((ix s.saq 0).size);
 letI q25 : XV:=.row false 5 s.saq.length fun i => .agg 5 [.int .i64 (bif Nat.beq i 0 then (ix s.saq 0).addr else bif Nat.beq i 0 then (ix s.saq 0).addr else (ix s.saq i).addr),.int
  .i64 (bif Nat.beq i 0 then (ix s.saq 0).size else bif Nat.beq i 0 then (ix s.saq 0).size else (ix s.saq i).size),.int .i64 (bif Nat.beq i 0 then (ix s.saq 0).step else bif Nat.beq
  i 0 then (ix s.saq 0).step else (ix s.saq i).step),.bool (bif Nat.beq i 0 then true else bif Nat.beq i 0 then true else (ix s.saq i).known),.int .u32 (bif Nat.beq i 0 then q24 else
  bif Nat.beq i 0 then (ix s.saq 0).val else (ix s.saq i).val)];
 letI q26 : Nat → Bool:=fun i => decide (i < s.table.length);
 letI q27 : Nat → XV:=fun i => .bool (bif q26 i then (ix s.table i).store else true);
 letI q28 : Nat → List XV:=fun i => [.int .i64 (bif q26 i then (ix s.table i).addr else (ix s.saq 0).addr),.int .i64 (bif q26 i then (ix s.table i).size else (ix s.saq 0).size),.int
  .u32 (bif q26 i then (ix s.table i).val else q24),.int .i64 (bif q26 i then (ix s.table i).left else (0 : Int)),.int .i64 (bif q26 i then (ix s.table i).reg else (0 : Int)),.int
  .i64 (bif q26 i then (ix s.table i).tag else (0 : Int))];
 letI q29 : List XV:=[aB 1 kM s.mem,aB 3 oX s.writes,oH s.bP,.int .i64 s.dN,.int .i64 s.cF,.int .i64 s.tags];bif decide (q1 ≤ 140737488355328) then bif gL
  (fun i => true) s.ldq.length then bif decide (s.sdq.length * 4 ≤ 140737488355328) then bif decide (s.aeq.length * 4 ≤ 140737488355328) then bif decide (s.abq.length * 1 ≤ 140737488355328)
  then bif decide (s.ebq.length * 1 ≤ 140737488355328) then bif decide (s.saq.length * 32 ≤ 140737488355328) then bif decide (s.table.length * 64 ≤ 140737488355328) then bif decide (s.mem.length
  * 1 ≤ 140737488355328) then bif decide (s.writes.length * 24 ≤ 140737488355328) then bif q2 then bif q3 then bif q4 then bif q5 then bif q6 then bif q7 then bif q8 then bif q9 then
  bif q10 then ∃ (s_1 : Cfg × Stt),aC [aU c,aO s] [aU s_1.1,aO s_1.2] ∧ aK s_1.2.ok ∧ ∀ (y : Bool),y = nR s_1.1 s_1.2 → bif !y then bif q2 then bif q3 then bif
  q4 then bif q5 then bif q6 then bif q7 then bif q8 then bif q9 then bif q10 then aA (aO s) r else False else False else False else False else False else False else False else
  False else False else bif decide (0 < (↑(s.saq.length) : Int)) then bif q12 then bif q12 then bif decide (0 < (↑(s.sdq.length) : Int)) then bif decide (0 < s.sdq.length) then bif q12
  then bif q12 then bif q12 then bif decide (1 ≤ (↑(s.sdq.length) : Int)) then bif q12 then bif decide ((ix s.saq 0).size = 2) then bif q12 then bif q12 then bif q12 then bif q8 then
  bif q19 then bif q2 then bif q21 then bif q4 then bif q5 then bif q6 then bif q7 then bif q22 then bif q9 then bif q10 then aA (.agg 92 (.int .i64 s.aG :: aR s.a :: aR
  s.e :: aB 3 cN s.ldq :: q23 :: aB 1 cU s.aeq :: aB 1 cJ s.abq :: aB 1 cJ s.ebq :: q25 :: (.row false 8 (pl s.table.length 1) fun i => .agg 8 (q27 i :: .int
  .i64 (bif q26 i then (ix s.table i).op else (32 : Int)) :: q28 i)) :: q29)) r else False else False else False else False else False else False else False else False else False else
  False else False else False else False else False else bif decide ((ix s.saq 0).size = 1) then bif q12 then bif q12 then bif q12 then bif q8 then bif q19 then bif q2 then bif q21 then
  bif q4 then bif q5 then bif q6 then bif q7 then bif q22 then bif q9 then bif q10 then aA (.agg 92 (.int .i64 s.aG :: aR s.a :: aR s.e :: aB 3 cN s.ldq :: q23 ::
  aB 1 cU s.aeq :: aB 1 cJ s.abq :: aB 1 cJ s.ebq :: q25 :: (.row false 8 (pl s.table.length 1) fun i => .agg 8 (q27 i :: .int .i64 (bif q26 i then (ix s.table i).op
  else (33 : Int)) :: q28 i)) :: q29)) r else False else False else False else False else False else False else False else False else False else False else False else False else False
  else False else bif q12 then bif q12 then bif q12 then bif q8 then bif q19 then bif q2 then bif q21 then bif q4 then bif q5 then bif q6 then bif q7 then bif q22 then bif q9 then bif
  q10 then aA (.agg 92 (.int .i64 s.aG :: aR s.a :: aR s.e :: aB 3 cN s.ldq :: q23 :: aB 1 cU s.aeq :: aB 1 cJ s.abq :: aB 1 cJ s.ebq :: q25 ::
  (.row false 8 (pl s.table.length 1) fun i => .agg 8 (q27 i :: .int .i64 (bif q26 i then (ix s.table i).op else (31 : Int)) :: q28 i)) :: q29)) r else False else False else False else
  False else False else False else False else False else False else False else False else False else False else False else False else False else False else False else False else False
  else False else False else False else False else False else False else False else False else False else False else False else False else False else False else False else False else
  False else False else False else False else False else False else False):=by kernel_rfl
theorem a1S : eI Try.prog (61,a4E):=bB fun ⟨c,s⟩ h => by
 have h : s.ok:=h
 show Pure _ _ (cons [aU c,aO s]) (con (.bool (nR c s)))
 refine jB mix a4G aCK (Nat.le_of_ble_eq_true rfl) ?_
 refine Eq.mpr (a1Q c s _) ?_
 simp only [a1P]
 by_cases g8 : s.saq = []
 ·simp [g8,nR];exact .rfl
 have l8 : 0 < s.saq.length:=List.length_pos_iff.2 g8
 have l8' : (0 : Int) < (s.saq.length : Int):=by omega
 cases hk : (ix s.saq 0).known with
 | true => simp [g8,l8,hk,nR];exact .rfl
 | false =>
  by_cases g4 : s.sdq = []
  ·simp [g8,l8,hk,g4,nR];exact .rfl
  by_cases gf : c.cA ≤ (s.table.length : Int)
  ·have gf' : ¬ (s.table.length : Int) < c.cA:=by omega
   simp [g8,l8,hk,g4,gf,gf',nR];exact .rfl
  have gf' : (s.table.length : Int) < c.cA:=by omega
  by_cases gt : ¬ s.bP.kind = 0 ∧ (ix s.saq 0).step ≥ s.bP.step
  ·have gt2 : s.bP.step ≤ (ix s.saq 0).step:=gt.2
   simp [g8,l8,hk,g4,gf,gf',gt.1,gt2,nR];exact .rfl
  have ht : (decide (¬ s.bP.kind = 0) && decide ((ix s.saq 0).step ≥ s.bP.step)) = false:=by
   rw [zaW,zaP,zaP]
   by_cases h0 : s.bP.kind = 0
   ·exact .inl (by simp [h0])
   ·exact .inr fun h => gt ⟨h0,h⟩
  have ht2 : (bif decide (¬ s.bP.kind = 0) then decide ((ix s.saq 0).step ≥ s.bP.step) else false) = false:=by rw [← ht];cases decide (¬ s.bP.kind = 0) <;> rfl
  have hcan : nR c s = !s.table.any (aOY (ix s.saq 0)):=by
   unfold nR
   rw [ht,hk,decide_eq_true g8,decide_eq_true g4,decide_eq_true gf']
   rfl
  have he : (ix s.saq 0).wf:=h.1.2.2.2.2.2.2.2.2.1.1 _ (cH l8)
  have hr : ∀ r ∈ s.table,r.wf:=h.1.2.2.2.2.2.2.2.2.2.1.1
  have hl : s.table.length ≤ 1000000:=h.2.2.2.2.2.2.2.1
  simp only [g8,hk,g4,gf,gf',l8',ht2,zaC,zaE,zaB,zaD,zaI,zaH,ge_iff_le,zaN,zaM,bJ,aV]
  rw [hcan]
  have key : aP (Ok Try.prog (Tab.q TC7)) l6 (XSt.mk [(6,.int .i64 0),(5,.ptr 2 [] 0),(4,.bool false),(3,.ptr 1 [] 0)] [(2,some (bW (ix s.saq 0))),(1,some (aO s)),(0,some (aU c))] 3) [Frm.blk 0,Frm.seq oO] (bC [AR.tmp 4] (.bool (!s.table.any (aOY (ix s.saq 0))))):=by
   refine fS mix a4G (fun i : Nat => ⟨[(6,.int .i64 i),(5,.ptr 2 [] 0),(3,.ptr 1 [] 0)],[(2,some (bW (ix s.saq 0))),(1,some (aO s)),(0,some (aU c))],3⟩) (fun i => i ≤ s.table.length ∧ ∀ j,j < i → aOY (ix s.saq 0) (ix s.table j) = false) (fun i => s.table.length - i) 0 ⟨Nat.zero_le _,fun j hj => by omega⟩ (.of (dG ⟨rfl,rfl,rfl,trivial⟩ ⟨rfl,rfl,rfl,trivial⟩ (zaF _))) ?_
   rintro i ⟨hi,hp⟩
   refine Eq.mpr (a1R c s i _ _) ?_
   by_cases hlt : i < s.table.length
   ·have h1 : (i : Int) < (s.table.length : Int):=by omega
    have h2:=hr _ (cH hlt)
    have w1 : IntKind.i64.wrap ((i : Int) + 1) = ((i + 1 : Nat) : Int):=wrap_i64 (by omega) (by omega)
    have e1 : aOY (ix s.saq 0) (ix s.table i) = bif !(ix s.table i).store then aGB (ix s.table i).addr (ix s.table i).size (ix s.saq 0).addr (ix s.saq 0).size else false:=by
     unfold aOY;cases (ix s.table i).store <;> rfl
    simp only [h1,pL h2.2.1,pL h2.2.2.1,pL he.1,pL he.2.1,w1,← e1,zaC,zaE,zaB,zaD,aD,zaF,zaO,zaQ,aV,bJ,zaI,zaH,zaN,zaM,zaT,zaR,zaS,ge_iff_le,Int.le_refl,if_true,if_false,reduceCtorEq,eq_self,BEq.rfl]
    refine jQ (fun h => ?_) (fun h => ?_)
    ·rw [List.any_eq_true.2 ⟨_,cH hlt,h⟩];exact .rfl
    ·refine ⟨i + 1,⟨hlt,fun j hj => ?_⟩,.ofL (rT ⟨bS rfl,bS rfl,bS rfl,trivial⟩ ⟨rfl,rfl,rfl,trivial⟩ (zaF _) rfl),by omega⟩
     by_cases hji : j = i
     ·subst hji;exact h
     ·exact hp j (by omega)
   ·have h1 : ¬ (i : Int) < (s.table.length : Int):=by omega
    simp only [h1,zaC,zaE,zaB,zaD,aD,zaF,zaO,zaQ,aV,bJ,zaI,zaH,zaN,zaM,zaT,zaR,zaS,ge_iff_le,Int.le_refl,if_true,if_false,reduceCtorEq,eq_self,BEq.rfl]
    have : s.table.any (aOY (ix s.saq 0)) = false:=by
     rw [← Bool.not_eq_true,List.any_eq_true]
     rintro ⟨x,hx,hp2⟩
     obtain ⟨j,hj,rfl⟩:=List.mem_iff_getElem.1 hx
     have:=hp j (by omega)
     rw [fY hj,hp2] at this
     cases this
    rw [this]
    exact .rfl
  exact key
theorem bAJ : bX Try.prog TC8:=bV (cZ.app fJ) ⟨a05,trivial⟩ fI ⟨a1S,trivial⟩ trivial
theorem a1T : eI Try.prog (27,a4F):=bB fun ⟨c,s⟩ h => by
 have h : s.ok:=h
 refine eS (u:=80) (k:=20) mix bAJ ?_
 refine Eq.mpr (a7A c s _) ?_
 obtain ⟨b1,b2,b3,b4,b5,b6,b7,b8,b9⟩:=aXL h
 simp only [b1,b2,b3,b4,b5,b6,b7,b8,b9,aD,zaF,cB,zaC,zaB]
 refine ⟨(c,s),.rfl,⟨h⟩, ?_⟩
 rintro y rfl
 show cond (!nR c s) _ _
 unfold gS
 cases hu : nR c s with
 | false => exact .rfl
 | true =>
  have hu':=hu
  simp only [nR,zaG,zaK] at hu'
  have l8 : 0 < s.saq.length:=List.length_pos_iff.2 hu'.1
  have l4 : 0 < s.sdq.length:=List.length_pos_iff.2 hu'.2.2.1
  have l8' : (0 : Int) < (s.saq.length : Int):=by omega
  have l4' : (0 : Int) < (s.sdq.length : Int):=by omega
  have l4a : (1 : Int) ≤ (s.sdq.length : Int):=by omega
  have l4b : 1 + (s.sdq.length - 1) ≤ s.sdq.length:=by omega
  have l9 : (s.table.length + 1) * 64 ≤ 140737488355328:=by have:=h.2;omega
  have fin : ∀ op : Int,opI (ix s.saq 0).size = op → aA (.agg 92 [.int .i64 s.aG,aR s.a,aR s.e,aB 3 cN s.ldq,.row false 1 (s.sdq.length - 1) fun i => cU (ix s.sdq (1 + i)),aB 1 cU s.aeq,aB 1 cJ s.abq,aB 1 cJ s.ebq,.row false 5 s.saq.length fun i => .agg 5 [.int .i64 (bif Nat.beq i 0 then (ix s.saq 0).addr else bif Nat.beq i 0 then (ix s.saq 0).addr else (ix s.saq i).addr),.int .i64 (bif Nat.beq i 0 then (ix s.saq 0).size else bif Nat.beq i 0 then (ix s.saq 0).size else (ix s.saq i).size),.int .i64 (bif Nat.beq i 0 then (ix s.saq 0).step else bif Nat.beq i 0 then (ix s.saq 0).step else (ix s.saq i).step),.bool (bif Nat.beq i 0 then true else bif Nat.beq i 0 then true else (ix s.saq i).known),.int .u32 (bif Nat.beq i 0 then aGA (ix s.sdq 0) (ix s.saq 0).size else bif Nat.beq i 0 then (ix s.saq 0).val else (ix s.saq i).val)],.row false 8 (s.table.length + 1) fun i => .agg 8 [.bool (bif decide (i < s.table.length) then (ix s.table i).store else true),.int .i64 (bif decide (i < s.table.length) then (ix s.table i).op else op),.int .i64 (bif decide (i < s.table.length) then (ix s.table i).addr else (ix s.saq 0).addr),.int .i64 (bif decide (i < s.table.length) then (ix s.table i).size else (ix s.saq 0).size),.int .u32 (bif decide (i < s.table.length) then (ix s.table i).val else aGA (ix s.sdq 0) (ix s.saq 0).size),.int .i64 (bif decide (i < s.table.length) then (ix s.table i).left else 0),.int .i64 (bif decide (i < s.table.length) then (ix s.table i).reg else 0),.int .i64 (bif decide (i < s.table.length) then (ix s.table i).tag else 0)],aB 1 kM s.mem,aB 3 oX s.writes,oH s.bP,.int .i64 s.dN,.int .i64 s.cF,.int .i64 s.tags]) (aO (jI s)):=fun op hop => by
   subst hop
   refine ⟨fX ?_⟩
   repeat' (first | with_reducible exact .refl _ | exact bO | refine aF ?_ ?_ | exact .refl _)
   ·refine gH (by simp [jI]) (.inl rfl) fun i hi => ?_
    show leQ (con (cU (ix s.sdq (1 + i)))) (con (cU (ix s.sdq.tail i)))
    rw [aC0,Nat.add_comm]
    exact .refl _
   ·refine gH (by simp [jI]) (.inl rfl) fun i hi => ?_
    refine aEM ?_
    by_cases hi0 : i = 0
    ·subst hi0
     simp only [jI,aBI,l8,and_self,if_true,zaQ,zaB]
     rfl
    ·simp only [jI,aBI,hi0,false_and,if_false,gT hi0,zaD]
     rfl
   ·refine gH (by simp [jI]) (.inl rfl) fun i hi => ?_
    refine aEM ?_
    by_cases hi0 : i < s.table.length
    ·simp only [jI,gO,hi0,if_true,zaC,zaB]
     rfl
    ·have : i - s.table.length = 0:=by omega
     simp only [jI,gO,hi0,if_false,zaE,zaD,this]
     rfl
  simp only [zaI,zaD,zaB,l8,l4,l8',l4',l4a,l4b,l9,zaC,if_true]
  by_cases g2 : (ix s.saq 0).size = 2
  ·simp only [decide_eq_true g2,zaB]
   exact fin _ (by unfold opI;rw [if_neg (by omega),if_pos g2])
  simp only [decide_eq_false g2,zaD]
  by_cases g1 : (ix s.saq 0).size = 1
  ·simp only [decide_eq_true g1,zaB]
   exact fin _ (by unfold opI;rw [if_pos g1])
  simp only [decide_eq_false g1,zaD]
  exact fin _ (by unfold opI;rw [if_neg g1,if_neg g2])
theorem aHP (x : Int) : j9 (IntKind.u32.wrap x):=by rw [vO];unfold j9;omega
theorem aXM {w n : Int} (h : j9 w) : j9 (aGA w n):=by
 unfold aGA
 split
 ·exact aHP _
 split
 ·exact aHP _
 split
 ·exact h
 ·exact ⟨by omega,by omega⟩
theorem fK : bZ 0:=⟨by omega,by omega⟩
theorem a1U {c : Cfg} {s : Stt} (h : s.ok) (hn : s.table.length ≤ 999999) : (gS c s).ok:=by
 unfold gS
 split
 ·rename_i hu
  simp only [nR,zaG,zaK] at hu
  have l8 : 0 < s.saq.length:=List.length_pos_iff.2 hu.1
  have l4 : 0 < s.sdq.length:=List.length_pos_iff.2 hu.2.2.1
  obtain ⟨⟨w0,w1,w2,w3,w4,w5,w6,w7,w8,w9,w10,w11,w12,w13,w14,w15⟩,o⟩:=h
  have he : (ix s.saq 0).wf:=w8.1 _ (cH l8)
  have hm : j9 (aGA (ix s.sdq 0) (ix s.saq 0).size):=aXM (w4.1 _ (cH l4))
  have ho : bZ (opI (ix s.saq 0).size):=by
   unfold opI
   split
   ·exact ⟨by omega,by omega⟩
   split
   ·exact ⟨by omega,by omega⟩
   ·exact ⟨by omega,by omega⟩
  have t4 : (jI s).sdq.length = s.sdq.length - 1:=by simp [jI]
  have t8 : (jI s).saq.length = s.saq.length:=by simp [jI]
  have t9 : (jI s).table.length = s.table.length + 1:=by simp [jI]
  refine ⟨⟨w0,w1,w2,w3,⟨fun x hx => w4.1 x (List.mem_of_mem_tail hx),by rw [t4];omega⟩,w5,w6,w7,⟨fun x hx => ?_,by rw [t8];omega⟩,⟨fun x hx => ?_,by rw [t9];omega⟩,w10,w11,w12,w13,w14,w15⟩, ?_⟩
  ·rcases List.mem_or_eq_of_mem_set hx with hx | rfl
   ·exact w8.1 x hx
   ·exact ⟨he.1,he.2.1,he.2.2.1,hm⟩
  ·rcases List.mem_append.1 hx with hx | hx
   ·exact w9.1 x hx
   ·simp only [List.mem_singleton] at hx
    subst hx
    exact ⟨ho,he.1,he.2.1,hm,fK,fK,fK⟩
  ·rw [t4,t8,t9]
   show s.ldq.length ≤ 1000000 ∧ s.sdq.length - 1 ≤ 1000000 ∧ s.aeq.length ≤ 1000000 ∧ s.abq.length ≤ 1000000 ∧ s.ebq.length ≤ 1000000 ∧ s.saq.length ≤ 1000000 ∧ s.table.length + 1 ≤ 1000000 ∧ s.mem.length ≤ 1000000 ∧ s.writes.length ≤ 1000000
   omega
 ·exact h
theorem g8 (a b : Bool) : (a || b && !a || !b) = true:=by cases a <;> cases b <;> rfl
def TJ0 : Tab:=fM qq (oM ++ dX ++ gG) [] [] [(19,aWH)] []
def aXN : cM:=⟨fun _ => 0,fun _ => 0,⟨0,0,0⟩,0,false,0⟩
def a1V : Stt:=⟨0,aXN,aXN,[],[],[],[],[],[],[],[],[],⟨0,0,0⟩,0,0,0⟩
def aJQ (p : Prog) : List Int:=dI p.size.toNat fun i => bif decide (i < p.data.length) then ix p.data i else 0
def aE7 (p : Prog) : Stt:={ a1V with mem:=aJQ p }
def kS (p : Prog) : Stt:=if aX p then aE7 p else a1V
def bAK : List XV → Option ((XV → Prop) → Prop):=eQ (fun p : Prog => [aL p]) (fun p => p.wf) (fun p => kS p) (fun y => aO y)
theorem bAL : bX Try.prog TJ0:=bV ((mN.app cZ).app eC) trivial trivial ⟨aI2,trivial⟩ trivial
theorem bC9 (p : Prog) (r : XV) : (aQ TJ0 80 (bT TJ0 80 20) 8 [aL p] (fun v => aA v r)) = (
 letI q1 : List XV:=[.int .i64 0,.int .i64 0,.int .i64 0];
 letI q2 : XV:=.agg 3 q1;
 letI q3 : XV:=.agg 38 [.tab 16 1 fun x => .int .u32 0,.tab 16 1 fun x => .int .i64 0,q2,.int .i64 0,.bool false,.int .i64 0];
 letI q4 : XV:=.row true 0 0 fun x => .unk;
 letI q5 : List XV:=q4 :: q2 :: q1;
 letI q6 : Nat:=Int.toNat p.size * 1;∃ (s : Prog),aC [aL p] [aL s] ∧ aK s.wf ∧ ∀ (y : Bool),y = aX s → bif !y then aA (.agg 92 (.int .i64 0 :: q3 :: q3
  :: q4 :: q4 :: q4 :: q4 :: q4 :: q4 :: q4 :: q4 :: q5)) r else bif decide (0 ≤ p.size) then bif decide (q6 ≤ 140737488355328) then bif Nat.beq (Int.toNat p.size) (Int.toNat p.size)
  then bif decide (Int.toNat p.size ≤ Int.toNat p.size) then aA (.agg 92 (.int .i64 0 :: q3 :: q3 :: q4 :: q4 :: q4 :: q4 :: q4 :: q4 :: q4 :: (.row false 1 (Int.toNat p.size) fun
  i => .int .u8 (bif decide (i < p.data.length) then ix p.data i else (0 : Int))) :: q5)) r else False else False else False else False):=by kernel_rfl
theorem uD {α : Type} [Inhabited α] {es : Nat} {en : α → XV} : leQ (con (.row true 0 0 fun x => .unk)) (con (aB es en [])):=cQ
theorem bDA : leQ (con (.agg 92 [.int .i64 0,.agg 38 [.tab 16 1 fun x => .int .u32 0,.tab 16 1 fun x => .int .i64 0,.agg 3 [.int .i64 0,.int .i64 0,.int .i64 0],.int .i64 0,.bool false,.int .i64 0],.agg 38 [.tab 16 1 fun x => .int .u32 0,.tab 16 1 fun x => .int .i64 0,.agg 3 [.int .i64 0,.int .i64 0,.int .i64 0],.int .i64 0,.bool false,.int .i64 0],.row true 0 0 fun x => .unk,.row true 0 0 fun x => .unk,.row true 0 0 fun x => .unk,.row true 0 0 fun x => .unk,.row true 0 0 fun x => .unk,.row true 0 0 fun x => .unk,.row true 0 0 fun x => .unk,.row true 0 0 fun x => .unk,.row true 0 0 fun x => .unk,.agg 3 [.int .i64 0,.int .i64 0,.int .i64 0],.int .i64 0,.int .i64 0,.int .i64 0])) (con (aO a1V)) :=
 fX (aF (.refl _) (aF (.refl _) (aF (.refl _) (aF uD (aF uD (aF uD (aF uD (aF uD (aF uD (aF uD (aF uD (aF uD (aF (.refl _) (aF (.refl _) (aF (.refl _) (aF (.refl _) bO))))))))))))))))
theorem aJR {p : Prog} : (aJQ p).length = p.size.toNat:=bH
theorem bDB {p : Prog} : leQ (con (.agg 92 [.int .i64 0,.agg 38 [.tab 16 1 fun x => .int .u32 0,.tab 16 1 fun x => .int .i64 0,.agg 3 [.int .i64 0,.int .i64 0,.int .i64 0],.int .i64 0,.bool false,.int .i64 0],.agg 38 [.tab 16 1 fun x => .int .u32 0,.tab 16 1 fun x => .int .i64 0,.agg 3 [.int .i64 0,.int .i64 0,.int .i64 0],.int .i64 0,.bool false,.int .i64 0],.row true 0 0 fun x => .unk,.row true 0 0 fun x => .unk,.row true 0 0 fun x => .unk,.row true 0 0 fun x => .unk,.row true 0 0 fun x => .unk,.row true 0 0 fun x => .unk,.row true 0 0 fun x => .unk,.row false 1 p.size.toNat fun i => .int .u8 (bif decide (i < p.data.length) then ix p.data i else 0),.row true 0 0 fun x => .unk,.agg 3 [.int .i64 0,.int .i64 0,.int .i64 0],.int .i64 0,.int .i64 0,.int .i64 0])) (con (aO (aE7 p))) :=
 fX (aF (.refl _) (aF (.refl _) (aF (.refl _) (aF uD (aF uD (aF uD (aF uD (aF uD (aF uD (aF uD (aF (gH aJR.symm (.inl rfl) fun i hi => by
  show leQ _ (con (kM (ix (aJQ p) i)))
  unfold aJQ
  rw [pC hi]
  exact .refl _) (aF uD (aF (.refl _) (aF (.refl _) (aF (.refl _) (aF (.refl _) bO))))))))))))))))
theorem aTL : eI Try.prog (8,bAK):=bB fun p hw => by
 have hw : p.wf:=hw
 show Pure _ _ (cons [aL p]) (con (aO (kS p)))
 refine eS (u:=80) (k:=20) mix bAL ?_
 refine Eq.mpr (bC9 p _) ?_
 refine ⟨p,.rfl,⟨hw⟩, ?_⟩
 intro y hy
 replace hy : y = aX p:=hy
 subst hy
 unfold kS
 cases hr : aX p with
 | false => exact ⟨bDA⟩
 | true =>
  have hr':=hr
  simp only [aX,zaG,zaK] at hr'
  have h1 : (0 : Int) ≤ p.size:=by omega
  have h2 : p.size.toNat * 1 ≤ 140737488355328:=by omega
  simp only [g1,g2,g3,g4,g5,g6,g7,aD,zaB,zaF,zaC,cB,h1,h2,zaQ,zaI]
  exact ⟨bDB⟩
def qK (addr size n : Int) : Bool:=decide (size = 1 ∨ size = 2 ∨ size = 4) && (decide (addr ≥ 0) && (decide (addr ≤ n) && (decide (n - addr ≥ size) && decide (addr % size = 0))))
def a7B : List XV → Option ((XV → Prop) → Prop):=eQ (fun q : Int × Int × Int => [.int .i64 q.1,.int .i64 q.2.1,.int .i64 q.2.2]) (fun q => 0 ≤ q.2.2 ∧ q.2.2 ≤ 1000000) (fun q => qK q.1 q.2.1 q.2.2) (fun y => .bool y)
def TKs : Tab:=fM qq (oM ++ dX) [] [] [] []
def aOZ (n : Int) : Bool:=decide (0 ≤ n ∧ n ≤ 1099511627776)
def sH (q : Req) (n : Int) : Bool:=decide (q.size = szI q.op) && (qK q.addr q.size n && ((if q.store then decide (aI q.op = 5) else decide (aI q.op = 4)) && (decide (0 ≤ q.left ∧ q.left ≤ 1000) && decide (-1 ≤ q.reg ∧ q.reg ≤ 15))))
def bAM : List XV → Option ((XV → Prop) → Prop):=eQ (fun q : Req × Int => [dK q.1,.int .i64 q.2]) (fun q => 0 ≤ q.2 ∧ q.2 ≤ 1000000) (fun q => sH q.1 q.2) (fun y => .bool y)
def aE8 (t : Trp) : Bool:=if t.kind = 0 then decide (t.step = 0) && decide (t.pc = 0) else decide (1 ≤ t.kind ∧ t.kind ≤ 4) && (aOZ t.step && aOZ t.pc)
def TK1 : Tab:=fM qq (oM ++ dX) [(54,aTI),(67,kN)] [] [(35,wnS),(38,a7B)] []
theorem bAN : bX Try.prog TKs:=bV (mN.app cZ) trivial trivial trivial trivial
theorem bDC (addr size n : Int) (r : XV) : (aQ TKs 80 (bT TKs 80 20) 38 [.int .i64 addr,.int .i64 size,.int .i64 n] (fun v => aA v r)) = (
 letI q1 : Bool:=decide (size = 1);
 letI q2 : Bool:=bif q1 then true else decide (size = 2);
 letI q3 : Bool:=bif q2 then true else decide (size = 4);
 letI q4 : Bool:=bif q3 then decide (addr ≥ 0) else false;
 letI q5 : Bool:=bif q4 then decide (addr ≤ n) else false;
 letI q6 : Bool:=bif q5 then decide (IntKind.wrap .i64 (n - addr) ≥ size) else false;bif bif q1 then true else !q1 then bif bif q2 then true else !q2 then bif bif q3 then q3 else
  true then bif bif q4 then q4 else true then bif bif q5 then q5 else true then bif bif !decide (size = 0) then true else !q6 then bif bif q6 then q6 else true then aA (.bool (bif
  q6 then decide (Int.tmod addr size = 0) else false)) r else False else False else False else False else False else False else False):=by kernel_rfl
theorem bAO (q : Req) (n : Int) (r : XV) : (aQ TK1 80 (bT TK1 80 20) 39 [dK q,.int .i64 n] (fun v => aA v r)) = (
 letI q1 : Bool:=decide (q.size = szI q.op);
 letI q2 : Bool → Bool:=fun y => bif q1 then y else false;
 letI q3 : Bool → Bool:=fun y => !q2 y;
 letI q4 : Bool → Bool:=fun y => bif q2 y then true else q3 y;
 letI q5 : Bool:=bif q.store then decide (aI q.op = 5) else false;
 letI q6 : Bool → Bool:=fun y => bif q2 y then !q5 else false;
 letI q7 : Bool → Bool:=fun y => !q6 y;
 letI q8 : Bool → Bool:=fun y => bif q2 y then bif q5 then true else bif !q.store then decide (aI q.op = 4) else false else false;
 letI q9 : Bool → Bool:=fun y => bif q8 y then decide (q.left ≥ 0) else false;
 letI q10 : Bool → Bool:=fun y => bif q9 y then decide (q.left ≤ 1000) else false;
 letI q11 : Bool → Bool:=fun y => bif q10 y then decide (q.reg ≥ (-1 : Int)) else false;bif q1 then ∃ (s : Int × Int × Int),aC [.int .i64 q.addr,.int .i64 q.size,.int .i64
  n] [.int .i64 s.1,.int .i64 s.2.1,.int .i64 s.2.2] ∧ aK (0 ≤ s.2.2 ∧ s.2.2 ≤ 1000000) ∧ ∀ (y : Bool),y = qK s.1 s.2.1 s.2.2 → bif q4 y then bif bif bif q.store then bif q2
  y then q.store else false else true then true else q3 y then bif bif q6 y then true else q7 y then bif bif bif !q.store then bif q6 y then !q.store else false else true then true else
  q7 y then bif q4 y then bif bif bif q5 then true else q6 y then true else q3 y then bif bif q2 y then q2 y else true then bif bif q8 y then q8 y else true then bif bif q9 y then q9
  y else true then bif bif q10 y then q10 y else true then bif bif q11 y then q11 y else true then aA (.bool (bif q11 y then decide (q.reg ≤ 15) else false)) r else False else False
  else False else False else False else False else False else False else False else False else False else bif !q1 then bif bif bif q.store then false else true then true else true then
  bif bif bif !q.store then false else true then true else true then bif bif bif q5 then true else false then true else true then aA (.bool false) r else False else False else False
  else False):=by kernel_rfl
theorem bDD {x y : Bool} (h : x = y) : aA (.bool x) (.bool y):=by rw [h];exact .rfl
theorem w1F {lo hi x : Int} : cE lo hi [x] = decide (lo ≤ x ∧ x ≤ hi):=by simp [cE]
theorem a7C {a s : Int} (ha : 0 ≤ a) : a.tmod s = a % s:=Int.tmod_eq_emod_of_nonneg ha
theorem aQ4 : eI Try.prog (38,a7B):=bB fun ⟨addr,size,n⟩ h => by
 obtain ⟨hn0,hn⟩ : 0 ≤ n ∧ n ≤ 1000000:=h
 show Pure _ _ (cons [.int .i64 addr,.int .i64 size,.int .i64 n]) (con (.bool (qK addr size n)))
 refine eS (u:=80) (k:=20) mix bAN ?_
 refine Eq.mpr (bDC addr size n _) ?_
 simp only [g1,g2,g3,g4,g5,g6,g7,aD,zaB,zaF,zaC,cB]
 simp only [bor,qC]
 by_cases hs : size = 1 ∨ size = 2 ∨ size = 4
 ·by_cases ha : 0 ≤ addr ∧ addr ≤ n
  ·obtain ⟨ha0,ha1⟩:=ha
   have w1 : IntKind.i64.wrap (n - addr) = n - addr:=wrap_i64 (by omega) (by omega)
   have hs' : (decide (size = 1) || decide (size = 2) || decide (size = 4)) = true:=by simpa [or_assoc] using hs
   have z : ¬ size = 0:=by omega
   simp only [hs',w1,a7C ha0,z,g1,g2,g3,g4,g5,g6,g7,aD,zaB,zaF,zaC,cB]
   refine bDD ?_
   unfold qK
   rw [Bool.eq_iff_iff]
   simp only [zaG,zaV,zaK,or_assoc]
   constructor
   ·rintro ⟨⟨⟨⟨_,h2⟩,h3⟩,h4⟩,h5⟩
    exact ⟨hs,h2,h3,h4,h5⟩
   ·rintro ⟨_,h2,h3,h4,h5⟩
    exact ⟨⟨⟨⟨trivial,h2⟩,h3⟩,h4⟩,h5⟩
  ·have hs' : (decide (size = 1) || decide (size = 2) || decide (size = 4)) = true:=by simpa [or_assoc] using hs
   have z : ¬ size = 0:=by omega
   have ha' : (decide (addr ≥ 0) && decide (addr ≤ n)) = false:=by
    rw [← Bool.not_eq_true,zaG,zaK,zaK]
    exact ha
   have e : qK addr size n = false:=by
    rw [← Bool.not_eq_true]
    unfold qK
    simp only [zaG,zaK]
    rintro ⟨_,h2,h3,_⟩
    exact ha ⟨h2,h3⟩
   rw [e]
   simp only [hs',z,ha',zaR,Bool.false_and,zaE,zaH,Bool.true_or,zaB,zaD]
   first | exact .rfl | (cases decide (addr ≥ 0) <;> cases decide (addr ≤ n) <;> first | exact .rfl | simp at ha')
 ·have hs' : (decide (size = 1) || decide (size = 2) || decide (size = 4)) = false:=by simpa [not_or,and_assoc] using hs
  simp only [hs',Bool.false_and,zaD,zaH,g1,g2,g3,g4,g5,g6,g7,aD,zaB,zaF,zaC,cB]
  have e : qK addr size n = false:=by
   unfold qK
   rw [decide_eq_false hs]
   rfl
  rw [e,Bool.or_true]
  exact .rfl
theorem bAP : bX Try.prog TK1:=bV (mN.app cZ) ⟨zK,jR,trivial⟩ trivial ⟨a37,aQ4,trivial⟩ trivial
theorem a7D : eI Try.prog (39,bAM):=bB fun ⟨q,n⟩ h => by
 obtain ⟨hn0,hn⟩ : 0 ≤ n ∧ n ≤ 1000000:=h
 show Pure _ _ (cons [dK q,.int .i64 n]) (con (.bool (sH q n)))
 refine eS (u:=80) (k:=20) mix bAP ?_
 refine Eq.mpr (bAO q n _) ?_
 unfold sH
 have e1 : decide (0 ≤ q.left ∧ q.left ≤ 1000) = (decide (q.left ≥ 0) && decide (q.left ≤ 1000)):=by rw [Bool.eq_iff_iff];simp
 have e2 : decide (-1 ≤ q.reg ∧ q.reg ≤ 15) = (decide (q.reg ≥ -1) && decide (q.reg ≤ 15)):=by rw [Bool.eq_iff_iff];simp
 rw [e1,e2]
 generalize decide (q.size = szI q.op) = c
 generalize decide (aI q.op = 5) = f5
 generalize decide (aI q.op = 4) = f4
 generalize decide (q.left ≥ 0) = l0
 generalize decide (q.left ≤ 1000) = l1
 generalize decide (q.reg ≥ -1) = r0
 generalize decide (q.reg ≤ 15) = r1
 cases c with
 | false => cases q.store <;> cases f5 <;> cases f4 <;> first | exact .rfl | (cases l0 <;> first | exact .rfl | (cases l1 <;> first | exact .rfl | (cases r0 <;> first | exact .rfl | (cases r1 <;> exact .rfl))))
 | true =>
  refine ⟨(q.addr,q.size,n),.rfl,⟨⟨hn0,hn⟩⟩, ?_⟩
  intro y hy
  replace hy : y = qK q.addr q.size n:=hy
  rw [← hy]
  clear hy
  cases y with
  | false => cases q.store <;> cases f5 <;> cases f4 <;> first | exact .rfl | (cases l0 <;> first | exact .rfl | (cases l1 <;> first | exact .rfl | (cases r0 <;> first | exact .rfl | (cases r1 <;> exact .rfl))))
  | true => cases q.store <;> cases f5 <;> cases f4 <;> first | exact .rfl | (cases l0 <;> first | exact .rfl | (cases l1 <;> first | exact .rfl | (cases r0 <;> first | exact .rfl | (cases r1 <;> exact .rfl))))
def rL (s : Split) (onE : Bool) (b : Int) : List Cell:=if onE then (ix s.blocks b.toNat).e else (ix s.blocks b.toNat).a
def iT (s : Split) (onE : Bool) (d : cM) : Bool:=decide (0 ≤ d.pos.block ∧ d.pos.block < s.blocks.length) && (cE 0 (rL s onE d.pos.block).length [d.pos.index] && (cE 0 1099511627776 [d.pos.base,d.wait,d.done] && cE (-1) 1099511627776 (dI 16 d.ready)))
def aQ5 (c : Cfg) (x : Stt) : Bool:=decide ((x.ldq.length : Int) ≤ c.ldq) && (decide ((x.sdq.length : Int) ≤ c.sdq) && (decide ((x.aeq.length : Int) ≤ c.aeq) && (decide ((x.abq.length : Int) ≤ c.abq) && (decide ((x.ebq.length : Int) ≤ c.ebq) && (decide ((x.saq.length : Int) ≤ c.saq) && (decide ((x.table.length : Int) ≤ c.cA) && decide ((x.mem.length : Int) ≤ 65536)))))))
def wK (x : Stt) (q : Req) : Bool:=!q.store || (decide (¬ x.saq.length = 0) && (decide (q.addr = (ix x.saq 0).addr) && decide (q.size = (ix x.saq 0).size)))
def fP (l : List Req) : Nat:=l.countP (fun q => q.store)
def aQ6 (x : Stt) : Bool:=x.table.all (wK x) && decide (fP x.table = if 0 < x.saq.length ∧ (ix x.saq 0).known = true then 1 else 0)
def aAK (x : Stt) (i : Nat) (e : Entry) : Bool:=qK e.addr e.size x.mem.length && (aOZ e.step && !(e.known && decide (0 < i)))
def rM (x : Stt) : Bool:=gL (fun i => aAK x i (ix x.saq i)) x.saq.length && (x.table.all (fun q => sH q x.mem.length) && aQ6 x)
def aY (c : Cfg) (s : Split) (x : Stt) : Bool:=dD c && (iT s false x.a && (iT s true x.e && (cE 0 1099511627776 [x.aG,x.dN,x.cF,x.tags] && (aQ5 c x && (rM x && aE8 x.bP)))))
def aXO : List XV → Option ((XV → Prop) → Prop):=eQ (fun q : Cfg × Split × Stt => [aU q.1,aH q.2.1,aO q.2.2]) (fun q => q.2.2.ok) (fun q => aY q.1 q.2.1 q.2.2) (fun y => .bool y)
theorem aXP {l : List Req} {i : Nat} (h : i < l.length) : fP (l.take (i + 1)) = fP (l.take i) + if (ix l i).store then 1 else 0:=by
 unfold fP
 rw [List.take_succ_eq_append_getElem h,List.countP_append,fY h]
 simp [List.countP_cons]
theorem aJS {α : Type} [Inhabited α] {l : List α} {p : α → Bool} : l.all p = true ↔ ∀ j,j < l.length → p (ix l j) = true:=by
 rw [List.all_eq_true]
 constructor
 ·exact fun h j hj => h _ (cH hj)
 ·intro h y hy
  obtain ⟨j,hj,rfl⟩:=List.mem_iff_getElem.1 hy
  have:=h j hj
  rwa [fY hj] at this
theorem aXQ {α : Type} [Inhabited α] {l : List α} {p : α → Bool} {j : Nat} (hj : j < l.length) (h : p (ix l j) = false) : l.all p = false:=by
 rw [← Bool.not_eq_true,aJS]
 intro g
 rw [g j hj] at h
 cases h
def TO0 : Tab:=fM qq dX [] iA [] []
def bAQ : List XV → Option ((XV → Prop) → Prop):=eQ (fun q : Split × Bool × cM => [aH q.1,.bool q.2.1,aR q.2.2]) (fun q => True) (fun q => iT q.1 q.2.1 q.2.2) (fun y => .bool y)
def a7E (d : cM) (s : Split) (i : Nat) : XSt:=⟨[(7,.int .i64 i),(5,.ptr 1 [] 0)],[(1,some (aR d)),(0,some (aH s))],2⟩
def TO1 : Tab:=fM qq dX [] iA [(7,aWX),(36,bAQ),(38,a7B),(39,bAM)] []
theorem aQ7 : bX Try.prog TO0:=bV cZ trivial fI trivial trivial
theorem bDE (c : Cfg) (r : XV) : (aQ TO0 80 (bT TO0 80 20) 7 [aU c] (fun v => aA v r)) = (
 letI q1 : Nat:=Int.toNat (0 : Int) - 1;
 letI q2 : Nat:=q1 - 1;
 letI q3 : Nat:=q2 - 1;
 letI q4 : Nat:=q3 - 1;
 letI q5 : Nat:=q4 - 1;
 letI q6 : Int:=bif Nat.beq (Int.toNat (0 : Int)) 0 then c.ldq else bif Nat.beq q1 0 then c.sdq else bif Nat.beq q2 0 then c.aeq else bif Nat.beq q3 0 then c.abq else bif Nat.beq q4
  0 then c.ebq else bif Nat.beq q5 0 then c.saq else bif Nat.beq (q5 - 1) 0 then c.cA else c.nI;
 letI q7 : Bool:=decide (c.ldq ≥ 1);
 letI q8 : Int:=IntKind.wrap .i64 ((0 : Int) + 1);
 letI q9 : Nat:=Int.toNat q8;
 letI q10 : Nat:=q9 - 1;
 letI q11 : Nat:=q10 - 1;
 letI q12 : Nat:=q11 - 1;
 letI q13 : Nat:=q12 - 1;
 letI q14 : Nat:=q13 - 1;
 letI q15 : Int:=bif Nat.beq q9 0 then c.ldq else bif Nat.beq q10 0 then c.sdq else bif Nat.beq q11 0 then c.aeq else bif Nat.beq q12 0 then c.abq else bif Nat.beq q13 0 then c.ebq
  else bif Nat.beq q14 0 then c.saq else bif Nat.beq (q14 - 1) 0 then c.cA else c.nI;
 letI q16 : Bool:=decide (c.sdq ≥ 1);
 letI q17 : Int:=IntKind.wrap .i64 (q8 + 1);
 letI q18 : Nat:=Int.toNat q17;
 letI q19 : Nat:=q18 - 1;
 letI q20 : Nat:=q19 - 1;
 letI q21 : Nat:=q20 - 1;
 letI q22 : Nat:=q21 - 1;
 letI q23 : Nat:=q22 - 1;
 letI q24 : Int:=bif Nat.beq q18 0 then c.ldq else bif Nat.beq q19 0 then c.sdq else bif Nat.beq q20 0 then c.aeq else bif Nat.beq q21 0 then c.abq else bif Nat.beq q22 0 then c.ebq
  else bif Nat.beq q23 0 then c.saq else bif Nat.beq (q23 - 1) 0 then c.cA else c.nI;
 letI q25 : Bool:=decide (c.aeq ≥ 1);
 letI q26 : Int:=IntKind.wrap .i64 (q17 + 1);
 letI q27 : Nat:=Int.toNat q26;
 letI q28 : Nat:=q27 - 1;
 letI q29 : Nat:=q28 - 1;
 letI q30 : Nat:=q29 - 1;
 letI q31 : Nat:=q30 - 1;
 letI q32 : Nat:=q31 - 1;
 letI q33 : Int:=bif Nat.beq q27 0 then c.ldq else bif Nat.beq q28 0 then c.sdq else bif Nat.beq q29 0 then c.aeq else bif Nat.beq q30 0 then c.abq else bif Nat.beq q31 0 then c.ebq
  else bif Nat.beq q32 0 then c.saq else bif Nat.beq (q32 - 1) 0 then c.cA else c.nI;
 letI q34 : Bool:=decide (c.abq ≥ 1);
 letI q35 : Int:=IntKind.wrap .i64 (q26 + 1);
 letI q36 : Nat:=Int.toNat q35;
 letI q37 : Nat:=q36 - 1;
 letI q38 : Nat:=q37 - 1;
 letI q39 : Nat:=q38 - 1;
 letI q40 : Nat:=q39 - 1;
 letI q41 : Nat:=q40 - 1;
 letI q42 : Int:=bif Nat.beq q36 0 then c.ldq else bif Nat.beq q37 0 then c.sdq else bif Nat.beq q38 0 then c.aeq else bif Nat.beq q39 0 then c.abq else bif Nat.beq q40 0 then c.ebq
  else bif Nat.beq q41 0 then c.saq else bif Nat.beq (q41 - 1) 0 then c.cA else c.nI;
 letI q43 : Bool:=decide (c.ebq ≥ 1);
 letI q44 : Int:=IntKind.wrap .i64 (q35 + 1);
 letI q45 : Nat:=Int.toNat q44;
 letI q46 : Nat:=q45 - 1;
 letI q47 : Nat:=q46 - 1;
 letI q48 : Nat:=q47 - 1;
 letI q49 : Nat:=q48 - 1;
 letI q50 : Nat:=q49 - 1;
 letI q51 : Int:=bif Nat.beq q45 0 then c.ldq else bif Nat.beq q46 0 then c.sdq else bif Nat.beq q47 0 then c.aeq else bif Nat.beq q48 0 then c.abq else bif Nat.beq q49 0 then c.ebq
  else bif Nat.beq q50 0 then c.saq else bif Nat.beq (q50 - 1) 0 then c.cA else c.nI;
 letI q52 : Bool:=decide (c.saq ≥ 1);
 letI q53 : Int:=IntKind.wrap .i64 (q44 + 1);
 letI q54 : Nat:=Int.toNat q53;
 letI q55 : Nat:=q54 - 1;
 letI q56 : Nat:=q55 - 1;
 letI q57 : Nat:=q56 - 1;
 letI q58 : Nat:=q57 - 1;
 letI q59 : Nat:=q58 - 1;
 letI q60 : Int:=bif Nat.beq q54 0 then c.ldq else bif Nat.beq q55 0 then c.sdq else bif Nat.beq q56 0 then c.aeq else bif Nat.beq q57 0 then c.abq else bif Nat.beq q58 0 then c.ebq
  else bif Nat.beq q59 0 then c.saq else bif Nat.beq (q59 - 1) 0 then c.cA else c.nI;
 letI q61 : Bool:=decide (c.cA ≥ 1);
 letI q62 : Nat:=Int.toNat (IntKind.wrap .i64 (q53 + 1));
 letI q63 : Nat:=q62 - 1;
 letI q64 : Nat:=q63 - 1;
 letI q65 : Nat:=q64 - 1;
 letI q66 : Nat:=q65 - 1;
 letI q67 : Nat:=q66 - 1;
 letI q68 : Int:=bif Nat.beq q62 0 then c.ldq else bif Nat.beq q63 0 then c.sdq else bif Nat.beq q64 0 then c.aeq else bif Nat.beq q65 0 then c.abq else bif Nat.beq q66 0 then c.ebq
  else bif Nat.beq q67 0 then c.saq else bif Nat.beq (q67 - 1) 0 then c.cA else c.nI;
 letI q69 : Bool:=decide (c.nI ≥ 1);
 letI q70 : Bool:=decide (c.dA ≥ 1);
 letI q71 : Bool:=bif q70 then decide (c.dA ≤ 16) else false;
 letI q72 : Bool:=decide (c.lat ≥ 1);
 letI q73 : Bool:=bif q71 then bif q72 then decide (c.lat ≤ 1000) else false else false;
 letI q74 : Bool:=decide (c.mul ≥ 1);
 letI q75 : Bool:=bif q73 then bif q74 then decide (c.mul ≤ 50) else false else false;
 letI q76 : Bool:=decide (c.div ≥ 1);bif bif q7 then q7 else true then bif !bif q7 then decide (c.ldq ≤ 64) else false then aA (.bool false) r else bif bif q16 then q16 else true
  then bif !bif q16 then decide (c.sdq ≤ 64) else false then aA (.bool false) r else bif bif q25 then q25 else true then bif !bif q25 then decide (c.aeq ≤ 64) else false then aA
  (.bool false) r else bif bif q34 then q34 else true then bif !bif q34 then decide (c.abq ≤ 64) else false then aA (.bool false) r else bif bif q43 then q43 else true then bif !bif
  q43 then decide (c.ebq ≤ 64) else false then aA (.bool false) r else bif bif q52 then q52 else true then bif !bif q52 then decide (c.saq ≤ 64) else false then aA (.bool false)
  r else bif bif q61 then q61 else true then bif !bif q61 then decide (c.cA ≤ 64) else false then aA (.bool false) r else bif bif q69 then q69 else true then bif !bif q69 then
  decide (c.nI ≤ 64) else false then aA (.bool false) r else bif bif q70 then q70 else true then bif q71 then bif bif q72 then q72 else true then bif q73 then bif bif q74 then q74
  else true then bif q75 then bif bif q76 then q76 else true then aA (.bool (bif q75 then bif q76 then decide (c.div ≤ 50) else false else false)) r else False else bif !q75 then aA
  (.bool false) r else False else False else bif !q73 then aA (.bool false) r else False else False else bif !q71 then aA (.bool false) r else False else False else False else False
  else False else False else False else False else False else False):=by kernel_rfl
theorem bAR (s : Split) (d : cM) (r : XV) : (goQ Try.prog TO0 [(.tmp 6)] r (.run fF) [] ⟨jO 0 [aH s,.bool false,aR d],[],0⟩) = (
 letI q1 : Bool:=decide (d.wait ≥ 0);
 letI q2 : Bool:=!bif q1 then decide (d.wait ≤ 1099511627776) else false;
 letI q3 : Bool:=decide (d.done ≥ 0);
 letI q4 : Bool:=bif q2 then true else !bif q3 then decide (d.done ≤ 1099511627776) else false;
 letI q5 : Bool:=decide (d.pos.base ≥ 0);
 letI q6 : Bool:=bif q4 then true else !bif q5 then decide (d.pos.base ≤ 1099511627776) else false;
 letI q7 : Bool:=decide (d.pos.block < 0);
 letI q8 : Bool:=bif q6 then true else q7;
 letI q9 : Bool:=decide (d.pos.block ≥ (↑(s.blocks.length) : Int));
 letI q10 : Bool:=bif q8 then true else q9;
 letI q11 : Bool:=bif q10 then true else decide (d.pos.index < 0);
 letI q12 : XSt:=XSt.mk [(7,.int .i64 0),(6,.bool false),(5,.ptr 1 [] 0)] [(1,some (aR d)),(0,some (aH s))] 2;
 letI q13 : List Frm:=[Frm.blk 0,Frm.seq gR];
 letI q14 : Int:=(↑(List.length (Block.a (ix s.blocks (Int.toNat d.pos.block)))) : Int);bif bif q1 then q1 else true then bif !q2 then bif bif q3 then q3 else true then bif !q4 then
  bif bif q5 then q5 else true then bif bif q6 then true else !q6 then bif bif q8 then true else !q8 then bif bif q10 then true else !q10 then bif !q11 then bif bif q7 then true else
  !q7 then bif bif q7 then true else q9 then bif bif q11 then true else decide (d.pos.index > 0) then aA (.bool false) r else aP (Ok Try.prog (Tab.q TO0)) dP
  q12 q13 (bC [AR.tmp 6] r) else bif decide (0 ≤ d.pos.block) then bif decide (d.pos.block < (↑(s.blocks.length) : Int)) then bif bif q11 then true else decide (d.pos.index > q14)
  then aA (.bool false) r else aP (Ok Try.prog (Tab.q TO0)) dP q12 q13 (bC [AR.tmp 6] r) else False else False else False else bif q11 then aA (.bool false)
  r else False else False else False else False else False else bif q4 then aA (.bool false) r else False else False else bif q2 then aA (.bool false) r else False else False) :=
 by kernel_rfl 
theorem a7F (s : Split) (d : cM) (r : XV) : (goQ Try.prog TO0 [(.tmp 6)] r (.run fF) [] ⟨jO 0 [aH s,.bool true,aR d],[],0⟩) = (
 letI q1 : Bool:=decide (d.wait ≥ 0);
 letI q2 : Bool:=!bif q1 then decide (d.wait ≤ 1099511627776) else false;
 letI q3 : Bool:=decide (d.done ≥ 0);
 letI q4 : Bool:=bif q2 then true else !bif q3 then decide (d.done ≤ 1099511627776) else false;
 letI q5 : Bool:=decide (d.pos.base ≥ 0);
 letI q6 : Bool:=bif q4 then true else !bif q5 then decide (d.pos.base ≤ 1099511627776) else false;
 letI q7 : Bool:=decide (d.pos.block < 0);
 letI q8 : Bool:=bif q6 then true else q7;
 letI q9 : Bool:=decide (d.pos.block ≥ (↑(s.blocks.length) : Int));
 letI q10 : Bool:=bif q8 then true else q9;
 letI q11 : Bool:=bif q10 then true else decide (d.pos.index < 0);
 letI q12 : XSt:=XSt.mk [(7,.int .i64 0),(6,.bool false),(5,.ptr 1 [] 0)] [(1,some (aR d)),(0,some (aH s))] 2;
 letI q13 : List Frm:=[Frm.blk 0,Frm.seq gR];
 letI q14 : Int:=(↑(List.length (Block.e (ix s.blocks (Int.toNat d.pos.block)))) : Int);bif bif q1 then q1 else true then bif !q2 then bif bif q3 then q3 else true then bif !q4 then
  bif bif q5 then q5 else true then bif bif q6 then true else !q6 then bif bif q8 then true else !q8 then bif bif q10 then true else !q10 then bif !q11 then bif bif q7 then true else
  !q7 then bif bif q7 then true else q9 then bif bif q11 then true else decide (d.pos.index > 0) then aA (.bool false) r else aP (Ok Try.prog (Tab.q TO0)) dP
  q12 q13 (bC [AR.tmp 6] r) else bif decide (0 ≤ d.pos.block) then bif decide (d.pos.block < (↑(s.blocks.length) : Int)) then bif bif q11 then true else decide (d.pos.index > q14)
  then aA (.bool false) r else aP (Ok Try.prog (Tab.q TO0)) dP q12 q13 (bC [AR.tmp 6] r) else False else False else False else bif q11 then aA (.bool false)
  r else False else False else False else False else False else bif q4 then aA (.bool false) r else False else False else bif q2 then aA (.bool false) r else False else False) :=
 by kernel_rfl 
theorem bAS (d : cM) (s : Split) (i : Nat) (r : XV) (A : XSt → Prop) : (goQ Try.prog TO0 [(.tmp 6)] r (.run dP) [.lp dP A,.blk 0,.seq gR] (a7E d s i)) = (
 letI q1 : Bool:=decide ((↑i : Int) < 16);
 letI q2 : Nat:=pl 16 (i * 1);
 letI q3 : Bool:=Nat.beq q2 q2;
 letI q4 : Bool:=decide (i < 16);
 letI q5 : Bool:=decide ¬d.ready i = (-1 : Int);
 letI q6 : Bool:=decide (d.ready i ≥ 0);
 letI q7 : XSt:=XSt.mk [(7,.int .i64 (IntKind.wrap .i64 ((↑i : Int) + 1))),(5,.ptr 1 [] 0)] [(1,some (aR d)),(0,some (aH s))] 2;bif decide ((↑i : Int) < 16) then bif
  q1 then bif q3 then bif q4 then bif q5 then bif q1 then bif q3 then bif q4 then bif bif q6 then q6 else true then bif bif q5 then !bif q6 then decide (d.ready i ≤ 1099511627776) else
  false else false then aA (.bool false) r else A q7 else False else False else False else False else bif !q5 then A q7 else False else False else False else False else aA (.bool
  true) r):=by kernel_rfl
theorem a7G (c : Cfg) (s : Split) (x : Stt) (r : XV) : (goQ Try.prog TO1 [(.tmp 6)] r (.run fZ) [] ⟨jO 0 [aU c,aH s,aO x],[],0⟩) = (
 letI q1 : Split × Bool × cM → List XV:=fun s => [aH s.1,.bool s.2.1,aR s.2.2];
 letI q2 : Split × Bool × cM → Bool:=fun s => iT s.1 s.2.1 s.2.2;
 letI q3 : Bool → Bool → Bool → Bool:=fun y y_1 y_2 => bif bif !y then true else !y_1 then true else !y_2;
 letI q4 : Bool:=decide (x.aG ≥ 0);
 letI q5 : Bool → Bool → Bool → Bool:=fun y y_1 y_2 => bif q3 y y_1 y_2 then true else !bif q4 then decide (x.aG ≤ 1099511627776) else false;
 letI q6 : Bool:=decide (x.dN ≥ 0);
 letI q7 : Bool → Bool → Bool → Bool:=fun y y_1 y_2 => bif q5 y y_1 y_2 then true else !bif q6 then decide (x.dN ≤ 1099511627776) else false;
 letI q8 : Bool:=decide (x.cF ≥ 0);
 letI q9 : Bool → Bool → Bool → Bool:=fun y y_1 y_2 => bif q7 y y_1 y_2 then true else !bif q8 then decide (x.cF ≤ 1099511627776) else false;
 letI q10 : Bool:=decide (x.tags ≥ 0);
 letI q11 : Bool:=decide ((↑(x.ldq.length) : Int) > c.ldq);
 letI q12 : Bool:=bif q11 then true else decide ((↑(x.sdq.length) : Int) > c.sdq);
 letI q13 : Bool:=bif q12 then true else decide ((↑(x.aeq.length) : Int) > c.aeq);
 letI q14 : Bool:=bif q13 then true else decide ((↑(x.abq.length) : Int) > c.abq);
 letI q15 : Bool:=bif q14 then true else decide ((↑(x.ebq.length) : Int) > c.ebq);
 letI q16 : Bool:=bif q15 then true else decide ((↑(x.saq.length) : Int) > c.saq);
 letI q17 : Bool:=bif q16 then true else decide ((↑(x.table.length) : Int) > c.cA);∃ (s_1 : Cfg),aC [aU c] [aU s_1] ∧ aK True ∧ ∀ (y : Bool),y = dD s_1 →
  bif !!y then ∃ (s_2 : Split × Bool × cM),aC [aH s,.bool false,aR x.a] (q1 s_2) ∧ aK True ∧ ∀ (y_1 : Bool),y_1 = q2 s_2 → bif !bif !y then true else !y_1 then ∃
  (s_3 : Split × Bool × cM),aC [aH s,.bool true,aR x.e] (q1 s_3) ∧ aK True ∧ ∀ (y_2 : Bool),y_2 = q2 s_3 → bif !q3 y y_1 y_2 then bif bif q4 then q4 else true then
  bif !q5 y y_1 y_2 then bif bif q6 then q6 else true then bif !q7 y y_1 y_2 then bif bif q8 then q8 else true then bif !q9 y y_1 y_2 then bif bif q10 then q10 else true then bif bif
  q9 y y_1 y_2 then true else !bif q10 then decide (x.tags ≤ 1099511627776) else false then aA (.bool false) r else bif bif q11 then true else !q11 then bif bif q12 then true else
  !q12 then bif bif q13 then true else !q13 then bif bif q14 then true else !q14 then bif bif q15 then true else !q15 then bif bif q16 then true else !q16 then bif bif q17 then true else
  !q17 then bif bif q17 then true else decide ((↑(x.mem.length) : Int) > 65536) then aA (.bool false) r else aP (Ok Try.prog (Tab.q TO1)) gI (XSt.mk [(7,.int
  .i64 0),(6,.bool false),(5,.ptr 2 [] 0)] [(2,some (aO x)),(1,some (aH s)),(0,some (aU c))] 3) [Frm.blk 0,Frm.seq eU] (bC [AR.tmp 6] r) else
  False else False else False else False else False else False else False else False else bif q9 y y_1 y_2 then aA (.bool false) r else False else False else bif q7 y y_1 y_2 then
  aA (.bool false) r else False else False else bif q5 y y_1 y_2 then aA (.bool false) r else False else False else bif q3 y y_1 y_2 then aA (.bool false) r else False else bif
  bif !y then true else !y_1 then aA (.bool false) r else False else bif !y then aA (.bool false) r else False):=by kernel_rfl
theorem aXR {lo hi n : Int} {l : List Int} : cE lo hi (n :: l) = (bif decide (n ≥ lo) then (bif decide (n ≤ hi) then cE lo hi l else false) else false):=by
 unfold cE
 rw [List.all_cons]
 by_cases h1 : lo ≤ n <;> by_cases h2 : n ≤ hi <;> simp [h1,h2]
theorem a1W {lo hi : Int} : cE lo hi [] = true:=rfl
theorem aQ8 : eI Try.prog (7,aWX):=bB fun c _ => by
 show Pure _ _ (cons [aU c]) (con (.bool (dD c)))
 refine eS (u:=80) (k:=20) mix aQ7 ?_
 refine Eq.mpr (bDE c _) ?_
 unfold dD
 simp only [aXR,a1W]
 generalize decide (c.ldq ≥ 1) = ldq0
 generalize decide (c.ldq ≤ 64) = ldq1
 generalize decide (c.sdq ≥ 1) = sdq0
 generalize decide (c.sdq ≤ 64) = sdq1
 generalize decide (c.aeq ≥ 1) = aeq0
 generalize decide (c.aeq ≤ 64) = aeq1
 generalize decide (c.abq ≥ 1) = abq0
 generalize decide (c.abq ≤ 64) = abq1
 generalize decide (c.ebq ≥ 1) = ebq0
 generalize decide (c.ebq ≤ 64) = ebq1
 generalize decide (c.saq ≥ 1) = saq0
 generalize decide (c.saq ≤ 64) = saq1
 generalize decide (c.cA ≥ 1) = flight0
 generalize decide (c.cA ≤ 64) = flight1
 generalize decide (c.nI ≥ 1) = slip0
 generalize decide (c.nI ≤ 64) = slip1
 generalize decide (c.dA ≥ 1) = banks0
 generalize decide (c.dA ≤ 16) = banks1
 generalize decide (c.lat ≥ 1) = lat0
 generalize decide (c.lat ≤ 1000) = lat1
 generalize decide (c.mul ≥ 1) = mul0
 generalize decide (c.mul ≤ 50) = mul1
 generalize decide (c.div ≥ 1) = div0
 generalize decide (c.div ≤ 50) = div1
 cases ldq0 with
 | false => exact .rfl
 | true =>
 cases ldq1 with
 | false => exact .rfl
 | true =>
 cases sdq0 with
 | false => exact .rfl
 | true =>
 cases sdq1 with
 | false => exact .rfl
 | true =>
 cases aeq0 with
 | false => exact .rfl
 | true =>
 cases aeq1 with
 | false => exact .rfl
 | true =>
 cases abq0 with
 | false => exact .rfl
 | true =>
 cases abq1 with
 | false => exact .rfl
 | true =>
 cases ebq0 with
 | false => exact .rfl
 | true =>
 cases ebq1 with
 | false => exact .rfl
 | true =>
 cases saq0 with
 | false => exact .rfl
 | true =>
 cases saq1 with
 | false => exact .rfl
 | true =>
 cases flight0 with
 | false => exact .rfl
 | true =>
 cases flight1 with
 | false => exact .rfl
 | true =>
 cases slip0 with
 | false => exact .rfl
 | true =>
 cases slip1 with
 | false => exact .rfl
 | true =>
 cases banks0 with
 | false => exact .rfl
 | true =>
 cases banks1 with
 | false => exact .rfl
 | true =>
 cases lat0 with
 | false => exact .rfl
 | true =>
 cases lat1 with
 | false => exact .rfl
 | true =>
 cases mul0 with
 | false => exact .rfl
 | true =>
 cases mul1 with
 | false => exact .rfl
 | true =>
 cases div0 with
 | false => exact .rfl
 | true =>
 cases div1 with
 | false => exact .rfl
 | true =>
 exact .rfl
theorem aXS {a b : Bool} : (a && b) = (bif a then b else false):=by cases a <;> rfl
theorem aQ9 {s : Split} {e : Bool} {d : cM} : iT s e d = (bif decide (d.wait ≥ 0) then bif decide (d.wait ≤ 1099511627776) then bif decide (d.done ≥ 0) then bif decide (d.done ≤ 1099511627776) then bif decide (d.pos.base ≥ 0) then bif decide (d.pos.base ≤ 1099511627776) then bif !decide (d.pos.block < 0) then bif !decide (d.pos.block ≥ (s.blocks.length : Int)) then bif !decide (d.pos.index < 0) then bif !decide (d.pos.index > ((rL s e d.pos.block).length : Int)) then cE (-1) 1099511627776 (dI 16 d.ready) else false else false else false else false else false else false else false else false else false else false):=by
 unfold iT
 rw [Bool.eq_iff_iff]
 simp only [← aXS,zaG,zaK,Bool.not_eq_true',zaP]
 have e1 : cE 0 (rL s e d.pos.block).length [d.pos.index] = true ↔ 0 ≤ d.pos.index ∧ d.pos.index ≤ (rL s e d.pos.block).length:=by rw [w1F,zaK]
 have e2 : cE 0 1099511627776 [d.pos.base,d.wait,d.done] = true ↔ (0 ≤ d.pos.base ∧ d.pos.base ≤ 1099511627776) ∧ (0 ≤ d.wait ∧ d.wait ≤ 1099511627776) ∧ (0 ≤ d.done ∧ d.done ≤ 1099511627776):=by simp [cE]
 rw [e1,e2]
 constructor
 ·rintro ⟨⟨h1,h2⟩,⟨h3,h4⟩,⟨⟨h5,h6⟩,⟨h7,h8⟩,h9,h10⟩,h11⟩
  exact ⟨h7,h8,h9,h10,h5,h6,by omega,by omega,by omega,by omega,h11⟩
 ·rintro ⟨h7,h8,h9,h10,h5,h6,h1,h2,h3,h4,h11⟩
  exact ⟨⟨by omega,by omega⟩,⟨by omega,by omega⟩,⟨⟨h5,h6⟩,⟨h7,h8⟩,h9,h10⟩,h11⟩
def rdB (n : Int) : Bool:=decide (-1 ≤ n ∧ n ≤ 1099511627776)
theorem aXT {d : cM} : cE (-1) 1099511627776 (dI 16 d.ready) = true ↔ ∀ i,i < 16 → rdB (d.ready i) = true:=by
 unfold cE
 rw [aJS,bH]
 exact ⟨fun h i hi => by have:=h i hi;rwa [pC hi] at this,fun h i hi => by rw [pC hi];exact h i hi⟩
theorem a1X {s : Split} {d : cM} : aP (Ok Try.prog (Tab.q TO0)) dP (XSt.mk [(7,.int .i64 0),(6,.bool false),(5,.ptr 1 [] 0)] [(1,some (aR d)),(0,some (aH s))] 2) [Frm.blk 0,Frm.seq gR] (bC [AR.tmp 6] (.bool (cE (-1) 1099511627776 (dI 16 d.ready)))):=by
 refine fS mix aQ7 (fun i : Nat => a7E d s i) (fun i => i ≤ 16 ∧ ∀ j,j < i → rdB (d.ready j) = true) (fun i => 16 - i) 0 ⟨Nat.zero_le _,fun j hj => by omega⟩ (.of (dG ⟨rfl,rfl,trivial⟩ ⟨rfl,rfl,trivial⟩ (zaF _))) ?_
 rintro i ⟨hi,hp⟩
 refine Eq.mpr (bAS d s i _ _) ?_
 by_cases hlt : i < 16
 ·have h1 : (i : Int) < 16:=by omega
  have w1 : IntKind.i64.wrap ((i : Int) + 1) = ((i + 1 : Nat) : Int):=wrap_i64 (by omega) (by omega)
  have nx : rdB (d.ready i) = true → ∃ j,(j ≤ 16 ∧ ∀ k,k < j → rdB (d.ready k) = true) ∧ cG 2 (XSt.st (XSt.mk [(7,.int .i64 ((i + 1 : Nat) : Int)),(5,.ptr 1 [] 0)] [(1,some (aR d)),(0,some (aH s))] 2)) (a7E d s j).st ∧ 16 - j < 16 - i:=fun h => by
   refine ⟨i + 1,⟨hlt,fun j hj => ?_⟩,.of (dG ⟨rfl,rfl,trivial⟩ ⟨rfl,rfl,trivial⟩ (zaF _)),by omega⟩
   by_cases hji : j = i
   ·subst hji;exact h
   ·exact hp j (by omega)
  simp only [g1,g2,g3,g4,g5,g6,g7,aD,zaB,zaF,zaC,cB,h1,hlt,w1,zaQ]
  by_cases hr : d.ready i = -1
  ·simp only [hr,zaN,zaE,zaD,zaH,zaB]
   exact nx (by unfold rdB;rw [hr];decide)
  ·simp only [hr,zaM,zaC,zaB]
   simp only [qC]
   refine jQ (fun h => ?_) (fun h => ?_)
   ·have : cE (-1) 1099511627776 (dI 16 d.ready) = false:=by
     rw [← Bool.not_eq_true,aXT]
     intro g
     have:=g i hlt
     simp [rdB] at this h
     omega
    rw [this]
    exact .rfl
   ·refine nx ?_
    simp [rdB] at h ⊢
    omega
 ·have h1 : ¬ (i : Int) < 16:=by omega
  simp only [h1,zaE,zaD]
  rw [aXT.2 fun j hj => hp j (by omega)]
  exact .rfl
theorem a7H : eI Try.prog (36,bAQ):=bB fun ⟨s,e,d⟩ _ => by
 have L:=a1X (s:=s) (d:=d)
 have g0 : decide (0 ≤ d.pos.block) = !decide (d.pos.block < 0):=by rw [Bool.eq_iff_iff];simp
 have g1 : decide (d.pos.block < (s.blocks.length : Int)) = !decide (d.pos.block ≥ (s.blocks.length : Int)):=by rw [Bool.eq_iff_iff];simp
 cases e with
 | false =>
  show Pure _ _ (cons [aH s,.bool false,aR d]) (con (.bool (iT s false d)))
  refine jB mix aQ7 lU (Nat.le_of_ble_eq_true rfl) ?_
  refine Eq.mpr (bAR s d _) ?_
  rw [aQ9]
  simp only [g0,g1]
  have ce : rL s false d.pos.block = (ix s.blocks d.pos.block.toNat).a:=rfl
  rw [ce]
  generalize cE (-1) 1099511627776 (dI 16 d.ready) = R at L ⊢
  generalize decide (d.wait ≥ 0) = w0
  generalize decide (d.wait ≤ 1099511627776) = w1
  generalize decide (d.done ≥ 0) = d0
  generalize decide (d.done ≤ 1099511627776) = d1
  generalize decide (d.pos.base ≥ 0) = p0
  generalize decide (d.pos.base ≤ 1099511627776) = p1
  generalize decide (d.pos.block < 0) = b0
  generalize decide (d.pos.block ≥ (s.blocks.length : Int)) = b1
  generalize decide (d.pos.index < 0) = i0
  generalize decide (d.pos.index > ((ix s.blocks d.pos.block.toNat).a.length : Int)) = i1
  cases w0 with
  | false => first | exact .rfl | (cases w1 <;> cases d0 <;> cases d1 <;> cases p0 <;> cases p1 <;> cases b0 <;> cases b1 <;> cases i0 <;> cases i1 <;> exact .rfl)
  | true =>
  cases w1 with
  | false => first | exact .rfl | (cases d0 <;> cases d1 <;> cases p0 <;> cases p1 <;> cases b0 <;> cases b1 <;> cases i0 <;> cases i1 <;> exact .rfl)
  | true =>
  cases d0 with
  | false => first | exact .rfl | (cases d1 <;> cases p0 <;> cases p1 <;> cases b0 <;> cases b1 <;> cases i0 <;> cases i1 <;> exact .rfl)
  | true =>
  cases d1 with
  | false => first | exact .rfl | (cases p0 <;> cases p1 <;> cases b0 <;> cases b1 <;> cases i0 <;> cases i1 <;> exact .rfl)
  | true =>
  cases p0 with
  | false => first | exact .rfl | (cases p1 <;> cases b0 <;> cases b1 <;> cases i0 <;> cases i1 <;> exact .rfl)
  | true =>
  cases p1 with
  | false => first | exact .rfl | (cases b0 <;> cases b1 <;> cases i0 <;> cases i1 <;> exact .rfl)
  | true =>
  cases b0 with
  | true => first | exact .rfl | (cases b1 <;> cases i0 <;> cases i1 <;> exact .rfl)
  | false =>
  cases b1 with
  | true => first | exact .rfl | (cases i0 <;> cases i1 <;> exact .rfl)
  | false =>
  cases i0 with
  | true => first | exact .rfl | (cases i1 <;> exact .rfl)
  | false =>
  cases i1 with
  | true => first | exact .rfl | exact .rfl
  | false =>
  exact L
 | true =>
  show Pure _ _ (cons [aH s,.bool true,aR d]) (con (.bool (iT s true d)))
  refine jB mix aQ7 lU (Nat.le_of_ble_eq_true rfl) ?_
  refine Eq.mpr (a7F s d _) ?_
  rw [aQ9]
  simp only [g0,g1]
  have ce : rL s true d.pos.block = (ix s.blocks d.pos.block.toNat).e:=rfl
  rw [ce]
  generalize cE (-1) 1099511627776 (dI 16 d.ready) = R at L ⊢
  generalize decide (d.wait ≥ 0) = w0
  generalize decide (d.wait ≤ 1099511627776) = w1
  generalize decide (d.done ≥ 0) = d0
  generalize decide (d.done ≤ 1099511627776) = d1
  generalize decide (d.pos.base ≥ 0) = p0
  generalize decide (d.pos.base ≤ 1099511627776) = p1
  generalize decide (d.pos.block < 0) = b0
  generalize decide (d.pos.block ≥ (s.blocks.length : Int)) = b1
  generalize decide (d.pos.index < 0) = i0
  generalize decide (d.pos.index > ((ix s.blocks d.pos.block.toNat).e.length : Int)) = i1
  cases w0 with
  | false => first | exact .rfl | (cases w1 <;> cases d0 <;> cases d1 <;> cases p0 <;> cases p1 <;> cases b0 <;> cases b1 <;> cases i0 <;> cases i1 <;> exact .rfl)
  | true =>
  cases w1 with
  | false => first | exact .rfl | (cases d0 <;> cases d1 <;> cases p0 <;> cases p1 <;> cases b0 <;> cases b1 <;> cases i0 <;> cases i1 <;> exact .rfl)
  | true =>
  cases d0 with
  | false => first | exact .rfl | (cases d1 <;> cases p0 <;> cases p1 <;> cases b0 <;> cases b1 <;> cases i0 <;> cases i1 <;> exact .rfl)
  | true =>
  cases d1 with
  | false => first | exact .rfl | (cases p0 <;> cases p1 <;> cases b0 <;> cases b1 <;> cases i0 <;> cases i1 <;> exact .rfl)
  | true =>
  cases p0 with
  | false => first | exact .rfl | (cases p1 <;> cases b0 <;> cases b1 <;> cases i0 <;> cases i1 <;> exact .rfl)
  | true =>
  cases p1 with
  | false => first | exact .rfl | (cases b0 <;> cases b1 <;> cases i0 <;> cases i1 <;> exact .rfl)
  | true =>
  cases b0 with
  | true => first | exact .rfl | (cases b1 <;> cases i0 <;> cases i1 <;> exact .rfl)
  | false =>
  cases b1 with
  | true => first | exact .rfl | (cases i0 <;> cases i1 <;> exact .rfl)
  | false =>
  cases i0 with
  | true => first | exact .rfl | (cases i1 <;> exact .rfl)
  | false =>
  cases i1 with
  | true => first | exact .rfl | exact .rfl
  | false =>
  exact L
theorem aXU : bX Try.prog TO1:=bV cZ trivial fI ⟨aQ8,a7H,aQ4,a7D,trivial⟩ trivial
theorem a7I (c : Cfg) (s : Split) (x : Stt) (i : Nat) (r : XV) (A : XSt → Prop) : (goQ Try.prog TO1 [(.tmp 6)] r (.run gI) [.lp gI A,.blk 0,.seq eU] ⟨[(7,.int .i64 i),(5,.ptr 2 [] 0)],[(2,some (aO x)),(1,some (aH s)),(0,some (aU c))],3⟩) = (
 letI q1 : Bool:=decide ((↑i : Int) < (↑(x.saq.length) : Int));
 letI q2 : Bool:=decide ((ix x.saq i).step ≥ 0);
 letI q3 : Bool → Bool:=fun y => bif !y then true else !bif q2 then decide ((ix x.saq i).step ≤ 1099511627776) else false;
 letI q4 : Bool → Bool:=fun y => !q3 y;
 letI q5 : Bool → Bool:=fun y => !q4 y;
 letI q6 : List (Nat × XV):=[(5,.ptr 2 [] 0)];
 letI q7 : List (Nat × Option XV):=[(2,some (aO x)),(1,some (aH s)),(0,some (aU c))];bif q1 then bif q1 then ∃ (s : Int × Int × Int),aC [.int .i64 ((ix x.saq
  i).addr),.int .i64 ((ix x.saq i).size),.int .i64 (↑(x.mem.length) : Int)] [.int .i64 s.1,.int .i64 s.2.1,.int .i64 s.2.2] ∧ aK (0 ≤ s.2.2 ∧ s.2.2 ≤ 1000000) ∧ ∀ (y : Bool),y
  = qK s.1 s.2.1 s.2.2 → bif !!y then bif bif q2 then q2 else true then bif bif q4 y then true else q5 y then bif bif bif (ix x.saq i).known then bif q4 y then (ix x.saq i).known else
  false else true then true else q5 y then bif bif q3 y then true else q4 y then bif bif q3 y then true else bif (ix x.saq i).known then decide ((↑i : Int) > 0) else false then aA
  (.bool false) r else A (XSt.mk ((7,.int .i64 (IntKind.wrap .i64 ((↑i : Int) + 1))) :: q6) ((3,some (bW (ix x.saq i))) :: q7) 4) else False else False else False else False else
  bif !y then bif bif bif (ix x.saq i).known then false else true then true else true then aA (.bool false) r else False else False else False else aP (Ok Try.prog (Tab.q TO1))
  gJ (XSt.mk ((10,.int .i64 0) :: (9,.int .i64 0) :: q6) q7 3) [Frm.blk 2,Frm.seq iS] (bC [AR.tmp 6] r)):=by kernel_rfl
theorem a7J (c : Cfg) (s : Split) (x : Stt) (i n : Nat) (r : XV) (A : XSt → Prop) : (goQ Try.prog TO1 [(.tmp 6)] r (.run gJ) [.lp gJ A,.blk 2,.seq iS] ⟨[(10,.int .i64 i),(9,.int .i64 n),(5,.ptr 2 [] 0)],[(2,some (aO x)),(1,some (aH s)),(0,some (aU c))],3⟩) = (
 letI q1 : Bool:=decide ((↑i : Int) < (↑(x.table.length) : Int));
 letI q2 : Bool:=decide (0 < (↑(x.saq.length) : Int));
 letI q3 : Bool:=decide ((↑(x.saq.length) : Int) = 0);
 letI q4 : Bool:=!q3;
 letI q5 : Int:=Entry.addr (ix x.saq (Int.toNat (0 : Int)));
 letI q6 : Bool:=bif q3 then true else decide ¬(ix x.saq 0).addr = (ix x.table i).addr;
 letI q7 : Bool:=!q6;
 letI q8 : Int:=Entry.size (ix x.saq (Int.toNat (0 : Int)));
 letI q9 : XV:=.int .i64 (IntKind.wrap .i64 ((↑i : Int) + 1));
 letI q10 : List (Nat × XV):=[(5,.ptr 2 [] 0)];
 letI q11 : List (Nat × Option XV):=[(3,some (dK (ix x.table i))),(2,some (aO x)),(1,some (aH s)),(0,some (aU c))];
 letI q12 : Bool:=decide ((↑(x.saq.length) : Int) > 0);
 letI q13 : Bool:=decide ((↑n : Int) > 1);
 letI q14 : Bool:=decide (x.bP.kind ≥ 0);
 letI q15 : Bool:=bif q14 then decide (x.bP.kind ≤ 4) else false;
 letI q16 : Bool:=decide (x.bP.step ≥ 0);
 letI q17 : Bool:=bif q15 then bif q16 then decide (x.bP.step ≤ 1099511627776) else false else false;
 letI q18 : Bool:=decide (x.bP.pc ≥ 0);
 letI q19 : Bool:=bif q17 then bif q18 then decide (x.bP.pc ≤ 1099511627776) else false else false;
 letI q20 : Bool:=decide (x.bP.kind > 0);
 letI q21 : Bool:=bif q19 then !q20 else false;
 letI q22 : Bool:=!q21;
 letI q23 : Bool:=decide (x.bP.step = 0);
 letI q24 : Bool:=!q19;
 letI q25 : Bool:=bif bif q23 then false else true then true else true;
 letI q26 : Bool:=bif bif q20 then true else false then true else true;bif q1 then bif q1 then ∃ (s : Req × Int),aC [dK (ix x.table i),.int .i64 (↑(x.mem.length) : Int)]
  [dK s.1,.int .i64 s.2] ∧ aK (0 ≤ s.2 ∧ s.2 ≤ 1000000) ∧ ∀ (y : Bool),y = sH s.1 s.2 → bif !y then aA (.bool false) r else bif (ix x.table i).store then bif bif q2 then
  true else !q4 then bif bif q3 then true else q4 then bif bif q2 then true else !q7 then bif bif q6 then true else q7 then bif bif q6 then true else decide ¬(ix x.saq 0).size = (ix x.table
  i).size then aA (.bool false) r else A (XSt.mk ((10,q9) :: (9,.int .i64 (IntKind.wrap .i64 ((↑n : Int) + 1))) :: q10) q11 4) else False else False else False else False else A
  (XSt.mk ((10,q9) :: (9,.int .i64 (↑n : Int)) :: q10) q11 4) else False else bif bif q2 then true else !q12 then bif bif q12 then q12 else true then bif bif q13 then true else !q13
  then bif bif q13 then true else !(bif q12 then (ix x.saq 0).known else false) == decide ((↑n : Int) = 1) then aA (.bool false) r else bif bif q14 then q14 else true then bif q15
  then bif bif q16 then q16 else true then bif q17 then bif bif q18 then q18 else true then bif bif q21 then true else q22 then bif bif bif q23 then bif q21 then q23 else false else true
  then true else q22 then bif bif q19 then true else q24 then bif bif bif q20 then true else q21 then true else q24 then bif bif q19 then q19 else true then aA (.bool (bif q19 then
  bif q20 then true else bif q23 then decide (x.bP.pc = 0) else false else false)) r else False else False else False else False else False else False else bif !q17 then bif q25 then
  bif q26 then aA (.bool false) r else False else False else False else False else bif !q15 then bif q25 then bif q26 then aA (.bool false) r else False else False else False else
  False else False else False else False):=by kernel_rfl
def pM (x : Stt) : Bool:=rM x && aE8 x.bP
def bAT (c : Cfg) (s : Split) (x : Stt) (i : Nat) : XSt:=⟨[(7,.int .i64 i),(5,.ptr 2 [] 0)],[(2,some (aO x)),(1,some (aH s)),(0,some (aU c))],3⟩
def bAU (c : Cfg) (s : Split) (x : Stt) (i n : Nat) : XSt:=⟨[(10,.int .i64 i),(9,.int .i64 n),(5,.ptr 2 [] 0)],[(2,some (aO x)),(1,some (aH s)),(0,some (aU c))],3⟩
theorem a1Y {t : Trp} : aE8 t = (decide (t.kind ≥ 0) && decide (t.kind ≤ 4) && (decide (t.step ≥ 0) && decide (t.step ≤ 1099511627776)) && (decide (t.pc ≥ 0) && decide (t.pc ≤ 1099511627776)) && (decide (t.kind > 0) || (decide (t.step = 0) && decide (t.pc = 0)))):=by
 unfold aE8 aOZ
 rw [Bool.eq_iff_iff]
 split
 ·rename_i h
  simp only [zaG,zaV,zaK]
  constructor
  ·rintro ⟨h1,h2⟩
   omega
  ·rintro ⟨_,h2⟩
   omega
 ·rename_i h
  simp only [zaG,zaV,zaK]
  omega
theorem a1Z {x : Stt} {n : Nat} (hn : n = fP x.table) : (!(decide ((n : Int) > 1) || !((bif decide ((x.saq.length : Int) > 0) then (ix x.saq 0).known else false) == decide ((n : Int) = 1)))) = decide (fP x.table = if 0 < x.saq.length ∧ (ix x.saq 0).known = true then 1 else 0):=by
 rw [← hn]
 by_cases hz : 0 < x.saq.length
 ·have hz2 : (x.saq.length : Int) > 0:=by omega
  cases hk : (ix x.saq 0).known with
  | true =>
   simp only [hz,hz2,zaC,zaB,and_self,if_true]
   rw [Bool.eq_iff_iff]
   simp
   omega
  | false =>
   simp only [hz,hz2,zaC,zaB,zaU,and_false,if_false]
   rw [Bool.eq_iff_iff]
   simp
   omega
 ·have hz2 : ¬ (x.saq.length : Int) > 0:=by omega
  simp only [hz,hz2,zaE,zaD,false_and,if_false]
  rw [Bool.eq_iff_iff]
  simp
  omega
theorem aTM {c : Cfg} {s : Split} {x : Stt} (ho : x.ok) (hs : gL (fun i => aAK x i (ix x.saq i)) x.saq.length = true) : aP (Ok Try.prog (Tab.q TO1)) gJ (XSt.mk [(10,.int .i64 0),(9,.int .i64 0),(5,.ptr 2 [] 0)] [(2,some (aO x)),(1,some (aH s)),(0,some (aU c))] 3) [Frm.blk 2,Frm.seq iS] (bC [AR.tmp 6] (.bool (pM x))):=by
 have hl : x.table.length ≤ 1000000:=ho.2.2.2.2.2.2.2.1
 have hm : x.mem.length ≤ 1000000:=ho.2.2.2.2.2.2.2.2.1
 refine fS mix aXU (fun i : Nat => bAU c s x i (fP (x.table.take i))) (fun i => i ≤ x.table.length ∧ ∀ j,j < i → sH (ix x.table j) x.mem.length = true ∧ wK x (ix x.table j) = true) (fun i => x.table.length - i) 0 ⟨Nat.zero_le _,fun j hj => by omega⟩ (.of (dG ⟨rfl,rfl,rfl,trivial⟩ ⟨rfl,rfl,rfl,trivial⟩ (zaF _))) ?_
 rintro i ⟨hi,hp⟩
 refine Eq.mpr (a7J c s x i _ _ _) ?_
 have hc : fP (x.table.take i) ≤ 1000000:=by
  have : fP (x.table.take i) ≤ (x.table.take i).length:=List.countP_le_length
  have:=List.length_take_le i x.table
  omega
 by_cases hlt : i < x.table.length
 ·have h1 : (i : Int) < (x.table.length : Int):=by omega
  have w1 : IntKind.i64.wrap ((i : Int) + 1) = ((i + 1 : Nat) : Int):=wrap_i64 (by omega) (by omega)
  have w2 : IntKind.i64.wrap ((fP (x.table.take i) : Int) + 1) = ((fP (x.table.take i) + 1 : Nat) : Int):=wrap_i64 (by omega) (by omega)
  have st:=aXP hlt
  have nx : ∀ n,n = fP (x.table.take (i + 1)) → sH (ix x.table i) x.mem.length = true → wK x (ix x.table i) = true → ∃ j,(j ≤ x.table.length ∧ ∀ k,k < j → sH (ix x.table k) x.mem.length = true ∧ wK x (ix x.table k) = true) ∧ cG 3 (XSt.st (XSt.mk [(10,.int .i64 ((i + 1 : Nat) : Int)),(9,.int .i64 (n : Nat)),(5,.ptr 2 [] 0)] [(3,some (dK (ix x.table i))),(2,some (aO x)),(1,some (aH s)),(0,some (aU c))] 4)) (bAU c s x j (fP (x.table.take j))).st ∧ x.table.length - j < x.table.length - i:=fun n hn h h' => by
   subst hn
   refine ⟨i + 1,⟨hlt,fun j hj => ?_⟩,.ofL (rT ⟨bS rfl,bS rfl,bS rfl,trivial⟩ ⟨rfl,rfl,rfl,trivial⟩ (zaF _) rfl),by omega⟩
   by_cases hji : j = i
   ·subst hji;exact ⟨h,h'⟩
   ·exact hp j (by omega)
  have bad1 : sH (ix x.table i) x.mem.length = false → pM x = false:=fun h => by
   unfold pM rM
   rw [aXQ (p:=fun q => sH q x.mem.length) hlt h,hs];rfl
  have bad2 : wK x (ix x.table i) = false → pM x = false:=fun h => by
   unfold pM rM aQ6
   rw [aXQ hlt h,hs,Bool.false_and,Bool.and_false];rfl
  simp only [h1,w1,w2,zaC,zaB]
  refine ⟨(ix x.table i,(x.mem.length : Int)),.rfl,⟨⟨by show (0 : Int) ≤ (x.mem.length : Int);omega,by show (x.mem.length : Int) ≤ 1000000;omega⟩⟩, ?_⟩
  intro y hy
  replace hy : y = sH (ix x.table i) x.mem.length:=hy
  cases y with
  | false => rw [bad1 hy.symm];exact .rfl
  | true =>
  simp only [zaI,zaD]
  cases hst : (ix x.table i).store with
  | false =>
   rw [hst] at st
   simp only [zaD]
   exact nx _ (by rw [st];rfl) hy.symm (by unfold wK;rw [hst];rfl)
  | true =>
   rw [hst] at st
   simp only [zaB]
   by_cases hz : x.saq.length = 0
   ·have hz' : (x.saq.length : Int) = 0:=by omega
    have hz2 : ¬ (0 : Int) < (x.saq.length : Int):=by omega
    rw [bad2 (by unfold wK;rw [hst];simp [hz])]
    simp only [hz',hz2,zaC,zaE,zaB,zaD,zaI,zaH,bor,Bool.true_or,Bool.or_true]
    exact .rfl
   ·have hz' : ¬ (x.saq.length : Int) = 0:=by omega
    have hz2 : (0 : Int) < (x.saq.length : Int):=by omega
    simp only [hz',hz2,zaC,zaE,zaB,zaD,zaI,zaH,bor,Bool.true_or,Bool.or_true,Bool.false_or,Bool.or_not_self]
    refine jQ (fun h => ?_) (fun h => ?_)
    ·rw [bad2 (by
      unfold wK
      rw [hst,decide_eq_true hz]
      simp only [decide_not,zaV,Bool.not_eq_true',zaP] at h
      rcases h with h | h <;> simp [Ne.symm h])]
     exact .rfl
    ·refine nx _ (by rw [st];rfl) hy.symm ?_
     unfold wK
     rw [hst,decide_eq_true hz]
     simp only [decide_not,Bool.or_eq_false_iff,Bool.not_eq_false',zaK] at h
     simp [h.1,h.2]
 ·have h1 : ¬ (i : Int) < (x.table.length : Int):=by omega
  obtain rfl : i = x.table.length:=by omega
  simp only [h1,zaE,zaD]
  rw [List.take_length]
  have a1 : x.table.all (fun q => sH q x.mem.length) = true:=aJS.2 fun j hj => (hp j hj).1
  have a2 : x.table.all (wK x) = true:=aJS.2 fun j hj => (hp j hj).2
  have e0 : pM x = ((!(decide ((fP x.table : Int) > 1) || !((bif decide ((x.saq.length : Int) > 0) then (ix x.saq 0).known else false) == decide ((fP x.table : Int) = 1)))) && aE8 x.bP):=by
   rw [a1Z rfl]
   unfold pM rM aQ6
   rw [hs,a1,a2];rfl
  have gz : decide ((0 : Int) < (x.saq.length : Int)) = decide ((x.saq.length : Int) > 0):=rfl
  rw [e0,a1Y]
  simp only [g1,g2,g3,g4,g5,g6,g7,aD,zaB,zaF,zaC,cB,gz]
  simp only [bor,qC]
  refine jQ (fun h => by rw [h];exact .rfl) (fun h => ?_)
  rw [h]
  generalize decide (x.bP.kind ≥ 0) = k0
  generalize decide (x.bP.kind ≤ 4) = k1
  generalize decide (x.bP.kind > 0) = k2
  generalize decide (x.bP.step ≥ 0) = s0
  generalize decide (x.bP.step ≤ 1099511627776) = s1
  generalize decide (x.bP.pc ≥ 0) = p0
  generalize decide (x.bP.pc ≤ 1099511627776) = p1
  generalize decide (x.bP.step = 0) = s2
  generalize decide (x.bP.pc = 0) = p2
  cases k0 <;> cases k1 <;> (try exact .rfl) <;> cases s0 <;> cases s1 <;> (try exact .rfl) <;> cases p0 <;> cases p1 <;> cases k2 <;> (try exact .rfl) <;> cases s2 <;> cases p2 <;> exact .rfl
theorem aTN {c : Cfg} {s : Split} {x : Stt} (ho : x.ok) : aP (Ok Try.prog (Tab.q TO1)) gI (XSt.mk [(7,.int .i64 0),(6,.bool false),(5,.ptr 2 [] 0)] [(2,some (aO x)),(1,some (aH s)),(0,some (aU c))] 3) [Frm.blk 0,Frm.seq eU] (bC [AR.tmp 6] (.bool (pM x))):=by
 have hl : x.saq.length ≤ 1000000:=ho.2.2.2.2.2.2.1
 have hm : x.mem.length ≤ 1000000:=ho.2.2.2.2.2.2.2.2.1
 refine fS mix aXU (fun i : Nat => bAT c s x i) (fun i => i ≤ x.saq.length ∧ ∀ j,j < i → aAK x j (ix x.saq j) = true) (fun i => x.saq.length - i) 0 ⟨Nat.zero_le _,fun j hj => by omega⟩ (.of (dG ⟨rfl,rfl,trivial⟩ ⟨rfl,rfl,rfl,trivial⟩ (zaF _))) ?_
 rintro i ⟨hi,hp⟩
 refine Eq.mpr (a7I c s x i _ _) ?_
 by_cases hlt : i < x.saq.length
 ·have h1 : (i : Int) < (x.saq.length : Int):=by omega
  have w1 : IntKind.i64.wrap ((i : Int) + 1) = ((i + 1 : Nat) : Int):=wrap_i64 (by omega) (by omega)
  have bad : aAK x i (ix x.saq i) = false → pM x = false:=fun h => by
   unfold pM rM
   rw [oI hlt h];rfl
  have nx : aAK x i (ix x.saq i) = true → ∃ j,(j ≤ x.saq.length ∧ ∀ k,k < j → aAK x k (ix x.saq k) = true) ∧ cG 3 (XSt.st (XSt.mk [(7,.int .i64 ((i + 1 : Nat) : Int)),(5,.ptr 2 [] 0)] [(3,some (bW (ix x.saq i))),(2,some (aO x)),(1,some (aH s)),(0,some (aU c))] 4)) (bAT c s x j).st ∧ x.saq.length - j < x.saq.length - i:=fun h => by
   refine ⟨i + 1,⟨hlt,fun j hj => ?_⟩,.ofL (rT ⟨bS rfl,bS rfl,trivial⟩ ⟨rfl,rfl,rfl,trivial⟩ (zaF _) rfl),by omega⟩
   by_cases hji : j = i
   ·subst hji;exact h
   ·exact hp j (by omega)
  have ed : decide ((i : Int) > 0) = decide (0 < i):=decide_eq_decide.2 (by omega)
  simp only [h1,w1,zaC,zaB,ed]
  refine ⟨((ix x.saq i).addr,(ix x.saq i).size,(x.mem.length : Int)),.rfl,⟨⟨by show (0 : Int) ≤ (x.mem.length : Int);omega,by show (x.mem.length : Int) ≤ 1000000;omega⟩⟩, ?_⟩
  intro y hy
  replace hy : y = qK (ix x.saq i).addr (ix x.saq i).size x.mem.length:=hy
  have eb : aOZ (ix x.saq i).step = (bif decide ((ix x.saq i).step ≥ 0) then decide ((ix x.saq i).step ≤ 1099511627776) else false):=by
   unfold aOZ
   rw [Bool.eq_iff_iff,← aXS]
   simp
  have e0 : aAK x i (ix x.saq i) = (y && (aOZ (ix x.saq i).step && !((ix x.saq i).known && decide (0 < i)))):=by rw [hy];rfl
  rw [eb] at e0
  clear hy eb
  generalize decide ((ix x.saq i).step ≥ 0) = s0 at e0 ⊢
  generalize decide ((ix x.saq i).step ≤ 1099511627776) = s1 at e0 ⊢
  generalize (ix x.saq i).known = kn at e0 ⊢
  generalize decide (0 < i) = dz at e0 ⊢
  have fin : aAK x i (ix x.saq i) = false → aA (.bool false) (.bool (pM x)):=fun h => by rw [bad h];exact .rfl
  cases y <;> cases s0 <;> cases s1 <;> cases kn <;> cases dz <;> first | exact fin e0 | exact nx e0
 ·have h1 : ¬ (i : Int) < (x.saq.length : Int):=by omega
  obtain rfl : i = x.saq.length:=by omega
  simp only [h1,zaE,zaD]
  exact aTM ho (dS.2 hp)
theorem a7K {c : Cfg} {s : Split} {x : Stt} : aY c s x = (bif dD c then bif iT s false x.a then bif iT s true x.e then bif decide (x.aG ≥ 0) then bif decide (x.aG ≤ 1099511627776) then bif decide (x.dN ≥ 0) then bif decide (x.dN ≤ 1099511627776) then bif decide (x.cF ≥ 0) then bif decide (x.cF ≤ 1099511627776) then bif decide (x.tags ≥ 0) then bif decide (x.tags ≤ 1099511627776) then bif !decide ((x.ldq.length : Int) > c.ldq) then bif !decide ((x.sdq.length : Int) > c.sdq) then bif !decide ((x.aeq.length : Int) > c.aeq) then bif !decide ((x.abq.length : Int) > c.abq) then bif !decide ((x.ebq.length : Int) > c.ebq) then bif !decide ((x.saq.length : Int) > c.saq) then bif !decide ((x.table.length : Int) > c.cA) then bif !decide ((x.mem.length : Int) > 65536) then pM x else false else false else false else false else false else false else false else false else false else false else false else false else false else false else false else false else false else false else false):=by
 have e2 : cE 0 1099511627776 [x.aG,x.dN,x.cF,x.tags] = true ↔ (0 ≤ x.aG ∧ x.aG ≤ 1099511627776) ∧ (0 ≤ x.dN ∧ x.dN ≤ 1099511627776) ∧ (0 ≤ x.cF ∧ x.cF ≤ 1099511627776) ∧ (0 ≤ x.tags ∧ x.tags ≤ 1099511627776):=by simp [cE]
 unfold aY aQ5 pM
 rw [Bool.eq_iff_iff]
 simp only [← aXS,zaG,zaK,Bool.not_eq_true',zaP,e2,Int.not_lt,gt_iff_lt,ge_iff_le]
 constructor
 ·rintro ⟨a1,a2,a3,⟨⟨b1,b2⟩,⟨b3,b4⟩,⟨b5,b6⟩,b7,b8⟩,⟨c1,c2,c3,c4,c5,c6,c7,c8⟩,d1,d2⟩
  exact ⟨a1,a2,a3,b1,b2,b3,b4,b5,b6,b7,b8,c1,c2,c3,c4,c5,c6,c7,c8,d1,d2⟩
 ·rintro ⟨a1,a2,a3,b1,b2,b3,b4,b5,b6,b7,b8,c1,c2,c3,c4,c5,c6,c7,c8,d1,d2⟩
  exact ⟨a1,a2,a3,⟨⟨b1,b2⟩,⟨b3,b4⟩,⟨b5,b6⟩,b7,b8⟩,⟨c1,c2,c3,c4,c5,c6,c7,c8⟩,d1,d2⟩
theorem aJT : eI Try.prog (22,aXO):=bB fun ⟨c,s,x⟩ h => by
 have ho : x.ok:=h
 show Pure _ _ (cons [aU c,aH s,aO x]) (con (.bool (aY c s x)))
 refine jB mix aXU oN (Nat.le_of_ble_eq_true rfl) ?_
 refine Eq.mpr (a7G c s x _) ?_
 have L:=aTN (c:=c) (s:=s) ho
 rw [a7K]
 generalize pM x = R at L ⊢
 generalize decide (x.aG ≥ 0) = cycle0
 generalize decide (x.aG ≤ 1099511627776) = cycle1
 generalize decide (x.dN ≥ 0) = lats0
 generalize decide (x.dN ≤ 1099511627776) = lats1
 generalize decide (x.cF ≥ 0) = picks0
 generalize decide (x.cF ≤ 1099511627776) = picks1
 generalize decide (x.tags ≥ 0) = tags0
 generalize decide (x.tags ≤ 1099511627776) = tags1
 generalize decide ((x.ldq.length : Int) > c.ldq) = ldq0
 generalize decide ((x.sdq.length : Int) > c.sdq) = sdq0
 generalize decide ((x.aeq.length : Int) > c.aeq) = aeq0
 generalize decide ((x.abq.length : Int) > c.abq) = abq0
 generalize decide ((x.ebq.length : Int) > c.ebq) = ebq0
 generalize decide ((x.saq.length : Int) > c.saq) = saq0
 generalize decide ((x.table.length : Int) > c.cA) = t0
 generalize decide ((x.mem.length : Int) > 65536) = m0
 refine ⟨c,.rfl,⟨trivial⟩, ?_⟩
 intro y hy
 replace hy : y = dD c:=hy
 rw [← hy]
 clear hy
 cases y with
 | false => first | exact .rfl | (cases cycle0 <;> cases lats0 <;> cases picks0 <;> cases tags0 <;> exact .rfl)
 | true =>
 refine ⟨(s,false,x.a),.rfl,⟨trivial⟩, ?_⟩
 intro y hy
 replace hy : y = iT s false x.a:=hy
 rw [← hy]
 clear hy
 cases y with
 | false => first | exact .rfl | (cases cycle0 <;> cases lats0 <;> cases picks0 <;> cases tags0 <;> exact .rfl)
 | true =>
 refine ⟨(s,true,x.e),.rfl,⟨trivial⟩, ?_⟩
 intro y hy
 replace hy : y = iT s true x.e:=hy
 rw [← hy]
 clear hy
 cases y with
 | false => first | exact .rfl | (cases cycle0 <;> cases lats0 <;> cases picks0 <;> cases tags0 <;> exact .rfl)
 | true =>
 cases cycle0 with
 | false => first | exact .rfl | (cases lats0 <;> cases picks0 <;> cases tags0 <;> cases ldq0 <;> cases sdq0 <;> cases aeq0 <;> cases abq0 <;> cases ebq0 <;> exact .rfl)
 | true =>
 cases cycle1 with
 | false => first | exact .rfl | (cases lats0 <;> cases picks0 <;> cases tags0 <;> cases ldq0 <;> cases sdq0 <;> cases aeq0 <;> cases abq0 <;> cases ebq0 <;> exact .rfl)
 | true =>
 cases lats0 with
 | false => first | exact .rfl | (cases picks0 <;> cases tags0 <;> cases ldq0 <;> cases sdq0 <;> cases aeq0 <;> cases abq0 <;> cases ebq0 <;> cases saq0 <;> exact .rfl)
 | true =>
 cases lats1 with
 | false => first | exact .rfl | (cases picks0 <;> cases tags0 <;> cases ldq0 <;> cases sdq0 <;> cases aeq0 <;> cases abq0 <;> cases ebq0 <;> cases saq0 <;> exact .rfl)
 | true =>
 cases picks0 with
 | false => first | exact .rfl | (cases tags0 <;> cases ldq0 <;> cases sdq0 <;> cases aeq0 <;> cases abq0 <;> cases ebq0 <;> cases saq0 <;> cases t0 <;> exact .rfl)
 | true =>
 cases picks1 with
 | false => first | exact .rfl | (cases tags0 <;> cases ldq0 <;> cases sdq0 <;> cases aeq0 <;> cases abq0 <;> cases ebq0 <;> cases saq0 <;> cases t0 <;> exact .rfl)
 | true =>
 cases tags0 with
 | false => first | exact .rfl | (cases ldq0 <;> cases sdq0 <;> cases aeq0 <;> cases abq0 <;> cases ebq0 <;> cases saq0 <;> cases t0 <;> cases m0 <;> exact .rfl)
 | true =>
 cases tags1 with
 | false => first | exact .rfl | (cases ldq0 <;> cases sdq0 <;> cases aeq0 <;> cases abq0 <;> cases ebq0 <;> cases saq0 <;> cases t0 <;> cases m0 <;> exact .rfl)
 | true =>
 cases ldq0 with
 | true => first | exact .rfl | (cases sdq0 <;> cases aeq0 <;> cases abq0 <;> cases ebq0 <;> cases saq0 <;> cases t0 <;> cases m0 <;> exact .rfl)
 | false =>
 cases sdq0 with
 | true => first | exact .rfl | (cases aeq0 <;> cases abq0 <;> cases ebq0 <;> cases saq0 <;> cases t0 <;> cases m0 <;> exact .rfl)
 | false =>
 cases aeq0 with
 | true => first | exact .rfl | (cases abq0 <;> cases ebq0 <;> cases saq0 <;> cases t0 <;> cases m0 <;> exact .rfl)
 | false =>
 cases abq0 with
 | true => first | exact .rfl | (cases ebq0 <;> cases saq0 <;> cases t0 <;> cases m0 <;> exact .rfl)
 | false =>
 cases ebq0 with
 | true => first | exact .rfl | (cases saq0 <;> cases t0 <;> cases m0 <;> exact .rfl)
 | false =>
 cases saq0 with
 | true => first | exact .rfl | (cases t0 <;> cases m0 <;> exact .rfl)
 | false =>
 cases t0 with
 | true => first | exact .rfl | (cases m0 <;> exact .rfl)
 | false =>
 cases m0 with
 | true => first | exact .rfl
 | false =>
 exact L
end Go.Proofs.Ytooojfbfobmkfaa
namespace Go.Ra
set_option linter.unusedVariables false
set_option linter.unusedSimpArgs false
theorem ofI {A : Nat} (h : A < 4294967296) : (BitVec.ofInt 32 (A : Int)).toNat = A:=by rw [BitVec.toNat_ofInt];omega
theorem bAV {A B : Nat} (ha : A < 4294967296) (hb : B < 4294967296) : eH .and .u32 A B = ((A &&& B : Nat) : Int):=by
 show IntKind.u32.wrap (((BitVec.ofInt 32 (A : Int)) &&& (BitVec.ofInt 32 (B : Int))).toNat : Int) = _
 have : A &&& B ≤ A:=Nat.and_le_left
 rw [BitVec.toNat_and,ofI ha,ofI hb,vO]
 omega
theorem bOr {A B : Nat} (ha : A < 4294967296) (hb : B < 4294967296) : eH .or .u32 A B = ((A ||| B : Nat) : Int):=by
 show IntKind.u32.wrap (((BitVec.ofInt 32 (A : Int)) ||| (BitVec.ofInt 32 (B : Int))).toNat : Int) = _
 have : A ||| B < 2 ^ 32:=Nat.or_lt_two_pow (by omega) (by omega)
 rw [BitVec.toNat_or,ofI ha,ofI hb,vO]
 omega
theorem bDF {A B : Nat} (ha : A < 4294967296) (hb : B < 4294967296) : eH .xor .u32 A B = ((A ^^^ B : Nat) : Int):=by
 show IntKind.u32.wrap (((BitVec.ofInt 32 (A : Int)) ^^^ (BitVec.ofInt 32 (B : Int))).toNat : Int) = _
 have : A ^^^ B < 2 ^ 32:=Nat.xor_lt_two_pow (by omega) (by omega)
 rw [BitVec.toNat_xor,ofI ha,ofI hb,vO]
 omega
theorem bAW {A B : Nat} (ha : A < 4294967296) (hb : B < 4294967296) : A ||| B < 4294967296:=Nat.or_lt_two_pow (n:=32) ha hb
theorem a7L {A B : Nat} (ha : A < 4294967296) (hb : B < 4294967296) : A ^^^ B < 4294967296:=Nat.xor_lt_two_pow (n:=32) ha hb
theorem a7M {A B : Nat} (ha : A < 4294967296) : A &&& B < 4294967296:=Nat.lt_of_le_of_lt Nat.and_le_left ha
end Go.Ra
namespace Go.Proofs.Ytooojfbfobmkfaa.Alu
open Go.Ra
set_option linter.unusedVariables false
set_option linter.unusedSimpArgs false
def TU0 : Tab:=mkT qq gG [] []
def fmI (op : Int) : Int:=if op < 1 ∨ op > 41 then 0 else if op ≤ 16 then 1 else if op ≤ 24 then 2 else if op = 25 then 3 else if op ≤ 30 then 4 else if op ≤ 33 then 5 else if op ≤ 39 then 6 else if op = 40 then 7 else 8
def aMJ (b : Bool) : Int:=bif b then 1 else 0
def aXV : List XV → Option (List Bool × XV)
 | [.bool b] => some ([],.int .u32 (aMJ b))
 | _ => none
def rgP (n : Int) (h : Prop) : Prop:=(h ∧ 0 ≤ n ∧ n ≤ 15) ∨ (¬ h ∧ n = 0)
def rtP (op f d x y m : Int) : Prop:=f ≠ 0 ∧ rgP d (1 ≤ f ∧ f ≤ 4) ∧ rgP x (f = 1 ∨ f = 2 ∨ f = 4 ∨ f = 5 ∨ f = 6) ∧ rgP y (f = 1 ∨ f = 5 ∨ f = 6) ∧ (m = 0 ∨ (2 ≤ f ∧ f ≤ 7 ∧ ((¬ (op = 22 ∨ op = 23 ∨ op = 24) ∧ -8192 ≤ m ∧ m ≤ 8191) ∨ ((op = 22 ∨ op = 23 ∨ op = 24) ∧ 0 ≤ m ∧ m ≤ 31))))
instance {n : Int} {h : Prop} [Decidable h] : Decidable (rgP n h):=by unfold rgP;infer_instance
instance {op f d x y m : Int} : Decidable (rtP op f d x y m):=by unfold rtP;infer_instance
def rtB (op d x y m : Int) : Bool:=decide (rtP op (fmI op) d x y m)
def aCQ : List XV → Option (List Bool × XV)
 | [.agg 5 [.int .i64 op,.int .i64 d,.int .i64 x,.int .i64 y,.int .i64 m]] => some ([],.bool (rtB op d x y m))
 | _ => none
def aRA (f : Int) : List XV → Option (List Bool × XV)
 | [.int .i64 op] => some ([decide (fmI op = f)],.int .i64 f)
 | _ => none
def TU1 (f : Int) : Tab:=mkT qq gG [(67,aRA f)] []
theorem aXW : bX Try.prog TU0:=pT eC trivial trivial
theorem bAX (a : Int) (K : XV → Prop) : (aQ TU0 80 (bT TU0 80 20) 67 [.int .i64 a] K) = (
 letI q1 : Bool:=decide (a < 1);bif bif q1 then true else !q1 then bif bif q1 then true else decide (a > 41) then K (.int .i64 0) else bif decide (a ≤ 16) then K (.int .i64 1) else
  bif decide (a ≤ 24) then K (.int .i64 2) else bif decide (a = 25) then K (.int .i64 3) else bif decide (a ≤ 30) then K (.int .i64 4) else bif decide (a ≤ 33) then K (.int .i64 5) else
  bif decide (a ≤ 39) then K (.int .i64 6) else bif decide (a = 40) then K (.int .i64 7) else K (.int .i64 8) else False):=by kernel_rfl
theorem a7N (a : Bool) (K : XV → Prop) : (aQ TU0 80 (bT TU0 80 20) 89 [.bool a] K) = (bif a then K (.int .u32 1) else K (.int .u32 0)):=by kernel_rfl
theorem a17 (op d x y m : Int) (K : XV → Prop) : (aQ (TU1 0) 80 (bT (TU1 0) 80 20) 33 [.agg 5 [.int .i64 op,.int .i64 d,.int .i64 x,.int .i64 y,.int .i64 m]] K) = (bif decide (fmI op = 0) then K (.bool false) else False):=by kernel_rfl
theorem a18 (op d x y m : Int) (K : XV → Prop) : (aQ (TU1 1) 80 (bT (TU1 1) 80 20) 33 [.agg 5 [.int .i64 op,.int .i64 d,.int .i64 x,.int .i64 y,.int .i64 m]] K) = (
 letI q1 : Bool:=decide (d = 0);
 letI q2 : Bool:=!q1;
 letI q3 : Bool:=!q2;
 letI q4 : Bool:=bif q2 then true else q3;
 letI q5 : Bool:=decide (d > 0);
 letI q6 : Bool:=!bif q1 then true else bif q5 then decide (d ≤ 15) else false;
 letI q7 : Bool:=decide (x = 0);
 letI q8 : Bool:=!q7;
 letI q9 : Bool:=!q8;
 letI q10 : Bool:=bif q8 then true else q9;
 letI q11 : Bool:=decide (x > 0);
 letI q12 : Bool:=bif q6 then true else !bif q7 then true else bif q11 then decide (x ≤ 15) else false;
 letI q13 : Bool:=decide (y = 0);
 letI q14 : Bool:=!q13;
 letI q15 : Bool:=!q14;
 letI q16 : Bool:=bif q14 then true else q15;
 letI q17 : Bool:=decide (y > 0);
 letI q18 : Bool:=bif q12 then true else !bif q13 then true else bif q17 then decide (y ≤ 15) else false;
 letI q19 : Bool:=!q18;
 letI q20 : Bool:=!q19;
 letI q21 : Bool:=decide (op = 22);
 letI q22 : Bool:=bif q21 then true else decide (op = 23);
 letI q23 : Bool:=decide (m ≥ 0);
 letI q24 : Bool:=decide (m ≥ (-8192 : Int));bif decide (fmI op = 1) then bif q4 then bif bif bif q2 then true else false then true else q3 then bif q4 then bif bif bif q5 then bif
  q2 then q5 else false else true then true else q3 then bif bif q1 then true else q2 then bif !q6 then bif q10 then bif bif bif q8 then true else false then true else q9 then bif q10
  then bif bif bif q11 then bif q8 then q11 else false else true then true else q9 then bif bif q7 then true else q8 then bif !q12 then bif q16 then bif bif bif q14 then true else false
  then true else q15 then bif q16 then bif bif bif q17 then bif q14 then q17 else false else true then true else q15 then bif bif q13 then true else q14 then bif bif q19 then true else
  q20 then bif bif bif q19 then true else false then true else q20 then bif bif q18 then true else q19 then bif bif q18 then true else decide ¬m = 0 then K (.bool false) else bif bif
  q21 then true else !q21 then bif bif q22 then true else !q22 then bif bif q22 then true else decide (op = 24) then bif bif q23 then q23 else true then K (.bool (bif q23 then decide
  (m ≤ 31) else false)) else False else bif bif q24 then q24 else true then K (.bool (bif q24 then decide (m ≤ 8191) else false)) else False else False else False else False else False
  else False else False else False else False else False else False else bif q12 then K (.bool false) else False else False else False else False else False else False else bif q6 then
  K (.bool false) else False else False else False else False else False else False else False):=by kernel_rfl
theorem a19 (op d x y m : Int) (K : XV → Prop) : (aQ (TU1 2) 80 (bT (TU1 2) 80 20) 33 [.agg 5 [.int .i64 op,.int .i64 d,.int .i64 x,.int .i64 y,.int .i64 m]] K) = (
 letI q1 : Bool:=decide (d = 0);
 letI q2 : Bool:=!q1;
 letI q3 : Bool:=!q2;
 letI q4 : Bool:=bif q2 then true else q3;
 letI q5 : Bool:=decide (d > 0);
 letI q6 : Bool:=!bif q1 then true else bif q5 then decide (d ≤ 15) else false;
 letI q7 : Bool:=decide (x = 0);
 letI q8 : Bool:=!q7;
 letI q9 : Bool:=!q8;
 letI q10 : Bool:=bif q8 then true else q9;
 letI q11 : Bool:=decide (x > 0);
 letI q12 : Bool:=bif q6 then true else !bif q7 then true else bif q11 then decide (x ≤ 15) else false;
 letI q13 : Bool:=decide (y = 0);
 letI q14 : Bool:=!q13;
 letI q15 : Bool:=bif q14 then true else !q14;
 letI q16 : Bool:=bif q12 then true else !bif q13 then true else false;
 letI q17 : Bool:=!q16;
 letI q18 : Bool:=decide (op = 22);
 letI q19 : Bool:=bif q18 then true else decide (op = 23);
 letI q20 : Bool:=decide (m ≥ 0);
 letI q21 : Bool:=decide (m ≥ (-8192 : Int));bif decide (fmI op = 2) then bif q4 then bif bif bif q2 then true else false then true else q3 then bif q4 then bif bif bif q5 then bif
  q2 then q5 else false else true then true else q3 then bif bif q1 then true else q2 then bif !q6 then bif q10 then bif bif bif q8 then true else false then true else q9 then bif q10
  then bif bif bif q11 then bif q8 then q11 else false else true then true else q9 then bif bif q7 then true else q8 then bif !q12 then bif q15 then bif q15 then bif bif q13 then true
  else q14 then bif bif q17 then true else !q17 then bif bif q16 then true else q17 then bif bif q16 then true else false then K (.bool false) else bif bif q18 then true else !q18 then
  bif bif q19 then true else !q19 then bif bif q19 then true else decide (op = 24) then bif bif q20 then q20 else true then K (.bool (bif q20 then decide (m ≤ 31) else false)) else False
  else bif bif q21 then q21 else true then K (.bool (bif q21 then decide (m ≤ 8191) else false)) else False else False else False else False else False else False else False else False
  else bif q12 then K (.bool false) else False else False else False else False else False else False else bif q6 then K (.bool false) else False else False else False else False else
  False else False else False):=by kernel_rfl
theorem a2A (op d x y m : Int) (K : XV → Prop) : (aQ (TU1 3) 80 (bT (TU1 3) 80 20) 33 [.agg 5 [.int .i64 op,.int .i64 d,.int .i64 x,.int .i64 y,.int .i64 m]] K) = (
 letI q1 : Bool:=decide (d = 0);
 letI q2 : Bool:=!q1;
 letI q3 : Bool:=!q2;
 letI q4 : Bool:=bif q2 then true else q3;
 letI q5 : Bool:=decide (d > 0);
 letI q6 : Bool:=!bif q1 then true else bif q5 then decide (d ≤ 15) else false;
 letI q7 : Bool:=decide (x = 0);
 letI q8 : Bool:=!q7;
 letI q9 : Bool:=bif q8 then true else !q8;
 letI q10 : Bool:=bif q6 then true else !bif q7 then true else false;
 letI q11 : Bool:=decide (y = 0);
 letI q12 : Bool:=!q11;
 letI q13 : Bool:=bif q12 then true else !q12;
 letI q14 : Bool:=bif q10 then true else !bif q11 then true else false;
 letI q15 : Bool:=!q14;
 letI q16 : Bool:=decide (op = 22);
 letI q17 : Bool:=bif q16 then true else decide (op = 23);
 letI q18 : Bool:=decide (m ≥ 0);
 letI q19 : Bool:=decide (m ≥ (-8192 : Int));bif decide (fmI op = 3) then bif q4 then bif bif bif q2 then true else false then true else q3 then bif q4 then bif bif bif q5 then bif
  q2 then q5 else false else true then true else q3 then bif bif q1 then true else q2 then bif !q6 then bif q9 then bif q9 then bif bif q7 then true else q8 then bif !q10 then bif q13
  then bif q13 then bif bif q11 then true else q12 then bif bif q15 then true else !q15 then bif bif q14 then true else q15 then bif bif q14 then true else false then K (.bool false)
  else bif bif q16 then true else !q16 then bif bif q17 then true else !q17 then bif bif q17 then true else decide (op = 24) then bif bif q18 then q18 else true then K (.bool (bif q18
  then decide (m ≤ 31) else false)) else False else bif bif q19 then q19 else true then K (.bool (bif q19 then decide (m ≤ 8191) else false)) else False else False else False else False
  else False else False else False else False else bif q10 then K (.bool false) else False else False else False else False else bif q6 then K (.bool false) else False else False else
  False else False else False else False else False):=by kernel_rfl
theorem a2B (op d x y m : Int) (K : XV → Prop) : (aQ (TU1 4) 80 (bT (TU1 4) 80 20) 33 [.agg 5 [.int .i64 op,.int .i64 d,.int .i64 x,.int .i64 y,.int .i64 m]] K) = (
 letI q1 : Bool:=decide (d = 0);
 letI q2 : Bool:=!q1;
 letI q3 : Bool:=!q2;
 letI q4 : Bool:=bif q2 then true else q3;
 letI q5 : Bool:=decide (d > 0);
 letI q6 : Bool:=!bif q1 then true else bif q5 then decide (d ≤ 15) else false;
 letI q7 : Bool:=decide (x = 0);
 letI q8 : Bool:=!q7;
 letI q9 : Bool:=!q8;
 letI q10 : Bool:=bif q8 then true else q9;
 letI q11 : Bool:=decide (x > 0);
 letI q12 : Bool:=bif q6 then true else !bif q7 then true else bif q11 then decide (x ≤ 15) else false;
 letI q13 : Bool:=decide (y = 0);
 letI q14 : Bool:=!q13;
 letI q15 : Bool:=bif q14 then true else !q14;
 letI q16 : Bool:=bif q12 then true else !bif q13 then true else false;
 letI q17 : Bool:=!q16;
 letI q18 : Bool:=decide (op = 22);
 letI q19 : Bool:=bif q18 then true else decide (op = 23);
 letI q20 : Bool:=decide (m ≥ 0);
 letI q21 : Bool:=decide (m ≥ (-8192 : Int));bif decide (fmI op = 4) then bif q4 then bif bif bif q2 then true else false then true else q3 then bif q4 then bif bif bif q5 then bif
  q2 then q5 else false else true then true else q3 then bif bif q1 then true else q2 then bif !q6 then bif q10 then bif bif bif q8 then true else false then true else q9 then bif q10
  then bif bif bif q11 then bif q8 then q11 else false else true then true else q9 then bif bif q7 then true else q8 then bif !q12 then bif q15 then bif q15 then bif bif q13 then true
  else q14 then bif bif q17 then true else !q17 then bif bif q16 then true else q17 then bif bif q16 then true else false then K (.bool false) else bif bif q18 then true else !q18 then
  bif bif q19 then true else !q19 then bif bif q19 then true else decide (op = 24) then bif bif q20 then q20 else true then K (.bool (bif q20 then decide (m ≤ 31) else false)) else False
  else bif bif q21 then q21 else true then K (.bool (bif q21 then decide (m ≤ 8191) else false)) else False else False else False else False else False else False else False else False
  else bif q12 then K (.bool false) else False else False else False else False else False else False else bif q6 then K (.bool false) else False else False else False else False else
  False else False else False):=by kernel_rfl
theorem a2C (op d x y m : Int) (K : XV → Prop) : (aQ (TU1 5) 80 (bT (TU1 5) 80 20) 33 [.agg 5 [.int .i64 op,.int .i64 d,.int .i64 x,.int .i64 y,.int .i64 m]] K) = (
 letI q1 : Bool:=decide (d = 0);
 letI q2 : Bool:=!q1;
 letI q3 : Bool:=bif q2 then true else !q2;
 letI q4 : Bool:=!bif q1 then true else false;
 letI q5 : Bool:=decide (x = 0);
 letI q6 : Bool:=!q5;
 letI q7 : Bool:=!q6;
 letI q8 : Bool:=bif q6 then true else q7;
 letI q9 : Bool:=decide (x > 0);
 letI q10 : Bool:=bif q4 then true else !bif q5 then true else bif q9 then decide (x ≤ 15) else false;
 letI q11 : Bool:=decide (y = 0);
 letI q12 : Bool:=!q11;
 letI q13 : Bool:=!q12;
 letI q14 : Bool:=bif q12 then true else q13;
 letI q15 : Bool:=decide (y > 0);
 letI q16 : Bool:=bif q10 then true else !bif q11 then true else bif q15 then decide (y ≤ 15) else false;
 letI q17 : Bool:=!q16;
 letI q18 : Bool:=decide (op = 22);
 letI q19 : Bool:=bif q18 then true else decide (op = 23);
 letI q20 : Bool:=decide (m ≥ 0);
 letI q21 : Bool:=decide (m ≥ (-8192 : Int));bif decide (fmI op = 5) then bif q3 then bif q3 then bif bif q1 then true else q2 then bif !q4 then bif q8 then bif bif bif q6 then true
  else false then true else q7 then bif q8 then bif bif bif q9 then bif q6 then q9 else false else true then true else q7 then bif bif q5 then true else q6 then bif !q10 then bif q14
  then bif bif bif q12 then true else false then true else q13 then bif q14 then bif bif bif q15 then bif q12 then q15 else false else true then true else q13 then bif bif q11 then true
  else q12 then bif bif q17 then true else !q17 then bif bif q16 then true else q17 then bif bif q16 then true else false then K (.bool false) else bif bif q18 then true else !q18 then
  bif bif q19 then true else !q19 then bif bif q19 then true else decide (op = 24) then bif bif q20 then q20 else true then K (.bool (bif q20 then decide (m ≤ 31) else false)) else False
  else bif bif q21 then q21 else true then K (.bool (bif q21 then decide (m ≤ 8191) else false)) else False else False else False else False else False else False else False else False
  else False else False else bif q10 then K (.bool false) else False else False else False else False else False else False else bif q4 then K (.bool false) else False else False else
  False else False else False):=by kernel_rfl
theorem a2D (op d x y m : Int) (K : XV → Prop) : (aQ (TU1 6) 80 (bT (TU1 6) 80 20) 33 [.agg 5 [.int .i64 op,.int .i64 d,.int .i64 x,.int .i64 y,.int .i64 m]] K) = (
 letI q1 : Bool:=decide (d = 0);
 letI q2 : Bool:=!q1;
 letI q3 : Bool:=bif q2 then true else !q2;
 letI q4 : Bool:=!bif q1 then true else false;
 letI q5 : Bool:=decide (x = 0);
 letI q6 : Bool:=!q5;
 letI q7 : Bool:=!q6;
 letI q8 : Bool:=bif q6 then true else q7;
 letI q9 : Bool:=decide (x > 0);
 letI q10 : Bool:=bif q4 then true else !bif q5 then true else bif q9 then decide (x ≤ 15) else false;
 letI q11 : Bool:=decide (y = 0);
 letI q12 : Bool:=!q11;
 letI q13 : Bool:=!q12;
 letI q14 : Bool:=bif q12 then true else q13;
 letI q15 : Bool:=decide (y > 0);
 letI q16 : Bool:=bif q10 then true else !bif q11 then true else bif q15 then decide (y ≤ 15) else false;
 letI q17 : Bool:=!q16;
 letI q18 : Bool:=decide (op = 22);
 letI q19 : Bool:=bif q18 then true else decide (op = 23);
 letI q20 : Bool:=decide (m ≥ 0);
 letI q21 : Bool:=decide (m ≥ (-8192 : Int));bif decide (fmI op = 6) then bif q3 then bif q3 then bif bif q1 then true else q2 then bif !q4 then bif q8 then bif bif bif q6 then true
  else false then true else q7 then bif q8 then bif bif bif q9 then bif q6 then q9 else false else true then true else q7 then bif bif q5 then true else q6 then bif !q10 then bif q14
  then bif bif bif q12 then true else false then true else q13 then bif q14 then bif bif bif q15 then bif q12 then q15 else false else true then true else q13 then bif bif q11 then true
  else q12 then bif bif q17 then true else !q17 then bif bif q16 then true else q17 then bif bif q16 then true else false then K (.bool false) else bif bif q18 then true else !q18 then
  bif bif q19 then true else !q19 then bif bif q19 then true else decide (op = 24) then bif bif q20 then q20 else true then K (.bool (bif q20 then decide (m ≤ 31) else false)) else False
  else bif bif q21 then q21 else true then K (.bool (bif q21 then decide (m ≤ 8191) else false)) else False else False else False else False else False else False else False else False
  else False else False else bif q10 then K (.bool false) else False else False else False else False else False else False else bif q4 then K (.bool false) else False else False else
  False else False else False):=by kernel_rfl
theorem a2E (op d x y m : Int) (K : XV → Prop) : (aQ (TU1 7) 80 (bT (TU1 7) 80 20) 33 [.agg 5 [.int .i64 op,.int .i64 d,.int .i64 x,.int .i64 y,.int .i64 m]] K) = (
 letI q1 : Bool:=decide (d = 0);
 letI q2 : Bool:=!q1;
 letI q3 : Bool:=bif q2 then true else !q2;
 letI q4 : Bool:=!bif q1 then true else false;
 letI q5 : Bool:=decide (x = 0);
 letI q6 : Bool:=!q5;
 letI q7 : Bool:=bif q6 then true else !q6;
 letI q8 : Bool:=bif q4 then true else !bif q5 then true else false;
 letI q9 : Bool:=decide (y = 0);
 letI q10 : Bool:=!q9;
 letI q11 : Bool:=bif q10 then true else !q10;
 letI q12 : Bool:=bif q8 then true else !bif q9 then true else false;
 letI q13 : Bool:=!q12;
 letI q14 : Bool:=decide (op = 22);
 letI q15 : Bool:=bif q14 then true else decide (op = 23);
 letI q16 : Bool:=decide (m ≥ 0);
 letI q17 : Bool:=decide (m ≥ (-8192 : Int));bif decide (fmI op = 7) then bif q3 then bif q3 then bif bif q1 then true else q2 then bif !q4 then bif q7 then bif q7 then bif bif q5
  then true else q6 then bif !q8 then bif q11 then bif q11 then bif bif q9 then true else q10 then bif bif q13 then true else !q13 then bif bif q12 then true else q13 then bif bif q12
  then true else false then K (.bool false) else bif bif q14 then true else !q14 then bif bif q15 then true else !q15 then bif bif q15 then true else decide (op = 24) then bif bif q16
  then q16 else true then K (.bool (bif q16 then decide (m ≤ 31) else false)) else False else bif bif q17 then q17 else true then K (.bool (bif q17 then decide (m ≤ 8191) else false))
  else False else False else False else False else False else False else False else False else bif q8 then K (.bool false) else False else False else False else False else bif q4 then
  K (.bool false) else False else False else False else False else False):=by kernel_rfl
theorem a2F (op d x y m : Int) (K : XV → Prop) : (aQ (TU1 8) 80 (bT (TU1 8) 80 20) 33 [.agg 5 [.int .i64 op,.int .i64 d,.int .i64 x,.int .i64 y,.int .i64 m]] K) = (
 letI q1 : Bool:=decide (d = 0);
 letI q2 : Bool:=!q1;
 letI q3 : Bool:=bif q2 then true else !q2;
 letI q4 : Bool:=!bif q1 then true else false;
 letI q5 : Bool:=decide (x = 0);
 letI q6 : Bool:=!q5;
 letI q7 : Bool:=bif q6 then true else !q6;
 letI q8 : Bool:=bif q4 then true else !bif q5 then true else false;
 letI q9 : Bool:=decide (y = 0);
 letI q10 : Bool:=!q9;
 letI q11 : Bool:=bif q10 then true else !q10;
 letI q12 : Bool:=bif q8 then true else !bif q9 then true else false;
 letI q13 : Bool:=!q12;
 letI q14 : Bool:=!q13;
 letI q15 : Bool:=decide (op = 22);
 letI q16 : Bool:=bif q15 then true else decide (op = 23);
 letI q17 : Bool:=decide (m ≥ 0);
 letI q18 : Bool:=decide (m ≥ (-8192 : Int));bif decide (fmI op = 8) then bif q3 then bif q3 then bif bif q1 then true else q2 then bif !q4 then bif q7 then bif q7 then bif bif q5
  then true else q6 then bif !q8 then bif q11 then bif q11 then bif bif q9 then true else q10 then bif bif q13 then true else q14 then bif bif bif q13 then true else false then true else
  q14 then bif bif q12 then true else q13 then bif bif q12 then true else decide ¬m = 0 then K (.bool false) else bif bif q15 then true else !q15 then bif bif q16 then true else !q16
  then bif bif q16 then true else decide (op = 24) then bif bif q17 then q17 else true then K (.bool (bif q17 then decide (m ≤ 31) else false)) else False else bif bif q18 then q18 else
  true then K (.bool (bif q18 then decide (m ≤ 8191) else false)) else False else False else False else False else False else False else False else False else False else bif q8 then K
  (.bool false) else False else False else False else False else bif q4 then K (.bool false) else False else False else False else False else False):=by kernel_rfl
theorem pk3 (p z : Bool) : (bif (bif p then (bif !z then p else false) else true) then true else !!z) = true:=by cases p <;> cases z <;> rfl
theorem pk4 (z : Bool) : (bif (bif !z then true else false) then true else !!z) = true:=by cases z <;> rfl
theorem pk5 (z : Bool) : (bif z then true else !!!z) = true:=by cases z <;> rfl
theorem pk6 (z : Bool) : (bif !!z then true else !z) = true:=by cases z <;> rfl
theorem aXX (op : Int) : Pure Try.prog 67 (cons [.int .i64 op]) (con (.int .i64 (fmI op))):=by
 refine fL (u:=80) (k:=20) mix aXW ?_
 rw [bAX]
 unfold fmI
 simp only [bJ,zaB]
 by_cases h0 : op < 1 ∨ op > 41
 ·rw [if_pos h0]
  rcases h0 with h | h <;> simp [h]
 ·rw [if_neg h0]
  have h1 : ¬ op < 1:=fun h => h0 (.inl h)
  have h2 : ¬ op > 41:=fun h => h0 (.inr h)
  simp only [h1,h2,zaE,zaD]
  by_cases h3 : op ≤ 16
  ·simp only [h3,zaC,zaB,if_true]
  simp only [h3,zaE,zaD,if_false]
  by_cases h4 : op ≤ 24
  ·simp only [h4,zaC,zaB,if_true]
  simp only [h4,zaE,zaD,if_false]
  by_cases h5 : op = 25
  ·simp only [h5,zaC,zaB,if_true]
  simp only [h5,zaE,zaD,if_false]
  by_cases h6 : op ≤ 30
  ·simp only [h6,zaC,zaB,if_true]
  simp only [h6,zaE,zaD,if_false]
  by_cases h7 : op ≤ 33
  ·simp only [h7,zaC,zaB,if_true]
  simp only [h7,zaE,zaD,if_false]
  by_cases h8 : op ≤ 39
  ·simp only [h8,zaC,zaB,if_true]
  simp only [h8,zaE,zaD,if_false]
  by_cases h9 : op = 40
  ·simp only [h9,zaC,zaB,if_true]
  simp only [h9,zaE,zaD,if_false]
theorem aHQ (f : Int) : oV Try.prog (67,aRA f):=fun args nd v h hn => by
 simp only [aRA] at h
 split at h
 ·rename_i op
  simp only [zaA,zaJ] at h
  obtain ⟨rfl,rfl⟩:=h
  have : fmI op = f:=of_decide_eq_true (hn _ (by simp))
  rw [← this]
  exact aXX _
 ·cases h
theorem aAL (f : Int) : bX Try.prog (TU1 f):=pT eC ⟨aHQ f,trivial⟩ trivial
theorem a4H (op : Int) : fmI op = 0 ∨ fmI op = 1 ∨ fmI op = 2 ∨ fmI op = 3 ∨ fmI op = 4 ∨ fmI op = 5 ∨ fmI op = 6 ∨ fmI op = 7 ∨ fmI op = 8:=by
 unfold fmI
 repeat' split
 all_goals omega
theorem bDG (b : Bool) : Pure Try.prog 89 (cons [.bool b]) (con (.int .u32 (aMJ b))):=by
 refine fL (u:=80) (k:=20) mix aXW ?_
 rw [a7N]
 cases b <;> rfl
theorem a2G : oV Try.prog (89,aXV):=fun args nd v h hn => by
 simp only [aXV] at h
 split at h
 ·simp only [zaA,zaJ] at h
  obtain ⟨rfl,rfl⟩:=h
  exact bDG _
 ·cases h
theorem bAY (op d x y m : Int) (h : fmI op = 0) : Pure Try.prog 33 (cons [.agg 5 [.int .i64 op,.int .i64 d,.int .i64 x,.int .i64 y,.int .i64 m]]) (con (.bool (rtB op d x y m))):=by
 refine fL (u:=80) (k:=20) mix (aAL 0) ?_
 rw [a17]
 have e : rtB op d x y m = false:=by
  unfold rtB rtP
  rw [h]
  simp
 rw [e]
 simp only [h,bJ,aV,pk3,pk4,pk5,pk6,zaC,zaB,zaD,zaI,zaH]
 try cases decide (op = 22) <;> cases decide (op = 23) <;> cases decide (op = 24) <;> trivial
theorem bAZ (op d x y m : Int) (h : fmI op = 1) : Pure Try.prog 33 (cons [.agg 5 [.int .i64 op,.int .i64 d,.int .i64 x,.int .i64 y,.int .i64 m]]) (con (.bool (rtB op d x y m))):=by
 refine fL (u:=80) (k:=20) mix (aAL 1) ?_
 rw [a18]
 have e : rtB op d x y m = ((bif decide (d = 0) then true else bif decide (d > 0) then decide (d ≤ 15) else false) && ((bif decide (x = 0) then true else bif decide (x > 0) then decide (x ≤ 15) else false) && ((bif decide (y = 0) then true else bif decide (y > 0) then decide (y ≤ 15) else false) && decide (m = 0)))):=by
  unfold rtB
  rw [h,Bool.eq_iff_iff]
  by_cases ho : (op = 22 ∨ op = 23 ∨ op = 24)
  ·have ho2 : (bif bif decide (op = 22) then true else decide (op = 23) then true else decide (op = 24)) = true:=by rcases ho with h | h | h <;> simp [h]
   try rw [ho2]
   simp only [zaK,zaG,zaB,rtP,rgP,Bool.cond_true_left,Bool.cond_false_right,Bool.cond_true_right,Bool.cond_false_left,Bool.or_eq_false_iff,zaV,zaG,zaW,zaP,zaK,Bool.not_eq_true',Bool.not_eq_false',Bool.not_not,Int.not_lt,Int.not_le,gt_iff_lt,ge_iff_le]
   simp <;> omega
  ·have ho2 : (bif bif decide (op = 22) then true else decide (op = 23) then true else decide (op = 24)) = false:=by simp only [not_or] at ho;simp [ho]
   try rw [ho2]
   simp only [zaK,zaG,zaD,rtP,rgP,Bool.cond_true_left,Bool.cond_false_right,Bool.cond_true_right,Bool.cond_false_left,Bool.or_eq_false_iff,zaV,zaG,zaW,zaP,zaK,Bool.not_eq_true',Bool.not_eq_false',Bool.not_not,Int.not_lt,Int.not_le,gt_iff_lt,ge_iff_le]
   simp <;> omega
 rw [e]
 simp only [h,bJ,aV,pk3,pk4,pk5,pk6,zaC,zaB,decide_not]
 generalize (bif decide (d = 0) then true else bif decide (d > 0) then decide (d ≤ 15) else false) = D
 generalize (bif decide (x = 0) then true else bif decide (x > 0) then decide (x ≤ 15) else false) = X
 generalize (bif decide (y = 0) then true else bif decide (y > 0) then decide (y ≤ 15) else false) = Y
 generalize (bif bif decide (op = 22) then true else decide (op = 23) then true else decide (op = 24)) = O
 by_cases hm : m = 0
 ·subst hm
  cases D <;> cases X <;> cases Y <;> cases O <;> rfl
 ·rw [decide_eq_false hm]
  generalize (bif decide (m ≥ 0) then decide (m ≤ 31) else false) = M1
  generalize (bif decide (m ≥ -8192) then decide (m ≤ 8191) else false) = M2
  cases D <;> cases X <;> cases Y <;> cases O <;> rfl
theorem bA0 (op d x y m : Int) (h : fmI op = 2) : Pure Try.prog 33 (cons [.agg 5 [.int .i64 op,.int .i64 d,.int .i64 x,.int .i64 y,.int .i64 m]]) (con (.bool (rtB op d x y m))):=by
 refine fL (u:=80) (k:=20) mix (aAL 2) ?_
 rw [a19]
 have e : rtB op d x y m = ((bif decide (d = 0) then true else bif decide (d > 0) then decide (d ≤ 15) else false) && ((bif decide (x = 0) then true else bif decide (x > 0) then decide (x ≤ 15) else false) && (decide (y = 0) && (bif (bif bif decide (op = 22) then true else decide (op = 23) then true else decide (op = 24)) then (bif decide (m ≥ 0) then decide (m ≤ 31) else false) else (bif decide (m ≥ -8192) then decide (m ≤ 8191) else false))))):=by
  unfold rtB
  rw [h,Bool.eq_iff_iff]
  by_cases ho : (op = 22 ∨ op = 23 ∨ op = 24)
  ·have ho2 : (bif bif decide (op = 22) then true else decide (op = 23) then true else decide (op = 24)) = true:=by rcases ho with h | h | h <;> simp [h]
   try rw [ho2]
   simp only [zaK,zaG,zaB,rtP,rgP,Bool.cond_true_left,Bool.cond_false_right,Bool.cond_true_right,Bool.cond_false_left,Bool.or_eq_false_iff,zaV,zaG,zaW,zaP,zaK,Bool.not_eq_true',Bool.not_eq_false',Bool.not_not,Int.not_lt,Int.not_le,gt_iff_lt,ge_iff_le]
   simp <;> omega
  ·have ho2 : (bif bif decide (op = 22) then true else decide (op = 23) then true else decide (op = 24)) = false:=by simp only [not_or] at ho;simp [ho]
   try rw [ho2]
   simp only [zaK,zaG,zaD,rtP,rgP,Bool.cond_true_left,Bool.cond_false_right,Bool.cond_true_right,Bool.cond_false_left,Bool.or_eq_false_iff,zaV,zaG,zaW,zaP,zaK,Bool.not_eq_true',Bool.not_eq_false',Bool.not_not,Int.not_lt,Int.not_le,gt_iff_lt,ge_iff_le]
   simp <;> omega
 rw [e]
 simp only [h,bJ,aV,pk3,pk4,pk5,pk6,zaC,zaB,decide_not]
 generalize (bif decide (d = 0) then true else bif decide (d > 0) then decide (d ≤ 15) else false) = D
 generalize (bif decide (x = 0) then true else bif decide (x > 0) then decide (x ≤ 15) else false) = X
 generalize decide (y = 0) = Y
 generalize (bif bif decide (op = 22) then true else decide (op = 23) then true else decide (op = 24)) = O
 generalize (bif decide (m ≥ 0) then decide (m ≤ 31) else false) = M1
 generalize (bif decide (m ≥ -8192) then decide (m ≤ 8191) else false) = M2
 cases D <;> cases X <;> cases Y <;> cases O <;> cases M1 <;> cases M2 <;> rfl
theorem bA1 (op d x y m : Int) (h : fmI op = 3) : Pure Try.prog 33 (cons [.agg 5 [.int .i64 op,.int .i64 d,.int .i64 x,.int .i64 y,.int .i64 m]]) (con (.bool (rtB op d x y m))):=by
 refine fL (u:=80) (k:=20) mix (aAL 3) ?_
 rw [a2A]
 have e : rtB op d x y m = ((bif decide (d = 0) then true else bif decide (d > 0) then decide (d ≤ 15) else false) && (decide (x = 0) && (decide (y = 0) && (bif (bif bif decide (op = 22) then true else decide (op = 23) then true else decide (op = 24)) then (bif decide (m ≥ 0) then decide (m ≤ 31) else false) else (bif decide (m ≥ -8192) then decide (m ≤ 8191) else false))))):=by
  unfold rtB
  rw [h,Bool.eq_iff_iff]
  by_cases ho : (op = 22 ∨ op = 23 ∨ op = 24)
  ·have ho2 : (bif bif decide (op = 22) then true else decide (op = 23) then true else decide (op = 24)) = true:=by rcases ho with h | h | h <;> simp [h]
   try rw [ho2]
   simp only [zaK,zaG,zaB,rtP,rgP,Bool.cond_true_left,Bool.cond_false_right,Bool.cond_true_right,Bool.cond_false_left,Bool.or_eq_false_iff,zaV,zaG,zaW,zaP,zaK,Bool.not_eq_true',Bool.not_eq_false',Bool.not_not,Int.not_lt,Int.not_le,gt_iff_lt,ge_iff_le]
   simp <;> omega
  ·have ho2 : (bif bif decide (op = 22) then true else decide (op = 23) then true else decide (op = 24)) = false:=by simp only [not_or] at ho;simp [ho]
   try rw [ho2]
   simp only [zaK,zaG,zaD,rtP,rgP,Bool.cond_true_left,Bool.cond_false_right,Bool.cond_true_right,Bool.cond_false_left,Bool.or_eq_false_iff,zaV,zaG,zaW,zaP,zaK,Bool.not_eq_true',Bool.not_eq_false',Bool.not_not,Int.not_lt,Int.not_le,gt_iff_lt,ge_iff_le]
   simp <;> omega
 rw [e]
 simp only [h,bJ,aV,pk3,pk4,pk5,pk6,zaC,zaB,decide_not]
 generalize (bif decide (d = 0) then true else bif decide (d > 0) then decide (d ≤ 15) else false) = D
 generalize decide (x = 0) = X
 generalize decide (y = 0) = Y
 generalize (bif bif decide (op = 22) then true else decide (op = 23) then true else decide (op = 24)) = O
 generalize (bif decide (m ≥ 0) then decide (m ≤ 31) else false) = M1
 generalize (bif decide (m ≥ -8192) then decide (m ≤ 8191) else false) = M2
 cases D <;> cases X <;> cases Y <;> cases O <;> cases M1 <;> cases M2 <;> rfl
theorem bA2 (op d x y m : Int) (h : fmI op = 4) : Pure Try.prog 33 (cons [.agg 5 [.int .i64 op,.int .i64 d,.int .i64 x,.int .i64 y,.int .i64 m]]) (con (.bool (rtB op d x y m))):=by
 refine fL (u:=80) (k:=20) mix (aAL 4) ?_
 rw [a2B]
 have e : rtB op d x y m = ((bif decide (d = 0) then true else bif decide (d > 0) then decide (d ≤ 15) else false) && ((bif decide (x = 0) then true else bif decide (x > 0) then decide (x ≤ 15) else false) && (decide (y = 0) && (bif (bif bif decide (op = 22) then true else decide (op = 23) then true else decide (op = 24)) then (bif decide (m ≥ 0) then decide (m ≤ 31) else false) else (bif decide (m ≥ -8192) then decide (m ≤ 8191) else false))))):=by
  unfold rtB
  rw [h,Bool.eq_iff_iff]
  by_cases ho : (op = 22 ∨ op = 23 ∨ op = 24)
  ·have ho2 : (bif bif decide (op = 22) then true else decide (op = 23) then true else decide (op = 24)) = true:=by rcases ho with h | h | h <;> simp [h]
   try rw [ho2]
   simp only [zaK,zaG,zaB,rtP,rgP,Bool.cond_true_left,Bool.cond_false_right,Bool.cond_true_right,Bool.cond_false_left,Bool.or_eq_false_iff,zaV,zaG,zaW,zaP,zaK,Bool.not_eq_true',Bool.not_eq_false',Bool.not_not,Int.not_lt,Int.not_le,gt_iff_lt,ge_iff_le]
   simp <;> omega
  ·have ho2 : (bif bif decide (op = 22) then true else decide (op = 23) then true else decide (op = 24)) = false:=by simp only [not_or] at ho;simp [ho]
   try rw [ho2]
   simp only [zaK,zaG,zaD,rtP,rgP,Bool.cond_true_left,Bool.cond_false_right,Bool.cond_true_right,Bool.cond_false_left,Bool.or_eq_false_iff,zaV,zaG,zaW,zaP,zaK,Bool.not_eq_true',Bool.not_eq_false',Bool.not_not,Int.not_lt,Int.not_le,gt_iff_lt,ge_iff_le]
   simp <;> omega
 rw [e]
 simp only [h,bJ,aV,pk3,pk4,pk5,pk6,zaC,zaB,decide_not]
 generalize (bif decide (d = 0) then true else bif decide (d > 0) then decide (d ≤ 15) else false) = D
 generalize (bif decide (x = 0) then true else bif decide (x > 0) then decide (x ≤ 15) else false) = X
 generalize decide (y = 0) = Y
 generalize (bif bif decide (op = 22) then true else decide (op = 23) then true else decide (op = 24)) = O
 generalize (bif decide (m ≥ 0) then decide (m ≤ 31) else false) = M1
 generalize (bif decide (m ≥ -8192) then decide (m ≤ 8191) else false) = M2
 cases D <;> cases X <;> cases Y <;> cases O <;> cases M1 <;> cases M2 <;> rfl
theorem bA3 (op d x y m : Int) (h : fmI op = 5) : Pure Try.prog 33 (cons [.agg 5 [.int .i64 op,.int .i64 d,.int .i64 x,.int .i64 y,.int .i64 m]]) (con (.bool (rtB op d x y m))):=by
 refine fL (u:=80) (k:=20) mix (aAL 5) ?_
 rw [a2C]
 have e : rtB op d x y m = (decide (d = 0) && ((bif decide (x = 0) then true else bif decide (x > 0) then decide (x ≤ 15) else false) && ((bif decide (y = 0) then true else bif decide (y > 0) then decide (y ≤ 15) else false) && (bif (bif bif decide (op = 22) then true else decide (op = 23) then true else decide (op = 24)) then (bif decide (m ≥ 0) then decide (m ≤ 31) else false) else (bif decide (m ≥ -8192) then decide (m ≤ 8191) else false))))):=by
  unfold rtB
  rw [h,Bool.eq_iff_iff]
  by_cases ho : (op = 22 ∨ op = 23 ∨ op = 24)
  ·have ho2 : (bif bif decide (op = 22) then true else decide (op = 23) then true else decide (op = 24)) = true:=by rcases ho with h | h | h <;> simp [h]
   try rw [ho2]
   simp only [zaK,zaG,zaB,rtP,rgP,Bool.cond_true_left,Bool.cond_false_right,Bool.cond_true_right,Bool.cond_false_left,Bool.or_eq_false_iff,zaV,zaG,zaW,zaP,zaK,Bool.not_eq_true',Bool.not_eq_false',Bool.not_not,Int.not_lt,Int.not_le,gt_iff_lt,ge_iff_le]
   simp <;> omega
  ·have ho2 : (bif bif decide (op = 22) then true else decide (op = 23) then true else decide (op = 24)) = false:=by simp only [not_or] at ho;simp [ho]
   try rw [ho2]
   simp only [zaK,zaG,zaD,rtP,rgP,Bool.cond_true_left,Bool.cond_false_right,Bool.cond_true_right,Bool.cond_false_left,Bool.or_eq_false_iff,zaV,zaG,zaW,zaP,zaK,Bool.not_eq_true',Bool.not_eq_false',Bool.not_not,Int.not_lt,Int.not_le,gt_iff_lt,ge_iff_le]
   simp <;> omega
 rw [e]
 simp only [h,bJ,aV,pk3,pk4,pk5,pk6,zaC,zaB,decide_not]
 generalize decide (d = 0) = D
 generalize (bif decide (x = 0) then true else bif decide (x > 0) then decide (x ≤ 15) else false) = X
 generalize (bif decide (y = 0) then true else bif decide (y > 0) then decide (y ≤ 15) else false) = Y
 generalize (bif bif decide (op = 22) then true else decide (op = 23) then true else decide (op = 24)) = O
 generalize (bif decide (m ≥ 0) then decide (m ≤ 31) else false) = M1
 generalize (bif decide (m ≥ -8192) then decide (m ≤ 8191) else false) = M2
 cases D <;> cases X <;> cases Y <;> cases O <;> cases M1 <;> cases M2 <;> rfl
theorem bA4 (op d x y m : Int) (h : fmI op = 6) : Pure Try.prog 33 (cons [.agg 5 [.int .i64 op,.int .i64 d,.int .i64 x,.int .i64 y,.int .i64 m]]) (con (.bool (rtB op d x y m))):=by
 refine fL (u:=80) (k:=20) mix (aAL 6) ?_
 rw [a2D]
 have e : rtB op d x y m = (decide (d = 0) && ((bif decide (x = 0) then true else bif decide (x > 0) then decide (x ≤ 15) else false) && ((bif decide (y = 0) then true else bif decide (y > 0) then decide (y ≤ 15) else false) && (bif (bif bif decide (op = 22) then true else decide (op = 23) then true else decide (op = 24)) then (bif decide (m ≥ 0) then decide (m ≤ 31) else false) else (bif decide (m ≥ -8192) then decide (m ≤ 8191) else false))))):=by
  unfold rtB
  rw [h,Bool.eq_iff_iff]
  by_cases ho : (op = 22 ∨ op = 23 ∨ op = 24)
  ·have ho2 : (bif bif decide (op = 22) then true else decide (op = 23) then true else decide (op = 24)) = true:=by rcases ho with h | h | h <;> simp [h]
   try rw [ho2]
   simp only [zaK,zaG,zaB,rtP,rgP,Bool.cond_true_left,Bool.cond_false_right,Bool.cond_true_right,Bool.cond_false_left,Bool.or_eq_false_iff,zaV,zaG,zaW,zaP,zaK,Bool.not_eq_true',Bool.not_eq_false',Bool.not_not,Int.not_lt,Int.not_le,gt_iff_lt,ge_iff_le]
   simp <;> omega
  ·have ho2 : (bif bif decide (op = 22) then true else decide (op = 23) then true else decide (op = 24)) = false:=by simp only [not_or] at ho;simp [ho]
   try rw [ho2]
   simp only [zaK,zaG,zaD,rtP,rgP,Bool.cond_true_left,Bool.cond_false_right,Bool.cond_true_right,Bool.cond_false_left,Bool.or_eq_false_iff,zaV,zaG,zaW,zaP,zaK,Bool.not_eq_true',Bool.not_eq_false',Bool.not_not,Int.not_lt,Int.not_le,gt_iff_lt,ge_iff_le]
   simp <;> omega
 rw [e]
 simp only [h,bJ,aV,pk3,pk4,pk5,pk6,zaC,zaB,decide_not]
 generalize decide (d = 0) = D
 generalize (bif decide (x = 0) then true else bif decide (x > 0) then decide (x ≤ 15) else false) = X
 generalize (bif decide (y = 0) then true else bif decide (y > 0) then decide (y ≤ 15) else false) = Y
 generalize (bif bif decide (op = 22) then true else decide (op = 23) then true else decide (op = 24)) = O
 generalize (bif decide (m ≥ 0) then decide (m ≤ 31) else false) = M1
 generalize (bif decide (m ≥ -8192) then decide (m ≤ 8191) else false) = M2
 cases D <;> cases X <;> cases Y <;> cases O <;> cases M1 <;> cases M2 <;> rfl
theorem bA5 (op d x y m : Int) (h : fmI op = 7) : Pure Try.prog 33 (cons [.agg 5 [.int .i64 op,.int .i64 d,.int .i64 x,.int .i64 y,.int .i64 m]]) (con (.bool (rtB op d x y m))):=by
 refine fL (u:=80) (k:=20) mix (aAL 7) ?_
 rw [a2E]
 have e : rtB op d x y m = (decide (d = 0) && (decide (x = 0) && (decide (y = 0) && (bif (bif bif decide (op = 22) then true else decide (op = 23) then true else decide (op = 24)) then (bif decide (m ≥ 0) then decide (m ≤ 31) else false) else (bif decide (m ≥ -8192) then decide (m ≤ 8191) else false))))):=by
  unfold rtB
  rw [h,Bool.eq_iff_iff]
  by_cases ho : (op = 22 ∨ op = 23 ∨ op = 24)
  ·have ho2 : (bif bif decide (op = 22) then true else decide (op = 23) then true else decide (op = 24)) = true:=by rcases ho with h | h | h <;> simp [h]
   try rw [ho2]
   simp only [zaK,zaG,zaB,rtP,rgP,Bool.cond_true_left,Bool.cond_false_right,Bool.cond_true_right,Bool.cond_false_left,Bool.or_eq_false_iff,zaV,zaG,zaW,zaP,zaK,Bool.not_eq_true',Bool.not_eq_false',Bool.not_not,Int.not_lt,Int.not_le,gt_iff_lt,ge_iff_le]
   simp <;> omega
  ·have ho2 : (bif bif decide (op = 22) then true else decide (op = 23) then true else decide (op = 24)) = false:=by simp only [not_or] at ho;simp [ho]
   try rw [ho2]
   simp only [zaK,zaG,zaD,rtP,rgP,Bool.cond_true_left,Bool.cond_false_right,Bool.cond_true_right,Bool.cond_false_left,Bool.or_eq_false_iff,zaV,zaG,zaW,zaP,zaK,Bool.not_eq_true',Bool.not_eq_false',Bool.not_not,Int.not_lt,Int.not_le,gt_iff_lt,ge_iff_le]
   simp <;> omega
 rw [e]
 simp only [h,bJ,aV,pk3,pk4,pk5,pk6,zaC,zaB,decide_not]
 generalize decide (d = 0) = D
 generalize decide (x = 0) = X
 generalize decide (y = 0) = Y
 generalize (bif bif decide (op = 22) then true else decide (op = 23) then true else decide (op = 24)) = O
 generalize (bif decide (m ≥ 0) then decide (m ≤ 31) else false) = M1
 generalize (bif decide (m ≥ -8192) then decide (m ≤ 8191) else false) = M2
 cases D <;> cases X <;> cases Y <;> cases O <;> cases M1 <;> cases M2 <;> rfl
theorem bA6 (op d x y m : Int) (h : fmI op = 8) : Pure Try.prog 33 (cons [.agg 5 [.int .i64 op,.int .i64 d,.int .i64 x,.int .i64 y,.int .i64 m]]) (con (.bool (rtB op d x y m))):=by
 refine fL (u:=80) (k:=20) mix (aAL 8) ?_
 rw [a2F]
 have e : rtB op d x y m = (decide (d = 0) && (decide (x = 0) && (decide (y = 0) && decide (m = 0)))):=by
  unfold rtB
  rw [h,Bool.eq_iff_iff]
  by_cases ho : (op = 22 ∨ op = 23 ∨ op = 24)
  ·have ho2 : (bif bif decide (op = 22) then true else decide (op = 23) then true else decide (op = 24)) = true:=by rcases ho with h | h | h <;> simp [h]
   try rw [ho2]
   simp only [zaK,zaG,zaB,rtP,rgP,Bool.cond_true_left,Bool.cond_false_right,Bool.cond_true_right,Bool.cond_false_left,Bool.or_eq_false_iff,zaV,zaG,zaW,zaP,zaK,Bool.not_eq_true',Bool.not_eq_false',Bool.not_not,Int.not_lt,Int.not_le,gt_iff_lt,ge_iff_le]
   simp <;> omega
  ·have ho2 : (bif bif decide (op = 22) then true else decide (op = 23) then true else decide (op = 24)) = false:=by simp only [not_or] at ho;simp [ho]
   try rw [ho2]
   simp only [zaK,zaG,zaD,rtP,rgP,Bool.cond_true_left,Bool.cond_false_right,Bool.cond_true_right,Bool.cond_false_left,Bool.or_eq_false_iff,zaV,zaG,zaW,zaP,zaK,Bool.not_eq_true',Bool.not_eq_false',Bool.not_not,Int.not_lt,Int.not_le,gt_iff_lt,ge_iff_le]
   simp <;> omega
 rw [e]
 simp only [h,bJ,aV,pk3,pk4,pk5,pk6,zaC,zaB,decide_not]
 generalize decide (d = 0) = D
 generalize decide (x = 0) = X
 generalize decide (y = 0) = Y
 generalize (bif bif decide (op = 22) then true else decide (op = 23) then true else decide (op = 24)) = O
 by_cases hm : m = 0
 ·subst hm
  cases D <;> cases X <;> cases Y <;> cases O <;> rfl
 ·rw [decide_eq_false hm]
  generalize (bif decide (m ≥ 0) then decide (m ≤ 31) else false) = M1
  generalize (bif decide (m ≥ -8192) then decide (m ≤ 8191) else false) = M2
  cases D <;> cases X <;> cases Y <;> cases O <;> rfl
def i32 (a : Int) : Int:=IntKind.i32.wrap a
def aXY : List XV → Option (List Bool × XV)
 | [.int .u32 w] => some ([decide (0 ≤ w),decide (w ≤ 4294967295)],.int .i64 (i32 w))
 | _ => none
def alW (p a b : Int) : Int :=
 if p = 1 then (a + b) % 4294967296
 else if p = 2 then (a - b) % 4294967296
 else if p = 3 then eH .and .u32 a b
 else if p = 4 then eH .or .u32 a b
 else if p = 5 then eH .xor .u32 a b
 else if p = 6 then (a * 2 ^ (b % 32).toNat) % 4294967296
 else if p = 7 then a / 2 ^ (b % 32).toNat
 else if p = 8 then (i32 a / 2 ^ (b % 32).toNat) % 4294967296
 else if p = 9 then aMJ (decide (i32 a < i32 b))
 else if p = 10 then aMJ (decide (a < b))
 else if p = 11 then (a * b) % 4294967296
 else if p = 12 then ((i32 a * i32 b) / 4294967296) % 4294967296
 else if b = 0 then 0
 else if p = 13 then (Int.tdiv (i32 a) (i32 b)) % 4294967296
 else if p = 14 then a / b
 else if p = 15 then (Int.tmod (i32 a) (i32 b)) % 4294967296
 else a % b
def plI (op : Int) : Int:=if op = 17 then 1 else if op = 18 then 3 else if op = 19 then 4 else if op = 20 then 5 else if op = 21 then 9 else if op = 22 then 6 else if op = 23 then 7 else if op = 24 then 8 else op
def doI (op d x y m a b : Int) : Int:=if rtB op d x y m = false ∨ fmI op > 3 then 0 else if op = 25 then (m * 262144) % 4294967296 else if fmI op = 2 then alW (plI op) a (m % 4294967296) else alW op a b
def dkB (op d x y m b : Int) : Bool:=if rtB op d x y m = false ∨ fmI op > 3 then true else !decide (13 ≤ op ∧ op ≤ 16 ∧ b = 0)
def a2H : List XV → Option (List Bool × XV)
 | [.agg 5 [.int .i64 op,.int .i64 d,.int .i64 x,.int .i64 y,.int .i64 m],.int .u32 a,.int .u32 b] => some ([decide (0 ≤ a),decide (a ≤ 4294967295),decide (0 ≤ b),decide (b ≤ 4294967295)],.tup [.int .u32 (doI op d x y m a b),.bool (dkB op d x y m b)])
 | _ => none
def TU2 (f : Int) : Tab:=mkT qq gG [(67,aRA f),(33,aCQ),(89,aXV),(88,aXY)] []
theorem bA7 (a : Int) (K : XV → Prop) : (aQ TU0 80 (bT TU0 80 20) 88 [.int .u32 a] K) = (bif decide (IntKind.wrap .i64 a ≥ 2147483648) then K (.int .i64 (IntKind.wrap .i64 (IntKind.wrap .i64 a - 4294967296))) else K (.int .i64 (IntKind.wrap .i64 a))):=by kernel_rfl
theorem aJU (a : Int) : -2147483648 ≤ IntKind.i32.wrap a ∧ IntKind.i32.wrap a ≤ 2147483647:=by rw [aV3];omega
theorem a2I {x y : Int} (hx : -2147483648 ≤ x ∧ x ≤ 2147483647) (hy : -2147483648 ≤ y ∧ y ≤ 2147483647) : -4611686018427387904 ≤ x * y ∧ x * y ≤ 4611686018427387904:=by
 have h1 : x.natAbs ≤ 2147483648:=by omega
 have h2 : y.natAbs ≤ 2147483648:=by omega
 have h3 : (x * y).natAbs ≤ 2147483648 * 2147483648:=by rw [Int.natAbs_mul];exact Nat.mul_le_mul h1 h2
 omega
theorem aO0 (n : Int) : IntKind.u32.wrap (IntKind.i64.wrap n) = n % 4294967296:=by rw [a0A,vO];omega
theorem a7O (n : Int) : IntKind.u32.wrap (IntKind.i32.wrap n) = n % 4294967296:=by rw [aV3,vO];omega
theorem aXZ (n : Int) : IntKind.i64.wrap (IntKind.i32.wrap n) = IntKind.i32.wrap n:=by have:=aJU n;exact wrap_i64 (by omega) (by omega)
theorem aRB (a : Int) : IntKind.i32.wrap a % 4294967296 = a % 4294967296:=by rw [aV3];omega
theorem mul_mod (a b : Int) : (IntKind.i32.wrap a * IntKind.i32.wrap b) % 4294967296 = (a * b) % 4294967296:=by
 rw [Int.mul_emod,aRB,aRB,← Int.mul_emod]
theorem aX0 (a b : Int) : IntKind.i64.wrap (IntKind.i32.wrap a * IntKind.i32.wrap b) = IntKind.i32.wrap a * IntKind.i32.wrap b:=by
 have:=a2I (aJU a) (aJU b)
 exact wrap_i64 (by omega) (by omega)
theorem a4I {b : Int} (h2 : 0 ≤ b) (h3 : b ≤ 4294967295) : eH .and .u32 b 31 = b % 32:=by
 obtain ⟨B,rfl⟩:=Int.eq_ofNat_of_zero_le h2
 have e:=bAV (A:=B) (B:=31) (by omega) (by omega)
 have h : B &&& 31 = B % 32:=Nat.and_two_pow_sub_one_eq_mod B 5
 rw [h] at e
 exact e
theorem shA {b : Int} (h2 : 0 ≤ b) (h3 : b ≤ 4294967295) : Nat.min (Int.toNat (eH .and .u32 b 31)) 32 = (b % 32).toNat:=by
 rw [a4I h2 h3]
 exact Nat.min_eq_left (by omega)
theorem shB {b : Int} (h2 : 0 ≤ b) (h3 : b ≤ 4294967295) : Nat.min (Int.toNat (eH .and .u32 b 31)) 64 = (b % 32).toNat:=by
 rw [a4I h2 h3]
 exact Nat.min_eq_left (by omega)
theorem a4J (a : Int) (k : Nat) : Int.fdiv a (2 ^ k) = a / 2 ^ k:=Int.fdiv_eq_ediv_of_nonneg a (Int.pow_nonneg (by omega))
theorem a4K (a : Int) : Int.fdiv a 4294967296 = a / 4294967296:=Int.fdiv_eq_ediv_of_nonneg a (by omega)
theorem bA8 {b : Int} (h2 : 0 ≤ b) (h3 : b ≤ 4294967295) : IntKind.i32.wrap b = 0 ↔ b = 0:=by rw [aV3];omega
theorem aMK {a b : Int} (h0 : 0 ≤ a) (h1 : a ≤ 4294967295) (h2 : 0 ≤ b) : 0 ≤ a / b ∧ a / b ≤ 4294967295:=by
 have:=Int.ediv_le_self b h0
 have:=Int.ediv_nonneg h0 h2
 omega
theorem aX1 {a b : Int} (h0 : 0 ≤ a) (h1 : a ≤ 4294967295) (h2 : 0 < b) (h3 : b ≤ 4294967295) : 0 ≤ a % b ∧ a % b ≤ 4294967295:=by
 have:=Int.emod_lt_of_pos a h2
 have:=Int.emod_nonneg a (show b ≠ 0 by omega)
 omega
theorem a2J {a : Int} (h0 : 0 ≤ a) (h1 : a ≤ 4294967295) : Pure Try.prog 88 (cons [.int .u32 a]) (con (.int .i64 (i32 a))):=by
 refine fL (u:=80) (k:=20) mix aXW ?_
 rw [bA7]
 have e1 : IntKind.i64.wrap a = a:=wrap_i64 (by omega) (by omega)
 have e2 : IntKind.i64.wrap (a - 4294967296) = a - 4294967296:=wrap_i64 (by omega) (by omega)
 rw [e1,e2]
 unfold i32
 rw [aV3]
 by_cases h : a ≥ 2147483648
 ·rw [decide_eq_true h];exact aEL (by omega)
 ·rw [decide_eq_false h];exact aEL (by omega)
theorem a7P : oV Try.prog (88,aXY):=fun args nd v h hn => by
 simp only [aXY] at h
 split at h
 ·simp only [zaA,zaJ] at h
  obtain ⟨rfl,rfl⟩:=h
  simp only [bD,zaK] at hn
  exact a2J hn.1 hn.2.1
 ·cases h
theorem a7Q (op d x y m : Int) : Pure Try.prog 33 (cons [.agg 5 [.int .i64 op,.int .i64 d,.int .i64 x,.int .i64 y,.int .i64 m]]) (con (.bool (rtB op d x y m))):=by
 rcases a4H op with h | h | h | h | h | h | h | h | h
 ·exact bAY op d x y m h
 ·exact bAZ op d x y m h
 ·exact bA0 op d x y m h
 ·exact bA1 op d x y m h
 ·exact bA2 op d x y m h
 ·exact bA3 op d x y m h
 ·exact bA4 op d x y m h
 ·exact bA5 op d x y m h
 ·exact bA6 op d x y m h
theorem aTO : oV Try.prog (33,aCQ):=fun args nd v h hn => by
 simp only [aCQ] at h
 split at h
 ·simp only [zaA,zaJ] at h
  obtain ⟨rfl,rfl⟩:=h
  exact a7Q _ _ _ _ _
 ·cases h
theorem wL (f : Int) : bX Try.prog (TU2 f):=pT eC ⟨aHQ f,aTO,a2G,a7P,trivial⟩ trivial
theorem fm1 {op : Int} (h : fmI op = 1) : 1 ≤ op ∧ op ≤ 16:=by unfold fmI at h;repeat' split at h;all_goals omega
theorem fm2 {op : Int} (h : fmI op = 2) : 17 ≤ op ∧ op ≤ 24:=by unfold fmI at h;repeat' split at h;all_goals omega
theorem fm3 {op : Int} (h : fmI op = 3) : op = 25:=by unfold fmI at h;repeat' split at h;all_goals omega
theorem a4L {op d x y m a b : Int} (h : rtB op d x y m = false ∨ fmI op > 3) : doI op d x y m a b = 0:=by
 unfold doI
 rw [if_pos h]
theorem a4M {op d x y m b : Int} (h : rtB op d x y m = false ∨ fmI op > 3) : dkB op d x y m b = true:=by
 unfold dkB
 rw [if_pos h]
def oT (op m a b : Int) (K : XV → Prop) : Prop :=
 let k : Int → Prop:=fun v => K (.tup [.int .u32 v,.bool true])
 let w : Int → Prop:=fun v => k (IntKind.wrap .u32 v)
 let s : Nat → Int:=fun n => (2 : Int) ^ Nat.min (Int.toNat (eH .and .u32 b (31 : Int))) n
 let p : Int:=IntKind.wrap .i64 (i32 a * i32 b)
 bif decide (op = 1) then w (a + b) else bif decide (op = 2) then w (a - b) else bif decide (op = 3) then k (eH .and .u32 a b) else bif decide (op = 4) then k (eH .or .u32 a b) else
 bif decide (op = 5) then k (eH .xor .u32 a b) else bif decide (op = 6) then w (a * s 32) else bif decide (op = 7) then k (Int.fdiv a (s 32)) else bif decide (op = 8) then w (Int.fdiv (i32 a) (s 64)) else
 bif decide (op = 9) then k (aMJ (decide (i32 a < i32 b))) else bif decide (op = 10) then k (aMJ (decide (a < b))) else bif decide (op = 11) then w p else
 bif decide (op = 12) then w (Int.fdiv p (4294967296 : Int)) else bif decide (op = 25) then w (IntKind.wrap .u32 m * (262144 : Int)) else bif decide (b = 0) then K (.tup [.int .u32 0,.bool false]) else
 bif !decide (i32 b = 0) then bif !decide (i32 b = 0) then bif decide (op = 13) then w (IntKind.wrap .i64 (Int.tdiv (i32 a) (i32 b))) else bif decide (op = 15) then w (Int.tmod (i32 a) (i32 b)) else
 bif decide (op = 14) then bif !decide (b = 0) then w (Int.tdiv a b) else False else bif !decide (b = 0) then k (Int.tmod a b) else False else False else False
def gD (r p q : Bool) (X Y : Prop) : Prop:=bif bif !r then true else !!r then bif bif bif !r then true else p then true else !bif !r then true else p then bif bif bif !r then true else p then true else q then X else Y else False else False
theorem bA9 (p q : Bool) (X Y : Prop) : gD false p q X Y = X:=by cases p <;> cases q <;> rfl
theorem bBA (X Y : Prop) : gD true false false X Y = Y:=rfl
theorem bDH (X Y : Prop) : gD true false true X Y = X:=rfl
def g4 (a b : Int) (X : Prop) : Prop:=bif decide (0 ≤ a) then bif decide (a ≤ 4294967295) then bif decide (0 ≤ b) then bif decide (b ≤ 4294967295) then X else False else False else False else False
theorem bBB {a b : Int} (h0 : 0 ≤ a) (h1 : a ≤ 4294967295) (h2 : 0 ≤ b) (h3 : b ≤ 4294967295) (X : Prop) : g4 a b X = X:=by
 unfold g4
 rw [decide_eq_true h0,decide_eq_true h1,decide_eq_true h2,decide_eq_true h3]
 rfl
def lD (f op d x y m a b : Int) (K : XV → Prop) : Prop:=aQ (TU2 f) 80 (bT (TU2 f) 80 20) 48 [.agg 5 [.int .i64 op,.int .i64 d,.int .i64 x,.int .i64 y,.int .i64 m],.int .u32 a,.int .u32 b] K
def fD (f op d x y m a b : Int) (p q : Bool) (K : XV → Prop) : Prop:=bif decide (fmI op = f) then gD (rtB op d x y m) p q (K (.tup [.int .u32 0,.bool true])) (g4 a b (oT op m a b K)) else False
def f2 (op p d x y m a : Int) (K : XV → Prop) : Prop:=gD (rtB op d x y m) false false (K (.tup [.int .u32 0,.bool true])) (g4 a (IntKind.wrap .u32 m) (oT p m a (IntKind.wrap .u32 m) K))
theorem bBC (op d x y m a b : Int) (K : XV → Prop) : lD 0 op d x y m a b K = (fD 0 op d x y m a b true false K):=by kernel_rfl
theorem bBD (op d x y m a b : Int) (K : XV → Prop) : lD 1 op d x y m a b K = (fD 1 op d x y m a b false false K):=by kernel_rfl
theorem a2K (d x y m a b : Int) (K : XV → Prop) : lD 2 17 d x y m a b K = (f2 17 1 d x y m a K):=by kernel_rfl
theorem a2L (d x y m a b : Int) (K : XV → Prop) : lD 2 18 d x y m a b K = (f2 18 3 d x y m a K):=by kernel_rfl
theorem a2M (d x y m a b : Int) (K : XV → Prop) : lD 2 19 d x y m a b K = (f2 19 4 d x y m a K):=by kernel_rfl
theorem a2N (d x y m a b : Int) (K : XV → Prop) : lD 2 20 d x y m a b K = (f2 20 5 d x y m a K):=by kernel_rfl
theorem a2O (d x y m a b : Int) (K : XV → Prop) : lD 2 21 d x y m a b K = (f2 21 9 d x y m a K):=by kernel_rfl
theorem a2P (d x y m a b : Int) (K : XV → Prop) : lD 2 22 d x y m a b K = (f2 22 6 d x y m a K):=by kernel_rfl
theorem a2Q (d x y m a b : Int) (K : XV → Prop) : lD 2 23 d x y m a b K = (f2 23 7 d x y m a K):=by kernel_rfl
theorem a2R (d x y m a b : Int) (K : XV → Prop) : lD 2 24 d x y m a b K = (f2 24 8 d x y m a K):=by kernel_rfl
theorem bBE (op d x y m a b : Int) (K : XV → Prop) : lD 3 op d x y m a b K = (fD 3 op d x y m a b false false K):=by kernel_rfl
theorem bBF (op d x y m a b : Int) (K : XV → Prop) : lD 4 op d x y m a b K = (fD 4 op d x y m a b false true K):=by kernel_rfl
theorem bBG (op d x y m a b : Int) (K : XV → Prop) : lD 5 op d x y m a b K = (fD 5 op d x y m a b false true K):=by kernel_rfl
theorem bBH (op d x y m a b : Int) (K : XV → Prop) : lD 6 op d x y m a b K = (fD 6 op d x y m a b false true K):=by kernel_rfl
theorem bBI (op d x y m a b : Int) (K : XV → Prop) : lD 7 op d x y m a b K = (fD 7 op d x y m a b false true K):=by kernel_rfl
theorem bBJ (op d x y m a b : Int) (K : XV → Prop) : lD 8 op d x y m a b K = (fD 8 op d x y m a b false true K):=by kernel_rfl
theorem a7R {op d x y m b : Int} (hr : rtB op d x y m = true) (hf : fmI op ≤ 3) (h : op ≤ 12 ∨ 17 ≤ op) : dkB op d x y m b = true:=by
 unfold dkB
 rw [hr,if_neg (by simp;omega)]
 simp
 omega
theorem bDI {op d x y m b : Int} (hr : rtB op d x y m = true) (hf : fmI op ≤ 3) (h : 13 ≤ op ∧ op ≤ 16) : dkB op d x y m b = !decide (b = 0):=by
 unfold dkB
 rw [hr,if_neg (by simp;omega)]
 simp [h.1,h.2]
theorem bDJ {op d x y m a b : Int} (h0 : 0 ≤ a) (h1 : a ≤ 4294967295) (h2 : 0 ≤ b) (h3 : b ≤ 4294967295) : Pure Try.prog 48 (cons [.agg 5 [.int .i64 op,.int .i64 d,.int .i64 x,.int .i64 y,.int .i64 m],.int .u32 a,.int .u32 b]) (con (.tup [.int .u32 (doI op d x y m a b),.bool (dkB op d x y m b)])):=by
 have m0 : 0 ≤ IntKind.u32.wrap m:=by rw [vO];omega
 have m1 : IntKind.u32.wrap m ≤ 4294967295:=by rw [vO];omega
 have no : ∀ f p q,fmI op = f → (rtB op d x y m = false ∨ (q = true ∧ p = false ∧ f > 3)) → ∀ K : XV → Prop,K (.tup [.int .u32 (doI op d x y m a b),.bool (dkB op d x y m b)]) → fD f op d x y m a b p q K:=fun f p q h hr K hK => by
  have hn : rtB op d x y m = false ∨ fmI op > 3:=hr.imp id fun g => by omega
  rw [a4L hn,a4M hn] at hK
  unfold fD
  rw [decide_eq_true h,zaB]
  cases hr' : rtB op d x y m with
  | false => rw [bA9];exact hK
  | true =>
   rcases hr with hr | ⟨rfl,rfl,_⟩
   ·rw [hr'] at hr;cases hr
   ·rw [bDH];exact hK
 have yes : ∀ f,fmI op = f → rtB op d x y m = true → ∀ K : XV → Prop,oT op m a b K → fD f op d x y m a b false false K:=fun f h hr K hK => by
  unfold fD
  rw [decide_eq_true h,hr,zaB,bBA,bBB h0 h1 h2 h3]
  exact hK
 rcases a4H op with h | h | h | h | h | h | h | h | h
 ·refine fL (u:=80) (k:=20) mix (wL 0) (Eq.mpr (bBC op d x y m a b _) (no _ _ _ h (.inl ?_) _ rfl))
  unfold rtB rtP;rw [h];simp
 ·refine fL (u:=80) (k:=20) mix (wL 1) (Eq.mpr (bBD op d x y m a b _) ?_)
  cases hr : rtB op d x y m with
  | false => exact no _ _ _ h (.inl hr) _ rfl
  | true =>
   refine yes _ h hr _ ?_
   have e1 : doI op d x y m a b = alW op a b:=by
    unfold doI
    rw [hr,h,if_neg (by decide),if_neg (by have:=fm1 h;omega),if_neg (by decide)]
   have hc:=fm1 h
   by_cases h12 : op ≤ 12
   ·rw [e1,a7R hr (by omega) (.inl h12)]
    have hc : op = 1 ∨ op = 2 ∨ op = 3 ∨ op = 4 ∨ op = 5 ∨ op = 6 ∨ op = 7 ∨ op = 8 ∨ op = 9 ∨ op = 10 ∨ op = 11 ∨ op = 12:=by omega
    clear e1 hr h no yes h12
    rcases hc with rfl | rfl | rfl | rfl | rfl | rfl | rfl | rfl | rfl | rfl | rfl | rfl
    all_goals
     simp only [oT,Int.reduceEq,zaC,zaE,zaB,zaD]
     refine aQI (aEL ?_) rfl
     simp only [alW,i32,shA h2 h3,shB h2 h3,a4J,a4K,aO0,aXZ,aX0,mul_mod,if_true,if_false,Int.reduceEq]
     try rw [vO,mul_mod]
     try rfl
   ·rw [e1,bDI hr (by omega) (by omega)]
    have hc : op = 13 ∨ op = 14 ∨ op = 15 ∨ op = 16:=by omega
    clear e1 hr h no yes h12
    by_cases hb : b = 0
    ·subst hb
     rcases hc with rfl | rfl | rfl | rfl <;> rfl
    have hi : ¬ IntKind.i32.wrap b = 0:=fun h => hb ((bA8 h2 h3).1 h)
    have hi2 : ¬ i32 b = 0:=hi
    rcases hc with rfl | rfl | rfl | rfl
    all_goals
     simp only [oT,hb,hi,hi2,Int.reduceEq,zaC,zaE,zaB,zaD,zaI,zaH]
     refine aQI (aEL ?_) rfl
     simp only [alW,i32,hb,if_false,if_true,a7O,aO0,Int.reduceEq]
     try rfl
    ·rw [Int.tdiv_eq_ediv_of_nonneg h0]
     have:=aMK (b:=b) h0 h1 h2
     rw [vO];omega
    ·rw [Int.tmod_eq_emod_of_nonneg h0]
 ·have hc:=fm2 h
  have key : ∀ p,(fmI op = 2 → plI op = p) → ∀ K : XV → Prop,(rtB op d x y m = true → doI op d x y m a b = alW p a (m % 4294967296) → dkB op d x y m b = true → oT p m a (IntKind.u32.wrap m) K) → (rtB op d x y m = false → doI op d x y m a b = 0 → dkB op d x y m b = true → K (.tup [.int .u32 0,.bool true])) → f2 op p d x y m a K:=fun p hp K h5 h6 => by
   unfold f2
   cases hr : rtB op d x y m with
   | false => rw [bA9];exact h6 hr (a4L (.inl hr)) (a4M (.inl hr))
   | true =>
    rw [bBA,bBB h0 h1 m0 m1]
    refine h5 hr ?_ (a7R hr (by omega) (.inr (by omega)))
    unfold doI
    rw [hr,h,if_neg (by decide),if_neg (by omega),if_pos rfl,hp h]
  have ho : op = 17 ∨ op = 18 ∨ op = 19 ∨ op = 20 ∨ op = 21 ∨ op = 22 ∨ op = 23 ∨ op = 24:=by omega
  refine fL (u:=80) (k:=20) mix (wL 2) ?_
  clear no yes hc
  rcases ho with rfl | rfl | rfl | rfl | rfl | rfl | rfl | rfl
  refine Eq.mpr (a2K d x y m a b _) (key _ (fun _ => rfl) _ (fun _ e1 e2 => ?_) (fun _ e1 e2 => by rw [e1,e2]))
  rotate_left
  refine Eq.mpr (a2L d x y m a b _) (key _ (fun _ => rfl) _ (fun _ e1 e2 => ?_) (fun _ e1 e2 => by rw [e1,e2]))
  rotate_left
  refine Eq.mpr (a2M d x y m a b _) (key _ (fun _ => rfl) _ (fun _ e1 e2 => ?_) (fun _ e1 e2 => by rw [e1,e2]))
  rotate_left
  refine Eq.mpr (a2N d x y m a b _) (key _ (fun _ => rfl) _ (fun _ e1 e2 => ?_) (fun _ e1 e2 => by rw [e1,e2]))
  rotate_left
  refine Eq.mpr (a2O d x y m a b _) (key _ (fun _ => rfl) _ (fun _ e1 e2 => ?_) (fun _ e1 e2 => by rw [e1,e2]))
  rotate_left
  refine Eq.mpr (a2P d x y m a b _) (key _ (fun _ => rfl) _ (fun _ e1 e2 => ?_) (fun _ e1 e2 => by rw [e1,e2]))
  rotate_left
  refine Eq.mpr (a2Q d x y m a b _) (key _ (fun _ => rfl) _ (fun _ e1 e2 => ?_) (fun _ e1 e2 => by rw [e1,e2]))
  rotate_left
  refine Eq.mpr (a2R d x y m a b _) (key _ (fun _ => rfl) _ (fun _ e1 e2 => ?_) (fun _ e1 e2 => by rw [e1,e2]))
  rotate_left
  all_goals
   rw [e1,e2]
  all_goals
   simp only [oT,Int.reduceEq,zaC,zaE,zaB,zaD]
   refine aQI (aEL ?_) rfl
   simp only [alW,i32,shA m0 m1,shB m0 m1,a4J,a4K,aO0,aXZ,aX0,mul_mod,if_true,if_false,Int.reduceEq]
   try rw [vO,mul_mod]
   try rfl
 ·have:=fm3 h
  subst this
  refine fL (u:=80) (k:=20) mix (wL 3) (Eq.mpr (bBE 25 d x y m a b _) ?_)
  cases hr : rtB 25 d x y m with
  | false => exact no _ _ _ h (.inl hr) _ rfl
  | true =>
   refine yes _ h hr _ ?_
   have e1 : doI 25 d x y m a b = (m * 262144) % 4294967296:=by
    unfold doI
    rw [hr,if_neg (by decide)]
    rfl
   rw [e1,a7R hr (by omega) (.inr (by omega))]
   simp only [oT,Int.reduceEq,zaC,zaE,zaB,zaD]
   refine aQI (aEL ?_) rfl
   rw [vO,vO];omega
 ·exact fL (u:=80) (k:=20) mix (wL 4) (Eq.mpr (bBF op d x y m a b _) (no _ _ _ h (.inr ⟨rfl,rfl,by omega⟩) _ rfl))
 ·exact fL (u:=80) (k:=20) mix (wL 5) (Eq.mpr (bBG op d x y m a b _) (no _ _ _ h (.inr ⟨rfl,rfl,by omega⟩) _ rfl))
 ·exact fL (u:=80) (k:=20) mix (wL 6) (Eq.mpr (bBH op d x y m a b _) (no _ _ _ h (.inr ⟨rfl,rfl,by omega⟩) _ rfl))
 ·exact fL (u:=80) (k:=20) mix (wL 7) (Eq.mpr (bBI op d x y m a b _) (no _ _ _ h (.inr ⟨rfl,rfl,by omega⟩) _ rfl))
 ·exact fL (u:=80) (k:=20) mix (wL 8) (Eq.mpr (bBJ op d x y m a b _) (no _ _ _ h (.inr ⟨rfl,rfl,by omega⟩) _ rfl))
theorem aX2 : oV Try.prog (48,a2H):=fun args nd v h hn => by
 simp only [a2H] at h
 split at h
 ·simp only [zaA,zaJ] at h
  obtain ⟨rfl,rfl⟩:=h
  simp only [bD,zaK] at hn
  exact bDJ hn.1 hn.2.1 hn.2.2.1 hn.2.2.2.1
 ·cases h
def tkB (op a b : Int) : Bool :=
 if op = 34 then decide (a = b) else if op = 35 then !decide (a = b) else if op = 36 then decide (i32 a < i32 b) else if op = 37 then !decide (i32 a < i32 b)
 else if op = 38 then decide (a < b) else if op = 39 then !decide (a < b) else false
def a2S : List XV → Option (List Bool × XV)
 | [.int .i64 op,.int .u32 a,.int .u32 b] => some ([decide (0 ≤ a),decide (a ≤ 4294967295),decide (0 ≤ b),decide (b ≤ 4294967295)],.bool (tkB op a b))
 | _ => none
theorem bBK (op a b : Int) (K : XV → Prop) : (aQ (TU2 0) 80 (bT (TU2 0) 80 20) 58 [.int .i64 op,.int .u32 a,.int .u32 b] K) = (
 letI q1 : Bool:=decide (0 ≤ a);
 letI q2 : Bool:=decide (a ≤ 4294967295);
 letI q3 : Bool:=decide (0 ≤ b);
 letI q4 : Bool:=decide (b ≤ 4294967295);bif decide (op = 34) then K (.bool (decide (a = b))) else bif decide (op = 35) then K (.bool (decide ¬a = b)) else bif decide (op = 36) then
  bif q1 then bif q2 then bif q3 then bif q4 then K (.bool (decide (i32 a < i32 b))) else False else False else False else False else bif decide (op = 37) then bif q1 then bif q2 then
  bif q3 then bif q4 then K (.bool (decide (i32 a ≥ i32 b))) else False else False else False else False else bif decide (op = 38) then K (.bool (decide (a < b))) else bif decide (op
  = 39) then K (.bool (decide (a ≥ b))) else K (.bool false)):=by kernel_rfl
theorem tk2 {op a b : Int} (h0 : 0 ≤ a) (h1 : a ≤ 4294967295) (h2 : 0 ≤ b) (h3 : b ≤ 4294967295) : Pure Try.prog 58 (cons [.int .i64 op,.int .u32 a,.int .u32 b]) (con (.bool (tkB op a b))):=by
 refine fL (u:=80) (k:=20) mix (wL 0) ?_
 rw [bBK]
 try simp only [h0,h1,h2,h3,zaC,zaB,bJ,aV]
 unfold tkB i32
 by_cases g34 : op = 34
 ·subst g34
  simp [← Int.not_lt]
 by_cases g35 : op = 35
 ·subst g35
  simp [← Int.not_lt]
 by_cases g36 : op = 36
 ·subst g36
  simp [← Int.not_lt]
 by_cases g37 : op = 37
 ·subst g37
  simp [← Int.not_lt]
 by_cases g38 : op = 38
 ·subst g38
  simp [← Int.not_lt]
 by_cases g39 : op = 39
 ·subst g39
  simp [← Int.not_lt]
 simp [g34,g35,g36,g37,g38,g39]
theorem aX3 : oV Try.prog (58,a2S):=fun args nd v h hn => by
 simp only [a2S] at h
 split at h
 ·simp only [zaA,zaJ] at h
  obtain ⟨rfl,rfl⟩:=h
  simp only [bD,zaK] at hn
  exact tk2 hn.1 hn.2.1 hn.2.2.1 hn.2.2.2.1
 ·cases h
theorem aRC (b : Bool) : 0 ≤ aMJ b ∧ aMJ b ≤ 1:=by cases b <;> decide
theorem a2T (n : Int) : 0 ≤ n % 4294967296 ∧ n % 4294967296 ≤ 4294967295:=by omega
theorem a2U {c : Prop} [Decidable c] {x y : Int} (h1 : c → 0 ≤ x ∧ x ≤ 4294967295) (h2 : ¬ c → 0 ≤ y ∧ y ≤ 4294967295) : 0 ≤ (if c then x else y) ∧ (if c then x else y) ≤ 4294967295:=by
 by_cases h : c
 ·rw [if_pos h];exact h1 h
 ·rw [if_neg h];exact h2 h
theorem aRD (p : Int) {a b : Int} (h0 : 0 ≤ a) (h1 : a ≤ 4294967295) (h2 : 0 ≤ b) (h3 : b ≤ 4294967295) : 0 ≤ alW p a b ∧ alW p a b ≤ 4294967295:=by
 obtain ⟨A,rfl⟩:=Int.eq_ofNat_of_zero_le h0
 obtain ⟨B,rfl⟩:=Int.eq_ofNat_of_zero_le h2
 have hA : A < 4294967296:=by omega
 have hB : B < 4294967296:=by omega
 have g1:=a7M (B:=B) hA
 have g2:=bAW hA hB
 have g3:=a7L hA hB
 have g4:=aRC (decide (i32 (A : Int) < i32 (B : Int)))
 have g5:=aRC (decide ((A : Int) < (B : Int)))
 have g6 : 0 ≤ (A : Int) / 2 ^ ((B : Int) % 32).toNat:=Int.ediv_nonneg h0 (Int.pow_nonneg (by omega))
 have g7 : (A : Int) / 2 ^ ((B : Int) % 32).toNat ≤ A:=Int.ediv_le_self _ h0
 have g8:=aMK (b:=(B : Int)) h0 h1 h2
 unfold alW
 rw [bAV hA hB,bOr hA hB,bDF hA hB]
 repeat' refine a2U (fun _ => ?_) (fun _ => ?_)
 all_goals first | exact a2T _ | omega | exact aX1 h0 h1 (by omega) h3
theorem a7S (op d x y m : Int) {a b : Int} (h0 : 0 ≤ a) (h1 : a ≤ 4294967295) (h2 : 0 ≤ b) (h3 : b ≤ 4294967295) : 0 ≤ doI op d x y m a b ∧ doI op d x y m a b ≤ 4294967295:=by
 unfold doI
 split
 ·omega
 split
 ·omega
 split
 ·exact aRD _ h0 h1 (by omega) (by omega)
 ·exact aRD _ h0 h1 h2 h3
end Go.Proofs.Ytooojfbfobmkfaa.Alu
namespace Go.Proofs.Ytooojfbfobmkfaa
open Go.Ra
set_option linter.unusedVariables false
set_option linter.unusedSimpArgs false
def TP0 : Tab:=fM qq dX [] [] [] []
def jX (s : Split) (e : Bool) (b : Int) : List Cell:=if b < 0 ∨ b ≥ s.blocks.length then [] else if e then (ix s.blocks b.toNat).e else (ix s.blocks b.toNat).a
def a7T : List XV → Option ((XV → Prop) → Prop):=eQ (fun q : Split × Bool × Int => [aH q.1,.bool q.2.1,.int .i64 q.2.2]) (fun _ => True) (fun q => jX q.1 q.2.1 q.2.2) (fun y => aB 9 cX y)
def xQ (s : Split) (b : Int) : Int:=if b < 0 ∨ b ≥ s.blocks.length then 0 else IntKind.i64.wrap ((ix s.blocks b.toNat).dst - (ix s.blocks b.toNat).src)
def a7U : List XV → Option ((XV → Prop) → Prop):=eQ (fun q : Split × Int => [aH q.1,.int .i64 q.2]) (fun _ => True) (fun q => xQ q.1 q.2) (fun y => .int .i64 y)
def goF (s : Split) (p : Pos) (t : Bool) : Pos:=if t = true ∧ 0 ≤ p.block ∧ p.block < s.blocks.length ∧ 0 ≤ (ix s.blocks p.block.toNat).taken ∧ (ix s.blocks p.block.toNat).taken < s.blocks.length then ⟨(ix s.blocks p.block.toNat).taken,0,IntKind.i64.wrap (p.base + xQ s p.block)⟩ else { p with index:=IntKind.i64.wrap (p.index + 1) }
def goS' : List XV → Option ((XV → Prop) → Prop):=eQ (fun q : Split × Pos × Bool => [aH q.1,dH q.2.1,.bool q.2.2]) (fun _ => True) (fun q => goF q.1 q.2.1 q.2.2) (fun y => dH y)
def kD (s : Split) (e : Bool) : Nat → Pos → Pos × Bool
 | 0,p => (p,true)
 | k + 1,p => if p.block < 0 ∨ p.block ≥ s.blocks.length then (p,true) else if p.index < (jX s e p.block).length then (p,false) else if (ix s.blocks p.block.toNat).next < 0 ∨ k = 0 then (p,true) else kD s e k ⟨(ix s.blocks p.block.toNat).next,0,IntKind.i64.wrap (p.base + xQ s p.block)⟩
def a2V : List XV → Option ((XV → Prop) → Prop):=eQ (fun q : Split × Bool × Pos => [aH q.1,.bool q.2.1,dH q.2.2]) (fun q => q.1.blocks.length ≤ 1000000) (fun q => kD q.1 q.2.1 (q.1.blocks.length + 1) q.2.2) (fun y => .tup [dH y.1,.bool y.2])
def TP1 : Tab:=fM qq dX [] [] [(85,a7T),(86,a7U)] []
def bBL (s : Split) (e : Bool) (n : Nat) (p : Pos) : XSt:=⟨[(8,.int .i64 n),(6,.ptr 2 [] 0),(5,.ptr 1 [] 0),(3,.ptr 0 [] 0),(1,.bool e)],[(2,some (.agg 3 [.int .i64 0,.int .i64 0,.int .i64 0])),(1,some (dH p)),(0,some (aH s))],3⟩
def TP2 : Tab:=fM qq dX [] [] [(85,a7T),(86,a7U),(43,a2V)] []
def noCell : Cell:=⟨0,⟨0,0,0,0,0⟩,0,0,0⟩
def aT (s : Split) (e : Bool) (p : Pos) : Pos × Bool:=kD s e (s.blocks.length + 1) p
def bY (s : Split) (e : Bool) (p : Pos) : Cell × Int × Bool:=if (aT s e p).2 = true ∨ (aT s e p).1.index < 0 then (noCell,IntKind.i64.wrap ((aT s e p).1.base + xQ s (aT s e p).1.block),false) else (ix (jX s e (aT s e p).1.block) (aT s e p).1.index.toNat,IntKind.i64.wrap ((aT s e p).1.base + (ix (jX s e (aT s e p).1.block) (aT s e p).1.index.toNat).off),true)
def aX4 : List XV → Option ((XV → Prop) → Prop):=eQ (fun q : Split × Bool × Pos => [aH q.1,.bool q.2.1,dH q.2.2]) (fun q => q.1.blocks.length ≤ 1000000) (fun q => bY q.1 q.2.1 q.2.2) (fun y => .tup [cX y.1,.int .i64 y.2.1,.bool y.2.2])
theorem bBM (s : Split) (e : Bool) (b : Int) (r : XV) : (aQ TP0 80 (bT TP0 80 20) 85 [aH s,.bool e,.int .i64 b] (fun v => aA v r)) = (
 let q1 : Bool:=decide (b < 0);
 let q2 : Bool:=decide (0 ≤ b);
 let q3 : Bool:=decide (b < (↑(s.blocks.length) : Int));bif bif q1 then true else !q1 then bif bif q1 then true else decide (b ≥ (↑(s.blocks.length) : Int)) then aA (.row true
  0 0 fun x => .unk) r else bif e then bif q2 then bif q3 then aA (aB 9 cX (Block.e (ix s.blocks (Int.toNat b)))) r else False else False else bif q2 then bif q3 then aA
  (aB 9 cX (Block.a (ix s.blocks (Int.toNat b)))) r else False else False else False):=by kernel_rfl
theorem bBN (s : Split) (b : Int) (r : XV) : (aQ TP0 80 (bT TP0 80 20) 86 [aH s,.int .i64 b] (fun v => aA v r)) = (
 let q1 : Bool:=decide (b < 0);
 let q2 : Bool:=decide (0 ≤ b);
 let q3 : Bool:=decide (b < (↑(s.blocks.length) : Int));bif bif q1 then true else !q1 then bif bif q1 then true else decide (b ≥ (↑(s.blocks.length) : Int)) then aA (.int .i64
  0) r else bif q2 then bif q3 then bif q2 then bif q3 then aA (.int .i64 (IntKind.wrap .i64 (Block.dst (ix s.blocks (Int.toNat b)) - Block.src (ix s.blocks (Int.toNat b))))) r else
  False else False else False else False else False):=by kernel_rfl
theorem bDK (s : Split) (p : Pos) (t : Bool) (r : XV) : (aQ TP0 80 (bT TP0 80 20) 95 [aH s,dH p,.bool t] (fun v => aA v r)) = (
 let q1 : Bool:=bif t then decide (p.block ≥ 0) else false;
 let q2 : Bool:=decide (0 ≤ p.block);
 let q3 : Bool:=decide (p.block < (↑(s.blocks.length) : Int));
 let q4 : Bool:=bif q1 then q3 else false;
 let q5 : Bool:=!q4;
 let q6 : Bool:=bif q4 then decide (Block.taken (ix s.blocks (Int.toNat p.block)) ≥ 0) else false;
 let q7 : Bool:=!q6;
 let q8 : Bool:=decide (p.block < 0);bif bif t then t else true then bif bif q1 then q1 else true then bif bif q2 then true else q5 then bif bif q3 then true else q5 then bif bif
  q4 then q4 else true then bif bif q2 then true else q7 then bif bif q3 then true else q7 then bif bif q6 then q6 else true then bif bif q6 then decide (Block.taken (ix s.blocks (Int.toNat
  p.block)) < (↑(s.blocks.length) : Int)) else false then bif q2 then bif q3 then bif bif q8 then true else !q8 then bif bif q8 then true else decide (p.block ≥ (↑(s.blocks.length) :
  Int)) then aA (.agg 3 [.int .i64 (Block.taken (ix s.blocks (Int.toNat p.block))),.int .i64 0,.int .i64 (IntKind.wrap .i64 (p.base + 0))]) r else bif q2 then bif q3 then bif q2
  then bif q3 then aA (.agg 3 [.int .i64 (Block.taken (ix s.blocks (Int.toNat p.block))),.int .i64 0,.int .i64 (IntKind.wrap .i64 (p.base + IntKind.wrap .i64 (Block.dst (ix s.blocks
  (Int.toNat p.block)) - Block.src (ix s.blocks (Int.toNat p.block)))))]) r else False else False else False else False else False else False else False else aA (.agg 3 [.int .i64
  p.block,.int .i64 (IntKind.wrap .i64 (p.index + 1)),.int .i64 p.base]) r else False else False else False else False else False else False else False else False):=by kernel_rfl
theorem a7V (s : Split) (e : Bool) (p : Pos) (r : XV) : (goQ Try.prog TP1 [(.cell 6 .true 3),(.tmp 7)] r (.run jG) [] ⟨jO 0 [aH s,.bool e,dH p],[],0⟩) = (aP (Ok Try.prog (Tab.q TP1)) lV (XSt.mk [(8,.int .i64 0),(7,.bool false),(6,.ptr 2 [] 0),(5,.ptr 1 [] 0),(3,.ptr 0 [] 0),(1,.bool e)] [(2,some (.agg
 3 [.int .i64 0,.int .i64 0,.int .i64 0])),(1,some (dH p)),(0,some (aH s))] 3) [Frm.blk 0,Frm.seq pI] (bC [AR.cell 6 true 3,AR.tmp 7] r)):=by kernel_rfl
theorem ctt (b : Bool) : (bif b then true else true) = true:=by cases b <;> rfl
theorem aX5 : bX Try.prog TP0:=bV cZ trivial trivial trivial trivial
theorem aX6 : eI Try.prog (85,a7T):=bB fun ⟨s,e,b⟩ _ => by
 show Pure _ _ (cons [aH s,.bool e,.int .i64 b]) (con (aB 9 cX (jX s e b)))
 refine eS (u:=80) (k:=20) mix aX5 ?_
 refine Eq.mpr (bBM s e b _) ?_
 unfold jX
 by_cases h : b < 0 ∨ b ≥ s.blocks.length
 ·rw [if_pos h]
  rcases h with h | h
  ·simp only [h,zaC,zaE,zaB,zaD,aD,zaF,zaO,zaQ,aV,bJ,zaI,zaH,zaN,zaM,zaT,zaR,zaS,ge_iff_le,Int.le_refl,if_true,if_false,reduceCtorEq,eq_self,BEq.rfl];exact ⟨cQ⟩
  ·simp only [show ¬ b < 0 by omega,h,zaC,zaE,zaB,zaD,aD,zaF,zaO,zaQ,aV,bJ,zaI,zaH,zaN,zaM,zaT,zaR,zaS,ge_iff_le,Int.le_refl,if_true,if_false,reduceCtorEq,eq_self,BEq.rfl];exact ⟨cQ⟩
 ·rw [if_neg h]
  have h1 : ¬ b < 0:=by omega
  have h2 : 0 ≤ b:=by omega
  have h3 : b < s.blocks.length:=by omega
  have h4 : ¬ (s.blocks.length : Int) ≤ b:=by omega
  cases e <;> simp only [h1,h2,h3,h4,zaC,zaE,zaB,zaD,aD,zaF,zaO,zaQ,aV,bJ,zaI,zaH,zaN,zaM,zaT,zaR,zaS,ge_iff_le,Int.le_refl,if_true,if_false,reduceCtorEq,eq_self,BEq.rfl] <;> exact .rfl
theorem aX7 : eI Try.prog (86,a7U):=bB fun ⟨s,b⟩ _ => by
 show Pure _ _ (cons [aH s,.int .i64 b]) (con (.int .i64 (xQ s b)))
 refine eS (u:=80) (k:=20) mix aX5 ?_
 refine Eq.mpr (bBN s b _) ?_
 unfold xQ
 by_cases h : b < 0 ∨ b ≥ s.blocks.length
 ·rw [if_pos h]
  rcases h with h | h
  ·simp only [h,zaC,zaE,zaB,zaD,aD,zaF,zaO,zaQ,aV,bJ,zaI,zaH,zaN,zaM,zaT,zaR,zaS,ge_iff_le,Int.le_refl,if_true,if_false,reduceCtorEq,eq_self,BEq.rfl];exact .rfl
  ·simp only [show ¬ b < 0 by omega,h,zaC,zaE,zaB,zaD,aD,zaF,zaO,zaQ,aV,bJ,zaI,zaH,zaN,zaM,zaT,zaR,zaS,ge_iff_le,Int.le_refl,if_true,if_false,reduceCtorEq,eq_self,BEq.rfl];exact .rfl
 ·rw [if_neg h]
  have h1 : ¬ b < 0:=by omega
  have h2 : 0 ≤ b:=by omega
  have h3 : b < s.blocks.length:=by omega
  have h4 : ¬ (s.blocks.length : Int) ≤ b:=by omega
  simp only [h1,h2,h3,h4,zaC,zaE,zaB,zaD,aD,zaF,zaO,zaQ,aV,bJ,zaI,zaH,zaN,zaM,zaT,zaR,zaS,ge_iff_le,Int.le_refl,if_true,if_false,reduceCtorEq,eq_self,BEq.rfl];exact .rfl
theorem a4N : eI Try.prog (95,goS'):=bB fun ⟨s,p,t⟩ _ => by
 show Pure _ _ (cons [aH s,dH p,.bool t]) (con (dH (goF s p t)))
 refine eS (u:=80) (k:=20) mix aX5 ?_
 refine Eq.mpr (bDK s p t _) ?_
 unfold goF xQ
 cases t with
 | false => simp only [zaU,false_and,ctt,zaC,zaE,zaB,zaD,aD,zaF,zaO,zaQ,aV,bJ,zaI,zaH,zaN,zaM,zaT,zaR,zaS,ge_iff_le,Int.le_refl,if_true,if_false,reduceCtorEq,eq_self,BEq.rfl];exact .rfl
 | true =>
  by_cases h2 : 0 ≤ p.block
  ·by_cases h3 : p.block < s.blocks.length
   ·by_cases h4 : 0 ≤ (ix s.blocks p.block.toNat).taken
    ·by_cases h5 : (ix s.blocks p.block.toNat).taken < s.blocks.length
     ·have h1 : ¬ p.block < 0:=by omega
      have h6 : ¬ (s.blocks.length : Int) ≤ p.block:=by omega
      simp only [h1,h2,h3,h4,h5,h6,and_self,or_self,zaC,zaE,zaB,zaD,aD,zaF,zaO,zaQ,aV,bJ,zaI,zaH,zaN,zaM,zaT,zaR,zaS,ge_iff_le,Int.le_refl,if_true,if_false,reduceCtorEq,eq_self,BEq.rfl];exact .rfl
     ·simp only [h2,h3,h4,h5,and_false,and_true,ctt,zaC,zaE,zaB,zaD,aD,zaF,zaO,zaQ,aV,bJ,zaI,zaH,zaN,zaM,zaT,zaR,zaS,ge_iff_le,Int.le_refl,if_true,if_false,reduceCtorEq,eq_self,BEq.rfl];exact .rfl
    ·simp only [h2,h3,h4,false_and,and_false,ctt,zaC,zaE,zaB,zaD,aD,zaF,zaO,zaQ,aV,bJ,zaI,zaH,zaN,zaM,zaT,zaR,zaS,ge_iff_le,Int.le_refl,if_true,if_false,reduceCtorEq,eq_self,BEq.rfl];exact .rfl
   ·simp only [h2,h3,false_and,and_false,ctt,zaC,zaE,zaB,zaD,aD,zaF,zaO,zaQ,aV,bJ,zaI,zaH,zaN,zaM,zaT,zaR,zaS,ge_iff_le,Int.le_refl,if_true,if_false,reduceCtorEq,eq_self,BEq.rfl];exact .rfl
  ·simp only [h2,false_and,and_false,ctt,zaC,zaE,zaB,zaD,aD,zaF,zaO,zaQ,aV,bJ,zaI,zaH,zaN,zaM,zaT,zaR,zaS,ge_iff_le,Int.le_refl,if_true,if_false,reduceCtorEq,eq_self,BEq.rfl];exact .rfl
theorem a7W (s : Split) (e : Bool) (p : Pos) (n : Nat) (r : XV) (A : XSt → Prop) : (goQ Try.prog TP1 [(.cell 6 .true 3),(.tmp 7)] r (.run lV) [.lp lV A,.blk 0,.seq pI] (bBL s e n p)) = (
 let q1 : Bool:=decide (p.block < 0);
 let q2 : Bool:=decide (Block.next (ix s.blocks (Int.toNat p.block)) < 0);bif decide ((↑n : Int) ≤ (↑(s.blocks.length) : Int)) then bif bif q1 then true else !q1 then bif bif q1 then
  true else decide (p.block ≥ (↑(s.blocks.length) : Int)) then aA (.tup [dH p,.bool true]) r else ∃ (s_1 : Split × Bool × Int),aC [aH s,.bool e,.int .i64 p.block] [aH
  s_1.1,.bool s_1.2.1,.int .i64 s_1.2.2] ∧ aK True ∧ ∀ (y : List Cell),y = jX s_1.1 s_1.2.1 s_1.2.2 → bif decide (p.index < (↑(y.length) : Int)) then aA (.tup [dH p,.bool
  false]) r else bif decide (0 ≤ p.block) then bif decide (p.block < (↑(s.blocks.length) : Int)) then bif bif q2 then true else !q2 then bif bif q2 then true else decide ((↑n : Int) =
  (↑(s.blocks.length) : Int)) then aA (.tup [dH p,.bool true]) r else ∃ (s_2 : Split × Int),aC [aH s,.int .i64 p.block] [aH s_2.1,.int .i64 s_2.2] ∧ aK True
  ∧ ∀ (y : Int),y = xQ s_2.1 s_2.2 → A (XSt.mk [(8,.int .i64 (IntKind.wrap .i64 ((↑n : Int) + 1))),(6,.ptr 2 [] 0),(5,.ptr 1 [] 0),(3,.ptr 0 [] 0),(1,.bool e)] [(2,some (.agg
  3 [.int .i64 0,.int .i64 0,.int .i64 0])),(1,some (.agg 3 [.int .i64 (Block.next (ix s.blocks (Int.toNat p.block))),.int .i64 0,.int .i64 (IntKind.wrap .i64 (p.base + y))])),
  (0,some (aH s))] 3) else False else False else False else False else aA (.tup [dH p,.bool true]) r):=by kernel_rfl
theorem aAM (s : Split) (e : Bool) (k : Nat) (p : Pos) : kD s e (k + 1) p = if p.block < 0 ∨ p.block ≥ s.blocks.length then (p,true) else if p.index < (jX s e p.block).length then (p,false) else if (ix s.blocks p.block.toNat).next < 0 ∨ k = 0 then (p,true) else kD s e k ⟨(ix s.blocks p.block.toNat).next,0,IntKind.i64.wrap (p.base + xQ s p.block)⟩:=rfl
theorem a4O : bX Try.prog TP1:=bV cZ trivial trivial ⟨aX6,aX7,trivial⟩ trivial
theorem aO1 : eI Try.prog (43,a2V):=bB fun ⟨s,e,p0⟩ hl => by
 have hl : s.blocks.length ≤ 1000000:=hl
 show Pure _ _ (cons [aH s,.bool e,dH p0]) (con (.tup [dH (kD s e (s.blocks.length + 1) p0).1,.bool (kD s e (s.blocks.length + 1) p0).2]))
 refine jB mix a4O tV (Nat.le_of_ble_eq_true rfl) ?_
 refine Eq.mpr (a7V s e p0 _) ?_
 refine fS mix a4O (fun i : Nat × Pos => bBL s e i.1 i.2) (fun i => i.1 ≤ s.blocks.length ∧ kD s e (s.blocks.length + 1 - i.1) i.2 = kD s e (s.blocks.length + 1) p0) (fun i => s.blocks.length + 1 - i.1) (0,p0) ⟨Nat.zero_le _,rfl⟩ (.of (dG ⟨rfl,rfl,rfl,rfl,rfl,trivial⟩ ⟨rfl,rfl,rfl,trivial⟩ (zaF _))) ?_
 rintro ⟨n,p⟩ ⟨hn,hp⟩
 replace hn : n ≤ s.blocks.length:=hn
 replace hp : kD s e (s.blocks.length + 1 - n) p = kD s e (s.blocks.length + 1) p0:=hp
 refine Eq.mpr (a7W s e p n _ _) ?_
 obtain ⟨k,hk⟩ : ∃ k,s.blocks.length + 1 - n = k + 1:=⟨s.blocks.length - n,by omega⟩
 rw [← hp,hk,aAM]
 have hn' : (n : Int) ≤ s.blocks.length:=by omega
 by_cases hb : p.block < 0 ∨ p.block ≥ s.blocks.length
 ·simp only [if_pos hb]
  rcases hb with h | h
  ·simp only [hn',h,zaC,zaE,zaB,zaD,aD,zaF,zaO,zaQ,aV,bJ,zaI,zaH,zaN,zaM,zaT,zaR,zaS,ge_iff_le,Int.le_refl,if_true,if_false,reduceCtorEq,eq_self,BEq.rfl];exact .rfl
  ·simp only [hn',show ¬ p.block < 0 by omega,h,zaC,zaE,zaB,zaD,aD,zaF,zaO,zaQ,aV,bJ,zaI,zaH,zaN,zaM,zaT,zaR,zaS,ge_iff_le,Int.le_refl,if_true,if_false,reduceCtorEq,eq_self,BEq.rfl];exact .rfl
 ·simp only [if_neg hb]
  have h1 : ¬ p.block < 0:=by omega
  have h2 : 0 ≤ p.block:=by omega
  have h3 : p.block < s.blocks.length:=by omega
  have h4 : ¬ (s.blocks.length : Int) ≤ p.block:=by omega
  simp only [hn',h1,h2,h3,h4,zaC,zaE,zaB,zaD,aD,zaF,zaO,zaQ,aV,bJ,zaI,zaH,zaN,zaM,zaT,zaR,zaS,ge_iff_le,Int.le_refl,if_true,if_false,reduceCtorEq,eq_self,BEq.rfl]
  refine ⟨(s,e,p.block),.rfl,⟨trivial⟩, ?_⟩
  rintro y rfl
  show cond (decide (p.index < ((jX s e p.block).length : Int))) _ _
  by_cases hi : p.index < (jX s e p.block).length
  ·simp only [if_pos hi,decide_eq_true hi,zaB];exact .rfl
  ·simp only [if_neg hi,decide_eq_false hi,zaD]
   have hz : ((n : Int) = s.blocks.length) ↔ k = 0:=by omega
   by_cases hx : (ix s.blocks p.block.toNat).next < 0
   ·simp only [hx,true_or,if_true,zaC,zaE,zaB,zaD,aD,zaF,zaO,zaQ,aV,bJ,zaI,zaH,zaN,zaM,zaT,zaR,zaS,ge_iff_le,Int.le_refl,if_true,if_false,reduceCtorEq,eq_self,BEq.rfl];exact .rfl
   ·by_cases hk0 : k = 0
    ·have:=hz.2 hk0
     simp only [hx,hk0,this,or_true,if_true,zaC,zaE,zaB,zaD,aD,zaF,zaO,zaQ,aV,bJ,zaI,zaH,zaN,zaM,zaT,zaR,zaS,ge_iff_le,Int.le_refl,if_true,if_false,reduceCtorEq,eq_self,BEq.rfl];exact .rfl
    ·have h5 : ¬ (n : Int) = s.blocks.length:=fun h => hk0 (hz.1 h)
     simp only [hx,h5,hk0,or_self,if_false,zaC,zaE,zaB,zaD,aD,zaF,zaO,zaQ,aV,bJ,zaI,zaH,zaN,zaM,zaT,zaR,zaS,ge_iff_le,Int.le_refl,if_true,if_false,reduceCtorEq,eq_self,BEq.rfl]
     refine ⟨(s,p.block),.rfl,⟨trivial⟩, ?_⟩
     rintro y rfl
     have w1 : IntKind.i64.wrap ((n : Int) + 1) = ((n + 1 : Nat) : Int):=wrap_i64 (by omega) (by omega)
     rw [w1]
     refine ⟨(n + 1,⟨(ix s.blocks p.block.toNat).next,0,IntKind.i64.wrap (p.base + xQ s p.block)⟩),⟨by show n + 1 ≤ _;omega, ?_⟩,.of (dG ⟨rfl,rfl,rfl,rfl,rfl,trivial⟩ ⟨rfl,rfl,rfl,trivial⟩ (zaF _)),by show s.blocks.length + 1 - (n + 1) < k + 1;omega⟩
     show kD s e (s.blocks.length + 1 - (n + 1)) _ = _
     rw [show s.blocks.length + 1 - (n + 1) = k by omega]
theorem bBO (s : Split) (e : Bool) (p : Pos) (r : XV) : (aQ TP2 80 (bT TP2 80 20) 40 [aH s,.bool e,dH p] (fun v => aA v r)) = (
 let q1 : Pos × Bool → List XV:=fun y => [aH s,.int .i64 y.1.block];
 let q2 : Split × Int → List XV:=fun s => [aH s.1,.int .i64 s.2];
 let q3 : List XV:=[.int .i64 0,.int .i64 0,.int .i64 0];
 let q4 : Pos × Bool → Int → XV:=fun y y_1 => .tup [.agg 9 (.int .i64 0 :: .agg 5 (.int .i64 0 :: .int .i64 0 :: q3) :: q3),.int .i64 (IntKind.wrap .i64 (y.1.base + y_1)),.bool false];
 let q5 : Pos × Bool → Bool:=fun y => decide (0 ≤ y.1.index);
 let q6 : Pos × Bool → List Cell → Bool:=fun y y_1 => decide (y.1.index < (↑(y_1.length) : Int));∃ (s_1 : Split × Bool × Pos),aC [aH s,.bool e,dH p] [aH s_1.1,
  .bool s_1.2.1,dH s_1.2.2] ∧ aK (s_1.1.blocks.length ≤ 1000000) ∧ ∀ (y : Pos × Bool),y = kD s_1.1 s_1.2.1 (s_1.1.blocks.length + 1) s_1.2.2 → bif y.2 then ∃ (s : Split × Int),
  aC (q1 y) (q2 s) ∧ aK True ∧ ∀ (y_1 : Int),y_1 = xQ s.1 s.2 → aA (q4 y y_1) r else ∃ (s_2 : Split × Bool × Int),aC [aH s,.bool e,.int .i64 y.1.block] [aH
  s_2.1,.bool s_2.2.1,.int .i64 s_2.2.2] ∧ aK True ∧ ∀ (y_1 : List Cell),y_1 = jX s_2.1 s_2.2.1 s_2.2.2 → bif decide (y.1.index < 0) then ∃ (s : Split × Int),aC (q1 y) (q2
  s) ∧ aK True ∧ ∀ (y_2 : Int),y_2 = xQ s.1 s.2 → aA (q4 y y_2) r else bif q5 y then bif q6 y y_1 then bif q5 y then bif q6 y y_1 then aA (.tup [cX (ix y_1 (Int.toNat
  y.1.index)),.int .i64 (IntKind.wrap .i64 (y.1.base + Cell.off (ix y_1 (Int.toNat y.1.index)))),.bool true]) r else False else False else False else False):=by kernel_rfl
theorem bBP : bX Try.prog TP2:=bV cZ trivial trivial ⟨aX6,aX7,aO1,trivial⟩ trivial
theorem aRE (s : Split) (e : Bool) : ∀ (k : Nat) (p : Pos),(kD s e k p).2 = false → (kD s e k p).1.index < (jX s e (kD s e k p).1.block).length
 | 0,p,h => by cases h
 | k + 1,p,h => by
  rw [aAM] at h ⊢
  by_cases h1 : p.block < 0 ∨ p.block ≥ s.blocks.length
  ·rw [if_pos h1] at h;cases h
  rw [if_neg h1] at h ⊢
  by_cases h2 : p.index < (jX s e p.block).length
  ·rw [if_pos h2];exact h2
  rw [if_neg h2] at h ⊢
  by_cases h3 : (ix s.blocks p.block.toNat).next < 0 ∨ k = 0
  ·rw [if_pos h3] at h;cases h
  rw [if_neg h3] at h ⊢
  exact aRE s e k _ h
theorem aJV : eI Try.prog (40,aX4):=bB fun ⟨s,e,p⟩ hl => by
 have hl : s.blocks.length ≤ 1000000:=hl
 show Pure _ _ (cons [aH s,.bool e,dH p]) (con (.tup [cX (bY s e p).1,.int .i64 (bY s e p).2.1,.bool (bY s e p).2.2]))
 refine eS (u:=80) (k:=20) mix bBP ?_
 refine Eq.mpr (bBO s e p _) ?_
 refine ⟨(s,e,p),.rfl,⟨hl⟩, ?_⟩
 intro y hy
 replace hy : y = aT s e p:=hy
 unfold bY
 have h0 : y.2 = false → y.1.index < (jX s e y.1.block).length:=by rw [hy];exact aRE s e _ p
 rw [← hy]
 clear hy
 cases h : y.2 with
 | true =>
  simp only [true_or,if_true,zaB]
  refine ⟨(s,y.1.block),.rfl,⟨trivial⟩, ?_⟩
  rintro z rfl
  exact .rfl
 | false =>
  have h1:=h0 h
  simp only [zaD,zaU,false_or]
  refine ⟨(s,e,y.1.block),.rfl,⟨trivial⟩, ?_⟩
  rintro z rfl
  replace h1 : y.1.index < (jX s e y.1.block).length:=h1
  show cond (decide (y.1.index < 0)) _ _
  by_cases h2 : y.1.index < 0
  ·simp only [decide_eq_true h2,zaB,if_pos h2]
   refine ⟨(s,y.1.block),.rfl,⟨trivial⟩, ?_⟩
   rintro z rfl
   exact .rfl
  ·have h3 : 0 ≤ y.1.index:=by omega
   simp only [decide_eq_false h2,zaD,if_neg h2,decide_eq_true h3,zaB]
   show cond (decide (y.1.index < ((jX s e y.1.block).length : Int))) (cond (decide (y.1.index < ((jX s e y.1.block).length : Int))) _ _) _
   simp only [decide_eq_true h1,zaB]
   exact .rfl
def TP3 : Tab:=fM qq dX [(96,aQX),(67,kN),(54,aTI),(103,aQU)] iA [] []
def bDL (addr size : Int) (e : Entry) : Bool:=aGB e.addr e.size addr size
def aE9 (l : List Entry) (addr size : Int) : Nat → Entry × Bool
 | 0 => (⟨0,0,0,false,0⟩,false)
 | k + 1 => if bDL addr size (ix l k) then (ix l k,true) else aE9 l addr size k
def jZ (l : List Entry) (addr size : Int) : Entry × Bool:=aE9 l addr size l.length
def bBQ : List XV → Option ((XV → Prop) → Prop):=eQ (fun q : List Entry × Int × Int => [aB 5 bW q.1,.int .i64 q.2.1,.int .i64 q.2.2]) (fun q => q.1.length ≤ 1000000 ∧ (∀ e ∈ q.1,e.wf) ∧ bZ q.2.1 ∧ bZ q.2.2) (fun q => jZ q.1 q.2.1 q.2.2) (fun y => .tup [bW y.1,.bool y.2])
def bBR (l : List Entry) (a s : Int) (i : Int) : XSt:=⟨[(8,.int .i64 i),(6,.ptr 0 [] 0),(0,aB 5 bW l),(1,.int .i64 a),(2,.int .i64 s)],[(0,some (.agg 5 [.int .i64 0,.int .i64 0,.int .i64 0,.bool false,.int .u32 0]))],1⟩
def uE (e : Entry) (op a : Int) : Int × Bool:=if aI op = 4 ∧ e.known = true ∧ e.addr = a ∧ e.size = szI op then (aL5 op e.val,true) else (0,false)
def bBS : List XV → Option ((XV → Prop) → Prop):=eQ (fun q : Entry × Int × Int => [bW q.1,.int .i64 q.2.1,.int .i64 q.2.2]) (fun q => q.1.wf) (fun q => uE q.1 q.2.1 q.2.2) (fun y => .tup [.int .u32 y.1,.bool y.2])
def aSY (l : List Slot) (n t : Int) : List Slot × Bool:=if (l.length : Int) ≥ n then (l,false) else (l ++ [⟨t,false,0⟩],true)
def xR (l : List Slot) : List Slot × Int × Bool:=if l = [] ∨ (ix l 0).full = false then (l,0,false) else (l.tail,(ix l 0).val,true)
theorem aX8 : bX Try.prog TP3:=bV cZ ⟨aQY,jR,zK,aW0,trivial⟩ fI trivial trivial
theorem a7X (l : List Entry) (a s : Int) (r : XV) : (goQ Try.prog TP3 [(.cell 6 .true 5),(.tmp 7)] r (.run jH) [] ⟨jO 0 [aB 5 bW l,.int .i64 a,.int .i64 s],[],0⟩) = (aP (Ok Try.prog (Tab.q TP3)) lW (XSt.mk [(8,.int .i64 (IntKind.wrap .i64 ((↑(l.length) : Int) - 1))),(7,.bool false),(6,.ptr 0 [] 0),(0,aB 5 bW l),
 (1,.int .i64 a),(2,.int .i64 s)] [(0,some (.agg 5 [.int .i64 0,.int .i64 0,.int .i64 0,.bool false,.int .u32 0]))] 1) [Frm.blk 0,Frm.seq pK] (bC [AR.cell
 6 true 5,AR.tmp 7] r)):=by kernel_rfl
theorem bBT (e : Entry) (op a : Int) (r : XV) : (aQ TP3 80 (bT TP3 80 20) 92 [bW e,.int .i64 op,.int .i64 a] (fun v => aA v r)) = (
 let q1 : Bool:=decide ¬aI op = 4;
 let q2 : Bool:=bif q1 then true else !e.known;
 let q3 : Bool:=bif q2 then true else decide ¬e.addr = a;bif bif q1 then true else !q1 then bif bif q2 then true else !q2 then bif bif q3 then true else !q3 then bif bif q3 then true
  else decide ¬e.size = szI op then aA (.tup [.int .u32 0,.bool false]) r else bif decide (0 ≤ e.val) then bif decide (e.val ≤ 4294967295) then aA (.tup [.int .u32 (aL5 op e.val),
  .bool true]) r else False else False else False else False else False):=by kernel_rfl
theorem a7Y (l : List Entry) (a s i : Int) (r : XV) (A : XSt → Prop) : (goQ Try.prog TP3 [(.cell 6 .true 5),(.tmp 7)] r (.run lW) [.lp lW A,.blk 0,.seq pK] (bBR l a s i)) = (
 let q1 : Bool:=decide (0 ≤ i);
 let q2 : Bool:=decide (i < (↑(l.length) : Int));
 let q3 : XV:=.agg 5 [.int .i64 0,.int .i64 0,.int .i64 0,.bool false,.int .u32 0];bif decide (i ≥ 0) then bif q1 then bif q2 then bif q1 then bif q2 then bif xN (Entry.addr
  (ix l (Int.toNat i))) then bif xN (Entry.size (ix l (Int.toNat i))) then bif xN a then bif xN s then bif aGB (Entry.addr (ix l (Int.toNat i))) (Entry.size (ix l (Int.toNat i)))
  a s then bif q1 then bif q2 then aA (.tup [bW (ix l (Int.toNat i)),.bool true]) r else False else False else A (XSt.mk [(8,.int .i64 (IntKind.wrap .i64 (i - 1))),(6,.ptr
  0 [] 0),(0,aB 5 bW l),(1,.int .i64 a),(2,.int .i64 s)] [(0,some q3)] 1) else False else False else False else False else False else False else False else False else aA
  (.tup [q3,.bool false]) r):=by kernel_rfl
theorem a7Z : eI Try.prog (91,bBQ):=bB fun ⟨l,a,s⟩ h => by
 obtain ⟨hl,hw,ha,hs⟩ : l.length ≤ 1000000 ∧ (∀ e ∈ l,e.wf) ∧ bZ a ∧ bZ s:=h
 show Pure _ _ (cons [aB 5 bW l,.int .i64 a,.int .i64 s]) (con (.tup [bW (jZ l a s).1,.bool (jZ l a s).2]))
 refine jB mix aX8 tW (Nat.le_of_ble_eq_true rfl) ?_
 refine Eq.mpr (a7X l a s _) ?_
 rw [wrap_i64 (x:=(l.length : Int) - 1) (by omega) (by omega)]
 refine fS mix aX8 (fun i : Nat => bBR l a s ((i : Int) - 1)) (fun i => i ≤ l.length ∧ aE9 l a s i = jZ l a s) (fun i => i) l.length ⟨zaF _,rfl⟩ (.of (dG ⟨rfl,rfl,rfl,rfl,rfl,trivial⟩ ⟨rfl,trivial⟩ (zaF _))) ?_
 rintro i ⟨hi,hp⟩
 refine Eq.mpr (a7Y l a s ((i : Int) - 1) _ _) ?_
 rw [← hp]
 cases i with
 | zero => simp only [show ¬ ((0 : Nat) : Int) - 1 ≥ 0 by omega,zaE,zaD];exact .rfl
 | succ k =>
  have e1 : ((k + 1 : Nat) : Int) - 1 = (k : Int):=by omega
  have hk : k < l.length:=by omega
  have he:=hw _ (cH hk)
  have h0 : (0 : Int) ≤ k:=by omega
  have h1 : (k : Int) < l.length:=by omega
  have w1 : IntKind.i64.wrap ((k : Int) - 1) = (k : Int) - 1:=wrap_i64 (by omega) (by omega)
  rw [e1]
  simp only [h0,h1,w1,pL he.1,pL he.2.1,pL ha,pL hs,zaC,zaE,zaB,zaD,aD,zaF,zaO,zaQ,aV,bJ,zaI,zaH,zaN,zaM,zaT,zaR,zaS,ge_iff_le,Int.le_refl,if_true,if_false,reduceCtorEq,eq_self,BEq.rfl]
  show cond (aGB (ix l k).addr (ix l k).size a s) _ _
  have e2 : aE9 l a s (k + 1) = if aGB (ix l k).addr (ix l k).size a s then (ix l k,true) else aE9 l a s k:=rfl
  rw [e2] at hp ⊢
  cases hh : aGB (ix l k).addr (ix l k).size a s with
  | true => exact .rfl
  | false =>
   exact ⟨k,⟨by omega,rfl⟩,.of (dG ⟨rfl,rfl,rfl,rfl,rfl,trivial⟩ ⟨rfl,trivial⟩ (zaF _)),by omega⟩
theorem a70 : eI Try.prog (92,bBS):=bB fun ⟨e,op,a⟩ h => by
 have h : e.wf:=h
 show Pure _ _ (cons [bW e,.int .i64 op,.int .i64 a]) (con (.tup [.int .u32 (uE e op a).1,.bool (uE e op a).2]))
 refine eS (u:=80) (k:=20) mix aX8 ?_
 refine Eq.mpr (bBT e op a _) ?_
 have hv : j9 e.val:=h.2.2.2
 unfold j9 at hv
 unfold uE
 by_cases h1 : aI op = 4
 ·cases h2 : e.known with
  | false => simp [h1,h2];exact .rfl
  | true =>
   by_cases h3 : e.addr = a
   ·by_cases h4 : e.size = szI op
    ·simp [h1,h2,h3,h4,hv];exact .rfl
    ·simp [h1,h2,h3,h4];exact .rfl
   ·simp [h1,h2,h3];exact .rfl
 ·simp [h1];exact .rfl
theorem oP {α : Type} [Inhabited α] {x : Bool} {es : Nat} {f : Nat → XV} {en : α → XV} {l : List α} {a : α} (h1 : ∀ i,i < l.length → con (f i) = con (en (ix l i))) (h2 : con (f l.length) = con (en a)) : leQ (con (.row x es (l.length + 1) f)) (con (aB es en (l ++ [a]))):=by
 refine gH (by simp) (.inl rfl) fun i hi => aEM ?_
 by_cases hlt : i < l.length
 ·rw [aBJ hlt];exact h1 i hlt
 ·obtain rfl : i = l.length:=by omega
  rw [aBK];exact h2
end Go.Proofs.Ytooojfbfobmkfaa
