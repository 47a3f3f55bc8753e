/- Texts put together. -/
import Derived.Test.YtooojfbfobmkfaaGreatPk2
noncomputable section
namespace Go.Proofs.YtooojfbfobmkfaaGreat
open Go.Ra
set_option linter.unusedVariables false
set_option linter.unusedSimpArgs false
def dE (o:Nat->Int):XV:=.tab 16 1 (fun i=>.int .i64 (o i))
def TT0:Tab:=fW qq kJ [(41,lM)] [] [] []
def gG (i:Ins):Bool:=decide (aC i.op=6\/aC i.op=7\/aC i.op=8)
def aRE:List XV->Option (List Bool×XV)
 |[.agg 5 [.int .i64 op,.int .i64 d,.int .i64 a,.int .i64 b,.int .i64 m]]=>some ([],.bool (gG ⟨op,d,a,b,m⟩))
 |_=>none
def sL (o:Nat->Int) (n:Int):Bool:=decide (n>0)&&decide (o n.toNat=2)
def a38:List XV->Option ((XV->Prop)->Prop):=eZ (fun q:(Nat->Int)×Int=>[dE q.1,.int .i64 q.2]) (fun q=>q.2<=15) (fun q=>sL q.1 q.2) (fun y=>.bool y)
def fC (o:Nat->Int) (n:Int):Int:=if n<1\/n>15 then 0 else o n.toNat
def aZA:List XV->Option ((XV->Prop)->Prop):=eZ (fun q:(Nat->Int)×Int=>[dE q.1,.int .i64 q.2]) (fun q=>True) (fun q=>fC q.1 q.2) (fun y=>.int .i64 y)
def findF (l:List Int) (n:Int):Int:=lR (fun x=>decide (x=n)) l
def aZB:List XV->Option ((XV->Prop)->Prop):=eZ (fun q:List Int×Int=>[aB 1 bJ q.1,.int .i64 q.2]) (fun q=>q.1.length<=1000000000) (fun q=>findF q.1 q.2) (fun y=>.int .i64 y)
def lI (o:Nat->Int) (l:List Int):Bool:=l.any (sL o)
def aTD:List XV->Option ((XV->Prop)->Prop):=eZ (fun q:(Nat->Int)×List Int=>[dE q.1,aB 1 bJ q.2]) (fun q=>q.2.length<=1000000000/\∀ x∈q.2,x<=15) (fun q=>lI q.1 q.2) (fun y=>.bool y)
def TT1:Tab:=fW qq kJ [] [] [(77,a38)] []
theorem aOU:bT zPr TT0:=bQ iR ⟨kC,trivial⟩ trivial trivial trivial
theorem a91 (i:Ins) (r:XV):(aO TT0 80 (bL TT0 80 20) 108 [cT i] (fun v=>aA v r))=(
 letI q1:=decide (aC i.op=6);
 letI q2:=cond q1 true (decide (aC i.op=7));cond (cond q1 true (!q1)) (cond (cond q2 true (!q2)) (aA (.bool (cond q2 true (decide (aC i.op
  = 8)))) r) False) False):=by kernel_rfl
theorem bD1 (o:Nat->Int) (n:Int) (r:XV):(aO TT0 80 (bL TT0 80 20) 77 [dE o,.int .i64 n] (fun v=>aA v r))=(
 letI q1:=decide (n>0);
 letI q2:=!q1;
 letI q3:=Int.toNat n*1;cond (cond (decide (0<=n)) true q2) (cond (cond (decide (n<16)) true q2) (cond (cond (Nat.beq q3 q3) true q2) (cond (cond (decide
  (Int.toNat n<16)) true q2) (cond (cond q1 q1 true) (aA (.bool (cond q1 (decide (o (Int.toNat n)=2)) false)) r) False) False) False) False) False):=by kernel_rfl
theorem a92 (o:Nat->Int) (n:Int) (r:XV):(aO TT0 80 (bL TT0 80 20) 87 [dE o,.int .i64 n] (fun v=>aA v r))=(
 letI q1:=decide (n<1);
 letI q2:=Int.toNat n*1;cond (cond q1 true (!q1)) (cond (cond q1 true (decide (n>15))) (aA (.int .i64 0) r) (cond (decide (0<=n)) (cond (decide (n<16)) (cond (Nat.beq q2 q2) (cond (decide (Int.toNat n<16)) (aA (.int .i64 (o (Int.toNat n))) r) False) False) False) False)) False):=by kernel_rfl
theorem a93 (l:List Int) (n:Int) (r:XV):(goQ zPr TT0 [(.tmp 4)] r (.run nO) [] ⟨kF 0 [aB 1 bJ l,.int .i64 n],[],0⟩)=(bX (Ok zPr (Tab.q TT0)) pJ (XSt.mk [(5,.int .i64 0),(4,.int .i64 0),(0,aB 1 bJ l),(1,.int .i64 n)] [] 0) [Frm.blk 0,Frm.seq vQ] (dC
 [AR.tmp 4] r)):=by kernel_rfl
theorem a94 (l:List Int) (n:Int) (i:Nat) (r:XV) (A:XSt->Prop):(goQ zPr TT0 [(.tmp 4)] r (.run pJ) [.lp pJ A,.blk 0,.seq vQ] ⟨[(5,.int .i64 i),(0,aB 1 bJ l),(1,.int .i64 n)],[],0⟩)=(
 letI q1:=decide ((↑i:Int)<(↑(l.length):Int));cond q1 (cond q1 (cond (decide (ix l i=n)) (aA (.int .i64 (↑i:Int)) r) (A (XSt.mk [(5,.int .i64 (IntKind.wrap
  .i64 ((↑i:Int)+1))),(0,aB 1 bJ l),(1,.int .i64 n)] [] 0))) False) (aA (.int .i64 (-1:Int)) r)):=by kernel_rfl
theorem a39 (o:Nat->Int) (l:List Int) (r:XV):(goQ zPr TT1 [(.tmp 4)] r (.run nN) [] ⟨kF 0 [dE o,aB 1 bJ l],[],0⟩)=(bX (Ok zPr (Tab.q TT1)) pI (XSt.mk [(5,.int .i64 0),(4,.bool false),(2,.ptr 0 [] 0),(1,aB 1 bJ l)] [(0,some (.tab 16 1 fun i=>.int .i64 (o i)))]
 1) [Frm.blk 0,Frm.seq vO] (dC [AR.tmp 4] r)):=by kernel_rfl
theorem a4A (o:Nat->Int) (l:List Int) (i:Nat) (r:XV) (A:XSt->Prop):(goQ zPr TT1 [(.tmp 4)] r (.run pI) [.lp pI A,.blk 0,.seq vO] ⟨[(5,.int .i64 i),(2,.ptr 0 [] 0),(1,aB 1 bJ l)],[(0,some (dE o))],1⟩)=(
 letI q1:=decide ((↑i:Int)<(↑(l.length):Int));cond q1 (cond q1 (∃(s:(Nat->Int)×Int),aI [.tab 16 1 fun i=>.int .i64 (o i),.int .i64 (ix l i)] [dE s.1,
  .int .i64 s.2]/\aN (s.2<=15)/\∀(y:Bool),y=sL s.1 s.2->cond y (aA (.bool true) r) (A (XSt.mk [(5,.int .i64 (IntKind.wrap .i64 ((↑i:Int)+1))),(2,.ptr 0
  [] 0),(1,aB 1 bJ l)] [(0,some (dE o))] 1))) False) (aA (.bool false) r)):=by kernel_rfl
theorem a4B:rD zPr (108,aRE):=by intro args nd v ha hn;simp only[aRE]at ha;split at ha<;>simp only[zaA,zaJ,reduceCtorEq]at ha;obtain⟨hnd,rfl⟩:=ha;clear hnd hn;rename_i op d a b m;refine fF (u:=80) (k:=20) mix aOU (args:=[cT ⟨op,d,a,b,m⟩]) ?_;refine Eq.mpr (a91 ⟨op,d,a,b,m⟩ _) ?_;simp only[g1,g2,g3,g4,g5,g6,g7,aD,zaB,zaF,zaC,cC];refine⟨a30 ?_⟩;simp only[bor];unfold gG;rw[Bool.eq_iff_iff];simp[or_assoc]
theorem aRF:eV zPr (77,a38):=bB fun⟨o,n⟩ h=>by
 have h:n<=15:=h;show Pure _ _ (cons [dE o,.int .i64 n]) (con (.bool (sL o n)));refine fF (u:=80) (k:=20) mix aOU ?_;refine Eq.mpr (bD1 o n _) ?_;have h1:n<16:=by omega
 have h2:n.toNat<16:=by omega
 by_cases h3:n>0
 ·have h4:0<=n:=by omega
  simp only[h1,h2,h3,h4,zaC,zaB,zaQ];unfold sL;rw[decide_eq_true h3];exact .rfl
 ·simp only[h1,h2,h3,zaC,zaE,zaB,zaD,zaQ,zaH,g1,g2,g3,g4,g5,g6,g7,aD,zaB,zaF,zaC,cC];unfold sL;rw[decide_eq_false h3];cases decide (0<=n)<;>exact .rfl
theorem aTE:eV zPr (87,aZA):=bB fun⟨o,n⟩ h=>by
 show Pure _ _ (cons [dE o,.int .i64 n]) (con (.int .i64 (fC o n)));refine fF (u:=80) (k:=20) mix aOU ?_;refine Eq.mpr (a92 o n _) ?_;unfold fC;by_cases h1:n<1
 ·rw[if_pos (.inl h1)];simp only[h1,zaC,zaB];exact .rfl
 by_cases h2:n>15
 ·rw[if_pos (.inr h2)];simp only[h1,h2,zaC,zaE,zaB,zaD,zaH];exact .rfl
 rw[if_neg (by omega)];have h3:0<=n:=by omega
 have h4:n<16:=by omega
 have h5:n.toNat<16:=by omega
 simp only[h1,h2,h3,h4,h5,zaC,zaE,zaB,zaD,zaH,zaQ];exact .rfl
theorem aTF:eV zPr (81,aZB):=bB fun⟨l,n⟩ h=>by
 have hl:l.length<=1000000000:=h;show Pure _ _ (cons [aB 1 bJ l,.int .i64 n]) (con (.int .i64 (findF l n)));refine j9 mix aOU aBY (Nat.le_of_ble_eq_true rfl) ?_;refine Eq.mpr (a93 l n _) ?_;refine gT mix aOU (fun i:Nat=>⟨[(5,.int .i64 i),(0,aB 1 bJ l),(1,.int .i64 n)],[],0⟩) (fun i=>i<=l.length/\∀ j,j<i->decide (ix l j=n)=false) (fun i=>l.length-i) 0 ⟨Nat.zero_le _,fun j hj=>by omega⟩ (.of (dL ⟨rfl,rfl,rfl,trivial⟩ trivial (zaF _))) ?_;rintro i ⟨hi,hp⟩;refine Eq.mpr (a94 l n i _ _) ?_;by_cases hlt:i<l.length
 ·have h1:(i:Int)<(l.length:Int):=by omega
  have w1:IntKind.i64.wrap ((i:Int)+1)=((i+1:Nat):Int):=wrap_i64 (by omega) (by omega);simp only[g1,g2,g3,g4,g5,g6,g7,aD,zaB,zaF,zaC,cC,h1,w1];refine kX (fun h => ?_) (fun h => ?_)
  ·unfold findF;rw[tC hlt h hp];exact .rfl
  ·refine⟨i+1,⟨hlt,fun j hj => ?_⟩,.of (dL ⟨rfl,rfl,rfl,trivial⟩ trivial (zaF _)),by omega⟩;by_cases hji:j=i
   ·subst hji;exact h
   ·exact hp j (by omega)
 ·have h1:¬(i:Int)<(l.length:Int):=by omega
  simp only[h1,zaE,zaD];unfold findF;rw[yR fun j hj=>hp j (by omega)];exact .rfl
theorem a7P:bT zPr TT1:=bQ iR trivial trivial ⟨aRF,trivial⟩ trivial
theorem any_false {α:Type} [Inhabited α] {p:α->Bool} {l:List α} (hn:∀ j,j<l.length->p (ix l j)=false):l.any p=false:=by rw[<-Bool.not_eq_true,List.any_eq_true];rintro ⟨x,hx,hp⟩;obtain⟨j,hj,rfl⟩:=List.mem_iff_getElem.1 hx;have:=hn j hj;rw[gW hj,hp]at this;cases this
theorem aLX:eV zPr (78,aTD):=bB fun⟨o,l⟩ h=>by
 obtain⟨hl,hx⟩:l.length<=1000000000/\∀ x∈l,x<=15:=h;show Pure _ _ (cons [dE o,aB 1 bJ l]) (con (.bool (lI o l)));refine j9 mix a7P aBX (Nat.le_of_ble_eq_true rfl) ?_;refine Eq.mpr (a39 o l _) ?_;refine gT mix a7P (fun i:Nat=>⟨[(5,.int .i64 i),(2,.ptr 0 [] 0),(1,aB 1 bJ l)],[(0,some (dE o))],1⟩) (fun i=>i<=l.length/\∀ j,j<i->sL o (ix l j)=false) (fun i=>l.length-i) 0 ⟨Nat.zero_le _,fun j hj=>by omega⟩ (.of (dL ⟨rfl,rfl,rfl,trivial⟩ ⟨rfl,trivial⟩ (zaF _))) ?_;rintro i ⟨hi,hp⟩;refine Eq.mpr (a4A o l i _ _) ?_;by_cases hlt:i<l.length
 ·have h1:(i:Int)<(l.length:Int):=by omega
  have w1:IntKind.i64.wrap ((i:Int)+1)=((i+1:Nat):Int):=wrap_i64 (by omega) (by omega);simp only[g1,g2,g3,g4,g5,g6,g7,aD,zaB,zaF,zaC,cC,h1,w1];refine⟨(o,ix l i),.rfl,⟨hx _ (cA hlt)⟩, ?_⟩;rintro y rfl;refine kX (fun h => ?_) (fun h => ?_)
  ·have:lI o l=true:=List.any_eq_true.2 ⟨_,cA hlt,h⟩;rw[this];exact .rfl
  ·refine⟨i+1,⟨hlt,fun j hj => ?_⟩,.of (dL ⟨rfl,rfl,rfl,trivial⟩ ⟨rfl,trivial⟩ (zaF _)),by omega⟩;by_cases hji:j=i
   ·subst hji;exact h
   ·exact hp j (by omega)
 ·have h1:¬(i:Int)<(l.length:Int):=by omega
  simp only[h1,zaE,zaD];unfold lI;rw[any_false fun j hj=>hp j (by omega)];exact .rfl
def TT2:Tab:=fW qq kJ [(41,lM)] [] [(78,aTD),(87,aZA),(79,aY9),(81,aZB)] []
def xB (i:Ins) (o:Nat->Int):Int:=if aC i.op<1\/aC i.op>3 then 0 else if fC o i.d=1\/(i.d=0/\lI o (aY i)=false)then 1 else 2
def a7Q:List XV->Option ((XV->Prop)->Prop):=eZ (fun q:Ins×(Nat->Int)=>[cT q.1,dE q.2]) (fun q=>True) (fun q=>xB q.1 q.2) (fun y=>.int .i64 y)
def rS (o:Nat->Int) (l:List Int):List Int:=l.foldl (fun out x=>if fC o x=1/\findF out x<0 then out++[x]else out) []
def gX (i:Ins) (o:Nat->Int):List Int:=rS o (aY i)
def a4C (l:List Int) (o:Nat->Int) (out:List Int) (i:Nat):XSt:=⟨[(7,.int .i64 i),(6,.sl 2 [] 0 0 out.length 1),(5,aB 1 bJ l),(3,.ptr 1 [] 0)],[(2,some (.tab out.length 1 (fun i=>bJ (ix out i)))),(1,some (dE o))],3⟩
def bHY:List XV->Option ((XV->Prop)->Prop):=eZ (fun q:Ins×(Nat->Int)=>[cT q.1,dE q.2]) (fun q=>True) (fun q=>gX q.1 q.2) (fun y=>aB 1 bJ y)
theorem a95 (i:Ins) (o:Nat->Int) (r:XV):(aO TT2 80 (bL TT2 80 20) 83 [cT i,dE o] (fun v=>aA v r))=(
 letI q1:=decide (aC i.op<1);
 letI q2:XV:=.tab 16 1 fun i=>.int .i64 (o i);
 letI q3:=fun(y:Int)=>decide (y=1);
 letI q4:=fun(y:Int) => !q3 y;
 letI q5:=decide (i.d=0);
 letI q6:=fun(y:Int) => !q4 y;
 letI q7:=fun(y:Int)=>cond (q4 y) true (q6 y);
 letI q8:=fun(y:Int)=>cond (q3 y) true (q4 y);cond (cond q1 true (!q1)) (cond (cond q1 true (decide (aC i.op>3))) (aA (.int .i64 0) r) (∃(s :
  Ins),aI [cT i] [cT s]/\aN True/\∀(y:List Int),y=aY s->∃(s:(Nat->Int)×Int),aI [q2,.int .i64 i.d] [dE s.1,.int .i64 s.2]/\aN True/\∀(y_1
  : Int),y_1=fC s.1 s.2->cond (cond (q4 y_1) q5 false) (∃(s:(Nat->Int)×List Int),aI [q2,aB 1 bJ y] [dE s.1,aB 1 bJ s.2]/\aN (s.2.length
  <= 1000000000/\∀(x:Int),x∈s.2->x<=15)/\∀(y:Bool),y=lI s.1 s.2->cond (q7 y_1) (cond (q8 y_1) (cond (cond (q3 y_1) true (cond q5 (!y) false)) (aA
  (.int .i64 1) r) (aA (.int .i64 2) r)) False) False) (cond (q7 y_1) (cond (cond (!q5) true (q6 y_1)) (cond (q8 y_1) (cond (cond (q3 y_1) true false) (aA (.int .i64 1) r) (aA (.int .i64 2) r)) False) False) False))) False):=by kernel_rfl 
theorem a96 (i:Ins) (o:Nat->Int) (r:XV):(goQ zPr TT2 [(.tmp 4)] r (.run nP) [] ⟨kF 0 [cT i,dE o],[],0⟩)=(
 letI q1:XV:=.row true 0 0 fun x=>.unk;∃(s:Ins),aI [cT i] [cT s]/\aN True/\∀(y:List Int),y=aY s->bX (Ok zPr (Tab.q TT2)) pK
  (XSt.mk [(7,.int .i64 0),(6,q1),(5,aB 1 bJ y),(4,q1),(3,.ptr 1 [] 0)] [(1,some (.tab 16 1 fun i=>.int .i64 (o i))),(0,some (cT i))] 2) [Frm.blk 0,Frm.seq vR]
  (dC [AR.tmp 4] r)):=by kernel_rfl
theorem a97 (l:List Int) (o:Nat->Int) (out:List Int) (i:Nat) (r:XV) (A:XSt->Prop):(goQ zPr TT2 [(.tmp 4)] r (.run pK) [.lp pK A,.blk 0,.seq vR] (a4C l o out i))=(
 letI q1:=decide ((↑i:Int)<(↑(l.length):Int));
 letI q2:=fun(y:Int)=>decide (y=1);
 letI q3:=decide (out.length<=out.length);
 letI q4:XV:=.int .i64 (IntKind.wrap .i64 ((↑i:Int)+1));
 letI q5:List (Nat×XV):=[(5,aB 1 bJ l),(3,.ptr 1 [] 0)];
 letI q6:List (Nat×Option XV):=[(1,some (dE o))];
 letI q7:=XSt.mk ((7,q4)::(6,.sl 2 [] 0 0 out.length 1)::q5) ((2,some (.tab out.length 1 fun i=>bJ (ix out i)))::q6) 3;cond q1 (cond q1 (∃(s:(Nat->Int)×Int),
  aI [.tab 16 1 fun i=>.int .i64 (o i),.int .i64 (ix l i)] [dE s.1,.int .i64 s.2]/\aN True/\∀(y:Int),y=fC s.1 s.2->cond (q2 y) (cond q1 (cond q3 (∃(s
  : List Int×Int),aI [aB 1 bJ out,.int .i64 (ix l i)] [aB 1 bJ s.1,.int .i64 s.2]/\aN (s.1.length<=1000000000)/\∀(y_1:Int),y_1=findF s.1 s.2->cond (cond (q2 y) (decide (y_1<0)) false) (cond q1 (cond q3 (cond (decide (pl out.length 1*8<=140737488355328)) (A (XSt.mk ((7,q4)::(6,.sl 3 [] 0 0 (pl out.length 1) 1)
  :: q5) ((3,some (.tab (pl out.length 1) 1 fun i_1=>.int .i64 (cond (decide (i_1<out.length)) (ix out i_1) (ix l i))))::(2,none)::q6) 4)) False) False) False) (A q7)) False) False) (cond (!q2 y) (A q7) False)) False) (cond q3 (aA (aB 1 bJ out) r) False)):=by kernel_rfl
theorem aZC:bT zPr TT2:=bQ iR ⟨kC,trivial⟩ trivial ⟨aLX,aTE,aBU,aTF,trivial⟩ trivial
theorem kK {i:Ins}:(aY i).length<=2/\∀ x∈aY i,1<=x/\x<=15:=by
 unfold aY;cases hr:bY i with
 |false=>exact⟨Nat.zero_le _,fun x hx=>by cases hx⟩
 |true =>
  simp only[bY,zaG]at hr;obtain⟨_,_,ha,hb,_⟩:=hr;rw[if_pos rfl];have pa:(oG (aC i.op)&&decide (¬i.a=0))=true->1<=i.a/\i.a<=15:=fun h=>by simp only[zaG,zaK]at h;simp only[uU,zaV,zaG,zaK]at ha;omega
  have pb:(hasB (aC i.op)&&decide (¬i.b=0))=true->1<=i.b/\i.b<=15:=fun h=>by simp only[zaG,zaK]at h;simp only[uU,zaV,zaG,zaK]at hb;omega
  generalize (oG (aC i.op)&&decide (¬i.a=0))=p at pa;generalize (hasB (aC i.op)&&decide (¬i.b=0))=q at pb;cases p<;>cases q<;>simp only[if_true,if_false,zaU,List.nil_append,List.append_nil,List.cons_append]
  ·exact⟨Nat.zero_le _,fun x hx=>by cases hx⟩
  ·refine⟨by simp,fun x hx => ?_⟩;simp only[List.mem_singleton]at hx;subst hx;exact pb rfl
  ·refine⟨by simp,fun x hx => ?_⟩;simp only[List.mem_singleton]at hx;subst hx;exact pa rfl
  ·refine⟨by simp,fun x hx => ?_⟩;simp only[List.mem_cons,List.not_mem_nil,or_false]at hx;rcases hx with rfl|rfl
   ·exact pa rfl
   ·exact pb rfl
theorem a4D:eV zPr (83,a7Q):=bB fun⟨i,o⟩ _=>by
 show Pure _ _ (cons [cT i,dE o]) (con (.int .i64 (xB i o)));refine fF (u:=80) (k:=20) mix aZC ?_;refine Eq.mpr (a95 i o _) ?_;simp only[g1,g2,g3,g4,g5,g6,g7,aD,zaB,zaF,zaC,cC];simp only[bor,tD];unfold xB;generalize aC i.op=f;by_cases hf:f<1\/f>3
 ·rw[if_pos hf];rcases hf with h|h<;>(simp only[decide_eq_true h,Bool.true_or,Bool.or_true,zaB];exact .rfl)
 rw[if_neg hf];have f1:¬f<1:=fun h=>hf (.inl h)
 have f2:¬f>3:=fun h=>hf (.inr h)
 simp only[f1,f2,zaE,Bool.or_false,zaD];refine⟨i,.rfl,⟨trivial⟩, ?_⟩;rintro y rfl;refine⟨(o,i.d),.rfl,⟨trivial⟩, ?_⟩;intro y1 hy;replace hy:y1=fC o i.d:=hy;subst hy;by_cases h1:fC o i.d=1
 ·rw[if_pos (.inl h1)];simp only[h1,zaC,zaI,zaH,Bool.false_and,zaR,Bool.or_true,Bool.true_or,zaB,zaD,Bool.false_or];exact .rfl
 ·simp only[h1,zaE,zaI,zaH,Bool.false_and,zaR,Bool.or_true,Bool.true_or,zaB,zaD,Bool.false_or];by_cases h2:i.d=0
  ·simp only[h2,zaC,zaB];refine⟨(o,aY i),.rfl,⟨by have:=kK (i:=i);exact⟨show(aY i).length<=1000000000 by omega,fun x hx=>(this.2 x hx).2⟩⟩, ?_⟩;intro y1 hy;replace hy:y1=lI o (aY i):=hy;subst hy;cases lI o (aY i)<;>(simp;exact .rfl)
  ·simp only[h2,zaE,zaD,zaI,zaH,Bool.or_true,Bool.true_or,zaB,false_and,or_self,if_false];exact .rfl
theorem aV7 {o:Nat->Int} {l:List Int} {i:Nat} (h:i<l.length):rS o (l.take (i+1))=if fC o (ix l i)=1/\findF (rS o (l.take i)) (ix l i)<0 then rS o (l.take i)++[ix l i]else rS o (l.take i):=by
 have e:l.take (i+1)=l.take i++[ix l i]:=by rw[gW h];exact(List.take_append_getElem h).symm
 rw[e];unfold rS;rw[List.foldl_append];rfl
theorem aHJ {o:Nat->Int}:∀ {l:List Int},(rS o l).length<=l.length:=by
 intro l;unfold rS;have key:∀(l out:List Int),(l.foldl (fun out x=>if fC o x=1/\findF out x<0 then out++[x]else out) out).length<=out.length+l.length:=by
  intro l
  induction l with
  |nil=>intro out;simp
  |cons x l ih =>
   intro out;simp only[List.foldl_cons,List.length_cons];split
   ·have:=ih (out++[x]);simp only[bD]at this;omega
   ·have:=ih out;omega
 simpa using key l []
theorem a98:eV zPr (86,bHY):=bB fun⟨i,o⟩ _=>by
 show Pure _ _ (cons [cT i,dE o]) (con (aB 1 bJ (gX i o)));refine j9 mix aZC aB1 (Nat.le_of_ble_eq_true rfl) ?_;refine Eq.mpr (a96 i o _) ?_;refine⟨i,.rfl,⟨trivial⟩, ?_⟩;rintro l rfl;have hl:=(kK (i:=i)).1;unfold gX;generalize aY i=l at hl;refine gT mix aZC (fun k:Nat=>a4C l o (rS o (l.take k)) k) (fun k=>k<=l.length) (fun k=>l.length-k) 0 (Nat.zero_le _) (rN [(0,0),(1,1)] rfl rfl rfl rfl rfl ⟨aH rfl rfl,wW rfl,aH rfl rfl,.ptr rfl,trivial⟩ ⟨⟨1,rfl⟩,.same rfl,trivial⟩) ?_;intro k hk;refine Eq.mpr (a97 l o _ k _ _) ?_;have hs:(rS o (l.take k)).length<=2:=by have:=aHJ (o:=o) (l:=l.take k);simp at this;omega
 by_cases hlt:k<l.length
 ·have h1:(k:Int)<(l.length:Int):=by omega
  have w1:IntKind.i64.wrap ((k:Int)+1)=((k+1:Nat):Int):=wrap_i64 (by omega) (by omega);have st:=aV7 (o:=o) hlt;generalize rS o (l.take k)=out at st hs;simp only[g1,g2,g3,g4,g5,g6,g7,aD,zaB,zaF,zaC,cC,h1,w1];refine⟨(o,ix l k),.rfl,⟨trivial⟩, ?_⟩;intro y1 hy;replace hy:y1=fC o (ix l k):=hy;subst hy;have stay:rS o (l.take (k+1))=out->∃ j,j<=l.length/\cJ 2 (XSt.st (XSt.mk [(7,.int .i64 ((k+1:Nat):Int)),(6,.sl 2 [] 0 0 out.length 1),(5,aB 1 bJ l),(3,.ptr 1 [] 0)] [(2,some (.tab out.length 1 fun i=>bJ (ix out i))),(1,some (dE o))] 3)) (a4C l o (rS o (l.take j)) j).st/\l.length-j<l.length-k:=fun h=>by refine⟨k+1,hlt, ?_,by omega⟩;rw[h];exact .of (dL ⟨rfl,rfl,rfl,rfl,trivial⟩ ⟨rfl,rfl,trivial⟩ (zaF _))
  by_cases h2:fC o (ix l k)=1
  ·simp only[h2,zaC,zaB];refine⟨(out,ix l k),.rfl,⟨show out.length<=_ by omega⟩, ?_⟩;intro y1 hy;replace hy:y1=findF out (ix l k):=hy;subst hy;by_cases h3:findF out (ix l k)<0
   ·rw[if_pos ⟨h2,h3⟩]at st;have b:(out.length+1)*8<=140737488355328:=by omega
    simp only[h3,b,zaC,zaB];refine⟨k+1,hlt, ?_,by omega⟩;rw[st];unfold a4C;rw[bD];exact rN [(0,0),(1,1),(2,3)] rfl rfl rfl rfl rfl ⟨aH rfl rfl,.sl rfl,aH rfl rfl,.ptr rfl,trivial⟩ ⟨aOR (fun i hi=>by simp only[hi,zaC,zaB];rfl) (by simp;rfl) rfl,.same rfl,trivial⟩
   ·rw[if_neg (fun h=>h3 h.2)]at st;simp only[h3,zaC,zaE,zaB,zaD];exact stay st
  ·rw[if_neg (fun h=>h2 h.1)]at st;simp only[h2,zaE,zaD,zaH,zaB];exact stay st
 ·have h1:¬(k:Int)<(l.length:Int):=by omega
  simp only[h1,zaE,zaD,g1,g2,g3,g4,g5,g6,g7,aD,zaB,zaF,zaC,cC];have:k=l.length:=by omega
  subst this;rw[List.take_length];exact .rfl
def a99:List XV->Option ((XV->Prop)->Prop):=fun args=>some fun K=>∃ s:Ins×(Nat->Int),aI args [cT s.1,dE s.2]/\∀ y:List Int,y=gX s.1 s.2->(y=[]->K (.row false 1 0 (fun _=>.int .i64 0)))/\(∀ a:Int,y=[a]->K (.row false 1 1 (fun _=>.int .i64 a)))/\(∀ a b:Int,y=[a,b]->K (.row false 1 2 (fun i=>.int .i64 (cond (Nat.beq i 0) a b))))
def TT3:Tab:=fW qq kJ [(41,lM),(36,aFD)] [] [(78,aTD),(77,a38),(87,aZA),(79,aY9),(83,a7Q),(86,a99)] []
def cI (k:Int) (i:Ins) (pc off:Int):Cell:=⟨k,i,0,pc,off⟩
def cR (k:Int) (pc off:Int) (n:Int):Cell:=⟨k,⟨0,0,0,0,0⟩,n,pc,off⟩
def cP (k:Int) (pc off:Int):Cell:=⟨k,⟨0,0,0,0,0⟩,0,pc,off⟩
def aTG (y:List Cell×List Cell):XV:=.tup [aB 9 dD y.1,aB 9 dD y.2]
def jD (i:Ins) (o:Nat->Int) (pc off:Int):List Cell×List Cell :=
 if bY i=false then([],[])
 else if aC i.op=1\/aC i.op=2\/aC i.op=3 then
  if xB i o=1 then([cI 1 i pc off],[])else((gX i o).map (cR 5 pc off),(gX i o).map (cR 6 pc off)++[cI 1 i pc off])
 else if aC i.op=4 then
  if sL o i.d=true then([cI 3 i pc off],[cI 7 i pc off])else([cI 2 i pc off],[])
 else if aC i.op=5 then
  if fC o i.b=1 then([cR 5 pc off i.b,cI 4 i pc off],[cR 6 pc off i.b,cR 8 pc off i.b])else([cI 4 i pc off],[cR 8 pc off i.b])
 else if aC i.op=6 then
  if lI o (aY i)=false then([cI 9 i pc off],[cP 10 pc off])else((gX i o).map (cR 5 pc off)++[cP 10 pc off],(gX i o).map (cR 6 pc off)++[cI 9 i pc off])
 else if aC i.op=7 then([cP 11 pc off],[cP 11 pc off])
 else if aC i.op=8 then([cP 12 pc off],[cP 12 pc off])
 else([],[])
def bD2:List XV->Option ((XV->Prop)->Prop):=eZ (fun q:Ins×(Nat->Int)×Int×Int=>[cT q.1,dE q.2.1,.int .i64 q.2.2.1,.int .i64 q.2.2.2]) (fun q=>True) (fun q=>jD q.1 q.2.1 q.2.2.1 q.2.2.2) (fun y=>aTG y)
theorem aZD:eV zPr (86,a99):=by
 intro args W hW K hK;simp only[a99,zaA]at hW;subst hW;obtain⟨⟨i,o⟩,h1,h2⟩:=hK;obtain⟨h3,h4,h5⟩:=h2 _ rfl;have hl:(gX i o).length<=2:=by unfold gX;have:=aHJ (o:=o) (l:=aY i);have:=(kK (i:=i)).1;omega
 obtain⟨v,hp,hk⟩:=a98 args _ rfl (fun v=>v=aB 1 bJ (gX i o)) ⟨(i,o),h1,⟨trivial⟩,fun y hy=>by rw[hy]⟩;subst hk;revert h3 h4 h5 hl hp;generalize gX i o=l;intro h3 h4 h5 hl hp
 match l,hl with
 |[],_=>exact⟨_,hp.out (aLR rfl (.inl rfl) fun j hj=>absurd hj (Nat.not_lt_zero _)),h3 rfl⟩
 |[a],_=>exact⟨_,hp.out (aLR rfl (.inl rfl) fun j hj=>by
   have:j=0:=by simp at hj;exact hj
   subst this;exact .refl _),h4 a rfl⟩
 |[a,b],_=>exact⟨_,hp.out (aLR rfl (.inl rfl) fun j hj=>by have hj:j<2:=hj;rcases(by omega:j=0\/j=1)with rfl|rfl<;>exact .refl _),h5 a b rfl⟩
 |_::_::_::_,h=>simp at h
theorem bD3:bT zPr TT3:=bQ iR ⟨kC,aJ8,trivial⟩ trivial ⟨aLX,aRF,aTE,aBU,a4D,aZD,trivial⟩ trivial
theorem bAA (i:Ins) (o:Nat->Int) (pc off:Int) (r:XV):(aO TT3 80 (bL TT3 80 20) 34 [cT i,dE o,.int .i64 pc,.int .i64 off] (fun v=>aA v r))=(
 let q1:XV:=.row true 0 0 fun x=>.unk;
 let q2:List XV:=[q1];
 let q3:=aA (.tup (q1::q2)) r;
 let q4:=decide (aC i.op=1);
 let q5:XV:=.tab 16 1 fun i=>.int .i64 (o i);
 let q6:Ins×(Nat->Int)->Prop:=fun s=>aI [cT i,q5] [cT s.1,dE s.2];
 let q7:=fun(y:Int)=>decide (y=1);
 let q8:List XV:=[.int .i64 pc,.int .i64 off];
 let q9:List XV:=.int .i64 0::q8;
 let q10:List XV:=cT i::q9;
 let q11:XV:=.row false 9 1 fun i=>.agg 9 (.int .i64 1::q10);
 let q12:List Int->Ins×(Nat->Int)->Prop:=fun y s=>y=gX s.1 s.2;
 let q13:List XV:=[q11];
 let q14:=List.length [AX.t 21];
 let q15:=pl 0 q14;
 let q16:=fun(i:Nat)=>decide (i<1);
 let q17:Nat->XV:=fun i_1=>.agg 5 [.int .i64 (cond (q16 i_1) (0:Int) i.op),.int .i64 (cond (q16 i_1) (0:Int) i.d),.int .i64 (cond (q16 i_1) (0:Int) i.a),.int .i64 (cond (q16 i_1) (0:Int) i.b),.int .i64 (cond (q16 i_1) (0:Int) i.imm)];
 let q18:Nat->List XV:=fun i=>[.int .i64 (cond (q16 i) pc pc),.int .i64 (cond (q16 i) off off)];
 let q19:Nat->Int->List XV:=fun i a=>.int .i64 (cond (q16 i) a (0:Int))::q18 i;
 let q20:Nat->Int->List XV:=fun i a=>q17 i::q19 i a;
 let q21:Int->List XV:=fun a=>[.row false 9 2 fun i=>.agg 9 (.int .i64 (cond (q16 i) (6:Int) (1:Int))::q20 i a)];
 let q22:List Int->Int->Int->Prop:=fun y a b=>y=[a,b];
 let q23:=fun(i:Nat)=>decide (i<2);
 let q24:=fun(i:Nat)=>decide (i<1);
 let q25:=fun(i:Nat)=>cond (q24 i) (6:Int) (6:Int);
 let q26:=fun(i:Nat)=>cond (q24 i) (0:Int) (0:Int);
 let q27:Nat->Int->Int->List XV:=fun i a b=>[.int .i64 (cond (q23 i) (cond (q24 i) a b) (0:Int)),.int .i64 (cond (q23 i) (cond (q24 i) pc pc) pc),
  .int .i64 (cond (q23 i) (cond (q24 i) off off) off)];
 let q28:Nat->Int->Int->List XV:=fun i_1 a b=>.agg 5 [.int .i64 (cond (q23 i_1) (q26 i_1) i.op),.int .i64 (cond (q23 i_1) (q26 i_1) i.d),.int .i64 (cond (q23 i_1) (q26 i_1) i.a),.int .i64 (cond (q23 i_1) (q26 i_1) i.b),.int .i64 (cond (q23 i_1) (q26 i_1) i.imm)]::q27 i_1 a b;
 let q29:Int->Int->List XV:=fun a b=>[.row false 9 3 fun i=>.agg 9 (.int .i64 (cond (q23 i) (q25 i) (1:Int))::q28 i a b)];
 let q30:XV:=.agg 5 [.int .i64 0,.int .i64 0,.int .i64 0,.int .i64 0,.int .i64 0];
 let q31:Int->XV:=fun a=>.row false 9 1 fun i=>.agg 9 (.int .i64 5::q30::.int .i64 a::q8);
 let q32:Nat->XV:=fun i=>.int .i64 (cond (q16 i) (0:Int) (0:Int));
 let q33:Nat->XV:=fun i=>.agg 5 [q32 i,q32 i,q32 i,q32 i,q32 i];
 let q34:Int->Int->XV:=fun a b=>.row false 9 2 fun i=>.agg 9 (.int .i64 (cond (q16 i) (5:Int) (5:Int))::q33 i::.int .i64 (cond (q16 i) a b)::q18 i);
 let q35:=∃(s:Ins×(Nat->Int)),q6 s/\aN True/\∀(y:Int),y=xB s.1 s.2->cond (q7 y) (aA (.tup (q11::q2)) r) (∃(s:Ins×(Nat->Int)),q6 s/\∀(y:List
  Int),q12 y s->(y=[]->∃(s:Ins×(Nat->Int)),q6 s/\∀(y:List Int),q12 y s->(y=[]->aA (.tup (q1::q13)) r)/\(∀(a:Int),y=[a]->aA (.tup (q1::q21 a)) r)
  /\ ∀(a b:Int),q22 y a b->aA (.tup (q1::q29 a b)) r)/\(∀(a:Int),y=[a]->∃(s:Ins×(Nat->Int)),q6 s/\∀(y:List Int),q12 y s->(y=[]->aA (.tup (q31 a ::
  q13)) r)/\(∀(a_3:Int),y=[a_3]->aA (.tup (q31 a::q21 a_3)) r)/\∀(a_3 b:Int),q22 y a_3 b->aA (.tup (q31 a::q29 a_3 b)) r)/\∀(a b:Int),q22 y a b->∃(s:Ins
  × (Nat->Int)),q6 s/\∀(y:List Int),q12 y s->(y=[]->aA (.tup (q34 a b::q13)) r)/\(∀(a_3:Int),y=[a_3]->aA (.tup (q34 a b::q21 a_3)) r)/\∀(a_3 b_1:Int),
  q22 y a_3 b_1->aA (.tup (q34 a b::q29 a_3 b_1)) r);
 let q36:(Nat->Int)×Int->List XV:=fun s=>[dE s.1,.int .i64 s.2];
 let q37:XV:=.row false 9 1 fun i=>.agg 9 (.int .i64 9::q10);
 let q38:List XV:=q30::q9;
 let q39:XV:=.row false 9 1 fun i=>.agg 9 (.int .i64 10::q38);
 let q40:List XV:=[q37];
 let q41:Int->List XV:=fun a=>[.row false 9 2 fun i=>.agg 9 (.int .i64 (cond (q16 i) (6:Int) (9:Int))::q20 i a)];
 let q42:Int->Int->List XV:=fun a b=>[.row false 9 3 fun i=>.agg 9 (.int .i64 (cond (q23 i) (q25 i) (9:Int))::q28 i a b)];
 let q43:Int->XV:=fun a=>.row false 9 2 fun i=>.agg 9 (.int .i64 (cond (q16 i) (5:Int) (10:Int))::q33 i::q19 i a);
 let q44:Nat->XV:=fun i=>.int .i64 (cond (q23 i) (q26 i) (0:Int));
 let q45:Int->Int->XV:=fun a b=>.row false 9 3 fun i=>.agg 9 (.int .i64 (cond (q23 i) (cond (q24 i) (5:Int) (5:Int)) (10:Int))::.agg 5 [q44 i,q44 i,q44
  i,q44 i,q44 i]::q27 i a b);
 let q46:XV:=.row false 9 1 fun i=>.agg 9 (.int .i64 11::q38);
 let q47:XV:=.row false 9 1 fun i=>.agg 9 (.int .i64 12::q38);
 let q48:=cond (decide (aC i.op=4)) (∃(s:(Nat->Int)×Int),aI [q5,.int .i64 i.d] (q36 s)/\aN (s.2<=15)/\∀(y:Bool),y=sL s.1 s.2->cond y (aA (.tup
  [.row false 9 1 fun i=>.agg 9 (.int .i64 3::q10),.row false 9 1 fun i=>.agg 9 (.int .i64 7::q10)]) r) (aA (.tup ((.row false 9 1 fun i=>.agg 9 (.int .i64 2::q10))
  :: q2)) r)) (cond (decide (aC i.op=5)) (∃(s:(Nat->Int)×Int),aI [q5,.int .i64 i.b] (q36 s)/\aN True/\∀(y:Int),y=fC s.1 s.2->cond (q7 y) (aA (.tup
  [.row false 9 2 fun i_1=>.agg 9 (.int .i64 (cond (q16 i_1) (5:Int) (4:Int))::q17 i_1::.int .i64 (cond (q16 i_1) i.b (0:Int))::q18 i_1),.row false 9 2 fun
  i_1=>.agg 9 (.int .i64 (cond (q16 i_1) (6:Int) (8:Int))::q33 i_1::.int .i64 (cond (q16 i_1) i.b i.b)::q18 i_1)]) r) (aA (.tup [.row false 9 1 fun i =>
  .agg 9 (.int .i64 4::q10),.row false 9 1 fun i_1=>.agg 9 (.int .i64 8::q30::.int .i64 i.b::q8)]) r)) (cond (decide (aC i.op=6)) (∃(s:Ins),aI [cT i] [cT
  s]/\aN True/\∀(y:List Int),y=aY s->∃(s:(Nat->Int)×List Int),aI [q5,aB 1 bJ y] [dE s.1,aB 1 bJ s.2]/\aN (s.2.length<=1000000000/\∀(x
  : Int),x∈s.2->x<=15)/\∀(y:Bool),y=lI s.1 s.2->cond (!y) (aA (.tup [q37,q39]) r) (∃(s:Ins×(Nat->Int)),q6 s/\∀(y:List Int),q12 y s->(y=[]->∃(s
  : Ins×(Nat->Int)),q6 s/\∀(y:List Int),q12 y s->(y=[]->aA (.tup (q39::q40)) r)/\(∀(a:Int),y=[a]->aA (.tup (q39::q41 a)) r)/\∀(a b:Int),q22 y a b ->
  aA (.tup (q39::q42 a b)) r)/\(∀(a:Int),y=[a]->∃(s:Ins×(Nat->Int)),q6 s/\∀(y:List Int),q12 y s->(y=[]->aA (.tup (q43 a::q40)) r)/\(∀(a_3:Int),y
  = [a_3]->aA (.tup (q43 a::q41 a_3)) r)/\∀(a_3 b:Int),q22 y a_3 b->aA (.tup (q43 a::q42 a_3 b)) r)/\∀(a b:Int),q22 y a b->∃(s:Ins×(Nat->Int)),q6 s/\∀(y
  : List Int),q12 y s->(y=[]->aA (.tup (q45 a b::q40)) r)/\(∀(a_3:Int),y=[a_3]->aA (.tup (q45 a b::q41 a_3)) r)/\∀(a_3 b_1:Int),q22 y a_3 b_1->aA (.tup
  (q45 a b::q42 a_3 b_1)) r)) (cond (decide (aC i.op=7)) (aA (.tup [q46,q46]) r) (cond (decide (aC i.op=8)) (aA (.tup [q47,q47]) r) q3))));
 let q49:=decide (aC i.op=2);cond (!bY i) q3 (cond q4 (cond q4 q35 q48) (cond q49 (cond q49 q35 q48) (cond (decide (aC i.op=3)) q35 q48)))):=by kernel_rfl
theorem a4E:eV zPr (34,bD2):=bB fun⟨i,o,pc,off⟩ _=>by
 show Pure _ _ (cons [cT i,dE o,.int .i64 pc,.int .i64 off]) (con (aTG (jD i o pc off)));refine fF (u:=80) (k:=20) mix bD3 ?_;refine Eq.mpr (bAA i o pc off _) ?_;unfold jD;cases hr:bY i with
 |false => simp only[zaH,zaB,if_true];exact⟨iZ (aF cM (aF cM bM))⟩
 |true =>
 have hd:aC i.op=4->i.d<=15:=fun h=>by simp only[bY,zaG]at hr;have hb:=hr.2.1;simp only[uU,aLT,h,zaV,zaG,zaK]at hb;omega
 simp only[zaI,zaD,Bool.true_eq_false,if_false];generalize aC i.op=f at hd;by_cases hf:f=1\/f=2\/f=3
 ·rw[if_pos hf];rcases hf with rfl|rfl|rfl
  all_goals
   simp only[Int.reduceEq,zaC,zaE,zaB,zaD];refine⟨(i,o),.rfl,⟨trivial⟩, ?_⟩;intro y hy;replace hy:y=xB i o:=hy;subst hy;by_cases h1:xB i o=1
   ·simp only[h1,zaC,zaB,if_true];exact⟨iZ (aF (by first|exact cM|exact dG (.refl _)|exact dK (.refl _) (.refl _)|exact dO (.refl _) (.refl _) (.refl _)) (aF (by first|exact cM|exact dG (.refl _)|exact dK (.refl _) (.refl _)|exact dO (.refl _) (.refl _) (.refl _)) bM))⟩
   ·simp only[h1,zaE,zaD,if_false];refine⟨(i,o),.rfl, ?_⟩;intro y hy;replace hy:y=gX i o:=hy;subst hy;refine⟨fun e1 => ?_,fun a e1 => ?_,fun a b e1 => ?_⟩
    ·refine⟨(i,o),.rfl, ?_⟩;intro y hy;replace hy:y=gX i o:=hy;subst hy;refine⟨fun e2 => ?_,fun c e2 => ?_,fun c d e2 => ?_⟩
     ·rw[e1];exact⟨iZ (aF (by first|exact cM|exact dG (.refl _)|exact dK (.refl _) (.refl _)|exact dO (.refl _) (.refl _) (.refl _)) (aF (by first|exact cM|exact dG (.refl _)|exact dK (.refl _) (.refl _)|exact dO (.refl _) (.refl _) (.refl _)) bM))⟩
     ·rw[e1]at e2;cases e2
     ·rw[e1]at e2;cases e2
    ·refine⟨(i,o),.rfl, ?_⟩;intro y hy;replace hy:y=gX i o:=hy;subst hy;refine⟨fun e2 => ?_,fun c e2 => ?_,fun c d e2 => ?_⟩
     ·rw[e1]at e2;cases e2
     ·rw[e1]at e2;cases e2;rw[e1];exact⟨iZ (aF (by first|exact cM|exact dG (.refl _)|exact dK (.refl _) (.refl _)|exact dO (.refl _) (.refl _) (.refl _)) (aF (by first|exact cM|exact dG (.refl _)|exact dK (.refl _) (.refl _)|exact dO (.refl _) (.refl _) (.refl _)) bM))⟩
     ·rw[e1]at e2;cases e2
    ·refine⟨(i,o),.rfl, ?_⟩;intro y hy;replace hy:y=gX i o:=hy;subst hy;refine⟨fun e2 => ?_,fun c e2 => ?_,fun c d e2 => ?_⟩
     ·rw[e1]at e2;cases e2
     ·rw[e1]at e2;cases e2
     ·rw[e1]at e2;cases e2;rw[e1];exact⟨iZ (aF (by first|exact cM|exact dG (.refl _)|exact dK (.refl _) (.refl _)|exact dO (.refl _) (.refl _) (.refl _)) (aF (by first|exact cM|exact dG (.refl _)|exact dK (.refl _) (.refl _)|exact dO (.refl _) (.refl _) (.refl _)) bM))⟩
 rw[if_neg hf];have h1:¬f=1:=fun h=>hf (.inl h)
 have h2:¬f=2:=fun h=>hf (.inr (.inl h))
 have h3:¬f=3:=fun h=>hf (.inr (.inr h))
 simp only[h1,h2,h3,zaE,zaD];by_cases h4:f=4
 ·simp only[h4,zaC,zaB,if_true];refine⟨(o,i.d),.rfl,⟨hd h4⟩, ?_⟩;intro y hy;replace hy:y=sL o i.d:=hy;subst hy;cases sL o i.d with
  |true=>simp only[zaB,if_true];exact⟨iZ (aF (by first|exact cM|exact dG (.refl _)|exact dK (.refl _) (.refl _)|exact dO (.refl _) (.refl _) (.refl _)) (aF (by first|exact cM|exact dG (.refl _)|exact dK (.refl _) (.refl _)|exact dO (.refl _) (.refl _) (.refl _)) bM))⟩
  |false=>simp only[zaD,zaU,if_false];exact⟨iZ (aF (by first|exact cM|exact dG (.refl _)|exact dK (.refl _) (.refl _)|exact dO (.refl _) (.refl _) (.refl _)) (aF (by first|exact cM|exact dG (.refl _)|exact dK (.refl _) (.refl _)|exact dO (.refl _) (.refl _) (.refl _)) bM))⟩
 simp only[h4,zaE,zaD,if_false];by_cases h5:f=5
 ·simp only[h5,zaC,zaB,if_true];refine⟨(o,i.b),.rfl,⟨trivial⟩, ?_⟩;intro y hy;replace hy:y=fC o i.b:=hy;subst hy;by_cases g:fC o i.b=1
  ·simp only[g,zaC,zaB,if_true];exact⟨iZ (aF (by first|exact cM|exact dG (.refl _)|exact dK (.refl _) (.refl _)|exact dO (.refl _) (.refl _) (.refl _)) (aF (by first|exact cM|exact dG (.refl _)|exact dK (.refl _) (.refl _)|exact dO (.refl _) (.refl _) (.refl _)) bM))⟩
  ·simp only[g,zaE,zaD,if_false];exact⟨iZ (aF (by first|exact cM|exact dG (.refl _)|exact dK (.refl _) (.refl _)|exact dO (.refl _) (.refl _) (.refl _)) (aF (by first|exact cM|exact dG (.refl _)|exact dK (.refl _) (.refl _)|exact dO (.refl _) (.refl _) (.refl _)) bM))⟩
 simp only[h5,zaE,zaD,if_false];by_cases h6:f=6
 ·simp only[h6,zaC,zaB,if_true];refine⟨i,.rfl,⟨trivial⟩, ?_⟩;rintro y rfl;refine⟨(o,aY i),.rfl,⟨by have:=kK (i:=i);exact⟨show(aY i).length<=1000000000 by omega,fun x hx=>(this.2 x hx).2⟩⟩, ?_⟩;intro y hy;replace hy:y=lI o (aY i):=hy;subst hy;cases lI o (aY i)with
  |false=>simp only[zaH,zaB,if_true];exact⟨iZ (aF (by first|exact cM|exact dG (.refl _)|exact dK (.refl _) (.refl _)|exact dO (.refl _) (.refl _) (.refl _)) (aF (by first|exact cM|exact dG (.refl _)|exact dK (.refl _) (.refl _)|exact dO (.refl _) (.refl _) (.refl _)) bM))⟩
  |true =>
   simp only[zaI,zaD,Bool.true_eq_false,if_false];refine⟨(i,o),.rfl, ?_⟩;intro y hy;replace hy:y=gX i o:=hy;subst hy;refine⟨fun e1 => ?_,fun a e1 => ?_,fun a b e1 => ?_⟩
   ·refine⟨(i,o),.rfl, ?_⟩;intro y hy;replace hy:y=gX i o:=hy;subst hy;refine⟨fun e2 => ?_,fun c e2 => ?_,fun c d e2 => ?_⟩
    ·rw[e1];exact⟨iZ (aF (by first|exact cM|exact dG (.refl _)|exact dK (.refl _) (.refl _)|exact dO (.refl _) (.refl _) (.refl _)) (aF (by first|exact cM|exact dG (.refl _)|exact dK (.refl _) (.refl _)|exact dO (.refl _) (.refl _) (.refl _)) bM))⟩
    ·rw[e1]at e2;cases e2
    ·rw[e1]at e2;cases e2
   ·refine⟨(i,o),.rfl, ?_⟩;intro y hy;replace hy:y=gX i o:=hy;subst hy;refine⟨fun e2 => ?_,fun c e2 => ?_,fun c d e2 => ?_⟩
    ·rw[e1]at e2;cases e2
    ·rw[e1]at e2;cases e2;rw[e1];exact⟨iZ (aF (by first|exact cM|exact dG (.refl _)|exact dK (.refl _) (.refl _)|exact dO (.refl _) (.refl _) (.refl _)) (aF (by first|exact cM|exact dG (.refl _)|exact dK (.refl _) (.refl _)|exact dO (.refl _) (.refl _) (.refl _)) bM))⟩
    ·rw[e1]at e2;cases e2
   ·refine⟨(i,o),.rfl, ?_⟩;intro y hy;replace hy:y=gX i o:=hy;subst hy;refine⟨fun e2 => ?_,fun c e2 => ?_,fun c d e2 => ?_⟩
    ·rw[e1]at e2;cases e2
    ·rw[e1]at e2;cases e2
    ·rw[e1]at e2;cases e2;rw[e1];exact⟨iZ (aF (by first|exact cM|exact dG (.refl _)|exact dK (.refl _) (.refl _)|exact dO (.refl _) (.refl _) (.refl _)) (aF (by first|exact cM|exact dG (.refl _)|exact dK (.refl _) (.refl _)|exact dO (.refl _) (.refl _) (.refl _)) bM))⟩
 simp only[h6,zaE,zaD,if_false];by_cases h7:f=7
 ·simp only[h7,zaC,zaB,if_true];exact⟨iZ (aF (by first|exact cM|exact dG (.refl _)|exact dK (.refl _) (.refl _)|exact dO (.refl _) (.refl _) (.refl _)) (aF (by first|exact cM|exact dG (.refl _)|exact dK (.refl _) (.refl _)|exact dO (.refl _) (.refl _) (.refl _)) bM))⟩
 simp only[h7,zaE,zaD,if_false];by_cases h8:f=8
 ·simp only[h8,zaC,zaB,if_true];exact⟨iZ (aF (by first|exact cM|exact dG (.refl _)|exact dK (.refl _) (.refl _)|exact dO (.refl _) (.refl _) (.refl _)) (aF (by first|exact cM|exact dG (.refl _)|exact dK (.refl _) (.refl _)|exact dO (.refl _) (.refl _) (.refl _)) bM))⟩
 simp only[h8,zaE,zaD,if_false];exact⟨iZ (aF (by first|exact cM|exact dG (.refl _)|exact dK (.refl _) (.refl _)|exact dO (.refl _) (.refl _) (.refl _)) (aF (by first|exact cM|exact dG (.refl _)|exact dK (.refl _) (.refl _)|exact dO (.refl _) (.refl _) (.refl _)) bM))⟩
def TT4:Tab:=fW qq kJ [(108,aRE)] [] [(82,a36),(20,aRD)] []
def mM (p:Prog) (i j:Nat):Bool:=decide (j=0)||(List.range i).any (fun m=>decide (bV p m=(j:Int))||(gG (ix p.code m)&&decide (m+1=j/\m+1<p.code.length)))
def rT (p:Prog) (k:Nat):List Int:=((List.range k).filter (mM p p.code.length)).map (fun j:Nat=>(j:Int))
def aM (p:Prog):List Int:=if aL p then rT p p.code.length else []
def bD4:List XV->Option ((XV->Prop)->Prop):=eZ (fun p:Prog=>[aJ p]) (fun p=>p.wf) (fun p=>aM p) (fun y=>aB 1 bJ y)
def ld1 (p:Prog) (g:Nat->Bool) (i:Nat):XSt:=⟨[(4,.int .i64 i),(3,.sl 1 [] 0 0 p.code.length 1),(1,.ptr 0 [] 0)],[(1,some (.tab p.code.length 1 (fun j=>.bool (g j)))),(0,some (aJ p))],2⟩
def ld2 (p:Prog) (g:Nat->Bool) (out:List Int) (i:Nat):XSt:=⟨[(7,.int .i64 i),(6,.sl 2 [] 0 0 out.length 1),(3,.sl 1 [] 0 0 p.code.length 1)],[(2,some (.tab out.length 1 (fun i=>bJ (ix out i)))),(1,some (.tab p.code.length 1 (fun j=>.bool (g j))))],3⟩
theorem a4F (p:Prog) (r:XV):(goQ zPr TT4 [(.tmp 2)] r (.run jQ) [] ⟨kF 0 [aJ p],[],0⟩)=(
 letI q1:XV:=.row true 0 0 fun x=>.unk;
 letI q2:=decide (0<p.code.length);∃(s:Prog),aI [aJ p] [aJ s]/\aN s.wf/\∀(y:Bool),y=aL s->cond (!y) (aA q1 r) (cond (decide (p.code.length
  * 1<=140737488355328)) (cond (decide (0<(↑(p.code.length):Int))) (cond q2 (cond q2 (bX (Ok zPr (Tab.q TT4)) mG (XSt.mk [(4,.int .i64 0),(3,
  .sl 1 [] 0 0 p.code.length 1),(2,q1),(1,.ptr 0 [] 0)] [(1,some (.tab p.code.length 1 fun j=>.bool (cond (Nat.beq j 0) true false))),(0,some (aJ p))] 2) [Frm.blk
  0,Frm.seq jK] (dC [AR.tmp 2] r)) False) False) False) False)):=by kernel_rfl
theorem a4G (p:Prog) (g:Nat->Bool) (i:Nat) (r:XV) (A:XSt->Prop):(goQ zPr TT4 [(.tmp 2)] r (.run mG) [.lp mG A,.blk 0,.seq jK] (ld1 p g i))=(
 letI q1:=decide ((↑i:Int)<(↑(p.code.length):Int));
 letI q2:=fun(y:Int)=>Int.toNat y*1;
 letI q3:=fun(y:Int)=>decide (Int.toNat y<p.code.length);
 letI q4:=cond (gG (ix p.code i)) (gG (ix p.code i)) true;
 letI q5:=IntKind.wrap .i64 ((↑i:Int)+1);
 letI q6:=decide (q5<(↑(p.code.length):Int));
 letI q7:=cond (gG (ix p.code i)) q6 false;
 letI q8:=decide (0<=q5);
 letI q9:=Int.toNat q5;
 letI q10:=q9*1;
 letI q11:=Nat.beq q10 q10;
 letI q12:=decide (q9<p.code.length);
 letI q13:XV:=.sl 1 [] 0 0 p.code.length 1;
 letI q14:List (Nat×XV):=[(4,.int .i64 q5),(3,q13),(1,.ptr 0 [] 0)];
 letI q15:=fun(j:Nat)=>Nat.beq j q9;
 letI q16:List (Nat×Option XV):=[(0,some (aJ p))];
 letI q17:List (Nat×Option XV):=(1,some (.tab p.code.length 1 fun j=>.bool (g j)))::q16;cond q1 (∃(s:Prog×Nat),aI [aJ p,.int .i64 (↑i:Int)] [aJ s.1,
  .int .i64 (↑(s.2):Int)]/\aN (s.1.wf/\s.2<s.1.code.length)/\∀(y:Int),y=bV s.1 s.2->cond (decide (y>=0)) (cond (decide (0<=y)) (cond (decide (y<(↑(p.code.length)
  : Int))) (cond (Nat.beq (q2 y) (q2 y)) (cond (q3 y) (cond (q3 y) (cond q1 (cond q4 (cond q7 (cond q8 (cond q6 (cond q11 (cond q12 (cond q12 (A (XSt.mk
  q14 ((1,some (.tab p.code.length 1 fun j=>.bool (cond (q15 j) true (cond (Nat.beq j (Int.toNat y)) true (g j)))))::q16) 2)) False) False) False) False) False) (A (XSt.mk q14 ((1,some (.tab p.code.length 1 fun j=>.bool (cond (Nat.beq j (Int.toNat y)) true (g j))))::q16) 2))) False) False) False) False) False) False) False) (cond q1 (cond q4 (cond q7 (cond q8 (cond q6 (cond q11 (cond q12 (cond q12 (A (XSt.mk q14 ((1,some (.tab p.code.length
  1 fun j=>.bool (cond (q15 j) true (g j))))::q16) 2)) False) False) False) False) False) (A (XSt.mk q14 q17 2))) False) False)) (bX (Ok zPr
  (Tab.q TT4)) mH (XSt.mk [(7,.int .i64 0),(6,.row true 0 0 fun x=>.unk),(3,q13)] q17 2) [Frm.blk 2,Frm.seq qN] (dC [AR.tmp 2] r))):=by kernel_rfl
theorem a4H (p:Prog) (g:Nat->Bool) (out:List Int) (i:Nat) (r:XV) (A:XSt->Prop):(goQ zPr TT4 [(.tmp 2)] r (.run mH) [.lp mH A,.blk 2,.seq qN] (ld2 p g out i))=(
 letI q1:=decide ((↑i:Int)<(↑(p.code.length):Int));
 letI q2:=i*1;
 letI q3:=decide (out.length<=out.length);
 letI q4:XV:=.int .i64 (IntKind.wrap .i64 ((↑i:Int)+1));
 letI q5:List (Nat×XV):=[(3,.sl 1 [] 0 0 p.code.length 1)];
 letI q6:List (Nat×Option XV):=[(1,some (.tab p.code.length 1 fun j=>.bool (g j)))];cond q1 (cond q1 (cond (Nat.beq q2 q2) (cond (decide (i<p.code.length)) (cond (g
  i) (cond q3 (cond (decide (pl out.length 1*8<=140737488355328)) (A (XSt.mk ((7,q4)::(6,.sl 3 [] 0 0 (pl out.length 1) 1)::q5) ((3,some (.tab (pl out.length 1) 1 fun
  i_1=>.int .i64 (cond (decide (i_1<out.length)) (ix out i_1) (↑i:Int))))::(2,none)::q6) 4)) False) False) (A (XSt.mk ((7,q4)::(6,.sl 2 [] 0 0 out.length
  1)::q5) ((2,some (.tab out.length 1 fun i=>bJ (ix out i)))::q6) 3))) False) False) False) (cond q3 (aA (aB 1 bJ out) r) False)):=by kernel_rfl
theorem aZE:bT zPr TT4:=bQ iR ⟨a4B,trivial⟩ trivial ⟨aRC,aDT,trivial⟩ trivial
theorem aRG {p:Prog} {n:Nat} (h:0<=bV p n):bV p n<p.code.length:=by
 unfold bV at h ⊢;split at h
 ·omega
 ·rename_i hn;rw[if_neg hn];omega
theorem yT {p:Prog} {i j:Nat}:mM p (i+1) j=(mM p i j||(decide (bV p i=(j:Int))||(gG (ix p.code i)&&decide (i+1=j/\i+1<p.code.length)))):=by unfold mM;rw[List.range_succ,List.any_append];simp[Bool.or_assoc]
theorem aRH {p:Prog} {k:Nat}:rT p (k+1)=if mM p p.code.length k then rT p k++[(k:Int)]else rT p k:=by unfold rT;rw[List.range_succ,List.filter_append,List.map_append];cases h:mM p p.code.length k<;>simp[h]
theorem aJ9 {p:Prog} {k:Nat}:(rT p k).length<=k:=by unfold rT;rw[List.length_map];have:=List.length_filter_le (mM p p.code.length) (List.range k);simpa using this
theorem bAB:eV zPr (80,bD4):=bB fun p hw=>by
 have hw:p.wf:=hw;have hl:=hw.1.2;refine j9 mix aZE vP (Nat.le_of_ble_eq_true rfl) ?_;refine Eq.mpr (a4F p _) ?_;refine⟨p,.rfl,⟨hw⟩, ?_⟩;rintro y rfl;unfold aM;cases hr:aL p with
 |false=>exact⟨cM⟩
 |true =>
  have hn:1<=p.code.length/\p.code.length<=2000:=by simp only[aL,zaG,zaK]at hr;exact⟨hr.1.1,hr.1.2.1⟩
  have b1:p.code.length*1<=140737488355328:=by omega
  have b2:(0:Int)<(p.code.length:Int):=by omega
  have b3:0<p.code.length:=by omega
  simp only[zaI,zaD,b1,b2,b3,zaC,zaB,if_true];refine gT mix aZE (fun i:Nat=>ld1 p (mM p i) i) (fun i=>i<=p.code.length) (fun i=>p.code.length-i) 0 (Nat.zero_le _) (.of (dL ⟨rfl,rfl,rfl,trivial⟩ ⟨congrArg some (qK fun j hj=>aOO ?_),rfl,trivial⟩ (zaF _))) ?_
  ·rw[yS];simp[mM]
  intro i hi;refine Eq.mpr (a4G p _ i _ _) ?_;by_cases hlt:i<p.code.length
  ·have h1:(i:Int)<(p.code.length:Int):=by omega
   have w1:IntKind.i64.wrap ((i:Int)+1)=((i+1:Nat):Int):=wrap_i64 (by omega) (by omega);have h0:(0:Int)<=((i+1:Nat):Int):=by omega
   simp only[g1,g2,g3,g4,g5,g6,g7,aD,zaB,zaF,zaC,cC,h1,w1,h0,zaO,zaQ];refine⟨(p,i),.rfl,⟨hw,hlt⟩, ?_⟩;intro y hy;replace hy:y=bV p i:=hy;subst hy;have next:∀ g:Nat->Bool,(∀ j,j<p.code.length->g j=mM p (i+1) j)->∃ j,j<=p.code.length/\cJ 2 (XSt.st (XSt.mk [(4,.int .i64 ((i+1:Nat):Int)),(3,.sl 1 [] 0 0 p.code.length 1),(1,.ptr 0 [] 0)] [(1,some (.tab p.code.length 1 fun j=>.bool (g j))),(0,some (aJ p))] 2)) (ld1 p (mM p j) j).st/\p.code.length-j<p.code.length-i:=fun g hg=>by refine⟨i+1,hlt,.of (dL ⟨rfl,rfl,rfl,trivial⟩ ⟨congrArg some (qK fun j hj=>aOO (hg j hj)),rfl,trivial⟩ (zaF _)),by omega⟩
   have tt:0<=bV p i->∀ j:Nat,decide (j=(bV p i).toNat)=decide (bV p i=(j:Int)):=fun h j=>by rw[decide_eq_decide];omega
   have tn:¬0<=bV p i->∀ j:Nat,decide (bV p i=(j:Int))=false:=fun h j=>decide_eq_false (by omega)
   by_cases hy:0<=bV p i
   ·have hy2:bV p i>=0:=hy;have hy3:=aRG hy;have hy4:(bV p i).toNat<p.code.length:=by omega
    simp only[hy,hy2,hy3,hy4,zaC,zaB];simp only[tD];by_cases he:gG (ix p.code i)=true/\i+1<p.code.length
    ·have he2:((i+1:Nat):Int)<(p.code.length:Int):=by omega
     simp only[he.1,he.2,he2,zaC,zaS,zaB];refine next _ fun j hj => ?_
     rw[yT,he.1,yS,yS,tt hy];simp only[bor,he.2,and_true];rw[show decide (j=i+1)=decide (i+1=j) from by rw[decide_eq_decide];omega];cases mM p i j<;>cases decide (i+1=j)<;>cases decide (bV p i=(j:Int))<;>rfl
    ·have he2:(gG (ix p.code i)&&decide (((i+1:Nat):Int)<(p.code.length:Int)))=false:=by
      rw[zaW,zaP];by_cases h:gG (ix p.code i)=true
      ·exact .inr fun h2=>he ⟨h,by omega⟩
      ·exact .inl (by simpa using h)
     simp only[he2,zaD];refine next _ fun j hj => ?_
     have he3:(gG (ix p.code i)&&decide (i+1=j/\i+1<p.code.length))=false:=by
      rw[zaW,zaP];by_cases h:gG (ix p.code i)=true
      ·exact .inr fun h2=>he ⟨h,h2.2⟩
      ·exact .inl (by simpa using h)
     rw[yT,he3,yS,tt hy];simp only[bor];cases mM p i j<;>cases decide (bV p i=(j:Int))<;>rfl
   ·have hy2:¬bV p i>=0:=hy;simp only[hy2,zaE,zaD];simp only[tD];by_cases he:gG (ix p.code i)=true/\i+1<p.code.length
    ·have he2:((i+1:Nat):Int)<(p.code.length:Int):=by omega
     simp only[he.1,he.2,he2,zaC,zaS,zaB];refine next _ fun j hj => ?_
     rw[yT,he.1,yS,tn hy];simp only[bor,he.2,and_true];rw[show decide (j=i+1)=decide (i+1=j) from by rw[decide_eq_decide];omega];cases mM p i j<;>cases decide (i+1=j)<;>rfl
    ·have he2:(gG (ix p.code i)&&decide (((i+1:Nat):Int)<(p.code.length:Int)))=false:=by
      rw[zaW,zaP];by_cases h:gG (ix p.code i)=true
      ·exact .inr fun h2=>he ⟨h,by omega⟩
      ·exact .inl (by simpa using h)
     simp only[he2,zaD];refine next _ fun j hj => ?_
     have he3:(gG (ix p.code i)&&decide (i+1=j/\i+1<p.code.length))=false:=by
      rw[zaW,zaP];by_cases h:gG (ix p.code i)=true
      ·exact .inr fun h2=>he ⟨h,h2.2⟩
      ·exact .inl (by simpa using h)
     rw[yT,he3,tn hy];cases mM p i j<;>rfl
  ·have h1:¬(i:Int)<(p.code.length:Int):=by omega
   simp only[h1,zaE,zaD];obtain rfl:i=p.code.length:=by omega
   refine gT mix aZE (fun k:Nat=>ld2 p (mM p p.code.length) (rT p k) k) (fun k=>k<=p.code.length) (fun k=>p.code.length-k) 0 (Nat.zero_le _) (rN [(0,0),(1,1)] rfl rfl rfl rfl rfl ⟨aH rfl rfl,wW rfl,.sl rfl,trivial⟩ ⟨⟨1,rfl⟩,.same rfl,trivial⟩) ?_;intro k hk;refine Eq.mpr (a4H p _ _ k _ _) ?_;have hkl:=aJ9 (p:=p) (k:=k);by_cases hlt2:k<p.code.length
   ·have h2:(k:Int)<(p.code.length:Int):=by omega
    have w1:IntKind.i64.wrap ((k:Int)+1)=((k+1:Nat):Int):=wrap_i64 (by omega) (by omega);have b:((rT p k).length+1)*8<=140737488355328:=by omega
    have st:=aRH (p:=p) (k:=k);simp only[g1,g2,g3,g4,g5,g6,g7,aD,zaB,zaF,zaC,cC,h2,hlt2,w1,b,zaQ];refine kX (fun h => ?_) (fun h => ?_)
    ·rw[if_pos h]at st;refine⟨k+1,hlt2, ?_,by omega⟩;rw[st];unfold ld2;rw[bD];exact rN [(0,0),(1,1),(2,3)] rfl rfl rfl rfl rfl ⟨aH rfl rfl,.sl rfl,.sl rfl,trivial⟩ ⟨aOR (fun i hi=>by simp only[hi,zaC,zaB];rfl) (by simp;rfl) rfl,.same rfl,trivial⟩
    ·rw[if_neg (by rw[h];simp)]at st;refine⟨k+1,hlt2, ?_,by omega⟩;rw[st];exact .of (dL ⟨rfl,rfl,rfl,trivial⟩ ⟨rfl,rfl,trivial⟩ (zaF _))
   ·have h2:¬(k:Int)<(p.code.length:Int):=by omega
    simp only[h2,zaE,zaD,g1,g2,g3,g4,g5,g6,g7,aD,zaB,zaF,zaC,cC];obtain rfl:k=p.code.length:=by omega
    exact .rfl
def TT5:Tab:=fW qq kJ [] [] [(82,a36),(80,bD4),(81,aZB)] []
def pL (b:Block):XV:=.agg 6 [.int .i64 b.src,.int .i64 b.dst,.int .i64 b.next,.int .i64 b.taken,.row true 0 0 (fun _=>.unk),.row true 0 0 (fun _=>.unk)]
def cU (p:Prog) (l:List Int) (i:Nat):Int:=if i+1<l.length then ix l (i+1)else p.code.length
def vS (p:Prog) (l:List Int) (i:Nat):Int:=if ¬(ix p.code (cU p l i-1).toNat).op=40/\¬(ix p.code (cU p l i-1).toNat).op=41 then findF l (cU p l i)else -1
def rU (p:Prog) (l:List Int) (i:Nat):Int:=if bV p (cU p l i-1).toNat>=0 then findF l (bV p (cU p l i-1).toNat)else -1
def tG (p:Prog) (l:List Int) (i:Nat):Block:=⟨ix l i,cU p l i,vS p l i,rU p l i,[],[]⟩
def rE (p:Prog) (l:List Int) (k:Nat):List Block:=(List.range k).map (tG p l)
def xC (p:Prog):List Block:=rE p (aM p) (aM p).length
def ctS (p:Prog) (l:List Int) (out:List Block) (i:Nat):XSt:=⟨[(5,.int .i64 i),(4,.sl 1 [] 0 0 out.length 6),(3,aB 1 bJ l),(1,.ptr 0 [] 0)],[(1,some (.tab out.length 6 (fun i=>pL (ix out i)))),(0,some (aJ p))],2⟩
def bD5:List XV->XSt->Option ((XV->XSt->Prop)->Prop):=aYZ (fun p:Prog=>[aJ p]) (fun p=>p.wf) (fun p=>xC p) (fun n y=>.sl n [] 0 0 y.length 6) (fun y=>.tab y.length 6 (fun i=>pL (ix y i)))
theorem bAC (p:Prog) (r t:XV):(goM zPr TT5 [(.tmp 2)] r t (.run oZ) [] ⟨kF 0 [aJ p],[],0⟩)=(
 letI q1:XV:=.row true 0 0 fun x=>.unk;∃(s:Prog),aI [aJ p] [aJ s]/\aN s.wf/\∀(y:List Int),y=aM s->bX (Ok zPr (Tab.q TT5)) qM
  (XSt.mk [(5,.int .i64 0),(4,q1),(3,aB 1 bJ y),(2,q1),(1,.ptr 0 [] 0)] [(0,some (aJ p))] 1) [Frm.blk 0,Frm.seq wZ] (aOQ [AR.tmp 2] r t)):=by kernel_rfl
theorem bAD (p:Prog) (l:List Int) (out:List Block) (i:Nat) (r t:XV) (A:XSt->Prop):(goM zPr TT5 [(.tmp 2)] r t (.run qM) [.lp qM A,.blk 0,.seq wZ] (ctS p l out i))=(
 let q1:=decide ((↑i:Int)<(↑(l.length):Int));
 let q2:=IntKind.wrap .i64 ((↑i:Int)+1);
 let q3:=decide (q2<(↑(l.length):Int));
 let q4:=ix l (Int.toNat q2);
 let q5:=IntKind.wrap .i64 (q4-1);
 let q6:Ins:=ix p.code (Int.toNat q5);
 let q7:=q6.op;
 let q8:=q7=40;
 let q9:=decide ¬q8;
 let q10:=q7=41;
 let q11:XV:=.int .i64 q4;
 let q12:List Int×Int->List XV:=fun s=>[aB 1 bJ s.1,.int .i64 s.2];
 let q13:List Int×Int->Prop:=fun s=>aN (s.1.length<=1000000000);
 let q14:Int->List Int×Int->Prop:=fun y s=>y=findF s.1 s.2;
 let q15:Prog×Nat->List XV:=fun s=>[aJ s.1,.int .i64 (↑(s.2):Int)];
 let q16:Prog×Nat->Prop:=fun s=>aI [aJ p,.int .i64 q5] (q15 s);
 let q17:Prog×Nat->Prop:=fun s=>aN (s.1.wf/\s.2<s.1.code.length);
 let q18:Int->Prog×Nat->Prop:=fun y s=>y=bV s.1 s.2;
 let q19:=fun(y:Int)=>decide (y>=0);
 let q20:Int->List Int×Int->Prop:=fun y s=>aI [aB 1 bJ l,.int .i64 y] (q12 s);
 let q21:=decide (out.length<=out.length);
 let q22:=decide (pl out.length 1*80<=140737488355328);
 let q23:List (Nat×XV):=[(3,aB 1 bJ l),(1,.ptr 0 [] 0)];
 let q24:List (Nat×XV):=(5,.int .i64 q2)::(4,.sl 4 [] 0 0 (pl out.length 1) 6)::q23;
 let q25:=fun(i:Nat)=>decide (i<out.length);
 let q26:Nat->XV:=fun i_1=>.int .i64 (cond (q25 i_1) ((ix out i_1).src) (ix l i));
 let q27:Nat->XV:=fun i=>.int .i64 (cond (q25 i) ((ix out i).dst) q4);
 let q28:Nat->Int->XV:=fun i y=>.int .i64 (cond (q25 i) ((ix out i).next) y);
 let q29:Nat->XV:=fun i=>.row (cond (q25 i) true true) 0 (cond (q25 i) 0 0) fun i_1=>XV.raw (cond (q25 i) (con .unk) (con ((fun x=>.unk) i_1)));
 let q30:Nat->List XV:=fun i=>[q29 i,q29 i];
 let q31:Nat->Int->List XV:=fun i y=>.int .i64 (cond (q25 i) ((ix out i).taken) y)::q30 i;
 let q32:Nat->Int->Int->List XV:=fun i y y_1=>q28 i y::q31 i y_1;
 let q33:XV:=cT q6;
 let q34:XV:=.row true 0 0 fun x=>.unk;
 let q35:List XV:=[q34,q34];
 let q36:Int->List XV:=fun y=>.int .i64 y::q35;
 let q37:Int->Int->List XV:=fun y y_1=>.int .i64 y::q36 y_1;
 let q38:List (Nat×Option XV):=[(0,some (aJ p))];
 let q39:List (Nat×Option XV):=(1,none)::q38;
 let q40:Nat->List XV:=fun i=>.int .i64 (cond (q25 i) ((ix out i).taken) (-1:Int))::q30 i;
 let q41:Nat->Int->List XV:=fun i y=>q28 i y::q40 i;
 let q42:List XV:=.int .i64 (-1:Int)::q35;
 let q43:Int->List XV:=fun y=>.int .i64 y::q42;
 let q44:Nat->XV:=fun i=>.int .i64 (cond (q25 i) ((ix out i).next) (-1:Int));
 let q45:Nat->Int->List XV:=fun i y=>q44 i::q31 i y;
 let q46:Int->List XV:=fun y=>.int .i64 (-1:Int)::q36 y;
 let q47:Nat->List XV:=fun i=>q44 i::q40 i;
 let q48:List XV:=.int .i64 (-1:Int)::q42;
 let q49:=IntKind.wrap .i64 ((↑(p.code.length):Int)-1);
 let q50:Ins:=ix p.code (Int.toNat q49);
 let q51:=q50.op;
 let q52:=q51=40;
 let q53:=decide ¬q52;
 let q54:=q51=41;
 let q55:Prog×Nat->Prop:=fun s=>aI [aJ p,.int .i64 q49] (q15 s);
 let q56:Nat->XV:=fun i=>.int .i64 (cond (q25 i) ((ix out i).dst) (↑(p.code.length):Int));
 let q57:XV:=cT q50;
 let q58:XV:=.sl 1 [] 0 0 out.length 6;cond q1 (cond q1 (cond q3 (cond (decide (0<=q2)) (cond q3 (cond (decide (0<=q5)) (cond (decide (q5<(↑(p.code.length):Int))) (cond (cond q9 q9 true) (cond (cond q9 (decide ¬q10) false) (∃(s:List Int×Int),aI [aB 1 bJ l,q11] (q12 s)/\q13 s/\∀(y:Int),q14 y s->∃(s
  : Prog×Nat),q16 s/\q17 s/\∀(y_1:Int),q18 y_1 s->cond (q19 y_1) (∃(s:List Int×Int),q20 y_1 s/\q13 s/\∀(y_2:Int),q14 y_2 s->cond q21 (cond q22 (A (XSt.mk
  q24 ((4,some (.tab (pl out.length 1) 6 fun i=>.agg 6 (q26 i::q27 i::q32 i y y_2)))::(3,some q33)::(2,some (.agg 6 (.int .i64 (ix l i)::q11::q37 y y_2)))::q39) 5)) False) False) (cond q21 (cond q22 (A (XSt.mk q24 ((4,some (.tab (pl out.length 1) 6 fun i=>.agg 6 (q26 i::q27 i::q41 i y)))::(3,some q33)::(2,some (.agg
  6 (.int .i64 (ix l i)::q11::q43 y)))::q39) 5)) False) False)) (∃(s:Prog×Nat),q16 s/\q17 s/\∀(y:Int),q18 y s->cond (q19 y) (∃(s:List Int×Int),q20
  y s/\q13 s/\∀(y:Int),q14 y s->cond q21 (cond q22 (A (XSt.mk q24 ((4,some (.tab (pl out.length 1) 6 fun i=>.agg 6 (q26 i::q27 i::q45 i y)))::(3,some q33)::(2,
  some (.agg 6 (.int .i64 (ix l i)::q11::q46 y)))::q39) 5)) False) False) (cond q21 (cond q22 (A (XSt.mk q24 ((4,some (.tab (pl out.length 1) 6 fun i=>.agg 6
  (q26 i::q27 i::q47 i)))::(3,some q33)::(2,some (.agg 6 (.int .i64 (ix l i)::q11::q48)))::q39) 5)) False) False))) False) False) False) False) False) (cond (decide (0<=q49)) (cond (decide (q49<(↑(p.code.length):Int))) (cond (cond q53 q53 true) (cond (cond q53 (decide ¬q54) false) (∃(s:List Int
  × Int),aI [aB 1 bJ l,.int .i64 (↑(p.code.length):Int)] (q12 s)/\q13 s/\∀(y:Int),q14 y s->∃(s:Prog×Nat),q55 s/\q17 s/\∀(y_1:Int),q18 y_1 s->cond (q19
  y_1) (∃(s:List Int×Int),q20 y_1 s/\q13 s/\∀(y_2:Int),q14 y_2 s->cond q21 (cond q22 (A (XSt.mk q24 ((4,some (.tab (pl out.length 1) 6 fun i=>.agg 6 (q26 i ::
  q56 i::q32 i y y_2)))::(3,some q57)::(2,some (.agg 6 (.int .i64 (ix l i)::.int .i64 (↑(p.code.length):Int)::q37 y y_2)))::q39) 5)) False) False) (cond q21 (cond q22 (A (XSt.mk q24 ((4,some (.tab (pl out.length 1) 6 fun i=>.agg 6 (q26 i::q56 i::q41 i y)))::(3,some q57)::(2,some (.agg 6 (.int .i64 (ix l i)::.int .i64
  (↑(p.code.length):Int)::q43 y)))::q39) 5)) False) False)) (∃(s:Prog×Nat),q55 s/\q17 s/\∀(y:Int),q18 y s->cond (q19 y) (∃(s:List Int×Int),q20 y s
  /\ q13 s/\∀(y:Int),q14 y s->cond q21 (cond q22 (A (XSt.mk q24 ((4,some (.tab (pl out.length 1) 6 fun i=>.agg 6 (q26 i::q56 i::q45 i y)))::(3,some q57)::(2,some
  (.agg 6 (.int .i64 (ix l i)::.int .i64 (↑(p.code.length):Int)::q46 y)))::q39) 5)) False) False) (cond q21 (cond q22 (A (XSt.mk q24 ((4,some (.tab (pl out.length
  1) 6 fun i=>.agg 6 (q26 i::q56 i::q47 i)))::(3,some q57)::(2,some (.agg 6 (.int .i64 (ix l i)::.int .i64 (↑(p.code.length):Int)::q48)))::q39) 5)) False) False))) False) False) False)) False) (eB q58 (XSt.mk ((2,q58)::(71,q58)::(14,.bool q1)::(13,.int .i64 (↑(l.length):Int))::(12,aB 1 bJ l) ::
  (11,.int .i64 (↑i:Int))::(5,.int .i64 (↑i:Int))::(4,q58)::q23) ((1,some (.tab out.length 6 fun i=>pL (ix out i)))::q38) 2) r t)):=by kernel_rfl
theorem a7R:bT zPr TT5:=bQ iR trivial trivial ⟨aRC,bAB,aTF,trivial⟩ trivial
theorem aOV {p:Prog} {k:Nat}:(∀ x∈rT p k,0<=x/\x<k)/\(rT p k).Pairwise (· < ·):=by
 unfold rT;refine⟨fun x hx => ?_, ?_⟩
 ·obtain⟨j,hj,rfl⟩:=List.mem_map.1 hx;have:=List.mem_range.1 (List.mem_filter.1 hj).1;omega
 ·rw[List.pairwise_map];refine((List.pairwise_lt_range (n:=k)).filter _).imp fun h => ?_
  omega
theorem mB {p:Prog}:(∀ x∈aM p,0<=x/\x<p.code.length)/\(aM p).Pairwise (· < ·)/\(aM p).length<=2000:=by
 unfold aM;cases hr:aL p with
 |false=>exact⟨fun x hx=>(by cases hx),.nil,Nat.zero_le _⟩
 |true => simp only[aL,zaG,zaK]at hr;have:=aJ9 (p:=p) (k:=p.code.length);exact⟨aOV.1,aOV.2,show(rT p p.code.length).length<=2000 by omega⟩
theorem aOW {l:List Int} (h:l.Pairwise (· < ·)) {i j:Nat} (hij:i<j) (hj:j<l.length):ix l i<ix l j:=by rw[gW (by omega),gW hj];exact List.pairwise_iff_getElem.1 h i j (by omega) hj hij
theorem xD {p:Prog} {i:Nat} (h:i<(aM p).length):1<=cU p (aM p) i/\cU p (aM p) i<=p.code.length/\ix (aM p) i<cU p (aM p) i:=by
 have ok:=mB (p:=p);have h1:=ok.1 _ (cA h);unfold cU;split
 ·rename_i h2;have h3:=aOW ok.2.1 (Nat.lt_succ_self i) h2;have h4:=ok.1 _ (cA h2);have h3:ix (aM p) i<ix (aM p) (i+1):=h3;omega
 ·omega
theorem aV8 {p:Prog} {l:List Int} {k:Nat}:rE p l (k+1)=rE p l k++[tG p l k]:=by unfold rE;rw[List.range_succ,List.map_append];rfl
theorem aB4 {p:Prog} {l:List Int} {k:Nat}:(rE p l k).length=k:=by simp[rE]
theorem bAE:aYG zPr qq (33,bD5):=aLS (fun n y=>rfl) fun p hw=>by
 have hw:p.wf:=hw;have hl:=hw.1.2;refine a7L mix a7R aEY (Nat.le_of_ble_eq_true rfl) (rJ _ (dH.2 fun i _=>rfl)) rfl ?_;refine Eq.mpr (bAC p _ _) ?_;refine⟨p,.rfl,⟨hw⟩, ?_⟩;rintro l rfl;unfold xC;have hok:=mB (p:=p);have hto:∀ i,i<(aM p).length->1<=cU p (aM p) i/\cU p (aM p) i<=p.code.length:=fun i hi=>⟨(xD hi).1,(xD hi).2.1⟩
 generalize aM p=l at *;refine bDV mix a7R (fun k:Nat=>ctS p l (rE p l k) k) (fun k=>k<=l.length) (fun k=>l.length-k) 0 (Nat.zero_le _) (rN [(0,0)] rfl rfl rfl rfl rfl ⟨aH rfl rfl,wW rfl,aH rfl rfl,.ptr rfl,trivial⟩ ⟨⟨6,rfl⟩,.same rfl,trivial⟩) ?_;intro i hi;refine Eq.mpr (bAD p l _ i _ _ _) ?_;have hkl:=aB4 (p:=p) (l:=l) (k:=i);by_cases hlt:i<l.length
 ·have h1:(i:Int)<(l.length:Int):=by omega
  have w1:IntKind.i64.wrap ((i:Int)+1)=((i+1:Nat):Int):=wrap_i64 (by omega) (by omega);obtain⟨t1,t2⟩:=hto i hlt;have w2:IntKind.i64.wrap (cU p l i-1)=(((cU p l i-1).toNat:Nat):Int):=by rw[wrap_i64 (by omega) (by omega)];omega
  have t3:(cU p l i-1).toNat<p.code.length:=by omega
  have t4:(0:Int)<=(((cU p l i-1).toNat:Nat):Int):=by omega
  have t5:(((cU p l i-1).toNat:Nat):Int)<(p.code.length:Int):=by omega
  have st:=aV8 (p:=p) (l:=l) (k:=i);have b:(i+1)*80<=140737488355328:=by omega
  have next:∀(f:Nat->XV) (h2 h3:XV),(∀ j,j<i->con (f j)=con (pL (ix (rE p l i) j)))->con (f i)=con (pL (tG p l i)) ->
    ∃ j,j<=l.length/\cJ 1 (XSt.st (XSt.mk [(5,.int .i64 ((i+1:Nat):Int)),(4,.sl 4 [] 0 0 (i+1) 6),(3,aB 1 bJ l),(1,.ptr 0 [] 0)] [(4,some (.tab (i+1) 6 f)),(3,some h3),(2,some h2),(1,none),(0,some (aJ p))] 5)) (ctS p l (rE p l j) j).st/\l.length-j<l.length-i:=fun f h2 h3 e1 e2=>by
   refine⟨i+1,hlt, ?_,by omega⟩;rw[st];unfold ctS;rw[bD];have e1':∀ j,j<(rE p l i).length->con (f j)=con (pL (ix (rE p l i) j)):=fun j hj=>e1 j (by omega)
   have e2':con (f (rE p l i).length)=con (pL (tG p l i)):=by rw[hkl];exact e2
   have:=aOR (κ:=kap [(0,0),(1,4)]) (es:=6) (f:=f) (en:=pL) (l:=rE p l i) (x:=tG p l i) e1' e2' rfl;rw[hkl]at this ⊢;exact rN [(0,0),(1,4)] rfl rfl rfl rfl rfl ⟨aH rfl rfl,.sl rfl,aH rfl rfl,.ptr rfl,trivial⟩ ⟨this,.same rfl,trivial⟩
  have fin:∀(to nx tk:Int) (f:Nat->XV),cU p l i=to->vS p l i=nx->rU p l i=tk->(∀ j,f j=.agg 6 [.int .i64 (cond (decide (j<i)) ((ix (rE p l i) j).src) (ix l i)),.int .i64 (cond (decide (j<i)) ((ix (rE p l i) j).dst) to),.int .i64 (cond (decide (j<i)) ((ix (rE p l i) j).next) nx),.int .i64 (cond (decide (j<i)) ((ix (rE p l i) j).taken) tk),.row (cond (decide (j<i)) true true) 0 (cond (decide (j<i)) 0 0) (fun i_2=>.raw (cond (decide (j<i)) (con .unk) (con ((fun _=>XV.unk) i_2)))),.row (cond (decide (j<i)) true true) 0 (cond (decide (j<i)) 0 0) (fun i_2=>.raw (cond (decide (j<i)) (con .unk) (con ((fun _=>XV.unk) i_2))))]) ->
    (∀ j,j<i->con (f j)=con (pL (ix (rE p l i) j)))/\con (f i)=con (pL (tG p l i)):=fun to nx tk f e1 e2 e3 e4=>by
   refine⟨fun j hj => ?_, ?_⟩
   ·rw[e4];simp only[hj,zaC,zaB];rfl
   ·rw[e4];simp only[Nat.lt_irrefl,zaE,zaD];unfold tG;rw[e1,e2,e3];rfl
  have nx1:¬(ix p.code (cU p l i-1).toNat).op=40/\¬(ix p.code (cU p l i-1).toNat).op=41->vS p l i=findF l (cU p l i):=fun h=>by unfold vS;rw[if_pos h]
  have nx2:¬(¬(ix p.code (cU p l i-1).toNat).op=40/\¬(ix p.code (cU p l i-1).toNat).op=41)->vS p l i = -1:=fun h=>by unfold vS;rw[if_neg h]
  have tk1:bV p (cU p l i-1).toNat>=0->rU p l i=findF l (bV p (cU p l i-1).toNat):=fun h=>by unfold rU;rw[if_pos h]
  have tk2:¬bV p (cU p l i-1).toNat>=0->rU p l i = -1:=fun h=>by unfold rU;rw[if_neg h]
  have hl9:l.length<=1000000000:=by omega
  have cases2:∀(Y N:Prop),(¬(ix p.code (cU p l i-1).toNat).op=40/\¬(ix p.code (cU p l i-1).toNat).op=41->Y)->(¬(¬(ix p.code (cU p l i-1).toNat).op=40/\¬(ix p.code (cU p l i-1).toNat).op=41)->N)->cond (cond (decide (¬(ix p.code (cU p l i-1).toNat).op=40)) (decide (¬(ix p.code (cU p l i-1).toNat).op=41)) false) Y N:=fun Y N hY hN=>by
   rw[tD];refine kX (fun h=>hY ?_) (fun h=>hN fun g => ?_)
   ·simpa [zaG,zaK]using h
   ·rw[decide_eq_true g.1,decide_eq_true g.2]at h;cases h
  by_cases ht:i+1<l.length
  ·have ht':((i+1:Nat):Int)<(l.length:Int):=by omega
   have ht0:(0:Int)<=((i+1:Nat):Int):=by omega
   have eT:ix l (i+1)=cU p l i:=by unfold cU;rw[if_pos ht]
   simp only[g1,g2,g3,g4,g5,g6,g7,aD,zaB,zaF,zaC,cC,h1,w1,ht',ht0,zaO,eT,w2,t4,t5,hkl,b];refine cases2 _ _ (fun hY => ?_) (fun hN => ?_)
   ·refine⟨(l,cU p l i),.rfl,⟨hl9⟩,fun y hy => ?_⟩;replace hy:y=findF l (cU p l i):=hy;subst hy;refine⟨(p,(cU p l i-1).toNat),.rfl,⟨hw,t3⟩,fun y hy => ?_⟩;replace hy:y=bV p (cU p l i-1).toNat:=hy;subst hy;refine kX (fun g => ?_) (fun g => ?_)<;>simp only[zaK,zaP]at g
    ·refine⟨(l,_),.rfl,⟨hl9⟩,fun y hy => ?_⟩;replace hy:y=findF l (bV p (cU p l i-1).toNat):=hy;subst hy;obtain⟨q1,q2⟩:=fin _ _ _ _ rfl (nx1 hY) (tk1 g) (fun _=>rfl);exact next _ _ _ q1 q2
    ·obtain⟨q1,q2⟩:=fin _ _ _ _ rfl (nx1 hY) (tk2 g) (fun _=>rfl);exact next _ _ _ q1 q2
   ·refine⟨(p,(cU p l i-1).toNat),.rfl,⟨hw,t3⟩,fun y hy => ?_⟩;replace hy:y=bV p (cU p l i-1).toNat:=hy;subst hy;refine kX (fun g => ?_) (fun g => ?_)<;>simp only[zaK,zaP]at g
    ·refine⟨(l,_),.rfl,⟨hl9⟩,fun y hy => ?_⟩;replace hy:y=findF l (bV p (cU p l i-1).toNat):=hy;subst hy;obtain⟨q1,q2⟩:=fin _ _ _ _ rfl (nx2 hN) (tk1 g) (fun _=>rfl);exact next _ _ _ q1 q2
    ·obtain⟨q1,q2⟩:=fin _ _ _ _ rfl (nx2 hN) (tk2 g) (fun _=>rfl);exact next _ _ _ q1 q2
  ·have ht':¬((i+1:Nat):Int)<(l.length:Int):=by omega
   have eT:(p.code.length:Int)=cU p l i:=by unfold cU;rw[if_neg ht]
   have eN:IntKind.i64.wrap ((p.code.length:Int)-1)=(((cU p l i-1).toNat:Nat):Int):=by rw[eT];exact w2
   simp only[g1,g2,g3,g4,g5,g6,g7,aD,zaB,zaF,zaC,cC,h1,w1,ht',zaE,zaD,eN,zaO,t4,t5,hkl,b];refine cases2 _ _ (fun hY => ?_) (fun hN => ?_)
   ·refine⟨(l,p.code.length),.rfl,⟨hl9⟩,fun y hy => ?_⟩;replace hy:y=findF l (p.code.length:Int):=hy;rw[eT]at hy;subst hy;refine⟨(p,(cU p l i-1).toNat),.rfl,⟨hw,t3⟩,fun y hy => ?_⟩;replace hy:y=bV p (cU p l i-1).toNat:=hy;subst hy;refine kX (fun g => ?_) (fun g => ?_)<;>simp only[zaK,zaP]at g
    ·refine⟨(l,_),.rfl,⟨hl9⟩,fun y hy => ?_⟩;replace hy:y=findF l (bV p (cU p l i-1).toNat):=hy;subst hy;obtain⟨q1,q2⟩:=fin _ _ _ _ eT.symm (nx1 hY) (tk1 g) (fun _=>rfl);exact next _ _ _ q1 q2
    ·obtain⟨q1,q2⟩:=fin _ _ _ _ eT.symm (nx1 hY) (tk2 g) (fun _=>rfl);exact next _ _ _ q1 q2
   ·refine⟨(p,(cU p l i-1).toNat),.rfl,⟨hw,t3⟩,fun y hy => ?_⟩;replace hy:y=bV p (cU p l i-1).toNat:=hy;subst hy;refine kX (fun g => ?_) (fun g => ?_)<;>simp only[zaK,zaP]at g
    ·refine⟨(l,_),.rfl,⟨hl9⟩,fun y hy => ?_⟩;replace hy:y=findF l (bV p (cU p l i-1).toNat):=hy;subst hy;obtain⟨q1,q2⟩:=fin _ _ _ _ eT.symm (nx2 hN) (tk1 g) (fun _=>rfl);exact next _ _ _ q1 q2
    ·obtain⟨q1,q2⟩:=fin _ _ _ _ eT.symm (nx2 hN) (tk2 g) (fun _=>rfl);exact next _ _ _ q1 q2
 ·have h1:¬(i:Int)<(l.length:Int):=by omega
  simp only[h1,zaE,zaD];obtain rfl:i=l.length:=by omega
  exact⟨.inl ⟨1,rfl,rfl⟩⟩
def TT6:Tab:=fW qq kJ [(41,lM)] [] [(20,aRD),(79,aY9),(77,a38),(78,aTD)] []
def qP (o:Nat->Int) (x:Ins):Bool:=!((decide (aC x.op=4)||decide (aC x.op=5))&&sL o x.a) && !(decide (aC x.op>=1)&&decide (aC x.op<=3)&&decide (x.d>0)&&decide (o x.d.toNat=1)&&lI o (aY x))
def eJ (p:Prog) (o:Nat->Int):Bool:=aL p&&(decide (o 0=0)&&(gP (fun i=>decide (i=0)||decide (o i=1\/o i=2)) 16&&gP (fun n=>qP o (ix p.code n)) p.code.length))
def bD6:List XV->Option ((XV->Prop)->Prop):=eZ (fun q:Prog×(Nat->Int)=>[aJ q.1,dE q.2]) (fun q=>q.1.wf) (fun q=>eJ q.1 q.2) (fun y=>.bool y)
def clS (k:Nat) (p:Prog) (o:Nat->Int) (i:Nat):XSt:=⟨[(k,.int .i64 i),(3,.ptr 1 [] 0),(2,.ptr 0 [] 0)],[(1,some (dE o)),(0,some (aJ p))],2⟩
theorem bAF (p:Prog) (o:Nat->Int) (r:XV):(goQ zPr TT6 [(.tmp 4)] r (.run kI) [] ⟨kF 0 [aJ p,dE o],[],0⟩)=(∃(s:Prog),aI [aJ p] [aJ s]/\aN s.wf/\∀(y:Bool),y=aL s->cond (cond (!y) true (!!y)) (cond (cond (!y) true (decide ¬o 0=0)) (aA (.bool
 false) r) (bX (Ok zPr (Tab.q TT6)) nL (XSt.mk [(5,.int .i64 1),(4,.bool false),(3,.ptr 1 [] 0),(2,.ptr 0 [] 0)] [(1,some (.tab 16 1 fun i=>.int
 .i64 (o i))),(0,some (aJ p))] 2) [Frm.blk 0,Frm.seq kD] (dC [AR.tmp 4] r))) False):=by kernel_rfl
theorem bAG (p:Prog) (o:Nat->Int) (i:Nat) (r:XV) (A:XSt->Prop):(goQ zPr TT6 [(.tmp 4)] r (.run nL) [.lp nL A,.blk 0,.seq kD] (clS 5 p o i))=(
 letI q1:=(↑i:Int)<16;
 letI q2:=decide q1;
 letI q3:=i*1;
 letI q4:=Nat.beq q3 q3;
 letI q5:=decide (i<16);
 letI q6:=decide ¬o i=1;
 letI q7:=!q6;
 letI q8:List (Nat×XV):=[(3,.ptr 1 [] 0),(2,.ptr 0 [] 0)];
 letI q9:List (Nat×Option XV):=[(1,some (dE o)),(0,some (aJ p))];cond (decide q1) (cond q2 (cond q4 (cond q5 (cond (cond q2 true q7) (cond (cond q4 true q7) (cond (cond q5 true q7) (cond (cond q6 q6 true) (cond (cond q6 (decide ¬o i=2) false) (aA (.bool false) r) (A (XSt.mk ((5,
  .int .i64 (IntKind.wrap .i64 ((↑i:Int)+1)))::q8) q9 2))) False) False) False) False) False) False) False) (bX (Ok zPr (Tab.q TT6)) nM
  (XSt.mk ((6,.int .i64 0)::q8) q9 2) [Frm.blk 2,Frm.seq rP] (dC [AR.tmp 4] r))):=by kernel_rfl
theorem bAH (p:Prog) (o:Nat->Int) (i:Nat) (r:XV) (A:XSt->Prop):(goQ zPr TT6 [(.tmp 4)] r (.run nM) [.lp nM A,.blk 2,.seq rP] (clS 6 p o i))=(
 letI q1:=decide ((↑i:Int)<(↑(p.code.length):Int));
 letI q2:=aC (Ins.op (ix p.code (Int.toNat (↑i:Int))));
 letI q3:=decide (aC ((ix p.code i).op)=4);
 letI q4:=cond q3 true (decide (aC ((ix p.code i).op)=5));
 letI q5:XV:=.tab 16 1 fun i=>.int .i64 (o i);
 letI q6:=decide (aC ((ix p.code i).op)>=1);
 letI q7:=cond q6 (decide (aC ((ix p.code i).op)<=3)) false;
 letI q8:=cond q7 (decide ((ix p.code i).d>0)) false;
 letI q9:=!q8;
 letI q10:=Int.toNat ((ix p.code i).d)*1;
 letI q11:=Int.toNat (Ins.d (ix p.code (Int.toNat (↑i:Int))));
 letI q12:=cond q8 (decide (o (Int.toNat ((ix p.code i).d))=1)) false;
 letI q13:=XSt.mk [(6,.int .i64 (IntKind.wrap .i64 ((↑i:Int)+1))),(3,.ptr 1 [] 0),(2,.ptr 0 [] 0)] [(2,some (cT (ix p.code i))),(1,some (dE o)),(0,some (aJ
  p))] 3;
 letI q14:=cond (cond q6 q6 true) (cond (cond q7 q7 true) (cond (cond (decide (0<=(ix p.code i).d)) true q9) (cond (cond (decide ((ix p.code i).d<16)) true q9) (cond (cond (Nat.beq q10 q10) true q9) (cond (cond (decide (Int.toNat ((ix p.code i).d)<16)) true q9) (cond (cond q8 q8 true) (cond q12 (∃(s:Ins),aI [cT (ix p.code i)] [cT s]/\aN True/\∀(y:List Int),y=aY s->∃(s:(Nat->Int)×List Int),aI [q5,aB 1 bJ y] [dE s.1,aB 1
  bJ s.2]/\aN (s.2.length<=1000000000/\∀(x:Int),x∈s.2->x<=15)/\∀(y:Bool),y=lI s.1 s.2->cond (cond q12 y false) (aA (.bool false) r) (A q13)) (cond (!q12) (A q13) False)) False) False) False) False) False) False) False;cond q1 (cond q1 (cond (cond q3 true (!q3)) (cond q4 (∃(s:(Nat->Int)×Int),aI [q5,.int .i64 ((ix p.code i).a)] [dE s.1,.int .i64 s.2]/\aN (s.2<=15)/\∀(y:Bool),y=sL s.1 s.2->cond (cond q4 y false) (aA (.bool false) r) q14) (cond (!q4) q14 False)) False) False) (aA (.bool true) r)):=by kernel_rfl
theorem aZF:bT zPr TT6:=bQ iR ⟨kC,trivial⟩ trivial ⟨aDT,aBU,aRF,aLX,trivial⟩ trivial
theorem mI {i:Ins} (h:bY i=true):(0<=i.d/\i.d<=15)/\(0<=i.a/\i.a<=15)/\(0<=i.b/\i.b<=15):=by
 simp only[bY,zaG]at h;obtain⟨_,h1,h2,h3,_⟩:=h;have key:∀ n t,uU n t=true->0<=n/\n<=15:=fun n t hb=>by simp only[uU,zaV,zaG,zaK]at hb;omega
 exact⟨key _ _ h1,key _ _ h2,key _ _ h3⟩
theorem mN {p:Prog} (h:aL p=true) {n:Nat} (hn:n<p.code.length):bY (ix p.code n)=true:=by simp only[aL,zaG]at h;exact dH.1 h.2.1 n hn
theorem bAI:eV zPr (32,bD6):=bB fun⟨p,o⟩ hw=>by
 have hw:p.wf:=hw;have hl:=hw.1.2;show Pure _ _ (cons [aJ p,dE o]) (con (.bool (eJ p o)));refine j9 mix aZF wY (Nat.le_of_ble_eq_true rfl) ?_;refine Eq.mpr (bAF p o _) ?_;refine⟨p,.rfl,⟨hw⟩, ?_⟩;rintro y rfl;simp only[g1,g2,g3,g4,g5,g6,g7,aD,zaB,zaF,zaC,cC];simp only[bor];cases hr:aL p with
 |false => unfold eJ;rw[hr];exact .rfl
 |true =>
 by_cases h0:o 0=0
 case neg => unfold eJ;rw[hr,decide_eq_false h0];simp only[h0,zaI,zaM,zaC,Bool.or_true,zaB];exact .rfl
 simp only[h0,zaI,zaN,zaE,Bool.or_false,zaD];refine gT mix aZF (fun i:Nat=>clS 5 p o i) (fun i=>1<=i/\i<=16/\∀ j,1<=j->j<i->(o j=1\/o j=2)) (fun i=>16-i) 1 ⟨zaF _,by omega,fun j _ hj=>by omega⟩ (.of (dL ⟨rfl,rfl,rfl,trivial⟩ ⟨rfl,rfl,trivial⟩ (zaF _))) ?_;rintro i ⟨hi1,hi,hp⟩;refine Eq.mpr (bAG p o i _ _) ?_;by_cases hlt:i<16
 ·have h1:(i:Int)<16:=by omega
  have w1:IntKind.i64.wrap ((i:Int)+1)=((i+1:Nat):Int):=wrap_i64 (by omega) (by omega);simp only[g1,g2,g3,g4,g5,g6,g7,aD,zaB,zaF,zaC,cC,h1,hlt,w1,zaQ];rw[tD];refine kX (fun h => ?_) (fun h => ?_)<;>simp only[zaG,zaW,zaK,zaP,Classical.not_not]at h
  ·have:eJ p o=false:=by
    unfold eJ;have hf:gP (fun i=>decide (i=0)||decide (o i=1\/o i=2)) 16=false:=qL hlt (by
     have:¬i=0:=by omega
     simp[this,h.1,h.2])
    rw[hf];simp
   rw[this];exact .rfl
  ·refine⟨i+1,⟨by omega,hlt,fun j hj1 hj => ?_⟩,.of (dL ⟨rfl,rfl,rfl,trivial⟩ ⟨rfl,rfl,trivial⟩ (zaF _)),by omega⟩;by_cases hji:j=i
   ·subst hji;exact h
   ·exact hp j hj1 (by omega)
 have h1:¬(i:Int)<16:=by omega
 simp only[h1,zaE,zaD];have ha:gP (fun i=>decide (i=0)||decide (o i=1\/o i=2)) 16=true:=dH.2 fun j hj=>by
  by_cases hj0:j=0
  ·simp[hj0]
  ·simp only[decide_eq_true (hp j (by omega) (by omega)),Bool.or_true]
 have hcl:eJ p o=gP (fun n=>qP o (ix p.code n)) p.code.length:=by unfold eJ;rw[hr,decide_eq_true h0,ha];rfl
 clear hp hi hi1 hlt h1;refine gT mix aZF (fun i:Nat=>clS 6 p o i) (fun i=>i<=p.code.length/\∀ j,j<i->qP o (ix p.code j)=true) (fun i=>p.code.length-i) 0 ⟨Nat.zero_le _,fun j hj=>by omega⟩ (.of (dL ⟨rfl,rfl,rfl,trivial⟩ ⟨rfl,rfl,trivial⟩ (zaF _))) ?_;rintro i ⟨hi,hp⟩;refine Eq.mpr (bAH p o i _ _) ?_;by_cases hlt:i<p.code.length
 ·have h1:(i:Int)<(p.code.length:Int):=by omega
  have w1:IntKind.i64.wrap ((i:Int)+1)=((i+1:Nat):Int):=wrap_i64 (by omega) (by omega);have hri:=mN hr hlt;obtain⟨⟨d1,d2⟩,⟨a1,a2⟩,_⟩:=mI hri;have bad:qP o (ix p.code i)=false->aA (.bool false) (.bool (eJ p o)):=fun h=>by rw[hcl,qL hlt h];exact .rfl
  have next:qP o (ix p.code i)=true->∃ j,(j<=p.code.length/\∀ k,k<j->qP o (ix p.code k)=true)/\cJ 2 (XSt.st (XSt.mk [(6,.int .i64 ((i+1:Nat):Int)),(3,.ptr 1 [] 0),(2,.ptr 0 [] 0)] [(2,some (cT (ix p.code i))),(1,some (dE o)),(0,some (aJ p))] 3)) (clS 6 p o j).st/\p.code.length-j<p.code.length-i:=fun h=>by
   refine⟨i+1,⟨hlt,fun j hj => ?_⟩,.ofL (aEU ⟨eF rfl,eF rfl,eF rfl,trivial⟩ ⟨rfl,rfl,trivial⟩ (zaF _) rfl),by omega⟩;by_cases hji:j=i
   ·subst hji;exact h
   ·exact hp j (by omega)
  generalize ix p.code i=x at *;have d3:x.d<16:=by omega
  have d4:x.d.toNat<16:=by omega
  simp only[g1,g2,g3,g4,g5,g6,g7,aD,zaB,zaF,zaC,cC,h1,w1,d1,d3,d4,zaQ];simp only[bor,tD];have part2:∀(Y:Prop),(!((decide (aC x.op=4)||decide (aC x.op=5))&&sL o x.a))=true->(Y=(cond (decide (aC x.op>=1)&&decide (aC x.op<=3)&&decide (x.d>0)&&decide (o x.d.toNat=1))
    (∃ s,aI [cT x] [cT s]/\aN True/\∀(y:List Int),y=aY s->∃(s:(Nat->Int)×List Int),aI [.tab 16 1 fun i=>.int .i64 (o i),aB 1 bJ y] [dE s.1,aB 1 bJ s.2]/\aN (s.2.length<=1000000000/\∀ x,x∈s.2->x<=15)/\∀(y:Bool),y=lI s.1 s.2 ->
     cond (decide (aC x.op>=1)&&decide (aC x.op<=3)&&decide (x.d>0)&&decide (o x.d.toNat=1)&&y) (aA (.bool false) (.bool (eJ p o)))
      (∃ j,(j<=p.code.length/\∀ k,k<j->qP o (ix p.code k)=true)/\cJ 2 (XSt.st (XSt.mk [(6,.int .i64 ((i+1:Nat):Int)),(3,.ptr 1 [] 0),(2,.ptr 0 [] 0)] [(2,some (cT x)),(1,some (dE o)),(0,some (aJ p))] 3)) (clS 6 p o j).st/\p.code.length-j<p.code.length-i))
    (cond (!(decide (aC x.op>=1)&&decide (aC x.op<=3)&&decide (x.d>0)&&decide (o x.d.toNat=1)))
     (∃ j,(j<=p.code.length/\∀ k,k<j->qP o (ix p.code k)=true)/\cJ 2 (XSt.st (XSt.mk [(6,.int .i64 ((i+1:Nat):Int)),(3,.ptr 1 [] 0),(2,.ptr 0 [] 0)] [(2,some (cT x)),(1,some (dE o)),(0,some (aJ p))] 3)) (clS 6 p o j).st/\p.code.length-j<p.code.length-i) False)))->Y:=fun Y hA e=>by
   rw[e];cases hc:(decide (aC x.op>=1)&&decide (aC x.op<=3)&&decide (x.d>0)&&decide (o x.d.toNat=1))with
   |false => simp only[zaD,zaH,zaB];exact next (by unfold qP;rw[hA,hc];rfl)
   |true =>
    simp only[zaB];refine⟨x,.rfl,⟨trivial⟩, ?_⟩;rintro y rfl;refine⟨(o,aY x),.rfl,⟨by have:=kK (i:=x);exact⟨show(aY x).length<=1000000000 by omega,fun z hz=>(this.2 z hz).2⟩⟩, ?_⟩;intro y hy;replace hy:y=lI o (aY x):=hy;subst hy;refine kX (fun h=>bad ?_) (fun h=>next ?_)
    ·unfold qP;rw[hA,hc];simpa using h
    ·unfold qP;rw[hA,hc];simpa using h
  cases hf:(decide (aC x.op=4)||decide (aC x.op=5))with
  |true =>
   simp only[zaB];refine⟨(o,x.a),.rfl,⟨a2⟩, ?_⟩;intro y hy;replace hy:y=sL o x.a:=hy;subst hy;refine kX (fun h=>bad ?_) (fun h => ?_)
   ·unfold qP;rw[hf];simp only[zaR]at h ⊢;rw[h];rfl
   ·exact part2 _ (by rw[hf];simpa using h) rfl
  |false => simp only[zaD,zaH,zaB];exact part2 _ (by rw[hf];rfl) rfl
 ·have h1:¬(i:Int)<(p.code.length:Int):=by omega
  simp only[h1,zaE,zaD];rw[hcl,dH.2 fun j hj=>hp j (by omega)];exact .rfl
def TT7:Tab:=fW qq kJ [(41,lM)] [] [(20,aRD),(79,aY9)] []
def owS (e:List (Nat×XV)) (p:Prog) (g:Nat->Int):XSt:=⟨e++[(3,.ptr 2 [] 0),(2,.ptr 1 [] 0),(1,.ptr 0 [] 0)],[(2,some (.tab 16 1 (fun i=>.int .i64 (g i)))),(1,some (.tab 16 1 (fun _=>.int .i64 0))),(0,some (aJ p))],3⟩
def bAJ (l:List Int) (k i n:Nat) (x:Ins) (p:Prog) (g:Nat->Int):XSt:=⟨[(10,.int .i64 k),(9,aB 1 bJ l),(6,.int .i64 i),(5,.int .i64 n),(3,.ptr 2 [] 0),(2,.ptr 1 [] 0),(1,.ptr 0 [] 0)],[(3,some (cT x)),(2,some (.tab 16 1 (fun i=>.int .i64 (g i)))),(1,some (.tab 16 1 (fun _=>.int .i64 0))),(0,some (aJ p))],4⟩
def aV9 (g:Nat->Int) (k:Nat):Nat->Int:=fun j=>cond (Nat.beq j k) 1 (g j)
def aZG (x:Ins) (g:Nat->Int):Nat->Int:=if(decide (aC x.op=4)||decide (aC x.op=5))&&decide (x.a>0)then aV9 g x.a.toNat else g
def aWA (l:List Int) (g:Nat->Int):Nat->Int:=l.foldl (fun g n=>aV9 g n.toNat) g
def aZH (x:Ins) (g:Nat->Int):Bool:=decide (aC x.op>=1)&&decide (aC x.op<=3)&&decide (x.d>0)&&decide (g x.d.toNat=1)
def aZI (x:Ins) (g:Nat->Int):Nat->Int:=if aZH x g then aWA (aY x) g else g
def aRI (g:Nat->Int) (x:Ins):Nat->Int:=aZI x (aZG x g)
def aOX (p:Prog) (g:Nat->Int) (i:Nat):Nat->Int:=(p.code.take i).foldl aRI g
def bAK (i:Nat):Nat->Int:=fun j=>cond (decide (1<=j)&&decide (j<i)) 2 0
def aLY (p:Prog):Nat->Nat->Int
 |0=>bAK 16
 |n+1=>aOX p (aLY p n) p.code.length
def uV (p:Prog):Nat->Int:=if aL p then aLY p 17 else fun _=>0
def bD7:List XV->Option ((XV->Prop)->Prop):=eZ (fun p:Prog=>[aJ p]) (fun p=>p.wf) (fun p=>uV p) (fun y=>dE y)
theorem bAL (p:Prog) (r:XV):(goQ zPr TT7 [(.cell 2 .true 16)] r (.run lS) [] ⟨kF 0 [aJ p],[],0⟩)=(
 letI q1:XV:=.tab 16 1 fun x=>.int .i64 0;∃(s:Prog),aI [aJ p] [aJ s]/\aN s.wf/\∀(y:Bool),y=aL s->cond (!y) (aA q1 r) (bX (Ok zPr
  (Tab.q TT7)) oH (XSt.mk [(4,.int .i64 1),(3,.ptr 2 [] 0),(2,.ptr 1 [] 0),(1,.ptr 0 [] 0)] [(2,some q1),(1,some q1),(0,some (aJ p))] 3) [Frm.blk 0,Frm.seq
  kY] (dC [AR.cell 2 true 16] r))):=by kernel_rfl
theorem bAM (p:Prog) (g:Nat->Int) (i:Nat) (r:XV) (A:XSt->Prop):(goQ zPr TT7 [(.cell 2 .true 16)] r (.run oH) [.lp oH A,.blk 0,.seq kY] (owS [(4,.int .i64 i)] p g))=(
 letI q1:=(↑i:Int)<16;
 letI q2:=i*1;
 letI q3:=decide (i<16);
 letI q4:List (Nat×XV):=[(3,.ptr 2 [] 0),(2,.ptr 1 [] 0),(1,.ptr 0 [] 0)];
 letI q5:List (Nat×Option XV):=[(1,some (.tab 16 1 fun x=>.int .i64 0)),(0,some (aJ p))];cond (decide q1) (cond (decide q1) (cond (Nat.beq q2 q2) (cond q3 (cond q3 (A (XSt.mk ((4,.int .i64 (IntKind.wrap .i64 ((↑i:Int)+1)))::q4) ((2,some (.tab 16 1 fun j=>.int .i64 (cond (Nat.beq j i) (2:Int) (g j))))::q5) 3)) False) False) False) False) (bX (Ok zPr (Tab.q TT7)) eI (XSt.mk ((5,.int .i64 0)::q4) ((2,some (.tab 16 1 fun i=>.int .i64 (g i)))::q5) 3) [Frm.blk
  2,Frm.seq hJ] (dC [AR.cell 2 true 16] r))):=by kernel_rfl 
theorem bAN (p:Prog) (g:Nat->Int) (n:Nat) (r:XV) (A:XSt->Prop):(goQ zPr TT7 [(.cell 2 .true 16)] r (.run eI) [.lp eI A,.blk 2,.seq hJ] (owS [(5,.int .i64 n)] p g))=(
 letI q1:XV:=.tab 16 1 fun i=>.int .i64 (g i);cond (decide ((↑n:Int)<17)) (bX (Ok zPr (Tab.q TT7)) fS (XSt.mk [(6,.int .i64 0),(5,.int .i64 (↑n
  : Int)),(3,.ptr 2 [] 0),(2,.ptr 1 [] 0),(1,.ptr 0 [] 0)] [(2,some q1),(1,some (.tab 16 1 fun x=>.int .i64 0)),(0,some (aJ p))] 3) [Frm.blk 4,Frm.blk 3,Frm.seq kZ,
  Frm.lp eI A,Frm.blk 2,Frm.seq hJ] (dC [AR.cell 2 true 16] r)) (aA q1 r)):=by kernel_rfl
theorem bAO (p:Prog) (g:Nat->Int) (n i:Nat) (r:XV) (A B:XSt->Prop):(goQ zPr TT7 [(.cell 2 .true 16)] r (.run fS) [.lp fS A,.blk 4,.blk 3,.seq kZ,.lp eI B,.blk 2,.seq hJ] (owS [(6,.int .i64 i),(5,.int .i64 n)] p g))=(
 letI q1:=decide ((↑i:Int)<(↑(p.code.length):Int));
 letI q2:=aC (Ins.op (ix p.code (Int.toNat (↑i:Int))));
 letI q3:=decide (aC ((ix p.code i).op)=4);
 letI q4:=cond q3 true (decide (aC ((ix p.code i).op)=5));
 letI q5:=Int.toNat ((ix p.code i).a)*1;
 letI q6:=Int.toNat (Ins.a (ix p.code (Int.toNat (↑i:Int))));
 letI q7:=decide (Int.toNat ((ix p.code i).a)<16);
 letI q8:=decide (aC ((ix p.code i).op)>=1);
 letI q9:=cond q8 q8 true;
 letI q10:=cond q8 (decide (aC ((ix p.code i).op)<=3)) false;
 letI q11:=cond q10 q10 true;
 letI q12:=cond q10 (decide ((ix p.code i).d>0)) false;
 letI q13:=!q12;
 letI q14:=cond (decide (0<=(ix p.code i).d)) true q13;
 letI q15:=cond (decide ((ix p.code i).d<16)) true q13;
 letI q16:=Int.toNat ((ix p.code i).d)*1;
 letI q17:=cond (Nat.beq q16 q16) true q13;
 letI q18:=Int.toNat (Ins.d (ix p.code (Int.toNat (↑i:Int))));
 letI q19:=cond (decide (Int.toNat ((ix p.code i).d)<16)) true q13;
 letI q20:=cond q12 q12 true;
 letI q21:=fun(s:Ins)=>aI [cT (ix p.code i)] [cT s];
 letI q22:List (Nat×XV):=[(3,.ptr 2 [] 0),(2,.ptr 1 [] 0),(1,.ptr 0 [] 0)];
 letI q23:List (Nat×XV):=(5,.int .i64 (↑n:Int))::q22;
 letI q24:List Int->List (Nat×XV):=fun y=>(10,.int .i64 0)::(9,aB 1 bJ y)::(6,.int .i64 (↑i:Int))::q23;
 letI q25:List (Nat×Option XV):=[(1,some (.tab 16 1 fun x=>.int .i64 0)),(0,some (aJ p))];
 letI q26:List (Nat×Option XV):=(3,some (cT (ix p.code i)))::(2,some (.tab 16 1 fun j=>.int .i64 (cond (Nat.beq j (Int.toNat ((ix p.code i).a))) (1:Int) (g j))))
  :: q25;
 letI q27:List Frm:=[Frm.blk 6,Frm.blk 5,Frm.seq tF,Frm.lp fS A,Frm.blk 4,Frm.blk 3,Frm.seq kZ,Frm.lp eI B,Frm.blk
  2,Frm.seq hJ];
 letI q28:List AR:=[AR.cell 2 true 16];
 letI q29:List (Nat×XV):=(6,.int .i64 (IntKind.wrap .i64 ((↑i:Int)+1)))::q23;
 letI q30:List (Nat×Option XV):=(2,some (.tab 16 1 fun i=>.int .i64 (g i)))::q25;
 letI q31:List (Nat×Option XV):=(3,some (cT (ix p.code i)))::q30;cond q1 (cond q1 (cond (cond q3 true (!q3)) (cond (cond q4 q4 true) (cond (cond q4 (decide ((ix p.code i).a>0)) false) (cond (decide (0<=(ix p.code i).a)) (cond (decide ((ix p.code i).a<16)) (cond (Nat.beq q5 q5) (cond q7 (cond q7 (cond q9 (cond q11 (cond q14 (cond q15 (cond q17 (cond q19 (cond q20 (cond (cond q12 (decide ((cond (Nat.beq (Int.toNat ((ix p.code i).d)) (Int.toNat ((ix p.code i).a))) (1:Int) (g (Int.toNat ((ix p.code i).d))))=(1:Int))) false) (∃(s:Ins),q21 s/\aN True/\∀(y:List Int),y=aY s->bX (Ok zPr (Tab.q TT7))
  lB (XSt.mk (q24 y) q26 4) q27 (dC q28 r)) (A (XSt.mk q29 q26 4))) False) False) False) False) False) False) False) False) False) False) False) False) (cond q9 (cond q11 (cond q14 (cond q15 (cond q17 (cond q19 (cond q20 (cond (cond q12 (decide (g (Int.toNat ((ix p.code i).d))
  = 1)) false) (∃(s:Ins),q21 s/\aN True/\∀(y:List Int),y=aY s->bX (Ok zPr (Tab.q TT7)) lB (XSt.mk (q24 y) q31 4) q27 (dC q28 r)) (A (XSt.mk q29 q31 4))) False) False) False) False) False) False) False)) False) False) False) (B (XSt.mk ((5,.int .i64 (IntKind.wrap .i64 ((↑n
  : Int)+1)))::q22) q30 3))):=by kernel_rfl
theorem aZJ (p:Prog) (g:Nat->Int) (l:List Int) (x:Ins) (k i n:Nat) (r:XV) (A C B:XSt->Prop):(goQ zPr TT7 [(.cell 2 .true 16)] r (.run lB) [.lp lB C,.blk 6,.blk 5,.seq tF,.lp fS A,.blk 4,.blk 3,.seq kZ,.lp eI B,.blk 2,.seq hJ] (bAJ l k i n x p g))=(
 letI q1:=decide ((↑k:Int)<(↑(l.length):Int));
 letI q2:=Int.toNat (ix l k)*1;
 letI q3:=decide (Int.toNat (ix l k)<16);
 letI q4:List (Nat×XV):=[(5,.int .i64 (↑n:Int)),(3,.ptr 2 [] 0),(2,.ptr 1 [] 0),(1,.ptr 0 [] 0)];
 letI q5:List (Nat×Option XV):=[(1,some (.tab 16 1 fun x=>.int .i64 0)),(0,some (aJ p))];cond q1 (cond q1 (cond (decide (0<=ix l k)) (cond (decide (ix l k<16)) (cond (Nat.beq q2 q2) (cond q3 (cond q3 (C (XSt.mk ((10,.int .i64 (IntKind.wrap .i64 ((↑k:Int)+1)))::(9,aB 1 bJ l)::(6,.int .i64 (↑i:Int))::q4) ((3,
  some (cT x))::(2,some (.tab 16 1 fun j=>.int .i64 (cond (Nat.beq j (Int.toNat (ix l k))) (1:Int) (g j))))::q5) 4)) False) False) False) False) False) False) (A (XSt.mk ((6,.int .i64 (IntKind.wrap .i64 ((↑i:Int)+1)))::q4) ((3,some (cT x))::(2,some (.tab 16 1 fun i=>.int .i64 (g i)))::q5) 4))):=by kernel_rfl
theorem aKA:bT zPr TT7:=bQ iR ⟨kC,trivial⟩ trivial ⟨aDT,aBU,trivial⟩ trivial
theorem aWB {p:Prog} {g:Nat->Int} {i:Nat} (h:i<p.code.length):aOX p g (i+1)=aRI (aOX p g i) (ix p.code i):=by unfold aOX;rw[List.take_succ_eq_append_getElem h,List.foldl_append,gW h];rfl
theorem aKB {l:List Int} {g:Nat->Int} {k:Nat} (h:k<l.length):aWA (l.take (k+1)) g=aV9 (aWA (l.take k) g) (ix l k).toNat:=by unfold aWA;rw[List.take_succ_eq_append_getElem h,List.foldl_append,gW h];rfl
theorem aZK:eV zPr (35,bD7):=bB fun p hw=>by
 have hw:p.wf:=hw;have hl:=hw.1.2;show Pure _ _ (cons [aJ p]) (con (dE (uV p)));refine j9 mix aKA zQ (Nat.le_of_ble_eq_true rfl) ?_;refine Eq.mpr (bAL p _) ?_;refine⟨p,.rfl,⟨hw⟩, ?_⟩;rintro y rfl;unfold uV;cases hr:aL p with
 |false=>exact .rfl
 |true =>
 simp only[zaI,zaD,if_true];refine gT mix aKA (fun i:Nat=>owS [(4,.int .i64 i)] p (bAK i)) (fun i=>1<=i/\i<=16) (fun i=>16-i) 1 ⟨zaF _,by omega⟩ (.of (dL ⟨rfl,rfl,rfl,rfl,trivial⟩ ⟨congrArg some (qK fun j hj=>by
  show con (.int .i64 0)=con (.int .i64 (cond (decide (1<=j)&&decide (j<1)) 2 0));by_cases h:1<=j
  ·rw[decide_eq_false (show ¬j<1 by omega),Bool.and_false];rfl
  ·rw[decide_eq_false h];rfl),rfl,rfl,trivial⟩ (zaF _))) ?_
 rintro i ⟨hi1,hi⟩;refine Eq.mpr (bAM p (bAK i) i _ _) ?_;by_cases hlt:i<16
 ·have h1:(i:Int)<16:=by omega
  have w1:IntKind.i64.wrap ((i:Int)+1)=((i+1:Nat):Int):=wrap_i64 (by omega) (by omega);simp only[g1,g2,g3,g4,g5,g6,g7,aD,zaB,zaF,zaC,cC,h1,hlt,w1,zaQ];refine⟨i+1,⟨by omega,hlt⟩,.of (dL ⟨rfl,rfl,rfl,rfl,trivial⟩ ⟨congrArg some (qK fun j hj => ?_),rfl,rfl,trivial⟩ (zaF _)),by omega⟩;show con (.int .i64 (cond (Nat.beq j i) 2 (cond (decide (1<=j)&&decide (j<i)) 2 0)))=con (.int .i64 (cond (decide (1<=j)&&decide (j<i+1)) 2 0));rw[yS];congr 2;by_cases hji:j=i
  ·subst hji;rw[decide_eq_true hi1,decide_eq_true (Nat.lt_succ_self j)];simp
  ·rw[decide_eq_false hji];have:decide (j<i+1)=decide (j<i):=decide_eq_decide.2 (by omega);rw[this];rfl
 have h1:¬(i:Int)<16:=by omega
 obtain rfl:i=16:=by omega
 simp only[h1,zaE,zaD];refine gT mix aKA (fun n:Nat=>owS [(5,.int .i64 n)] p (aLY p n)) (fun n=>n<=17) (fun n=>17-n) 0 (Nat.zero_le _) (.of (dL ⟨rfl,rfl,rfl,rfl,trivial⟩ ⟨rfl,rfl,rfl,trivial⟩ (zaF _))) ?_;intro n hn;refine Eq.mpr (bAN p (aLY p n) n _ _) ?_;by_cases hlt:n<17
 case neg =>
  have h1:¬(n:Int)<17:=by omega
  obtain rfl:n=17:=by omega
  simp only[h1,zaE,zaD];exact .rfl
 have h2:(n:Int)<17:=by omega
 simp only[h2,zaC,zaB];refine gT mix aKA (fun i:Nat=>owS [(6,.int .i64 i),(5,.int .i64 n)] p (aOX p (aLY p n) i)) (fun i=>i<=p.code.length) (fun i=>p.code.length-i) 0 (Nat.zero_le _) (.of (dL ⟨rfl,rfl,rfl,rfl,rfl,trivial⟩ ⟨rfl,rfl,rfl,trivial⟩ (zaF _))) ?_;intro i hi;refine Eq.mpr (bAO p _ n i _ _ _) ?_;by_cases hli:i<p.code.length
 case neg =>
  have h1:¬(i:Int)<(p.code.length:Int):=by omega
  obtain rfl:i=p.code.length:=by omega
  have w1:IntKind.i64.wrap ((n:Int)+1)=((n+1:Nat):Int):=wrap_i64 (by omega) (by omega);simp only[h1,zaE,zaD,w1];exact⟨n+1,hlt,.of (dL ⟨rfl,rfl,rfl,rfl,trivial⟩ ⟨rfl,rfl,rfl,trivial⟩ (zaF _)),by omega⟩
 have h3:(i:Int)<(p.code.length:Int):=by omega
 have w1:IntKind.i64.wrap ((i:Int)+1)=((i+1:Nat):Int):=wrap_i64 (by omega) (by omega);obtain⟨⟨d1,d2⟩,⟨a1,a2⟩,_⟩:=mI (mN hr hli);have st:=aWB (g:=aLY p n) hli;have next:∀ g,g=aRI (aOX p (aLY p n) i) (ix p.code i)->∃ j,j<=p.code.length/\cJ 3 (XSt.st (XSt.mk [(6,.int .i64 ((i+1:Nat):Int)),(5,.int .i64 ↑n),(3,.ptr 2 [] 0),(2,.ptr 1 [] 0),(1,.ptr 0 [] 0)] [(3,some (cT (ix p.code i))),(2,some (.tab 16 1 fun i=>.int .i64 (g i))),(1,some (.tab 16 1 fun x=>.int .i64 0)),(0,some (aJ p))] 4)) (owS [(6,.int .i64 j),(5,.int .i64 n)] p (aOX p (aLY p n) j)).st/\p.code.length-j<p.code.length-i:=fun g hg=>by refine⟨i+1,hli, ?_,by omega⟩;rw[st,hg];exact .ofL (aEU ⟨eF rfl,eF rfl,eF rfl,eF rfl,eF rfl,trivial⟩ ⟨rfl,rfl,rfl,trivial⟩ (zaF _) rfl)
 generalize hx:ix p.code i=x at *;generalize aOX p (aLY p n) i=g at *;have d3:x.d<16:=by omega
 have d4:x.d.toNat<16:=by omega
 have a3:x.a<16:=by omega
 have a4:x.a.toNat<16:=by omega
 simp only[g1,g2,g3,g4,g5,g6,g7,aD,zaB,zaF,zaC,cC,h3,w1,d1,d3,d4,a1,a3,a4,zaQ];simp only[bor,tD];have tail:∀(g':Nat->Int) (L:List Int->Prop) (E:Prop),(aZH x g'=true->L (aY x))->(aZH x g'=false->E) ->
   cond (decide (aC x.op>=1)&&decide (aC x.op<=3)&&decide (x.d>0)&&decide (g' x.d.toNat=1)) (∃ s,aI [cT x] [cT s]/\aN True/\∀(y:List Int),y=aY s->L y) E:=fun g' L E hL hE =>
  kX (fun h=>⟨x,.rfl,⟨trivial⟩,fun y hy=>by rw[show y=aY x from hy];exact hL h⟩) hE
 cases hA:(decide (aC x.op=4)||decide (aC x.op=5))&&decide (x.a>0)with
 |true =>
  simp only[zaB];have hG:aZG x g=aV9 g x.a.toNat:=by unfold aZG;rw[hA];rfl
  refine tail (aV9 g x.a.toNat) _ _ (fun hD => ?_) (fun hD=>next _ ?_)
  ·refine gT mix aKA (fun k:Nat=>bAJ (aY x) k i n x p (aWA ((aY x).take k) (aV9 g x.a.toNat))) (fun k=>k<=(aY x).length) (fun k=>(aY x).length-k) 0 (Nat.zero_le _) (.of (dL ⟨rfl,rfl,rfl,rfl,rfl,rfl,rfl,trivial⟩ ⟨rfl,rfl,rfl,rfl,trivial⟩ (zaF _))) ?_;intro k hk;refine Eq.mpr (aZJ p _ (aY x) x k i n _ _ _ _) ?_;have hrd:=kK (i:=x);by_cases hlk:k<(aY x).length
   ·have k1:(k:Int)<((aY x).length:Int):=by omega
    have w2:IntKind.i64.wrap ((k:Int)+1)=((k+1:Nat):Int):=wrap_i64 (by omega) (by omega);have hz:=hrd.2 _ (cA hlk);have k2:0<=ix (aY x) k:=by omega
    have k3:ix (aY x) k<16:=by omega
    have k4:(ix (aY x) k).toNat<16:=by omega
    simp only[g1,g2,g3,g4,g5,g6,g7,aD,zaB,zaF,zaC,cC,k1,k2,k3,k4,w2,zaQ];refine⟨k+1,hlk, ?_,by omega⟩;rw[aKB hlk];exact .of (dL ⟨rfl,rfl,rfl,rfl,rfl,rfl,rfl,trivial⟩ ⟨rfl,rfl,rfl,rfl,trivial⟩ (zaF _))
   ·have k1:¬(k:Int)<((aY x).length:Int):=by omega
    obtain rfl:k=(aY x).length:=by omega
    simp only[k1,zaE,zaD,w1];refine next _ ?_
    rw[List.take_length];unfold aRI aZI;rw[hG,hD];rfl
  ·unfold aRI aZI;rw[hG,hD];rfl
 |false =>
  simp only[zaD];have hG:aZG x g=g:=by unfold aZG;rw[hA];rfl
  refine tail (g) _ _ (fun hD => ?_) (fun hD=>next _ ?_)
  ·refine gT mix aKA (fun k:Nat=>bAJ (aY x) k i n x p (aWA ((aY x).take k) (g))) (fun k=>k<=(aY x).length) (fun k=>(aY x).length-k) 0 (Nat.zero_le _) (.of (dL ⟨rfl,rfl,rfl,rfl,rfl,rfl,rfl,trivial⟩ ⟨rfl,rfl,rfl,rfl,trivial⟩ (zaF _))) ?_;intro k hk;refine Eq.mpr (aZJ p _ (aY x) x k i n _ _ _ _) ?_;have hrd:=kK (i:=x);by_cases hlk:k<(aY x).length
   ·have k1:(k:Int)<((aY x).length:Int):=by omega
    have w2:IntKind.i64.wrap ((k:Int)+1)=((k+1:Nat):Int):=wrap_i64 (by omega) (by omega);have hz:=hrd.2 _ (cA hlk);have k2:0<=ix (aY x) k:=by omega
    have k3:ix (aY x) k<16:=by omega
    have k4:(ix (aY x) k).toNat<16:=by omega
    simp only[g1,g2,g3,g4,g5,g6,g7,aD,zaB,zaF,zaC,cC,k1,k2,k3,k4,w2,zaQ];refine⟨k+1,hlk, ?_,by omega⟩;rw[aKB hlk];exact .of (dL ⟨rfl,rfl,rfl,rfl,rfl,rfl,rfl,trivial⟩ ⟨rfl,rfl,rfl,rfl,trivial⟩ (zaF _))
   ·have k1:¬(k:Int)<((aY x).length:Int):=by omega
    obtain rfl:k=(aY x).length:=by omega
    simp only[k1,zaE,zaD,w1];refine next _ ?_
    rw[List.take_length];unfold aRI aZI;rw[hG,hD];rfl
  ·unfold aRI aZI;rw[hG,hD];rfl
def TT8:Tab:=fW qq kJ [] [] [(32,bD6),(34,bD2)] [(33,bD5)]
def a4I (bl:List Block) (xA xE:Nat->Bool) (eA eE nA nE:Nat->Nat) (fA fE:Nat->Nat->XV) (j:Nat):XV:=.agg 6 [.int .i64 (ix bl j).src,.int .i64 (ix bl j).dst,.int .i64 (ix bl j).next,.int .i64 (ix bl j).taken,.row (xA j) (eA j) (nA j) (fA j),.row (xE j) (eE j) (nE j) (fE j)]
def wtS (p:Prog) (o:Nat->Int) (bl:List Block) (f:Nat->XV) (i:Nat):XSt:=⟨[(7,.int .i64 i),(6,.ptr 4 [] 0),(4,.ptr 2 [] 0),(3,.ptr 1 [] 0),(2,.ptr 0 [] 0)],[(4,some (.agg 17 [.sl 3 [] 0 0 bl.length 6,.tab 16 1 fun i=>.int .i64 (o i)])),(3,some (.tab bl.length 6 f)),(2,some (.agg 17 [.row true 0 0 fun x=>.unk,.tab 16 1 fun x=>.int .i64 0])),(1,some (.tab 16 1 fun i=>.int .i64 (o i))),(0,some (aJ p))],5⟩
def wiS (p:Prog) (o:Nat->Int) (bl:List Block) (f f':Nat->XV) (i:Nat) (m:Nat) (ca ce:List Cell):XSt:=⟨[(9,.int .i64 m),(8,.ptr 3 [1] (i*6)),(7,.int .i64 i),(6,.ptr 4 [] 0),(4,.ptr 2 [] 0),(3,.ptr 1 [] 0),(2,.ptr 0 [] 0)],[(6,some (.tab ce.length 9 (fun k=>dD (ix ce k)))),(5,some (.tab ca.length 9 (fun k=>dD (ix ca k)))),(4,some (.agg 17 [.sl 3 [] 0 0 bl.length 6,.tab 16 1 fun i=>.int .i64 (o i)])),(3,some (.agg (bl.length*6) [.tab i 6 f,.agg 6 [.int .i64 (ix bl i).src,.int .i64 (ix bl i).dst,.int .i64 (ix bl i).next,.int .i64 (ix bl i).taken,.sl 5 [] 0 0 ca.length 9,.sl 6 [] 0 0 ce.length 9],.tab (bl.length-i-1) 6 f'])),(2,some (.agg 17 [.row true 0 0 fun x=>.unk,.tab 16 1 fun x=>.int .i64 0])),(1,some (.tab 16 1 fun i=>.int .i64 (o i))),(0,some (aJ p))],7⟩
def emA (p:Prog) (o:Nat->Int) (b:Block) (k:Nat):List Cell:=(List.range k).flatMap fun j=>(jD (ix p.code (b.src.toNat+j)) o ((b.src.toNat+j:Nat):Int) (j:Int)).1
def emE (p:Prog) (o:Nat->Int) (b:Block) (k:Nat):List Cell:=(List.range k).flatMap fun j=>(jD (ix p.code (b.src.toNat+j)) o ((b.src.toNat+j:Nat):Int) (j:Int)).2
def zE (b:Block):Nat:=(b.dst-b.src).toNat
def aTH (p:Prog) (o:Nat->Int) (b:Block):Block:=⟨b.src,b.dst,b.next,b.taken,emA p o b (zE b),emE p o b (zE b)⟩
def pV (p:Prog) (o:Nat->Int):Split×Int:=if eJ p o then(⟨(xC p).map (aTH p o),o⟩,0)else(⟨[],fun _=>0⟩,1)
def aHK (p:Prog):Split×Int:=pV p (uV p)
def aB5 (y:Split×Int):XV:=.tup [aG y.1,.int .i64 y.2]
def bAP:List XV->Option ((XV->Prop)->Prop):=eZ (fun q:Prog×(Nat->Int)=>[aJ q.1,dE q.2]) (fun q=>q.1.wf) (fun q=>pV q.1 q.2) (fun y=>aB5 y)
def bD8:List XV->Option ((XV->Prop)->Prop):=eZ (fun p:Prog=>[aJ p]) (fun p=>p.wf) (fun p=>aHK p) (fun y=>aB5 y)
def wF (p:Prog) (o:Nat->Int) (bl:List Block) (i:Nat):Nat->XV:=a4I bl (fun j => !decide (j<i)) (fun j => !decide (j<i)) (fun j=>cond (decide (j<i)) 9 0) (fun j=>cond (decide (j<i)) 9 0)
 (fun j=>cond (decide (j<i)) ((emA p o (ix bl j) (zE (ix bl j))).length) 0) (fun j=>cond (decide (j<i)) ((emE p o (ix bl j) (zE (ix bl j))).length) 0)
 (fun j k=>cond (decide (j<i)) (dD (ix (emA p o (ix bl j) (zE (ix bl j))) k)) .unk) (fun j k=>cond (decide (j<i)) (dD (ix (emE p o (ix bl j) (zE (ix bl j))) k)) .unk)
def TT9:Tab:=fW qq kJ [] [] [(35,bD7),(15,bAP)] []
theorem a4J (p:Prog) (o:Nat->Int) (r:XV):(goQ zPr TT8 [(.cell 4 .true 17),(.tmp 5)] r (.run nK) [] ⟨kF 0 [aJ p,dE o],[],0⟩)=(
 letI q1:XV:=.tab 16 1 fun i=>.int .i64 (o i);
 letI q2:List XV:=[q1];
 letI q3:XV:=.agg 17 [.row true 0 0 fun x=>.unk,.tab 16 1 fun x=>.int .i64 0];∃(s:Prog×(Nat->Int)),aI (aJ p::q2) [aJ s.1,dE s.2]/\aN s.1.wf/\∀
  (y:Bool),y=eJ s.1 s.2->cond (!y) (aA (.tup [q3,.int .i64 1]) r) (∃(s:Prog),aI [aJ p] [aJ s]/\aN s.wf/\∀(y:List Block),y=xC s->bX
  (Ok zPr (Tab.q TT8)) gL (XSt.mk [(7,.int .i64 0),(6,.ptr 4 [] 0),(5,.int .i64 0),(4,.ptr 2 [] 0),(3,.ptr 1 [] 0),(2,.ptr 0 [] 0)] [(4,some (.agg 17 (.sl
  3 [] 0 0 y.length 6::q2))),(3,some (.tab y.length 6 fun i=>pL (ix y i))),(2,some q3),(1,some q1),(0,some (aJ p))] 5) [Frm.blk 0,Frm.seq lZ] (dC
  [AR.cell 4 true 17,AR.tmp 5] r))):=by kernel_rfl
theorem a4K (p:Prog) (o:Nat->Int) (bl:List Block) (xA xE:Nat->Bool) (eA eE nA nE:Nat->Nat) (fA fE:Nat->Nat->XV) (i:Nat) (r:XV) (B:XSt->Prop):(goQ zPr TT8 [(.cell 4 .true 17),(.tmp 5)] r (.run gL) [.lp gL B,.blk 0,.seq lZ] (wtS p o bl (a4I bl xA xE eA eE nA nE fA fE) i))=(
 letI q1:=decide ((↑i:Int)<(↑(bl.length):Int));
 letI q2:=i*6;
 letI q3:=pl q2 0;
 letI q4:XV:=.tab 16 1 fun i=>.int .i64 (o i);
 letI q5:List XV:=[q4];
 letI q6:Nat->XV:=fun j=>.agg 6 [.int .i64 ((ix bl j).src),.int .i64 ((ix bl j).dst),.int .i64 ((ix bl j).next),.int .i64 ((ix bl j).taken),.row (xA j) (eA j) (nA j) fun a
  => fA j a,.row (xE j) (eE j) (nE j) fun a=>fE j a];cond q1 (cond q1 (cond (Nat.beq q3 q3) (cond (decide (i<bl.length)) (bX (Ok zPr (Tab.q TT8)) pH
  (XSt.mk [(9,.int .i64 ((ix bl i).src)),(8,.ptr 3 [i] q2),(7,.int .i64 (↑i:Int)),(6,.ptr 4 [] 0),(4,.ptr 2 [] 0),(3,.ptr 1 [] 0),(2,.ptr 0 [] 0)] [(4,some (.agg 17 (.sl
  3 [] 0 0 bl.length 6::q5))),(3,some (.tab bl.length 6 fun j=>q6 j)),(2,some (.agg 17 [.row true 0 0 fun x=>.unk,.tab 16 1 fun x=>.int .i64 0])),(1,some q4),(0,some
  (aJ p))] 5) [Frm.blk 2,Frm.blk 1,Frm.seq vN,Frm.lp gL B,Frm.blk 0,Frm.seq lZ] (dC [AR.cell 4 true 17,AR.tmp 5] r)) False) False) False) (cond (decide (bl.length<=bl.length)) (aA (.tup [.agg 17 ((.row false 6 bl.length fun i=>q6 i)::q5),.int .i64 0]) r) False)):=by kernel_rfl
theorem a4L (p:Prog) (o:Nat->Int) (bl:List Block) (f f':Nat->XV) (i m:Nat) (ca ce:List Cell) (r:XV) (A B:XSt->Prop):(goQ zPr TT8 [(.cell 4 .true 17),(.tmp 5)] r (.run pH) [.lp pH A,.blk 2,.blk 1,.seq vN,.lp gL B,.blk 0,.seq lZ] (wiS p o bl f f' i m ca ce))=(
 letI q1:List XV:=[.sl 6 [] 0 0 ce.length 9];
 letI q2:List XV:=[.tab (bl.length-i-1) 6 fun a=>f' a];
 letI q3:List XV:=(.tab i 6 fun a=>f a)::.agg 6 (.int .i64 ((ix bl i).src)::.int .i64 ((ix bl i).dst)::.int .i64 ((ix bl i).next)::.int .i64 ((ix bl i).taken)::.sl 5
  [] 0 0 ca.length 9::q1)::q2;
 letI q4:=uN (List.take 1 q3);
 letI q5:=i*6;
 letI q6:XV:=.tab 16 1 fun i=>.int .i64 (o i);
 letI q7:Ins×(Nat->Int)×Int×Int->Int:=fun s=>s.2.2.1;
 letI q8:Ins×(Nat->Int)×Int×Int->Int:=fun s=>s.2.2.2;
 letI q9:=Nat.beq (pl q4 4) (pl q5 4);
 letI q10:List Cell×List Cell->Nat:=fun y=>pl ca.length y.1.length;
 letI q11:List Cell×List Cell->Nat:=fun y=>q10 y*72;
 letI q12:List Cell×List Cell->XV:=fun y=>.sl 7 [] 0 0 (q10 y) 9;
 letI q13:List Cell×List Cell->Bool:=fun y=>Nat.beq (pl (uN (List.take 1 (List.set q3 1 (.agg 6 (.int .i64 ((ix bl i).src)::.int .i64 ((ix bl i).dst)::.int .i64 ((ix
  bl i).next)::.int .i64 ((ix bl i).taken)::q12 y::q1))))) 5) (pl q5 5);
 letI q14:List Cell×List Cell->Nat:=fun y=>pl ce.length y.2.length;
 letI q15:List Cell×List Cell->Nat:=fun y=>q14 y*72;
 letI q16:List (Nat×XV):=[(6,.ptr 4 [] 0),(4,.ptr 2 [] 0),(3,.ptr 1 [] 0),(2,.ptr 0 [] 0)];
 letI q17:=fun(i:Nat)=>decide (i<ce.length);
 letI q18:List Cell×List Cell->Nat->Cell:=fun y i=>ix y.2 (i-ce.length);
 letI q19:List Cell×List Cell->Nat->Ins:=fun y i=>(q18 y i).ins;
 letI q20:=fun(i:Nat)=>decide (i<ca.length);
 letI q21:List Cell×List Cell->Nat->Cell:=fun y i=>ix y.1 (i-ca.length);
 letI q22:List Cell×List Cell->Nat->Ins:=fun y i=>(q21 y i).ins;
 letI q23:XV:=.agg 17 [.sl 3 [] 0 0 bl.length 6,q6];
 letI q24:=bl.length*6;
 letI q25:List (Nat×Option XV):=[(2,some (.agg 17 [.row true 0 0 fun x=>.unk,.tab 16 1 fun x=>.int .i64 0])),(1,some q6),(0,some (aJ p))];cond (Nat.beq (pl q4 1) (pl
  q5 1)) (cond (decide ((↑m:Int)<(ix bl i).dst)) (cond (decide ((↑m:Int)<(↑(p.code.length):Int))) (cond (Nat.beq (pl q4 0) (pl q5 0)) (∃(s:Ins×(Nat->Int)×Int ×
  Int),aI [cT (ix p.code m),q6,.int .i64 (↑m:Int),.int .i64 (IntKind.wrap .i64 ((↑m:Int)-(ix bl i).src))] [cT s.1,dE s.2.1,.int .i64 (q7 s),.int .i64 (q8 s)]
  /\ aN True/\∀(y:List Cell×List Cell),y=jD s.1 s.2.1 (q7 s) (q8 s)->cond q9 (cond (decide (ca.length<=ca.length)) (cond (decide (q11 y<=140737488355328)) (cond q9 (cond (q13 y) (cond (decide (ce.length<=ce.length)) (cond (decide (q15 y<=140737488355328)) (cond (q13 y) (A (XSt.mk ((9,.int .i64 (IntKind.wrap .i64 ((↑m:Int)+1))) ::
  (8,.ptr 3 [1] q5)::(7,.int .i64 (↑i:Int))::q16) ((8,some (.tab (q14 y) 9 fun i=>.agg 9 [.int .i64 (cond (q17 i) ((ix ce i).kind) ((q18 y i).kind)),.agg 5 [.int .i64 (cond (q17 i) (Ins.op ((ix ce i).ins)) ((q19 y i).op)),.int .i64 (cond (q17 i) (Ins.d ((ix ce i).ins)) ((q19 y i).d)),.int .i64 (cond (q17 i) (Ins.a ((ix ce i).ins)) ((q19 y
  i).a)),.int .i64 (cond (q17 i) (Ins.b ((ix ce i).ins)) ((q19 y i).b)),.int .i64 (cond (q17 i) (Ins.imm ((ix ce i).ins)) ((q19 y i).imm))],.int .i64 (cond (q17 i) ((ix ce i).reg) ((q18 y i).reg)),.int .i64 (cond (q17 i) ((ix ce i).pc) ((q18 y i).pc)),.int .i64 (cond (q17 i) ((ix ce i).off) ((q18 y i).off))]))::(7,some (.tab (q10 y) 9 fun i=>.agg
  9 [.int .i64 (cond (q20 i) ((ix ca i).kind) ((q21 y i).kind)),.agg 5 [.int .i64 (cond (q20 i) (Ins.op ((ix ca i).ins)) ((q22 y i).op)),.int .i64 (cond (q20 i) (Ins.d ((ix ca
  i).ins)) ((q22 y i).d)),.int .i64 (cond (q20 i) (Ins.a ((ix ca i).ins)) ((q22 y i).a)),.int .i64 (cond (q20 i) (Ins.b ((ix ca i).ins)) ((q22 y i).b)),.int .i64 (cond (q20 i) (Ins.imm ((ix ca i).ins)) ((q22 y i).imm))],.int .i64 (cond (q20 i) ((ix ca i).reg) ((q21 y i).reg)),.int .i64 (cond (q20 i) ((ix ca i).pc) ((q21 y i).pc)),.int .i64
  (cond (q20 i) ((ix ca i).off) ((q21 y i).off))]))::(6,none)::(5,none)::(4,some q23)::(3,some (.agg q24 ((.tab i 6 fun a=>f a)::.agg 6 [.int .i64 ((ix bl i).src),
  .int .i64 ((ix bl i).dst),.int .i64 ((ix bl i).next),.int .i64 ((ix bl i).taken),q12 y,.sl 8 [] 0 0 (q14 y) 9]::q2)))::q25) 9)) False) False) False) False) False) False) False) False) False) False) (B (XSt.mk ((7,.int .i64 (IntKind.wrap .i64 ((↑i:Int)+1)))::q16) ((6,some (.tab ce.length 9 fun k=>dD
  (ix ce k)))::(5,some (.tab ca.length 9 fun k=>dD (ix ca k)))::(4,some q23)::(3,some (.agg q24 q3))::q25) 7))) False):=by kernel_rfl
theorem aZL:bT zPr TT8:=bQ iR trivial trivial ⟨bAI,a4E,trivial⟩ ⟨bAE,trivial⟩
theorem aTI {p:Prog} {o:Nat->Int} {bl:List Block} {i j:Nat} (h:j<i):con (wF p o bl i j)=con (.agg 6 [.int .i64 (ix bl j).src,.int .i64 (ix bl j).dst,.int .i64 (ix bl j).next,.int .i64 (ix bl j).taken,aB 9 dD (emA p o (ix bl j) (zE (ix bl j))),aB 9 dD (emE p o (ix bl j) (zE (ix bl j)))]):=by unfold wF a4I;simp only[h,zaC,zaB,zaI];rfl
theorem aZM {p:Prog} {o:Nat->Int} {bl:List Block} {i j:Nat} (h:¬j<i):con (wF p o bl i j)=con (pL (ix bl j)):=by unfold wF a4I;simp only[h,zaE,zaD,zaH];rfl
theorem aLZ {i:Ins} {o:Nat->Int}:(gX i o).length<=2:=by unfold gX;have:=aHJ (o:=o) (l:=aY i);have:=(kK (i:=i)).1;omega
theorem tH {i:Ins} {o:Nat->Int} {pc off:Int}:(jD i o pc off).1.length<=4/\(jD i o pc off).2.length<=4:=by
 have:=aLZ (i:=i) (o:=o);unfold jD
 repeat' split
 all_goals (simp;try omega)
theorem fT {α:Type} {f:Nat->List α} {k:Nat}:(List.range (k+1)).flatMap f=(List.range k).flatMap f++f k:=by rw[List.range_succ,List.flatMap_append];simp
theorem xF {α:Type} {f:Nat->List α} (hf:∀ j,(f j).length<=4):∀ {k:Nat},((List.range k).flatMap f).length<=4*k
 |0=>by simp
 |k+1=>by rw[fT,List.length_append];have:=xF hf (k:=k);have:=hf k;omega
theorem a4M {p:Prog} {i:Nat} (h:i<(xC p).length):0<=(ix (xC p) i).src/\(ix (xC p) i).src<(ix (xC p) i).dst/\(ix (xC p) i).dst<=p.code.length:=by
 unfold xC at h ⊢;rw[aB4]at h;have e:ix (rE p (aM p) (aM p).length) i=tG p (aM p) i:=by unfold rE;rw[nI (by simpa using h),gW (by simpa using h)];simp
 rw[e];have h1:=xD h;have h2:=(mB (p:=p)).1 _ (cA h);exact⟨h2.1,h1.2.2,h1.2.1⟩
theorem a4N {p:Prog}:(xC p).length<=2000:=by unfold xC;rw[aB4];exact(mB (p:=p)).2.2
theorem aTJ:eV zPr (15,bAP):=bB fun⟨p,o⟩ hw=>by
 have hw:p.wf:=hw;have hl:=hw.1.2;show Pure _ _ (cons [aJ p,dE o]) (con (aB5 (pV p o)));refine j9 mix aZL aBV (Nat.le_of_ble_eq_true rfl) ?_;refine Eq.mpr (a4J p o _) ?_;refine⟨(p,o),.rfl,⟨hw⟩, ?_⟩;intro y hy;replace hy:y=eJ p o:=hy;subst hy;unfold pV;cases hc:eJ p o with
 |false=>exact⟨iZ (aF (gK (aF cM (aF (.refl _) bM))) (aF (.refl _) bM))⟩
 |true =>
 have hc2:p.code.length<=2000:=by simp only[eJ,aL,zaG,zaK]at hc;omega
 refine⟨p,.rfl,⟨hw⟩, ?_⟩;rintro bl rfl;have hbl:=fun i=>a4M (p:=p) (i:=i)
 have hbn:=a4N (p:=p);generalize xC p=bl at *;refine gT mix aZL (fun i:Nat=>wtS p o bl (wF p o bl i) i) (fun i=>i<=bl.length) (fun i=>bl.length-i) 0 (Nat.zero_le _) (.of (dL ⟨rfl,rfl,rfl,rfl,rfl,trivial⟩ ⟨rfl,congrArg some (qK fun j hj=>(aZM (Nat.not_lt_zero j)).symm),rfl,rfl,rfl,trivial⟩ (zaF _))) ?_;intro i hi;refine Eq.mpr (a4K p o bl _ _ _ _ _ _ _ _ i _ _) ?_;by_cases hlt:i<bl.length
 case neg =>
  have h1:¬(i:Int)<(bl.length:Int):=by omega
  obtain rfl:i=bl.length:=by omega
  simp only[h1,zaE,zaD,zaF,zaC,zaB];refine⟨iZ (aF (gK (aF (gZ (by simp) (.inl rfl) fun j hj => ?_) (aF (.refl _) bM))) (aF (.refl _) bM))⟩;show leQ _ (con (aTC (ix (bl.map (aTH p o)) j)));rw[nI hj];have e:=aTI (p:=p) (o:=o) (bl:=bl) hj;show leQ (con (wF p o bl bl.length j)) _;rw[e];exact .refl _
 have h1:(i:Int)<(bl.length:Int):=by omega
 obtain⟨b1,b2,b3⟩:=hbl i hlt;simp only[h1,hlt,zaC,zaB,zaQ];have hb0:zE (ix bl i)=((ix bl i).dst-(ix bl i).src).toNat:=rfl;refine gT mix aZL (fun k:Nat=>wiS p o bl (wF p o bl i) (fun j=>wF p o bl i (i+1+j)) i ((ix bl i).src.toNat+k) (emA p o (ix bl i) k) (emE p o (ix bl i) k)) (fun k=>k<=zE (ix bl i)) (fun k=>zE (ix bl i)-k) 0 (Nat.zero_le _) (rN [(0,0),(1,1),(2,2),(3,3),(4,4)] rfl rfl rfl rfl rfl ⟨aH (by
   show con (.int .i64 (ix bl i).src)=con (.int .i64 (((ix bl i).src.toNat+0:Nat):Int));rw[show(((ix bl i).src.toNat+0:Nat):Int)=(ix bl i).src by omega]) rfl,.ptr rfl,aH rfl rfl,.ptr rfl,.ptr rfl,.ptr rfl,.ptr rfl,trivial⟩
  ⟨⟨9,rfl⟩,⟨9,rfl⟩,.agg (.cons (.sl rfl) (.cons (aH rfl rfl) .nil)),a33 hlt (.agg (.cons (aH rfl rfl) (.cons (aH rfl rfl) (.cons (aH rfl rfl) (.cons (aH rfl rfl) (.cons ?_ (.cons ?_ .nil))))))),aH rfl rfl,aH rfl rfl,aH rfl rfl,trivial⟩) ?_
 ·simp only[Nat.lt_irrefl,zaE,zaD,zaH];exact wW rfl
 ·simp only[Nat.lt_irrefl,zaE,zaD,zaH];exact wW rfl
 intro k hk;have hA:=xF (f:=fun j=>(jD (ix p.code ((ix bl i).src.toNat+j)) o (((ix bl i).src.toNat+j:Nat):Int) (j:Int)).1) (fun j=>tH.1) (k:=k);have hE:=xF (f:=fun j=>(jD (ix p.code ((ix bl i).src.toNat+j)) o (((ix bl i).src.toNat+j:Nat):Int) (j:Int)).2) (fun j=>tH.2) (k:=k);replace hA:(emA p o (ix bl i) k).length<=4*k:=hA;replace hE:(emE p o (ix bl i) k).length<=4*k:=hE;refine Eq.mpr (a4L p o bl _ _ i _ _ _ _ _ _) ?_;simp only[List.take_succ_cons,List.take_zero,List.set_cons_succ,List.set_cons_zero,uN,XV.size,cC,Nat.add_zero,zaQ,zaB];by_cases hlk:k<zE (ix bl i)
 case neg =>
  have h2:¬(((ix bl i).src.toNat+k:Nat):Int)<(ix bl i).dst:=by omega
  obtain rfl:k=zE (ix bl i):=by omega
  have w3:IntKind.i64.wrap ((i:Int)+1)=((i+1:Nat):Int):=wrap_i64 (by omega) (by omega);simp only[h2,zaE,zaD,w3];refine⟨i+1,hlt, ?_,by omega⟩;refine cJ.trans (τ:=XSt.st ⟨[(7,.int .i64 ((i+1:Nat):Int)),(6,.ptr 4 [] 0),(4,.ptr 2 [] 0),(3,.ptr 1 [] 0),(2,.ptr 0 [] 0)],[(4,some (.agg 17 [.sl 3 [] 0 0 bl.length 6,.tab 16 1 fun i=>.int .i64 (o i)])),(3,some (.agg (bl.length*6) [.tab i 6 (wF p o bl i),.agg 6 [.int .i64 (ix bl i).src,.int .i64 (ix bl i).dst,.int .i64 (ix bl i).next,.int .i64 (ix bl i).taken,aB 9 dD (emA p o (ix bl i) (zE (ix bl i))),aB 9 dD (emE p o (ix bl i) (zE (ix bl i)))],.tab (bl.length-i-1) 6 (fun j=>wF p o bl i (i+1+j))])),(2,some (.agg 17 [.row true 0 0 fun x=>.unk,.tab 16 1 fun x=>.int .i64 0])),(1,some (.tab 16 1 fun i=>.int .i64 (o i))),(0,some (aJ p))],7⟩) ?_ ?_
  ·exact cJ.frz (aY2 (L:=[5,6]) rfl rfl ⟨rfl,.same,rfl,.agg (.cons .same (.cons (.agg (.cons .same (.cons .same (.cons .same (.cons .same (.cons (mF rfl rfl) (.cons (mF rfl rfl) .nil))))))) (.cons .same .nil))),rfl,.same,rfl,.same,rfl,.same,trivial⟩)
  ·exact(rN (τ:=wtS p o bl (wF p o bl (i+1)) (i+1)) [(0,0),(1,1),(2,2),(3,3),(4,4)] rfl rfl rfl rfl rfl ⟨aH rfl rfl,.ptr rfl,.ptr rfl,.ptr rfl,.ptr rfl,trivial⟩ ⟨.agg (.cons (.sl rfl) (.cons (aH rfl rfl) .nil)),a9T (by omega) rfl rfl (aH rfl rfl) (fun j hj=>by rw[aTI hj,aTI (Nat.lt_succ_of_lt hj)]) (aTI (Nat.lt_succ_self i)).symm (fun j hj=>by rw[aZM (by omega),aZM (by omega)]),aH rfl rfl,aH rfl rfl,aH rfl rfl,trivial⟩)
 have h2:(((ix bl i).src.toNat+k:Nat):Int)<(ix bl i).dst:=by omega
 have h3:(((ix bl i).src.toNat+k:Nat):Int)<(p.code.length:Int):=by omega
 have w1:IntKind.i64.wrap ((((ix bl i).src.toNat+k:Nat):Int)-(ix bl i).src)=(k:Int):=by rw[wrap_i64 (by omega) (by omega)];omega
 have w2:IntKind.i64.wrap ((((ix bl i).src.toNat+k:Nat):Int)+1)=(((ix bl i).src.toNat+(k+1):Nat):Int):=by rw[wrap_i64 (by omega) (by omega)];omega
 simp only[h2,h3,w1,w2,zaC,zaB];refine⟨(ix p.code ((ix bl i).src.toNat+k),o,(((ix bl i).src.toNat+k:Nat):Int),(k:Int)),.rfl,⟨trivial⟩, ?_⟩;intro y hy;replace hy:y=jD (ix p.code ((ix bl i).src.toNat+k)) o (((ix bl i).src.toNat+k:Nat):Int) (k:Int):=hy;have hy1:y.1.length<=4/\y.2.length<=4:=by rw[hy];exact tH
 have eA:emA p o (ix bl i) (k+1)=emA p o (ix bl i) k++y.1:=by rw[hy];exact fT
 have eE:emE p o (ix bl i) (k+1)=emE p o (ix bl i) k++y.2:=by rw[hy];exact fT
 have b4:((emA p o (ix bl i) k).length+y.1.length)*72<=140737488355328:=by omega
 have b5:((emE p o (ix bl i) k).length+y.2.length)*72<=140737488355328:=by omega
 simp only[zaF,b4,b5,zaC,zaB];refine⟨k+1,hlk, ?_,by omega⟩;rw[eA,eE];generalize emA p o (ix bl i) k=ca;generalize emE p o (ix bl i) k=ce;refine rN [(0,0),(1,1),(2,2),(3,3),(4,4),(5,7),(6,8)] rfl rfl rfl rfl rfl ⟨aH rfl rfl,.ptr rfl,aH rfl rfl,.ptr rfl,.ptr rfl,.ptr rfl,.ptr rfl,trivial⟩
  ⟨aY1 rfl ?_ ?_,aY1 rfl ?_ ?_,.agg (.cons (.sl rfl) (.cons (aH rfl rfl) .nil)),.agg (.cons (aH rfl rfl) (.cons (.agg (.cons (aH rfl rfl) (.cons (aH rfl rfl) (.cons (aH rfl rfl) (.cons (aH rfl rfl) (.cons ?_ (.cons ?_ .nil))))))) (.cons (aH rfl rfl) .nil))),aH rfl rfl,aH rfl rfl,aH rfl rfl,trivial⟩
 ·intro j hj;simp only[hj,zaC,zaB];rfl
 ·intro j hj;have:¬ce.length+j<ce.length:=by omega
  simp only[this,zaE,zaD,Nat.add_sub_cancel_left];rfl
 ·intro j hj;simp only[hj,zaC,zaB];rfl
 ·intro j hj;have:¬ca.length+j<ca.length:=by omega
  simp only[this,zaE,zaD,Nat.add_sub_cancel_left];rfl
 ·rw[List.length_append];exact .sl rfl
 ·rw[List.length_append];exact .sl rfl
theorem bD9:bT zPr TT9:=bQ iR trivial trivial ⟨aZK,aTJ,trivial⟩ trivial
theorem a4O (p:Prog) (r:XV):(aO TT9 80 (bL TT9 80 20) 17 [aJ p] (fun v=>aA v r))=(∃(s:Prog),aI [aJ p] [aJ s]/\aN s.wf/\∀(y:Nat->Int),y=uV s->∃(s:Prog×(Nat->Int)),aI [aJ p,.tab 16 1 fun i=>.int .i64 (y i)] [aJ
 s.1,dE s.2]/\aN s.1.wf/\∀(y:Split×Int),y=pV s.1 s.2->aA (.tup [aG y.1,.int .i64 y.2]) r):=by kernel_rfl
theorem aZN:eV zPr (17,bD8):=bB fun p hw=>by have hw:p.wf:=hw;show Pure _ _ (cons [aJ p]) (con (aB5 (aHK p)));refine fF (u:=80) (k:=20) mix bD9 ?_;refine Eq.mpr (a4O p _) ?_;refine⟨p,.rfl,⟨hw⟩, ?_⟩;intro y hy;replace hy:y=uV p:=hy;subst hy;refine⟨(p,uV p),.rfl,⟨hw⟩, ?_⟩;intro y hy;replace hy:y=pV p (uV p):=hy;subst hy;exact .rfl
@[irreducible] def jE:AC:=cdO (trF zPr qq 106)
theorem o5:trF zPr qq 106=some (9,[(.tmp 4)],jE):=by kernel_rfl
@[irreducible] def eC:AC:=cdO (trF zPr qq 110)
@[irreducible] def fY:AC:=cdA [1,0,1,0,0] eC
@[irreducible] def jF:AC:=cdA [1,1] eC
theorem kL:trF zPr qq 110=some (19,[(.tmp 4)],eC):=by kernel_rfl
def lC:oX:=[(106,9,[(.tmp 4)],jE),(110,19,[(.tmp 4)],eC)]
theorem jG:nF (fun p=>trF zPr qq p.1=some p.2) lC:=⟨o5,kL,trivial⟩
@[irreducible] def xG:AC:=cdO (trF zPr qq 31)
theorem aHL:trF zPr qq 31=some (41,[(.tmp 2)],xG):=by kernel_rfl
@[irreducible] def xH:AC:=cdO (trF zPr qq 76)
theorem aHM:trF zPr qq 76=some (11,[(.tmp 6)],xH):=by kernel_rfl
@[irreducible] def tI:AC:=cdO (trF zPr qq 107)
theorem aDU:trF zPr qq 107=some (13,[(.tmp 4)],tI):=by kernel_rfl
def qQ:oX:=[(31,41,[(.tmp 2)],xG),(76,11,[(.tmp 6)],xH),(107,13,[(.tmp 4)],tI)]
theorem oI:nF (fun p=>trF zPr qq p.1=some p.2) qQ:=⟨aHL,aHM,aDU,trivial⟩
def TA0:Tab:=fW qq (qQ++lC) [] [] [] []
def aIZ (lo hi n:Int):Bool:=decide (n<lo)||decide (n>hi)
def bEA:List XV->Option ((XV->Prop)->Prop):=eZ (fun q:List Int×Int×Int=>[aB 1 bJ q.1,.clo 107 [.cH (.int .i64 q.2.1),.cH (.int .i64 q.2.2)]]) (fun q=>q.1.length<=1000000) (fun q=>lR (aIZ q.2.1 q.2.2) q.1) (fun y=>.int .i64 y)
def TA1:Tab:=fW qq (qQ++lC) [] [] [(110,bEA)] []
def cD (lo hi:Int) (l:List Int):Bool:=l.all fun n=>decide (lo<=n/\n<=hi)
def wnS:List XV->Option ((XV->Prop)->Prop):=eZ (fun q:Int×Int×List Int=>[.int .i64 q.1,.int .i64 q.2.1,aB 1 bJ q.2.2]) (fun q=>q.2.2.length<=1000000) (fun q=>cD q.1 q.2.1 q.2.2) (fun y=>.bool y)
def TA2:Tab:=fW qq (qQ++lC) [] [] [(76,wnS)] []
def cX (c:Cfg):Bool:=cD 1 64 [c.ldq,c.sdq,c.aeq,c.abq,c.ebq,c.saq,c.bN,c.jW]&&(cD 1 16 [c.dI]&&(cD 1 1000 [c.lat]&&cD 1 50 [c.mul,c.div]))
def aZO:List XV->Option ((XV->Prop)->Prop):=eZ (fun c:Cfg=>[aV c]) (fun c=>True) (fun c=>cX c) (fun y=>.bool y)
theorem a7S:bT zPr TA0:=bQ (oI.app jG) trivial trivial trivial trivial
theorem bEB (l:List Int) (lo hi:Int) (r:XV):(goQ zPr TA0 [(.tmp 4)] r (.run eC) [] ⟨kF 0 [aB 1 bJ l,.clo 107 [.cH (.int .i64 lo),.cH (.int .i64 hi)]],[],0⟩)=(bX (Ok zPr (Tab.q TA0)) fY (XSt.mk [(8,.int .i64 0),(7,.int .i64 (↑(l.length):Int)),(4,.int .i64 0),(0,aB 1 bJ l),(1,.clo 107
 [.cH (.int .i64 lo),.cH (.int .i64 hi)])] [] 0) [Frm.blk 0,Frm.seq jF] (dC [AR.tmp 4] r)):=by kernel_rfl 
theorem bEC (l:List Int) (lo hi:Int) (i:Nat) (r:XV) (A:XSt->Prop):(goQ zPr TA0 [(.tmp 4)] r (.run fY) [.lp fY A,.blk 0,.seq jF] ⟨[(0,aB 1 bJ l),(1,.clo 107 [.cH (.int .i64 lo),.cH (.int .i64 hi)]),(8,.int .i64 i),(7,.int .i64 l.length)],[],0⟩)=(
 letI q1:=decide ((↑i:Int)<(↑(l.length):Int));
 letI q2:=decide (ix l i<lo);cond q1 (cond q1 (cond (cond q2 true (!q2)) (cond (cond q2 true (decide (ix l i>hi))) (aA (.int .i64 (↑i:Int)) r) (A
  (XSt.mk [(8,.int .i64 (IntKind.wrap .i64 ((↑i:Int)+1))),(0,aB 1 bJ l),(1,.clo 107 [.cH (.int .i64 lo),.cH (.int .i64 hi)]),(7,.int .i64 (↑(l.length):Int))] []
  0))) False) False) (aA (.int .i64 (-1:Int)) r)):=by kernel_rfl
theorem bAQ:eV zPr (110,bEA):=bB fun⟨l,lo,hi⟩ h=>by
 have hl:l.length<=1000000:=h;refine j9 mix a7S kL (Nat.le_of_ble_eq_true rfl) ?_;refine Eq.mpr (bEB l lo hi _) ?_;refine gT mix a7S (fun i:Nat=>⟨[(0,aB 1 bJ l),(1,.clo 107 [.cH (.int .i64 lo),.cH (.int .i64 hi)]),(8,.int .i64 i),(7,.int .i64 l.length)],[],0⟩) (fun i=>i<=l.length/\∀ j,j<i->aIZ lo hi (ix l j)=false) (fun i=>l.length-i) 0 ⟨Nat.zero_le _,fun j hj=>by omega⟩ (.of (dL ⟨rfl,rfl,rfl,rfl,trivial⟩ trivial (zaF _))) ?_;rintro i ⟨hi1,hp⟩;refine Eq.mpr (bEC l lo hi i _ _) ?_;by_cases hlt:i<l.length
 ·have h1:(i:Int)<(l.length:Int):=by omega
  have w1:IntKind.i64.wrap ((i:Int)+1)=((i+1:Nat):Int):=wrap_i64 (by omega) (by omega);simp only[g1,g2,g3,g4,g5,g6,g7,aD,zaB,zaF,zaC,cC,h1,w1];rw[bor];refine kX (fun h => ?_) (fun h => ?_)
  ·have e:lR (aIZ lo hi) l=i:=tC hlt h hp;show aA _ (.int .i64 (lR (aIZ lo hi) l));rw[e];exact .rfl
  ·refine⟨i+1,⟨hlt,fun j hj => ?_⟩,.of (dL ⟨rfl,rfl,rfl,rfl,trivial⟩ trivial (zaF _)),by omega⟩;by_cases hji:j=i
   ·subst hji;exact h
   ·exact hp j (by omega)
 ·have h1:¬(i:Int)<(l.length:Int):=by omega
  simp only[h1,zaE,zaD];have e:lR (aIZ lo hi) l = -1:=yR fun j hj=>hp j (by omega)
  show aA _ (.int .i64 (lR (aIZ lo hi) l));rw[e];exact .rfl
theorem bED:bT zPr TA1:=bQ (oI.app jG) trivial trivial ⟨bAQ,trivial⟩ trivial
theorem bHZ (l:List Int) (lo hi:Int) (r:XV):(aO TA1 80 (bL TA1 80 20) 76 [.int .i64 lo,.int .i64 hi,aB 1 bJ l] (fun v=>aA v r))=(∃(s:List Int×Int×Int),aI [aB 1 bJ l,.clo 107 [.cH (.int .i64 lo),.cH (.int .i64 hi)]] [aB 1 bJ s.1,.clo 107 [.cH (.int .i64 s.2.1),.cH (.int .i64
 s.2.2)]]/\aN (s.1.length<=1000000)/\∀(y:Int),y=lR (aIZ s.2.1 s.2.2) s.1->aA (.bool !decide (y>=0)) r):=by kernel_rfl
theorem aRJ {lo hi:Int} {l:List Int}:cD lo hi l = !l.any (aIZ lo hi):=by unfold cD;rw[List.not_any_eq_all_not];congr 1;funext n;unfold aIZ;rw[Bool.eq_iff_iff];simp
theorem a7T:eV zPr (76,wnS):=bB fun⟨lo,hi,l⟩ h=>by have hl:l.length<=1000000:=h;show Pure _ _ (cons [.int .i64 lo,.int .i64 hi,aB 1 bJ l]) (con (.bool (cD lo hi l)));refine fF (u:=80) (k:=20) mix bED ?_;refine Eq.mpr (bHZ l lo hi _) ?_;refine⟨(l,lo,hi),.rfl,⟨hl⟩, ?_⟩;intro y hy;replace hy:y=lR (aIZ lo hi) l:=hy;subst hy;rw[aRJ,<-a32];exact .rfl
theorem bEE:bT zPr TA2:=bQ (oI.app jG) trivial trivial ⟨a7T,trivial⟩ trivial
theorem bEF (c:Cfg) (r:XV):(aO TA2 80 (bL TA2 80 20) 31 [aV c] (fun v=>aA v r))=(
 letI q1:=fun(a:Nat)=>a-1;
 letI q2:=fun(a:Nat)=>q1 a-1;
 letI q3:=fun(a:Nat)=>q2 a-1;
 letI q4:=fun(a:Nat)=>q3 a-1;
 letI q5:=fun(a:Nat)=>q4 a-1;
 letI q6:Int×Int×List Int->List XV:=fun s=>[.int .i64 s.1,.int .i64 s.2.1,aB 1 bJ s.2.2];
 letI q7:Int×Int×List Int->Prop:=fun s=>aN (s.2.2.length<=1000000);
 letI q8:Bool->Int×Int×List Int->Prop:=fun y s=>y=cD s.1 s.2.1 s.2.2;∃(s:Int×Int×List Int),aI [.int .i64 1,.int .i64 64,.row true 1 8 fun a=>.int
  .i64 (cond (Nat.beq a 0) c.ldq (cond (Nat.beq (q1 a) 0) c.sdq (cond (Nat.beq (q2 a) 0) c.aeq (cond (Nat.beq (q3 a) 0) c.abq (cond (Nat.beq (q4 a) 0) c.ebq (cond (Nat.beq (q5 a) 0) c.saq (cond (Nat.beq (q5 a-1) 0) c.bN c.jW)))))))] (q6 s)/\q7 s/\∀(y:Bool),q8 y s->cond y (∃(s:Int×Int×List Int),aI
  [.int .i64 1,.int .i64 16,.row true 1 1 fun a=>.int .i64 c.dI] (q6 s)/\q7 s/\∀(y_1:Bool),q8 y_1 s->cond (cond y y_1 false) (∃(s:Int×Int×List Int),aI
  [.int .i64 1,.int .i64 1000,.row true 1 1 fun a=>.int .i64 c.lat] (q6 s)/\q7 s/\∀(y_2:Bool),q8 y_2 s->cond (cond (cond y y_1 false) y_2 false) (∃(s:Int
  × Int×List Int),aI [.int .i64 1,.int .i64 50,.row true 1 2 fun a=>.int .i64 (cond (Nat.beq a 0) c.mul c.div)] (q6 s)/\q7 s/\∀(y_3:Bool),q8 y_3 s->aA (.bool
  (cond (cond (cond y y_1 false) y_2 false) y_3 false)) r) (cond (!cond (cond y y_1 false) y_2 false) (aA (.bool false) r) False)) (cond (!cond y y_1 false) (aA (.bool false) r) False)) (cond (!y) (aA (.bool false) r) False)):=by kernel_rfl
theorem bAR {α:Type} [Inhabited α] {x:Bool} {es n:Nat} {f:Nat->XV} {en:α->XV} {l:List α} (hn:n=l.length) (h:gP (fun i=>true) n=true->∀ i,i<n->con (f i)=con (en (ix l i))):leQ (con (.row x es n f)) (con (aB es en l)):=gZ hn (.inl rfl) fun i hi=>aHE (h (dH.2 fun _ _=>rfl) i hi)
theorem bAS:eV zPr (31,aZO):=bB fun c _=>by
 show Pure _ _ (cons [aV c]) (con (.bool (cX c)));refine fF (u:=80) (k:=20) mix bEE ?_;refine Eq.mpr (bEF c _) ?_;unfold cX;refine⟨(1,64,[c.ldq,c.sdq,c.aeq,c.abq,c.ebq,c.saq,c.bN,c.jW]),⟨aF (.refl _) (aF (.refl _) (aF (bAR rfl fun _ i hi => ?_) bM))⟩,⟨by show 8<=1000000;omega⟩, ?_⟩
 ·match i,hi with
  |0,_=>rfl
  |1,_=>rfl
  |2,_=>rfl
  |3,_=>rfl
  |4,_=>rfl
  |5,_=>rfl
  |6,_=>rfl
  |7,_=>rfl
  |n+8,h=>omega
 intro y hy;replace hy:y=cD 1 64 [c.ldq,c.sdq,c.aeq,c.abq,c.ebq,c.saq,c.bN,c.jW]:=hy;rw[<-hy];cases y with
 |false=>exact .rfl
 |true =>
 refine⟨(1,16,[c.dI]),⟨aF (.refl _) (aF (.refl _) (aF (dG (.refl _)) bM))⟩,⟨by show 1<=1000000;omega⟩, ?_⟩;intro y hy;replace hy:y=cD 1 16 [c.dI]:=hy;rw[<-hy];cases y with
 |false=>exact .rfl
 |true =>
 refine⟨(1,1000,[c.lat]),⟨aF (.refl _) (aF (.refl _) (aF (dG (.refl _)) bM))⟩,⟨by show 1<=1000000;omega⟩, ?_⟩;intro y hy;replace hy:y=cD 1 1000 [c.lat]:=hy;rw[<-hy];cases y with
 |false=>exact .rfl
 |true =>
 refine⟨(1,50,[c.mul,c.div]),⟨aF (.refl _) (aF (.refl _) (aF (dK (.refl _) (.refl _)) bM))⟩,⟨by show 2<=1000000;omega⟩, ?_⟩;intro y hy;replace hy:y=cD 1 50 [c.mul,c.div]:=hy;subst hy;exact .rfl
def TB1:Tab:=mkT qq (fX++lC) [] []
def szI (op:Int):Int:=if op=26\/op=31 then 4 else if op=27\/op=28\/op=32 then 2 else if op=29\/op=30\/op=33 then 1 else 0
def aRK:List XV->Option (List Bool×XV)
 |[.int .i64 op]=>some ([],.int .i64 (szI op))
 |_=>none
def dV (s a n:Int):Int:=if s>=1/\¬(IntKind.i64.wrap a).tmod s=0 then 1 else if(s>0/\(s>n\/IntKind.i64.wrap a>IntKind.i64.wrap (n-s)))\/(s<=0/\IntKind.i64.wrap (IntKind.i64.wrap a+s)>n)then 2 else 0
def aKC:List XV->Option (List Bool×XV)
 |[.int .i64 s,.int .u32 a,.int .i64 n]=>some ([],.int .i64 (dV s a n))
 |_=>none
def aDV (op w:Int):Int:=if op=27 then(if w%65536>=32768 then w%65536+4294901760 else w%65536)else if op=29 then(if w%256>=128 then w%256+4294967040 else w%256)else w
def aTK:List XV->Option (List Bool×XV)
 |[.int .i64 op,.int .u32 w]=>some ([decide (0<=w),decide (w<=4294967295)],.int .u32 (aDV op w))
 |_=>none
def n6 (w n:Int):Int:=if n=1 then eR .and .u32 w 255 else if n=2 then eR .and .u32 w 65535 else if n=4 then w else 0
def aTL:List XV->Option (List Bool×XV)
 |[.int .u32 w,.int .i64 n]=>some ([],.int .u32 (n6 w n))
 |_=>none
theorem aTM:bT zPr TB1:=sH (dY.app jG) trivial trivial
theorem a4P (op:Int) (K:XV->Prop):(aO TB1 80 (bL TB1 80 20) 43 [.int .i64 op] K)=(
 letI q1:=decide (op=26);
 letI q2:=decide (op=27);
 letI q3:=decide (op=29);
 letI q4:=decide (op=30);
 letI q5:=cond q3 (cond q3 (K (.int .i64 1)) (K (.int .i64 0))) (cond q4 (cond q4 (K (.int .i64 1)) (K (.int .i64 0))) (cond (decide (op=33)) (K (.int .i64
  1)) (K (.int .i64 0))));
 letI q6:=decide (op=28);
 letI q7:=cond q2 (cond q2 (K (.int .i64 2)) q5) (cond q6 (cond q6 (K (.int .i64 2)) q5) (cond (decide (op=32)) (K (.int .i64 2)) q5));cond q1 (cond q1 (K (.int .i64 4)) q7) (cond (decide (op=31)) (K (.int .i64 4)) q7)):=by kernel_rfl
theorem aZP (s a n:Int) (K:XV->Prop):(aO TB1 80 (bL TB1 80 20) 42 [.int .i64 s,.int .u32 a,.int .i64 n] K)=(
 letI q1:=decide (s>=1);
 letI q2:=Int.tmod (IntKind.wrap .i64 a) s=0;
 letI q3:=decide (s>0);
 letI q4:=!q3;
 letI q5:=cond q3 (cond (decide (n<s)) true (decide (IntKind.wrap .i64 a>IntKind.wrap .i64 (n-s)))) false;
 letI q6:=!q5;
 letI q7:=!q6;
 letI q8:=decide (s<=0);
 letI q9:=IntKind.wrap .i64 (IntKind.wrap .i64 a+s);cond (cond (!decide (s=0)) true (!q1)) (cond (cond q1 q1 true) (cond (cond q1 (decide ¬q2) false) (K (.int .i64 1)) (cond (cond q3 true q4) (cond (cond (cond (decide (n<s)) true (cond q3 (!decide (n<s)) false)) true q4) (cond (cond q3 q3 true) (cond (cond q6 true q7) (cond (cond (cond q8 (cond q6 q8 false) true) true q7) (cond (cond q5 true q6) (cond (cond q5 true (cond q8 (decide (n<q9)) false)) (K (.int .i64 2)) (K (.int .i64 0))) False) False) False) False) False) False)) False) False):=by kernel_rfl
theorem a4Q (op w:Int) (K:XV->Prop):(aO TB1 80 (bL TB1 80 20) 95 [.int .i64 op,.int .u32 w] K)=(
 letI q1:=IntKind.wrap .i64 (IntKind.wrap .u32 (w*65536));
 letI q2:=IntKind.wrap .i64 (IntKind.wrap .u32 (w*16777216));cond (decide (op=27)) (cond (decide (q1>=2147483648)) (K (.int .u32 (IntKind.wrap .u32 (Int.fdiv (IntKind.wrap
  .i64 (q1-4294967296)) (65536:Int))))) (K (.int .u32 (IntKind.wrap .u32 (Int.fdiv q1 (65536:Int)))))) (cond (decide (op=29)) (cond (decide (q2>=2147483648)) (K (.int
  .u32 (IntKind.wrap .u32 (Int.fdiv (IntKind.wrap .i64 (q2-4294967296)) (16777216:Int))))) (K (.int .u32 (IntKind.wrap .u32 (Int.fdiv q2 (16777216:Int)))))) (K (.int .u32 w))))
  := by kernel_rfl
theorem bAT (a n:Int) (K:XV->Prop):(aO TB1 80 (bL TB1 80 20) 47 [.int .u32 a,.int .i64 n] K)=(cond (decide (n=1)) (K (.int .u32 (eR .and .u32 a (255:Int)))) (cond (decide (n=2)) (K (.int .u32 (eR .and .u32 a (65535:Int)))) (cond (decide (n=4)) (K (.int
 .u32 a)) (K (.int .u32 0))))):=by kernel_rfl
theorem xI:rD zPr (43,aRK):=by
 intro args nd v ha hn;simp only[aRK]at ha;split at ha<;>simp only[zaA,zaJ,reduceCtorEq]at ha;obtain⟨hnd,rfl⟩:=ha;clear hnd hn;rename_i op;refine gQ (u:=80) (k:=20) mix aTM ?_;rw[a4P];unfold szI;by_cases h1:op=26
 ·subst h1;simp
 by_cases h2:op=27
 ·subst h2;simp
 by_cases h3:op=28
 ·subst h3;simp
 by_cases h4:op=29
 ·subst h4;simp
 by_cases h5:op=30
 ·subst h5;simp
 by_cases h6:op=31
 ·subst h6;simp
 by_cases h7:op=32
 ·subst h7;simp
 by_cases h8:op=33
 ·subst h8;simp
 simp[h1,h2,h3,h4,h5,h6,h7,h8]
theorem yU:rD zPr (42,aKC):=by
 intro args nd v ha hn;simp only[aKC]at ha;split at ha<;>simp only[zaA,zaJ,reduceCtorEq]at ha;obtain⟨hnd,rfl⟩:=ha;clear hnd hn;rename_i s a n;refine gQ (u:=80) (k:=20) mix aTM ?_;rw[aZP];unfold dV;by_cases h1:s>=1
 ·have h0:¬s=0:=by omega
  have h2:s>0:=by omega
  have h3:¬s<=0:=by omega
  by_cases h4:(IntKind.i64.wrap a).tmod s=0
  ·by_cases h5:s>n
   ·simp[h0,h1,h2,h3,h4,h5]
   ·by_cases h6:IntKind.i64.wrap a>IntKind.i64.wrap (n-s)
    ·simp[h0,h1,h2,h3,h4,h5,h6]
    ·simp[h0,h1,h2,h3,h4,h5,h6]
  ·simp[h0,h1,h2,h3,h4]
 ·have h2:¬s>0:=by omega
  have h3:s<=0:=by omega
  by_cases h6:IntKind.i64.wrap (IntKind.i64.wrap a+s)>n
  ·simp[h1,h2,h3,h6]
  ·simp[h1,h2,h3,h6]
theorem aZQ:rD zPr (95,aTK):=by
 intro args nd v ha hn;simp only[aTK]at ha;split at ha<;>simp only[zaA,zaJ,reduceCtorEq]at ha;obtain⟨rfl,rfl⟩:=ha;simp only[bH,zaK]at hn;obtain⟨h1,h2,hnil⟩:=hn;refine gQ (u:=80) (k:=20) mix aTM ?_;rw[a4Q];unfold aDV;rename_i op w;by_cases ho:op=27
 ·simp only[ho,zaC,zaB,if_true,wA,a3Y];rw[oC (by omega),oC (by omega)];refine kX (fun h => ?_) (fun h => ?_)<;>simp only[zaK,zaP]at h<;>refine aHC ?_<;>split<;>omega
 ·by_cases ho2:op=29
  ·subst ho2;simp only[show ¬(29:Int)=27 by decide,zaC,zaE,zaB,zaD,if_true,if_false,wA,a3Y];rw[oC (by omega),oC (by omega)];refine kX (fun h => ?_) (fun h => ?_)<;>simp only[zaK,zaP]at h<;>refine aHC ?_<;>split<;>omega
  ·simp only[ho,ho2,zaE,zaD,if_false]
theorem aTN:rD zPr (47,aTL):=by
 intro args nd v ha hn;simp only[aTL]at ha;split at ha<;>simp only[zaA,zaJ,reduceCtorEq]at ha;obtain⟨hnd,rfl⟩:=ha;clear hnd hn;rename_i w n;refine gQ (u:=80) (k:=20) mix aTM ?_;rw[bAT];unfold n6;by_cases h1:n=1
 ·subst h1;simp
 by_cases h2:n=2
 ·subst h2;simp
 by_cases h3:n=4
 ·subst h3;simp
 simp[h1,h2,h3]
def TB2:Tab:=mkT qq (fX++lC) [(43,aRK),(41,lM),(42,aKC),(95,aTK)] []
def aFE (f:Nat->XV) (i:Nat):XV:=.int .u8 (asN (f i))
def wrd (f:Nat->XV) (a:Nat):Nat->Int
 |0=>0
 |i+1=>wrd f a i+asN (f (a+i))*2^(8*i)
def xJ (n:Nat) (f:Nat->XV) (op a:Int):Int:=if op>=26/\op<=30/\dV (szI op) a n=0 then aDV op (wrd f a.toNat (szI op).toNat)else 0
def a7U (n:Nat) (f:Nat->XV):List XV->Option (List Bool×XV)
 |[.int .i64 op,.int .u32 a]=>some ([aQ8 n f,decide (0<=a),decide (a<=4294967295)],.int .u32 (xJ n f op a))
 |_=>none
def aRL:=aLQ 1 (.i .u8) 1099511627776 a7U
theorem a7V:bT zPr TB2:=sH (dY.app jG) ⟨xI,kC,yU,aZQ,trivial⟩ trivial
theorem aL0 {op:Int} (h1:op>=26) (h2:op<=30):szI op=1\/szI op=2\/szI op=4:=by
 unfold szI;by_cases h3:op=26\/op=31
 ·simp[h3]
 ·rw[if_neg h3];by_cases h4:op=27\/op=28\/op=32
  ·simp[h4]
  ·rw[if_neg h4,if_pos (by omega)];exact .inl rfl
theorem uW {s a:Int} {n:Nat} (hs:s=1\/s=2\/s=4) (h0:0<=a) (h1:a<=4294967295) (hn:n<=1099511627776) (h:dV s a n=0):a+s<=n/\a%s=0:=by
 unfold dV at h;split at h
 ·cases h
 ·rename_i h2;split at h
  ·cases h
  ·rename_i h3;have h4:IntKind.i64.wrap a=a:=wrap_i64 (by omega) (by omega);have h5:IntKind.i64.wrap ((n:Int)-s)=n-s:=wrap_i64 (by omega) (by omega);rw[h4]at h2 h3;rw[h5]at h3;have h6:a.tmod s=0:=Classical.byContradiction fun h=>h2 ⟨by omega,h⟩
   rw[Int.tmod_eq_emod_of_nonneg h0]at h6;refine⟨?_,h6⟩;have h7:¬(s>n\/a>n-s):=fun h=>h3 (.inl ⟨by omega,h⟩)
   omega
theorem aL1 {n:Nat} {f:Nat->XV} (hb:∀ i,i<n->0<=asN (f i)/\asN (f i)<=255) (a:Nat):∀ i,a+i<=n->0<=wrd f a i/\wrd f a i<2^(8*i)
 |0,_=>by simp[wrd]
 |i+1,h=>by
  obtain⟨h1,h2⟩:=aL1 hb a i (by omega);obtain⟨h3,h4⟩:=hb (a+i) (by omega);simp only[wrd];have h5:(2:Int)^(8*(i+1))=256*2^(8*i):=by rw[show 8*(i+1)=8*i+8 by omega,Int.pow_add];omega
  rw[h5];have hp:(0:Int)<2^(8*i):=Int.pow_pos (by omega);generalize (2:Int)^(8*i)=p at *;have h6:asN (f (a+i))*p<=255*p:=Int.mul_le_mul_of_nonneg_right h4 (by omega);have h7:0<=asN (f (a+i))*p:=Int.mul_nonneg h3 (by omega);omega
theorem aZR {n:Nat} {f:Nat->XV} (hb:∀ i,i<n->0<=asN (f i)/\asN (f i)<=255) (a i:Nat) (hi:i<4) (h:a+i<n) :
  eR .or .u32 (wrd f a i) (IntKind.u32.wrap (IntKind.u32.wrap (asN (f (a+i)))*2^(8*i)))=wrd f a (i+1):=by
 obtain⟨h1,h2⟩:=aL1 hb a i (by omega);obtain⟨h3,h4⟩:=hb (a+i) h;have h5:IntKind.u32.wrap (asN (f (a+i)))=asN (f (a+i)):=wrap_u32 h3 (by omega);rw[h5];have hp:(0:Int)<2^(8*i)/\(2:Int)^(8*i)<=16777216:=by rcases(by omega:i=0\/i=1\/i=2\/i=3)with rfl|rfl|rfl|rfl<;>simp
 have h6:0<=asN (f (a+i))*2^(8*i):=Int.mul_nonneg h3 (by omega);have h7:asN (f (a+i))*2^(8*i)<=255*2^(8*i):=Int.mul_le_mul_of_nonneg_right h4 (by omega);have h8:IntKind.u32.wrap (asN (f (a+i))*2^(8*i))=asN (f (a+i))*2^(8*i):=by generalize (2:Int)^(8*i)=p at *;exact wrap_u32 h6 (by omega)
 rw[h8,a9O h1 h2 h3 (by generalize (2:Int)^(8*i)=p at *;omega)];rfl
theorem a4R (x:Bool) (n:Nat) (f:Nat->XV) (op a:Int) (r:AV):(goS zPr TB2 [(.tmp 6)] r (.run oY) [] ⟨kF 0 [.row x 1 n (aFE f),.int .i64 op,.int .u32 a],[],0⟩)=(
 letI q1:=decide ¬aC op=4;
 letI q2:=dV (szI op) a (↑n:Int)=0;cond (cond q1 true (!q1)) (cond (cond q1 true (decide ¬q2)) (con (.int .u32 0)=r) (bX (Ok zPr (Tab.q TB2))
  qJ (XSt.mk [(9,.int .i64 0),(8,.int .u32 0),(7,.int .i64 (szI op)),(6,.int .u32 0),(0,.row x 1 n (aFE fun a=>f a)),(1,.int .i64 op),(2,.int .u32 a)] [] 0)
  [Frm.blk 0,Frm.seq wT] (aYQ [AR.tmp 6] r))) False):=by kernel_rfl
theorem aZS (x:Bool) (n:Nat) (f:Nat->XV) (op a w sz:Int) (i:Nat) (r:AV) (A:XSt->Prop):(goS zPr TB2 [(.tmp 6)] r (.run qJ) [.lp qJ A,.blk 0,.seq wT] ⟨[(9,.int .i64 i),(7,.int .i64 sz),(8,.int .u32 w),(0,.row x 1 n (aFE f)),(1,.int .i64 op),(2,.int .u32 a)],[],0⟩)=(
 letI q1:=IntKind.wrap .i64 (IntKind.wrap .i64 a+(↑i:Int));
 letI q2:=IntKind.wrap .u64 (IntKind.wrap .i64 ((8:Int)*(↑i:Int)));cond (decide ((↑i:Int)<sz)) (cond (decide (0<=q1)) (cond (decide (q1<(↑n:Int))) (cond (decide (0
  <= q2)) (A (XSt.mk [(9,.int .i64 (IntKind.wrap .i64 ((↑i:Int)+1))),(8,.int .u32 (eR .or .u32 w (IntKind.wrap .u32 (IntKind.wrap .u32 (asN (f (Int.toNat q1)))*2^Nat.min
  (Int.toNat q2) 32)))),(7,.int .i64 sz),(0,.row x 1 n (aFE fun a=>f a)),(1,.int .i64 op),(2,.int .u32 a)] [] 0)) False) False) False) (cond (decide (0<=w)) (cond (decide (w<=4294967295)) (con (.int .u32 (aDV op w))=r) False) False)):=by kernel_rfl
theorem aOY:rD zPr (46,aRL):=aJ6 fun x n f rest nd v hn hg hnd=>by
 unfold a7U at hg;split at hg<;>simp only[zaA,zaJ,reduceCtorEq]at hg;obtain⟨rfl,rfl⟩:=hg;rename_i op a;simp only[bH,zaK,aHD]at hnd;obtain⟨hb,h0,h1,hnil⟩:=hnd;refine bDQ mix a7V aER (Nat.le_of_ble_eq_true rfl) ?_;refine Eq.mpr (a4R x n f op a _) ?_;have hform:aC op=4↔op>=26/\op<=30:=by
  unfold aC
  repeat' split
  all_goals omega
 unfold xJ;by_cases h2:op>=26/\op<=30
 case neg =>
  have h3:¬aC op=4:=fun h=>h2 (hform.1 h)
  have h4:¬(op>=26/\op<=30/\dV (szI op) a n=0):=fun h=>h2 ⟨h.1,h.2.1⟩
  simp[h3,h4]
 have h3:=hform.2 h2;by_cases h4:dV (szI op) a n=0
 case neg=>simp[h3,h4]
 simp only[h2,h3,h4,and_self,zaC,zaE,zaB,zaD,aD,zaF,zaO,zaQ,aS,bI,zaI,zaH,zaN,zaM,zaT,zaR,zaS,ge_iff_le,Int.le_refl,if_true,if_false,reduceCtorEq,eq_self,BEq.rfl];have hs:=aL0 h2.1 h2.2;obtain⟨h5,_⟩:=uW hs h0 h1 hn h4;refine bDR mix a7V (fun i:Nat=>⟨[(9,.int .i64 i),(7,.int .i64 (szI op)),(8,.int .u32 (wrd f a.toNat i)),(0,.row x 1 n (aFE f)),(1,.int .i64 op),(2,.int .u32 a)],[],0⟩) (fun i=>i<=(szI op).toNat) (fun i=>(szI op).toNat-i) 0 (Nat.zero_le _) (a7I ⟨eF rfl,eF rfl,eF rfl,eF rfl,eF rfl,eF rfl,trivial⟩ trivial (zaF _)) ?_;intro i hi;rw[aZS];by_cases hlt:i<(szI op).toNat
 ·have g1:(i:Int)<szI op:=by omega
  have g2:IntKind.i64.wrap (IntKind.i64.wrap a+i)=a+i:=by rw[wrap_i64 (x:=a) (by omega) (by omega),wrap_i64 (by omega) (by omega)]
  have g3:IntKind.u64.wrap (IntKind.i64.wrap (8*(i:Int)))=8*i:=by rw[wrap_i64 (by omega) (by omega),bHW];omega
  have g4:(0:Int)<=a+i:=by omega
  have g5:a+(i:Int)<n:=by omega
  have g6:(0:Int)<=8*(i:Int):=by omega
  have g7:Nat.min (8*(i:Int)).toNat 32=8*i:=by
   have:(8*(i:Int)).toNat=8*i:=by omega
   rw[this];exact Nat.min_eq_left (by omega)
  have g8:(a+(i:Int)).toNat=a.toNat+i:=by omega
  simp only[g1,g2,g3,g4,g5,g6,g7,g8,zaC,zaE,zaB,zaD,aD,zaF,zaO,zaQ,aS,bI,zaI,zaH,zaN,zaM,zaT,zaR,zaS,ge_iff_le,Int.le_refl,if_true,if_false,reduceCtorEq,eq_self,BEq.rfl];refine⟨i+1,by omega,a7I ⟨eF (aHC ?_),eF rfl,eF (aHC (aZR hb _ _ (by omega) (by omega))),eF rfl,eF rfl,eF rfl,trivial⟩ trivial (zaF _),by omega⟩;rw[wrap_i64 (by omega) (by omega)];rfl
 ·have g1:¬(i:Int)<szI op:=by omega
  have g2:i=(szI op).toNat:=by omega
  obtain⟨g3,g4⟩:=aL1 hb a.toNat i (by omega);have g5:wrd f a.toNat i<=4294967295:=by
   have:(2:Int)^(8*i)<=4294967296:=by rcases(by omega:i=1\/i=2\/i=4)with rfl|rfl|rfl<;>simp
   omega
  simp only[g1,g3,g5,zaC,zaE,zaB,zaD,aD,zaF,zaO,zaQ,aS,bI,zaI,zaH,zaN,zaM,zaT,zaR,zaS,ge_iff_le,Int.le_refl,if_true,if_false,reduceCtorEq,eq_self,BEq.rfl];rw[g2]
end Go.Proofs.YtooojfbfobmkfaaGreat
namespace Go.Ra
set_option linter.unusedVariables false
def aB6 (T:Tab) (u:Nat) (ci:Nat->List XV->XSt->(XV->XSt->Prop)->Prop) (f:Nat) (args:List XV) (σ:XSt) (K:XV->XSt->Prop):Prop :=
 match T.wP f with
 |some (nt,rs,c)=>cond (Nat.ble args.length nt) (exC T ci u c ⟨kF 0 args,σ.hl,σ.n⟩ (aQT rs K)) False
 |none=>False
def aL2 (L:List Nat) (σ:XSt):List (Nat×XV)->List (Nat×XV)->Prop
 |[],[]=>True
 |(k,v)::r,(k',v')::r'=>k=k'/\leF L σ.st (con v) (con v')/\aL2 L σ r r'
 |_,_=>False
theorem aE0 {L:List Nat} {σ:XSt} {t:Nat}:∀ {a b:List (Nat×XV)},aL2 L σ a b->leF L σ.st (con (nB a t)) (con (nB b t))
 |[],[],_=>.same
 |(k,v)::r,(k',v')::r',h=>by
  obtain⟨rfl,h2,h3⟩:=h;simp only[nB,jV];by_cases hi:t=k
  ·rw[if_pos hi,if_pos hi];exact h2
  ·rw[if_neg hi,if_neg hi];exact aE0 h3
 |[],_::_,h=>h.elim
 |_::_,[],h=>h.elim
theorem aB7 {L:List Nat} {σ τ:XSt} (hn:τ.n=σ.n) (he:aL2 L σ σ.env τ.env) (hh:aHG L σ τ.hl):aVC σ.st τ.st:=by refine⟨L,hn,fun t => ?_,fun j=>uT hh⟩;show leF L σ.st (get (eS σ.env) t) (get (eS τ.env) t);rw[fP,fP];exact aE0 he
section
variable {P:Program} {T:Tab}
theorem bEG (hmix:P.follows .mixedOrders=true) (hT:bT P T) {u k f:Nat} {args:List XV} {r t:XV} (hs:(con t).eL=true) (hi:(con t).fB=true) (h:aB6 T u (bL T u k) f args ⟨[],[],0⟩ fun v σ=>eB v ⟨[],σ.hl,σ.n⟩ r t):wK P f (cons args) (con r) (con t):=by
 unfold aB6 at h;split at h
 ·rename_i nt rs c hc;cases hl:Nat.ble args.length nt<;>rw[hl]at h
  ·exact h.elim
  rw[zaB]at h;obtain⟨e,σ',h1,h2⟩:=uO hT (nD hmix hT k) c _ _ h;obtain⟨v',h3,h4⟩:=yP h1;have hw:=h2 _ (h4 (fun v τ=>(∃ id,τ.H id=some (con t)/\aIP id 0 v=some (con r))\/∃ es' es,v=.fro true es' []/\con t=.arr 0 es []/\con r=.sl 0 [] 0 0 0 es) h3.out);refine aK7 hmix Ok.ok Ok.quiet (hT.wP _ _ hc) (by rw[tB];exact Nat.le_of_ble_eq_true hl) hs hi ?_;simpa [XSt.st,qH,iW]using hw
 ·cases h
end
def aOZ (k:Nat) (l:List (Nat×Option XV)):Bool:=match j8 l k with|some _=>true|none=>false
def aB8 (hl:List (Nat×Option XV)):List (Nat×Nat)->List (Nat×Nat)
 |[]=>[]
 |(k,i)::r=>cond (aOZ k hl) ((k,i)::aB8 hl r) (aB8 hl r)
theorem aB9 {hl:List (Nat×Option XV)} {j:Nat} (hj:aOZ j hl=true):∀ {l:List (Nat×Nat)},kap (aB8 hl l) j=kap l j
 |[]=>rfl
 |(k,i)::r=>by
  simp only[aB8,kap,jV];cases hk:aOZ k hl with
  |true =>
   simp only[zaB,kap,jV];split
   ·rfl
   ·exact aB9 hj
  |false =>
   rw[zaD];have:¬j=k:=fun e=>by rw[e,hk]at hj;cases hj
   rw[if_neg this];exact aB9 hj
theorem rV {m:Nat} {σ τ:XSt} (kl:List (Nat×Nat)) (h1:aYT kl m=true) (h2:aG8 τ.n kl=true) (h3:aBR τ.n τ.hl=true) (h4:Nat.ble m τ.n=true) (h5:aG9 (aB8 τ.hl kl)=true) (h6:aLP (kap kl) τ.env σ.env) (h7:aBS (kap kl) τ.hl σ.hl):cJ m σ.st τ.st :=
 .ofK ⟨kap kl,(fun j hj=>by
  have h8:=oF h1 j hj;cases hk:kap kl j with
  |none=>rw[hk]at h8;cases h8
  |some i => rw[hk]at h8;rw[zaL h8]),(fun j hj=>⟨aDR h3 hj,aHA h2 hj⟩),Nat.le_of_ble_eq_true h4,(fun i j j' hj hj' e e'=>by
  have live:∀ j,τ.st.H j≠none->aOZ j τ.hl=true:=fun j hj=>by
   have hj:look (iW τ.hl) (fun _=>none) j≠none:=hj;rw[p7]at hj;unfold aOZ;cases hl:j8 τ.hl j with
   |none=>rw[hl]at hj;exact absurd rfl hj
   |some _=>rfl
  exact aLO h5 i j j' (by rw[aB9 (live j hj)];exact e) (by rw[aB9 (live j' hj')];exact e')),(fun t=>aAX h6),(fun j t' hj=>rM h7 hj)⟩
end Go.Ra
namespace Go.Proofs.YtooojfbfobmkfaaGreat
open Go.Ra
set_option linter.unusedVariables false
set_option linter.unusedSimpArgs false
def TB3:Tab:=mkT qq (fX++lC) [(42,aKC)] []
def okW (n:Nat) (a s:Int):Bool:=decide ((s=1\/s=2\/s=4)/\0<=a/\a<=4294967295/\dV s a n=0)
def jR (c:Bool) (f:Nat->XV) (a s:Nat) (v:Int) (i:Nat):XV:=.int .u8 (cond (c&&(decide (a<=i)&&decide (i<a+s))) (v/2^(8*(i-a))%256) (asN (f i)))
def bEH (n:Nat) (f:Nat->XV):List XV->Option (List Bool×XV)
 |[.agg 3 [.int .i64 a,.int .i64 s,.int .u32 v]]=>some ([],.row false 1 n (jR (okW n a s) f a.toNat s.toNat v))
 |_=>none
def a7W:=aLQ 1 (.i .u8) 1099511627776 bEH
def eM (m:List Int) (w:Wr):List Int:=dP m.length fun i=>asN (jR (okW m.length w.addr w.size) (fun i=>eP (ix m i)) w.addr.toNat w.size.toNat w.val i)
def aE1 (m:List Int):XV:=.tab m.length 1 (fun i=>eP (ix m i))
theorem a7X:bT zPr TB3:=sH (dY.app jG) ⟨yU,trivial⟩ trivial
theorem nQ {n:Nat} {a s:Int}:okW n a s=true↔(s=1\/s=2\/s=4)/\0<=a/\a<=4294967295/\dV s a n=0:=by simp[okW]
theorem yV {n:Nat} {a s:Int} (hs:s=1\/s=2\/s=4) (h:okW n a s=false):(cond (cond (decide (a<0)) true (decide (a>4294967295))) true (decide (¬dV s (IntKind.u32.wrap a) n=0)))=true:=by
 by_cases h1:a<0
 ·simp[h1]
 ·by_cases h2:a>4294967295
  ·simp[h1,h2]
  ·have h3:IntKind.u32.wrap a=a:=wrap_u32 (by omega) (by omega);have h4:¬dV s a n=0:=fun h4=>by
    have:okW n a s=true:=nQ.2 ⟨hs,by omega,by omega,h4⟩;rw[h]at this;cases this
   rw[h3];simp[h4]
theorem tJ {f:Nat->XV} {a s:Nat} {v:Int} {i:Nat}:jR false f a s v i=.int .u8 (asN (f i)):=rfl
theorem iT {f:Nat->XV} {a s:Nat} {v:Int} {i j:Nat} (hj:j<s) (hi:i=a+j):jR true f a s v i=.int .u8 (v/2^(8*j)%256):=by subst hi;simp only[jR];rw[show(true&&(decide (a<=a+j)&&decide (a+j<a+s)))=true by simp;omega,show a+j-a=j by omega];rfl
theorem uX {f:Nat->XV} {a s:Nat} {v:Int} {i:Nat} (h:i<a\/a+s<=i):jR true f a s v i=.int .u8 (asN (f i)):=by simp only[jR];rw[show(true&&(decide (a<=i)&&decide (i<a+s)))=false by simp;omega];rfl
theorem a4S (x:Bool) (n:Nat) (f:Nat->XV) (a s v:Int) (K:XV->Prop):(aO TB3 5 (bL TB3 5 20) 48 [.row x 1 n (aFE f),.agg 3 [.int .i64 a,.int .i64 s,.int .u32 v]] K)=(
 letI q1:=decide ¬s=1;
 letI q2:=cond q1 (decide ¬s=2) false;
 letI q3:=cond q2 (decide ¬s=4) false;
 letI q4:=cond q3 true (decide (a<0));
 letI q5:=cond q4 true (decide (a>4294967295));
 letI q6:=dV s (IntKind.wrap .u32 a) (↑n:Int)=0;
 letI q7:=decide (n<=n);
 letI q8:=cond q7 (K (.row false 1 n fun i=>.int .u8 (asN (f i)))) False;
 letI q9:=IntKind.wrap .i64 (a+0);
 letI q10:=Int.toNat q9;
 letI q11:=q10*1;
 letI q12:=decide (q10<n);
 letI q13:=IntKind.wrap .i64 ((0:Int)+1);
 letI q14:=IntKind.wrap .i64 (a+1);
 letI q15:=IntKind.wrap .i64 (a+q13);
 letI q16:=Int.toNat q14;
 letI q17:=q16*1;
 letI q18:=decide (q16<n);
 letI q19:=IntKind.wrap .i64 (q13+1);
 letI q20:=IntKind.wrap .i64 (a+2);
 letI q21:=IntKind.wrap .i64 (a+q19);
 letI q22:=Int.toNat q20;
 letI q23:=q22*1;
 letI q24:=decide (q22<n);
 letI q25:=IntKind.wrap .i64 (q19+1);
 letI q26:=IntKind.wrap .i64 (a+3);
 letI q27:=IntKind.wrap .i64 (a+q25);
 letI q28:=Int.toNat q26;
 letI q29:=q28*1;
 letI q30:=decide (q28<n);
 letI q31:=IntKind.wrap .i64 (q25+1);
 letI q32:=IntKind.wrap .i64 (a+4);
 letI q33:=IntKind.wrap .i64 (a+q31);
 letI q34:=Int.toNat q32;
 letI q35:=q34*1;
 letI q36:=decide (q34<n);
 letI q37:=fun(i:Nat)=>cond (Nat.beq i q10) (IntKind.wrap .u8 (Int.fdiv v (1:Int))) (asN (f i));
 letI q38:=fun(i:Nat)=>cond (Nat.beq i q16) (IntKind.wrap .u8 (Int.fdiv v (256:Int))) (q37 i);
 letI q39:=fun(i:Nat)=>cond (Nat.beq i q22) (IntKind.wrap .u8 (Int.fdiv v (65536:Int))) (q38 i);cond (decide (n*1<=140737488355328)) (cond (cond q1 q1 true) (cond (cond q2 q2 true) (cond (cond q3 true (!q3)) (cond (cond q4 true (!q4)) (cond (cond q5 true (!q5)) (cond (cond q5 true (decide ¬q6)) q8 (cond (decide (0<s)) (cond (decide (0<=q9)) (cond (decide (q9<(↑n:Int))) (cond (Nat.beq q11 q11) (cond q12 (cond q12 (cond (decide (1<s)) (cond (decide (0 <=
  q14)) (cond (decide (q14<(↑n:Int))) (cond (Nat.beq q17 q17) (cond q18 (cond q18 (cond (decide (2<s)) (cond (decide (0<=q20)) (cond (decide (q20<(↑n:Int))) (cond (Nat.beq q23 q23) (cond q24 (cond q24 (cond (decide (3<s)) (cond (decide (0<=q26)) (cond (decide (q26<(↑n:Int))) (cond (Nat.beq q29 q29) (cond q30 (cond q30 (cond (decide (4<s)) (cond (decide (0<=q32)) (cond (decide (q32<(↑n:Int))) (cond (Nat.beq q35 q35) (cond q36 (cond q36 False False) False) False) False) False) (cond q7 (K (.row false 1 n fun i=>.int .u8 (cond (Nat.beq i q28) (IntKind.wrap .u8 (Int.fdiv v (16777216:Int))) (q39 i)))) False)) False) False) False) False) False) (cond q7 (K (.row false 1 n fun i=>.int .u8 (q39 i))) False)) False) False) False) False) False) (cond q7 (K (.row false 1 n fun i=>.int .u8 (q38 i))) False)) False) False) False) False) False) (cond q7 (K (.row false 1 n fun i=>.int .u8 (q37 i))) False)) False) False) False) False) False) q8)) False) False) False) False) False) False):=by kernel_rfl
theorem a4T (x:Bool) (n:Nat) (f:Nat->XV) (a v:Int) (K:XV->Prop):(aO TB3 5 (bL TB3 5 20) 48 [.row x 1 n (aFE f),.agg 3 [.int .i64 a,.int .i64 1,.int .u32 v]] K)=(
 letI q1:=decide (a<0);
 letI q2:=cond q1 true (decide (a>4294967295));
 letI q3:=dV (1:Int) (IntKind.wrap .u32 a) (↑n:Int);
 letI q4:=q3=0;
 letI q5:=decide (n<=n);
 letI q6:=IntKind.wrap .i64 (a+0);
 letI q7:=Int.toNat q6;
 letI q8:=q7*1;
 letI q9:=decide (q7<n);cond (decide (n*1<=140737488355328)) (cond (cond q1 true (!q1)) (cond (cond q2 true (!q2)) (cond (cond q2 true (decide ¬q4)) (cond q5 (K (.row false 1 n fun i=>.int .u8 (asN (f i)))) False) (cond (decide (0<=q6)) (cond (decide (q6<(↑n:Int))) (cond (Nat.beq q8 q8) (cond q9 (cond q9 (cond q5 (K (.row false 1 n fun i=>.int .u8 (cond (Nat.beq i q7) (IntKind.wrap .u8 (Int.fdiv v (1:Int))) (asN (f i))))) False) False) False) False) False) False)) False) False) False):=by kernel_rfl
theorem a4U (x:Bool) (n:Nat) (f:Nat->XV) (a v:Int) (K:XV->Prop):(aO TB3 5 (bL TB3 5 20) 48 [.row x 1 n (aFE f),.agg 3 [.int .i64 a,.int .i64 2,.int .u32 v]] K)=(
 letI q1:=decide (a<0);
 letI q2:=cond q1 true (decide (a>4294967295));
 letI q3:=dV (2:Int) (IntKind.wrap .u32 a) (↑n:Int);
 letI q4:=q3=0;
 letI q5:=decide (n<=n);
 letI q6:=IntKind.wrap .i64 (a+0);
 letI q7:=Int.toNat q6;
 letI q8:=q7*1;
 letI q9:=decide (q7<n);
 letI q10:=IntKind.wrap .i64 (a+1);
 letI q11:=IntKind.wrap .i64 (a+IntKind.wrap .i64 ((0:Int)+1));
 letI q12:=Int.toNat q10;
 letI q13:=q12*1;
 letI q14:=decide (q12<n);cond (decide (n*1<=140737488355328)) (cond (cond q1 true (!q1)) (cond (cond q2 true (!q2)) (cond (cond q2 true (decide ¬q4)) (cond q5 (K (.row false 1 n fun i=>.int .u8 (asN (f i)))) False) (cond (decide (0<=q6)) (cond (decide (q6<(↑n:Int))) (cond (Nat.beq q8 q8) (cond q9 (cond q9 (cond (decide (0<=q10)) (cond (decide (q10<(↑n:Int))) (cond (Nat.beq q13 q13) (cond q14 (cond q14 (cond q5 (K (.row false 1 n fun i=>.int .u8 (cond (Nat.beq i q12) (IntKind.wrap .u8 (Int.fdiv v (256:Int))) (cond (Nat.beq i q7) (IntKind.wrap .u8 (Int.fdiv v (1:Int))) (asN (f i)))))) False) False) False) False) False) False) False) False) False) False) False)) False) False) False):=by kernel_rfl
theorem a4V (x:Bool) (n:Nat) (f:Nat->XV) (a v:Int) (K:XV->Prop):(aO TB3 5 (bL TB3 5 20) 48 [.row x 1 n (aFE f),.agg 3 [.int .i64 a,.int .i64 4,.int .u32 v]] K)=(
 letI q1:=decide (a<0);
 letI q2:=cond q1 true (decide (a>4294967295));
 letI q3:=dV (4:Int) (IntKind.wrap .u32 a) (↑n:Int);
 letI q4:=q3=0;
 letI q5:=decide (n<=n);
 letI q6:=IntKind.wrap .i64 (a+0);
 letI q7:=Int.toNat q6;
 letI q8:=q7*1;
 letI q9:=decide (q7<n);
 letI q10:=IntKind.wrap .i64 (a+1);
 letI q11:=IntKind.wrap .i64 ((0:Int)+1);
 letI q12:=IntKind.wrap .i64 (a+q11);
 letI q13:=Int.toNat q10;
 letI q14:=q13*1;
 letI q15:=decide (q13<n);
 letI q16:=IntKind.wrap .i64 (a+2);
 letI q17:=IntKind.wrap .i64 (q11+1);
 letI q18:=IntKind.wrap .i64 (a+q17);
 letI q19:=Int.toNat q16;
 letI q20:=q19*1;
 letI q21:=decide (q19<n);
 letI q22:=IntKind.wrap .i64 (a+3);
 letI q23:=IntKind.wrap .i64 (a+IntKind.wrap .i64 (q17+1));
 letI q24:=Int.toNat q22;
 letI q25:=q24*1;
 letI q26:=decide (q24<n);cond (decide (n*1<=140737488355328)) (cond (cond q1 true (!q1)) (cond (cond q2 true (!q2)) (cond (cond q2 true (decide ¬q4)) (cond q5 (K (.row false 1 n fun i=>.int .u8 (asN (f i)))) False) (cond (decide (0<=q6)) (cond (decide (q6<(↑n:Int))) (cond (Nat.beq q8 q8) (cond q9 (cond q9 (cond (decide (0<=q10)) (cond (decide (q10<(↑n:Int))) (cond (Nat.beq q14 q14) (cond q15 (cond q15 (cond (decide (0<=q16)) (cond (decide (q16<(↑n:Int))) (cond (Nat.beq
  q20 q20) (cond q21 (cond q21 (cond (decide (0<=q22)) (cond (decide (q22<(↑n:Int))) (cond (Nat.beq q25 q25) (cond q26 (cond q26 (cond q5 (K (.row false 1 n
  fun i=>.int .u8 (cond (Nat.beq i q24) (IntKind.wrap .u8 (Int.fdiv v (16777216:Int))) (cond (Nat.beq i q19) (IntKind.wrap .u8 (Int.fdiv v (65536:Int))) (cond (Nat.beq i q13) (IntKind.wrap .u8 (Int.fdiv v (256:Int))) (cond (Nat.beq i q7) (IntKind.wrap .u8 (Int.fdiv v (1:Int))) (asN (f i)))))))) False) False) False) False) False) False) False) False) False) False) False) False) False) False) False) False) False) False) False) False) False)) False) False) False):=by kernel_rfl
theorem aZT (x:Bool) (n:Nat) (f:Nat->XV) (a v:Int) (hn:n<=1099511627776):aO TB3 5 (bL TB3 5 20) 48 [.row x 1 n (aFE f),.agg 3 [.int .i64 a,.int .i64 1,.int .u32 v]] (fun u=>con u=con (.row false 1 n (jR (okW n a 1) f a.toNat 1 v))):=by
 rw[a4T];have hb:n*1<=140737488355328:=by omega
 simp only[hb,zaC,zaE,zaB,zaD,aD,zaF,zaO,zaQ,aS,bI,zaI,zaH,zaN,zaM,zaT,zaR,zaS,ge_iff_le,Int.le_refl,if_true,if_false,reduceCtorEq,eq_self,BEq.rfl];cases hok:okW n a 1 with
 |false => rw[yV (by omega) hok];simp only[zaB];exact rO fun i hi=>by rw[tJ]
 |true =>
  obtain⟨hs,ha,ha2,hch⟩:=nQ.1 hok;obtain⟨hin,_⟩:=uW hs ha ha2 hn hch;have h1:¬a<0:=by omega
  have h2:¬a>4294967295:=by omega
  have h3:IntKind.u32.wrap a=a:=wrap_u32 ha ha2;have hc:(cond (cond (decide (a<0)) true (decide (a>4294967295))) true (decide (¬dV 1 (IntKind.u32.wrap a) n=0)))=false:=by rw[h3];simp[h1,h2,hch]
  have e0:(IntKind.i64.wrap (a+0)).toNat=a.toNat+0:=by rw[wrap_i64 (by omega) (by omega)];omega
  have z0:(0:Int)<=IntKind.i64.wrap (a+0):=by rw[wrap_i64 (by omega) (by omega)];omega
  have y0:IntKind.i64.wrap (a+0)<n:=by rw[wrap_i64 (by omega) (by omega)];omega
  have x0:a.toNat+0<n:=by omega
  simp only[hc,e0,z0,y0,x0,zaC,zaE,zaB,zaD,aD,zaF,zaO,zaQ,aS,bI,zaI,zaH,zaN,zaM,zaT,zaR,zaS,ge_iff_le,Int.le_refl,if_true,if_false,reduceCtorEq,eq_self,BEq.rfl];refine rO fun i hi => ?_
  by_cases h0:i=a.toNat+0
  ·rw[iT (j:=0) (by omega) h0];simp only[h0,zaQ,zaB,zaD];rw[oC (by omega),wU8];rfl
  rw[uX (by omega)];simp only[dB h0,zaD]
theorem aZU (x:Bool) (n:Nat) (f:Nat->XV) (a v:Int) (hn:n<=1099511627776):aO TB3 5 (bL TB3 5 20) 48 [.row x 1 n (aFE f),.agg 3 [.int .i64 a,.int .i64 2,.int .u32 v]] (fun u=>con u=con (.row false 1 n (jR (okW n a 2) f a.toNat 2 v))):=by
 rw[a4U];have hb:n*1<=140737488355328:=by omega
 simp only[hb,zaC,zaE,zaB,zaD,aD,zaF,zaO,zaQ,aS,bI,zaI,zaH,zaN,zaM,zaT,zaR,zaS,ge_iff_le,Int.le_refl,if_true,if_false,reduceCtorEq,eq_self,BEq.rfl];cases hok:okW n a 2 with
 |false => rw[yV (by omega) hok];simp only[zaB];exact rO fun i hi=>by rw[tJ]
 |true =>
  obtain⟨hs,ha,ha2,hch⟩:=nQ.1 hok;obtain⟨hin,_⟩:=uW hs ha ha2 hn hch;have h1:¬a<0:=by omega
  have h2:¬a>4294967295:=by omega
  have h3:IntKind.u32.wrap a=a:=wrap_u32 ha ha2;have hc:(cond (cond (decide (a<0)) true (decide (a>4294967295))) true (decide (¬dV 2 (IntKind.u32.wrap a) n=0)))=false:=by rw[h3];simp[h1,h2,hch]
  have e0:(IntKind.i64.wrap (a+0)).toNat=a.toNat+0:=by rw[wrap_i64 (by omega) (by omega)];omega
  have z0:(0:Int)<=IntKind.i64.wrap (a+0):=by rw[wrap_i64 (by omega) (by omega)];omega
  have y0:IntKind.i64.wrap (a+0)<n:=by rw[wrap_i64 (by omega) (by omega)];omega
  have x0:a.toNat+0<n:=by omega
  have e1:(IntKind.i64.wrap (a+1)).toNat=a.toNat+1:=by rw[wrap_i64 (by omega) (by omega)];omega
  have z1:(0:Int)<=IntKind.i64.wrap (a+1):=by rw[wrap_i64 (by omega) (by omega)];omega
  have y1:IntKind.i64.wrap (a+1)<n:=by rw[wrap_i64 (by omega) (by omega)];omega
  have x1:a.toNat+1<n:=by omega
  simp only[hc,e0,z0,y0,x0,e1,z1,y1,x1,zaC,zaE,zaB,zaD,aD,zaF,zaO,zaQ,aS,bI,zaI,zaH,zaN,zaM,zaT,zaR,zaS,ge_iff_le,Int.le_refl,if_true,if_false,reduceCtorEq,eq_self,BEq.rfl];refine rO fun i hi => ?_
  by_cases h0:i=a.toNat+0
  ·rw[iT (j:=0) (by omega) h0];simp only[h0,zaQ,dB (show ¬a.toNat+0=a.toNat+1 by omega),zaB,zaD];rw[oC (by omega),wU8];rfl
  by_cases h1:i=a.toNat+1
  ·rw[iT (j:=1) (by omega) h1];simp only[h1,zaQ,zaB,zaD];rw[oC (by omega),wU8];rfl
  rw[uX (by omega)];simp only[dB h0,dB h1,zaD]
theorem aZV (x:Bool) (n:Nat) (f:Nat->XV) (a v:Int) (hn:n<=1099511627776):aO TB3 5 (bL TB3 5 20) 48 [.row x 1 n (aFE f),.agg 3 [.int .i64 a,.int .i64 4,.int .u32 v]] (fun u=>con u=con (.row false 1 n (jR (okW n a 4) f a.toNat 4 v))):=by
 rw[a4V];have hb:n*1<=140737488355328:=by omega
 simp only[hb,zaC,zaE,zaB,zaD,aD,zaF,zaO,zaQ,aS,bI,zaI,zaH,zaN,zaM,zaT,zaR,zaS,ge_iff_le,Int.le_refl,if_true,if_false,reduceCtorEq,eq_self,BEq.rfl];cases hok:okW n a 4 with
 |false => rw[yV (by omega) hok];simp only[zaB];exact rO fun i hi=>by rw[tJ]
 |true =>
  obtain⟨hs,ha,ha2,hch⟩:=nQ.1 hok;obtain⟨hin,_⟩:=uW hs ha ha2 hn hch;have h1:¬a<0:=by omega
  have h2:¬a>4294967295:=by omega
  have h3:IntKind.u32.wrap a=a:=wrap_u32 ha ha2;have hc:(cond (cond (decide (a<0)) true (decide (a>4294967295))) true (decide (¬dV 4 (IntKind.u32.wrap a) n=0)))=false:=by rw[h3];simp[h1,h2,hch]
  have e0:(IntKind.i64.wrap (a+0)).toNat=a.toNat+0:=by rw[wrap_i64 (by omega) (by omega)];omega
  have z0:(0:Int)<=IntKind.i64.wrap (a+0):=by rw[wrap_i64 (by omega) (by omega)];omega
  have y0:IntKind.i64.wrap (a+0)<n:=by rw[wrap_i64 (by omega) (by omega)];omega
  have x0:a.toNat+0<n:=by omega
  have e1:(IntKind.i64.wrap (a+1)).toNat=a.toNat+1:=by rw[wrap_i64 (by omega) (by omega)];omega
  have z1:(0:Int)<=IntKind.i64.wrap (a+1):=by rw[wrap_i64 (by omega) (by omega)];omega
  have y1:IntKind.i64.wrap (a+1)<n:=by rw[wrap_i64 (by omega) (by omega)];omega
  have x1:a.toNat+1<n:=by omega
  have e2:(IntKind.i64.wrap (a+2)).toNat=a.toNat+2:=by rw[wrap_i64 (by omega) (by omega)];omega
  have z2:(0:Int)<=IntKind.i64.wrap (a+2):=by rw[wrap_i64 (by omega) (by omega)];omega
  have y2:IntKind.i64.wrap (a+2)<n:=by rw[wrap_i64 (by omega) (by omega)];omega
  have x2:a.toNat+2<n:=by omega
  have e3:(IntKind.i64.wrap (a+3)).toNat=a.toNat+3:=by rw[wrap_i64 (by omega) (by omega)];omega
  have z3:(0:Int)<=IntKind.i64.wrap (a+3):=by rw[wrap_i64 (by omega) (by omega)];omega
  have y3:IntKind.i64.wrap (a+3)<n:=by rw[wrap_i64 (by omega) (by omega)];omega
  have x3:a.toNat+3<n:=by omega
  simp only[hc,e0,z0,y0,x0,e1,z1,y1,x1,e2,z2,y2,x2,e3,z3,y3,x3,zaC,zaE,zaB,zaD,aD,zaF,zaO,zaQ,aS,bI,zaI,zaH,zaN,zaM,zaT,zaR,zaS,ge_iff_le,Int.le_refl,if_true,if_false,reduceCtorEq,eq_self,BEq.rfl];refine rO fun i hi => ?_
  by_cases h0:i=a.toNat+0
  ·rw[iT (j:=0) (by omega) h0];simp only[h0,zaQ,dB (show ¬a.toNat+0=a.toNat+1 by omega),dB (show ¬a.toNat+0=a.toNat+2 by omega),dB (show ¬a.toNat+0=a.toNat+3 by omega),zaB,zaD];rw[oC (by omega),wU8];rfl
  by_cases h1:i=a.toNat+1
  ·rw[iT (j:=1) (by omega) h1];simp only[h1,zaQ,dB (show ¬a.toNat+1=a.toNat+2 by omega),dB (show ¬a.toNat+1=a.toNat+3 by omega),zaB,zaD];rw[oC (by omega),wU8];rfl
  by_cases h2:i=a.toNat+2
  ·rw[iT (j:=2) (by omega) h2];simp only[h2,zaQ,dB (show ¬a.toNat+2=a.toNat+3 by omega),zaB,zaD];rw[oC (by omega),wU8];rfl
  by_cases h3:i=a.toNat+3
  ·rw[iT (j:=3) (by omega) h3];simp only[h3,zaQ,zaB,zaD];rw[oC (by omega),wU8];rfl
  rw[uX (by omega)];simp only[dB h0,dB h1,dB h2,dB h3,zaD]
theorem a4W:rD zPr (48,a7W):=aJ6 fun x n f rest nd v hn hg hnd=>by
 unfold bEH at hg;split at hg<;>simp only[zaA,zaJ,reduceCtorEq]at hg;obtain⟨rfl,rfl⟩:=hg;rename_i a s w;clear hnd;refine gQ (u:=5) (k:=20) mix a7X ?_;by_cases h1:s=1
 ·subst h1;exact aZT x n f a w hn
 by_cases h2:s=2
 ·subst h2;exact aZU x n f a w hn
 by_cases h4:s=4
 ·subst h4;exact aZV x n f a w hn
 have hok:okW n a s=false:=by rw[<-Bool.not_eq_true];intro h;have:=(nQ.1 h).1;omega
 rw[hok];refine Eq.mpr (a4S x n f a s w _) ?_;have hb:n*1<=140737488355328:=by omega
 simp only[hb,h1,h2,h4,zaC,zaE,zaB,zaD,aD,zaF,zaO,zaQ,aS,bI,zaI,zaH,zaN,zaM,zaT,zaR,zaS,ge_iff_le,Int.le_refl,if_true,if_false,reduceCtorEq,eq_self,BEq.rfl];exact rO fun i hi=>by rw[tJ]
def TB4:Tab:=mkT qq (fX++lC) [] []
def aAZ (a:Int):Bool:=decide (-9223372036854775808<=a)&&decide (a<=9223372036854775807)
def qR (a n b m:Int):Bool:=decide (n>=1/\m>=1/\((a<=b/\b-a<n)\/(b<=a/\a-b<m)))
def aTO:List XV->Option (List Bool×XV)
 |[.int .i64 a,.int .i64 n,.int .i64 b,.int .i64 m]=>some ([aAZ a,aAZ n,aAZ b,aAZ m],.bool (qR a n b m))
 |_=>none
theorem bEI:bT zPr TB4:=sH (dY.app jG) trivial trivial
theorem aO0 {a:Int}:aAZ a=true ↔ -9223372036854775808<=a/\a<=9223372036854775807:=by simp[aAZ]
theorem bAU (a n b m:Int) (K:XV->Prop):(aO TB4 80 (bL TB4 80 20) 104 [.int .i64 a,.int .i64 n,.int .i64 b,.int .i64 m] K)=(
 letI q1:=decide (n<1);
 letI q2:=decide (b<IntKind.wrap .i64 (a+n));
 letI q3:=decide (a<IntKind.wrap .i64 (b+m));cond (cond q1 true (!q1)) (cond (cond q1 true (decide (m<1))) (K (.bool false)) (cond (decide (a<=b)) (cond (cond q2 true (!q2)) (K (.bool (cond q2 true (decide (IntKind.wrap .i64 (a+n)<a))))) False) (cond (cond q3 true (!q3)) (K (.bool (cond q3 true (decide (IntKind.wrap .i64 (b+m)<b))))) False))) False):=by kernel_rfl
theorem aTP:rD zPr (104,aTO):=by
 intro args nd v ha hn;simp only[aTO]at ha;split at ha<;>simp only[zaA,zaJ,reduceCtorEq]at ha;obtain⟨rfl,rfl⟩:=ha;rename_i a n b m;simp only[bH,aO0]at hn;obtain⟨h1,h2,h3,h4,h5⟩:=hn;refine gQ (u:=80) (k:=20) mix bEI ?_;rw[bAU];simp only[bI,zaB];refine kX (fun h=>aOO ?_) (fun h=>kX (fun g=>aOO ?_) (fun g=>aOO ?_))
 all_goals
  rw[Bool.eq_iff_iff];simp only[Bool.cond_true_left,Bool.cond_false_right,Bool.cond_true_right,Bool.cond_false_left,Bool.or_eq_false_iff,zaV,zaG,zaW,zaP,zaK,Bool.not_eq_true',Bool.not_eq_false',Bool.not_not,Int.not_lt,Int.not_le,gt_iff_lt,ge_iff_le,qR,a3Y,zaU,false_iff]at *
  first
   |omega
   |(constructor<;>intro hh<;>first|omega|(rcases hh with hh|hh<;>omega)|(obtain⟨hh1,hh2,hh3|hh3⟩:=hh<;>omega))
@[irreducible] def pW:AC:=cdO (trF zPr qq 7)
theorem zF:trF zPr qq 7=some (52,[(.tmp 2)],pW):=by kernel_rfl
@[irreducible] def zT:AC:=cdO (trF zPr qq 10)
theorem aI0:trF zPr qq 10=some (10,[(.cell 2 .true 92)],zT):=by kernel_rfl
@[irreducible] def xK:AC:=cdO (trF zPr qq 19)
theorem aHN:trF zPr qq 19=some (12,[(.tmp 4)],xK):=by kernel_rfl
@[irreducible] def hP:AC:=cdO (trF zPr qq 24)
@[irreducible] def iD:AC:=cdA [1,1,1,0,1,0,0] hP
@[irreducible] def fQ:AC:=cdA [1,1,1,1] hP
@[irreducible] def iF:AC:=cdA [1,0,1,0,0] fQ
@[irreducible] def jX:AC:=cdA [1,1] fQ
theorem qS:trF zPr qq 24=some (250,[(.tmp 6)],hP):=by kernel_rfl
@[irreducible] def aCA:AC:=cdO (trF zPr qq 26)
theorem aL3:trF zPr qq 26=some (40,[(.cell 2 .true 92)],aCA):=by kernel_rfl
@[irreducible] def jS:AC:=cdO (trF zPr qq 30)
@[irreducible] def jL:AC:=cdA [1,1,1,1,1,0,1,0,0] jS
@[irreducible] def iB:AC:=cdA [1,1,1,1,1,1] jS
@[irreducible] def cQ:AC:=cdA [0,1,0,0] iB
@[irreducible] def eY:AC:=cdA [1] iB
@[irreducible] def jM:AC:=cdA [1,0,0,1,1,0,1,0,0] cQ
@[irreducible] def mJ:AC:=cdA [1,0,0,1,1,1] cQ
@[irreducible] def mK:AC:=cdA [1,1] cQ
theorem vT:trF zPr qq 30=some (135,[(.cell 6 .true 92)],jS):=by kernel_rfl
@[irreducible] def gH:AC:=cdO (trF zPr qq 50)
@[irreducible] def fZ:AC:=cdA [1,1,0,1,0,0] gH
@[irreducible] def iN:AC:=cdA [1,1,1] gH
theorem nR:trF zPr qq 50=some (76,[(.tmp 6)],gH):=by kernel_rfl
@[irreducible] def aE2:AC:=cdO (trF zPr qq 51)
theorem aO1:trF zPr qq 51=some (9,[(.tmp 2)],aE2):=by kernel_rfl
@[irreducible] def aCB:AC:=cdO (trF zPr qq 52)
theorem aL4:trF zPr qq 52=some (39,[(.tmp 6)],aCB):=by kernel_rfl
@[irreducible] def o6:AC:=cdO (trF zPr qq 53)
theorem xL:trF zPr qq 53=some (60,[(.tmp 4)],o6):=by kernel_rfl
@[irreducible] def aCC:AC:=cdO (trF zPr qq 54)
theorem aL5:trF zPr qq 54=some (57,[(.cell 6 .true 9),(.tmp 7),(.tmp 8)],aCC):=by kernel_rfl
def zU:AC:=aYH 3 16
theorem zV:trF zPr qq 56=some (5,[(.tmp 2)],zU):=by kernel_rfl
@[irreducible] def kM:AC:=cdO (trF zPr qq 57)
@[irreducible] def nS:AC:=cdA [1,0,1,0,0] kM
@[irreducible] def rW:AC:=cdA [1,1] kM
theorem xM:trF zPr qq 57=some (66,[(.cell 6 .true 3),(.tmp 7)],kM):=by kernel_rfl
@[irreducible] def rX:AC:=cdO (trF zPr qq 68)
theorem aCD:trF zPr qq 68=some (19,[(.tmp 6),(.tmp 7)],rX):=by kernel_rfl
@[irreducible] def vU:AC:=cdO (trF zPr qq 70)
theorem aFF:trF zPr qq 70=some (24,[(.tmp 2),(.tmp 3),(.tmp 4)],vU):=by kernel_rfl
@[irreducible] def aCE:AC:=cdO (trF zPr qq 72)
theorem aL6:trF zPr qq 72=some (91,[(.cell 4 .true 92)],aCE):=by kernel_rfl
@[irreducible] def aCF:AC:=cdO (trF zPr qq 73)
theorem aL7:trF zPr qq 73=some (15,[(.tmp 4)],aCF):=by kernel_rfl
@[irreducible] def aCG:AC:=cdO (trF zPr qq 74)
theorem aL8:trF zPr qq 74=some (15,[(.tmp 6)],aCG):=by kernel_rfl
@[irreducible] def aE3:AC:=cdO (trF zPr qq 75)
theorem aO2:trF zPr qq 75=some (16,[(.tmp 6)],aE3):=by kernel_rfl
@[irreducible] def zW:AC:=cdO (trF zPr qq 96)
theorem aI1:trF zPr qq 96=some (29,[(.tmp 6)],zW):=by kernel_rfl
@[irreducible] def aCH:AC:=cdO (trF zPr qq 97)
theorem aL9:trF zPr qq 97=some (27,[(.tmp 4)],aCH):=by kernel_rfl
@[irreducible] def kN:AC:=cdO (trF zPr qq 99)
@[irreducible] def nT:AC:=cdA [1,0,1,0,0] kN
@[irreducible] def rY:AC:=cdA [1,1] kN
theorem xN:trF zPr qq 99=some (34,[(.cell 6 .true 5),(.tmp 7)],kN):=by kernel_rfl
@[irreducible] def xO:AC:=cdO (trF zPr qq 100)
theorem aHO:trF zPr qq 100=some (33,[(.tmp 6),(.tmp 7)],xO):=by kernel_rfl
@[irreducible] def vV:AC:=cdO (trF zPr qq 101)
theorem aFG:trF zPr qq 101=some (20,[(.tmp 6),(.tmp 7)],vV):=by kernel_rfl
@[irreducible] def nU:AC:=cdO (trF zPr qq 102)
@[irreducible] def pM:AC:=cdA [1,1,0,1,0,0] nU
@[irreducible] def vW:AC:=cdA [1,1,1] nU
theorem aCI:trF zPr qq 102=some (43,[(.tmp 6),(.tmp 7)],nU):=by kernel_rfl
@[irreducible] def aHP:AC:=cdO (trF zPr qq 103)
theorem aRM:trF zPr qq 103=some (64,[(.cell 6 .true 3)],aHP):=by kernel_rfl
@[irreducible] def aE4:AC:=cdO (trF zPr qq 105)
theorem aO3:trF zPr qq 105=some (20,[(.tmp 4)],aE4):=by kernel_rfl
def eU:oX:=[(7,52,[(.tmp 2)],pW),(10,10,[(.cell 2 .true 92)],zT),(19,12,[(.tmp 4)],xK),(24,250,[(.tmp 6)],hP),(26,40,[(.cell 2 .true 92)],aCA),(30,135,[(.cell 6 .true 92)],jS),(50,76,[(.tmp 6)],gH),(51,9,[(.tmp 2)],aE2),(52,39,[(.tmp 6)],aCB),(53,60,[(.tmp 4)],o6),(54,57,[(.cell 6 .true 9),(.tmp 7),(.tmp 8)],aCC),(56,5,[(.tmp 2)],zU),(57,66,[(.cell 6 .true 3),(.tmp 7)],kM),(68,19,[(.tmp 6),(.tmp 7)],rX),(70,24,[(.tmp 2),(.tmp 3),(.tmp 4)],vU),(72,91,[(.cell 4 .true 92)],aCE),(73,15,[(.tmp 4)],aCF),(74,15,[(.tmp 6)],aCG),(75,16,[(.tmp 6)],aE3),(96,29,[(.tmp 6)],zW),(97,27,[(.tmp 4)],aCH),(99,34,[(.cell 6 .true 5),(.tmp 7)],kN),(100,33,[(.tmp 6),(.tmp 7)],xO),(101,20,[(.tmp 6),(.tmp 7)],vV),(102,43,[(.tmp 6),(.tmp 7)],nU),(103,64,[(.cell 6 .true 3)],aHP),(105,20,[(.tmp 4)],aE4)]
theorem dF:nF (fun p=>trF zPr qq p.1=some p.2) eU:=⟨zF,aI0,aHN,qS,aL3,vT,nR,aO1,aL4,xL,aL5,zV,xM,aCD,aFF,aL6,aL7,aL8,aO2,aI1,aL9,xN,aHO,aFG,aCI,aRM,aO3,trivial⟩
def jA:SgL:=[(56,aYI 3 16)]
theorem gM:nF (a3V zPr qq) jA:=⟨aYJ fun x es0 ts h1 h2 h3=>aQX mix zV (by decide) x es0 ts h1 h2 h3,trivial⟩
@[irreducible] def nV:AC:=cdO (trF zPr qq 11)
@[irreducible] def pN:AC:=cdA [1,1,1,0,1,0,0] nV
@[irreducible] def vX:AC:=cdA [1,1,1,1] nV
theorem aCJ:trF zPr qq 11=some (56,[(.tmp 6)],nV):=by kernel_rfl
@[irreducible] def aCK:AC:=cdO (trF zPr qq 12)
theorem aMA:trF zPr qq 12=some (33,[(.cell 8 .true 92)],aCK):=by kernel_rfl
@[irreducible] def zY:AC:=cdO (trF zPr qq 25)
theorem aI2:trF zPr qq 25=some (28,[(.tmp 8)],zY):=by kernel_rfl
@[irreducible] def xP:AC:=cdO (trF zPr qq 27)
theorem aHQ:trF zPr qq 27=some (269,[(.cell 6 .true 92)],xP):=by kernel_rfl
@[irreducible] def xQ:AC:=cdO (trF zPr qq 28)
theorem aHR:trF zPr qq 28=some (258,[(.cell 6 .true 92)],xQ):=by kernel_rfl
@[irreducible] def aCL:AC:=cdO (trF zPr qq 29)
theorem aMB:trF zPr qq 29=some (64,[(.cell 4 .true 92)],aCL):=by kernel_rfl
@[irreducible] def vY:AC:=cdO (trF zPr qq 55)
theorem aFH:trF zPr qq 55=some (16,[(.tmp 4)],vY):=by kernel_rfl
@[irreducible] def aCM:AC:=cdO (trF zPr qq 58)
theorem aMC:trF zPr qq 58=some (28,[(.cell 8 .true 92)],aCM):=by kernel_rfl
@[irreducible] def aE5:AC:=cdO (trF zPr qq 59)
theorem aO4:trF zPr qq 59=some (20,[(.tmp 4)],aE5):=by kernel_rfl
@[irreducible] def zZ:AC:=cdO (trF zPr qq 60)
theorem aI3:trF zPr qq 60=some (49,[(.tmp 6)],zZ):=by kernel_rfl
@[irreducible] def nW:AC:=cdO (trF zPr qq 61)
@[irreducible] def pO:AC:=cdA [1,1,0,1,0,0] nW
@[irreducible] def vZ:AC:=cdA [1,1,1] nW
theorem aCN:trF zPr qq 61=some (36,[(.tmp 6)],nW):=by kernel_rfl
@[irreducible] def z5:AC:=cdO (trF zPr qq 62)
theorem aI4:trF zPr qq 62=some (15,[(.tmp 4)],z5):=by kernel_rfl
@[irreducible] def aE6:AC:=cdO (trF zPr qq 63)
theorem aO5:trF zPr qq 63=some (26,[],aE6):=by kernel_rfl
@[irreducible] def aHS:AC:=cdO (trF zPr qq 65)
theorem aRN:trF zPr qq 65=some (18,[],aHS):=by kernel_rfl
@[irreducible] def aCO:AC:=cdO (trF zPr qq 66)
theorem aMD:trF zPr qq 66=some (151,[(.cell 8 .true 92)],aCO):=by kernel_rfl
@[irreducible] def v7:AC:=cdO (trF zPr qq 67)
theorem aFI:trF zPr qq 67=some (14,[(.tmp 4)],v7):=by kernel_rfl
@[irreducible] def aCP:AC:=cdO (trF zPr qq 69)
theorem aME:trF zPr qq 69=some (31,[],aCP):=by kernel_rfl
@[irreducible] def o7:AC:=cdO (trF zPr qq 71)
@[irreducible] def nX:AC:=cdA [1,1,1,0,1,0,0] o7
@[irreducible] def qT:AC:=cdA [1,1,1,1] o7
theorem aE7:trF zPr qq 71=some (80,[(.tmp 4)],o7):=by kernel_rfl
@[irreducible] def lT:AC:=cdO (trF zPr qq 98)
@[irreducible] def eK:AC:=cdA [1,1,1,1,0,1,0,0] lT
@[irreducible] def oJ:AC:=cdA [1,1,1,1,1] lT
theorem z6:trF zPr qq 98=some (70,[(.tmp 2)],lT):=by kernel_rfl
def jB:oX:=[(11,56,[(.tmp 6)],nV),(12,33,[(.cell 8 .true 92)],aCK),(25,28,[(.tmp 8)],zY),(27,269,[(.cell 6 .true 92)],xP),(28,258,[(.cell 6 .true 92)],xQ),(29,64,[(.cell 4 .true 92)],aCL),(55,16,[(.tmp 4)],vY),(58,28,[(.cell 8 .true 92)],aCM),(59,20,[(.tmp 4)],aE5),(60,49,[(.tmp 6)],zZ),(61,36,[(.tmp 6)],nW),(62,15,[(.tmp 4)],z5),(63,26,[],aE6),(65,18,[],aHS),(66,151,[(.cell 8 .true 92)],aCO),(67,14,[(.tmp 4)],v7),(69,31,[],aCP),(71,80,[(.tmp 4)],o7),(98,70,[(.tmp 2)],lT)]
theorem gN:nF (fun p=>trF zPr qq p.1=some p.2) jB:=⟨aCJ,aMA,aI2,aHQ,aHR,aMB,aFH,aMC,aO4,aI3,aCN,aI4,aO5,aRN,aMD,aFI,aME,aE7,z6,trivial⟩
theorem pk3 (p z:Bool):(cond (cond p (cond (!z) p false) true) true (!!z))=true:=by cases p<;>cases z<;>rfl
theorem pk4 (z:Bool):(cond (cond (!z) true false) true (!!z))=true:=by cases z<;>rfl
def aHT (l:List Int) (i most:Int):Int:=if l.length=0\/i<0\/most<1 then 0 else Int.tmod (eR .and .i64 (ix l (i.toNat%l.length)) 1073741823) most
def uY (s:bF) (i most:Int):Int:=1+aHT s.dR i most
def aCQ (s:bF) (i n:Int):Int:=aHT s.cG i n
def bF.ok (s:bF):Prop:=s.dR.length<=1000000/\s.cG.length<=1000000
def bEJ:List XV->Option ((XV->Prop)->Prop):=eZ (fun q:bF×Int×Int=>[bO q.1,.int .i64 q.2.1,.int .i64 q.2.2]) (fun q=>True) (fun q=>uY q.1 q.2.1 q.2.2) (fun y=>.int .i64 y)
def bEK:List XV->Option ((XV->Prop)->Prop):=eZ (fun q:bF×Int×Int=>[bO q.1,.int .i64 q.2.1,.int .i64 q.2.2]) (fun q=>True) (fun q=>aCQ q.1 q.2.1 q.2.2) (fun y=>.int .i64 y)
def TN2:Tab:=fW qq eU [] [] [] []
theorem bAV (s:bF) (i most:Int) (r:XV):(aO TN2 80 (bL TN2 80 20) 75 [bO s,.int .i64 i,.int .i64 most] (fun v=>aA v r))=(
 let q1:=decide ((↑(s.dR.length):Int)=0);
 let q2:=!q1;
 let q3:=!decide (most=0);cond (decide (most<1)) (aA (.int .i64 1) r) (cond (cond q1 true q2) (cond (cond q1 true (decide (i<0))) (cond q3 (aA
  (.int .i64 (IntKind.wrap .i64 ((1:Int)+Int.tmod (0:Int) most))) r) False) (cond q2 (cond (decide (0<=Int.tmod i (↑(s.dR.length):Int))) (cond (decide (Int.tmod i
  (↑(s.dR.length):Int)<(↑(s.dR.length):Int))) (cond q3 (aA (.int .i64 (IntKind.wrap .i64 ((1:Int)+Int.tmod (eR .and .i64 (ix s.dR (Int.toNat (Int.tmod i (↑(s.dR.length)
  : Int)))) (1073741823:Int)) most))) r) False) False) False) False)) False)):=by kernel_rfl
theorem bAW (s:bF) (i most:Int) (r:XV):(aO TN2 80 (bL TN2 80 20) 74 [bO s,.int .i64 i,.int .i64 most] (fun v=>aA v r))=(
 let q1:=decide ((↑(s.cG.length):Int)=0);
 let q2:=!q1;
 let q3:=!decide (most=0);cond (decide (most<1)) (aA (.int .i64 0) r) (cond (cond q1 true q2) (cond (cond q1 true (decide (i<0))) (cond q3 (aA
  (.int .i64 (Int.tmod (0:Int) most)) r) False) (cond q2 (cond (decide (0<=Int.tmod i (↑(s.cG.length):Int))) (cond (decide (Int.tmod i (↑(s.cG.length):Int)<(↑(s.cG.length)
  : Int))) (cond q3 (aA (.int .i64 (Int.tmod (eR .and .i64 (ix s.cG (Int.toNat (Int.tmod i (↑(s.cG.length):Int)))) (1073741823:Int)) most)) r) False) False) False) False)) False)):=by kernel_rfl
theorem aZW {k:IntKind} {x y:Int} (h:x=y):aA (.int k x) (.int k y):=by rw[h];exact .rfl
theorem aO6 {l:List Int} {i:Int} (h0:¬l.length=0) (h1:¬i<0):0<=Int.tmod i (l.length:Int)/\Int.tmod i (l.length:Int)<(l.length:Int)/\(Int.tmod i (l.length:Int)).toNat=i.toNat%l.length:=by obtain⟨j,rfl⟩:=Int.eq_ofNat_of_zero_le (show 0<=i by omega);have e1:Int.tmod (j:Int) (l.length:Int)=((j%l.length:Nat):Int):=rfl;have e2:=Nat.mod_lt j (show 0<l.length by omega);rw[e1];refine⟨Int.natCast_nonneg _,by omega,rfl⟩
theorem bEL (x:Int):∃ K:Nat,K<=1073741823/\eR .and .i64 x 1073741823=(K:Int):=by refine⟨(BitVec.ofInt 64 x).toNat &&& 1073741823,Nat.and_le_right, ?_⟩;show IntKind.i64.wrap (((BitVec.ofInt 64 x) &&& (BitVec.ofInt 64 1073741823)).toNat:Int)=_;have h:(BitVec.ofInt 64 x).toNat &&& 1073741823<=1073741823:=Nat.and_le_right;rw[BitVec.toNat_and,show(BitVec.ofInt 64 1073741823).toNat=1073741823 from rfl];exact wrap_i64 (by omega) (by omega)
theorem aMF (l:List Int) (i:Int) {most:Int} (h:1<=most):0<=aHT l i most/\aHT l i most<most/\aHT l i most<=1073741823:=by
 unfold aHT;split
 ·omega
 ·obtain⟨K,h1,h2⟩:=bEL (ix l (i.toNat%l.length));rw[h2,Int.tmod_eq_emod_of_nonneg (by omega)];have m1:=Int.emod_nonneg (K:Int) (show most≠0 by omega);have m2:=Int.emod_lt_of_pos (K:Int) (show 0<most by omega);have m3:(K:Int)%most<=K:=by
   by_cases g:(K:Int)<most
   ·rw[Int.emod_eq_of_lt (by omega) g];exact Int.le_refl _
   ·omega
  omega
theorem aTQ (l:List Int) (i most:Int):0<=aHT l i most/\aHT l i most<=1073741823:=by
 by_cases h:1<=most
 ·have:=aMF l i h;omega
 ·unfold aHT;rw[if_pos (by omega)];omega
theorem a4X (s:bF) (i:Int) {most:Int} (h:1<=most):1<=uY s i most/\uY s i most<=most:=by have:=aMF s.dR i h;unfold uY;omega
theorem aHU (s:bF) (i:Int) {n:Int} (h:1<=n):0<=aCQ s i n/\aCQ s i n<n:=by have:=aMF s.cG i h;unfold aCQ;omega
theorem a7Y:bT zPr TN2:=bQ dF trivial trivial trivial trivial
theorem a4Y:eV zPr (75,bEJ):=bB fun⟨s,i,most⟩ h=>by
 show Pure _ _ (cons [bO s,.int .i64 i,.int .i64 most]) (con (.int .i64 (uY s i most)));refine fF (u:=80) (k:=20) mix a7Y ?_;refine Eq.mpr (bAV s i most _) ?_;have zz:((s.dR.length:Int)=0)↔s.dR.length=0:=by omega
 have bb:=aTQ s.dR i most;unfold uY;unfold aHT at bb ⊢;by_cases g2:most<1
 ·simp only[g2,or_true,if_true,zaC,zaE,zaB,zaD,aD,zaF,zaO,zaQ,aS,bI,zaI,zaH,zaN,zaM,zaT,zaR,zaS,ge_iff_le,Int.le_refl,if_true,if_false,reduceCtorEq,eq_self,BEq.rfl];exact .rfl
 have g3:¬most=0:=by omega
 by_cases g0:s.dR.length=0
 ·simp only[g0,g2,g3,zz,true_or,if_true,zaC,zaE,zaB,zaD,aD,zaF,zaO,zaQ,aS,bI,zaI,zaH,zaN,zaM,zaT,zaR,zaS,ge_iff_le,Int.le_refl,if_true,if_false,reduceCtorEq,eq_self,BEq.rfl];exact aZW (by rw[Int.zero_tmod];rfl)
 by_cases g1:i<0
 ·simp only[g0,g1,g2,g3,zz,true_or,or_true,if_true,zaC,zaE,zaB,zaD,aD,zaF,zaO,zaQ,aS,bI,zaI,zaH,zaN,zaM,zaT,zaR,zaS,ge_iff_le,Int.le_refl,if_true,if_false,reduceCtorEq,eq_self,BEq.rfl];exact aZW (by rw[Int.zero_tmod];rfl)
 obtain⟨t1,t2,t3⟩:=aO6 g0 g1;rw[if_neg (by omega)]at bb ⊢;simp only[g0,g1,g2,g3,zz,t1,t2,t3,zaC,zaE,zaB,zaD,aD,zaF,zaO,zaQ,aS,bI,zaI,zaH,zaN,zaM,zaT,zaR,zaS,ge_iff_le,Int.le_refl,if_true,if_false,reduceCtorEq,eq_self,BEq.rfl];exact aZW (wrap_i64 (by omega) (by omega))
theorem aZX:eV zPr (74,bEK):=bB fun⟨s,i,most⟩ h=>by
 show Pure _ _ (cons [bO s,.int .i64 i,.int .i64 most]) (con (.int .i64 (aCQ s i most)));refine fF (u:=80) (k:=20) mix a7Y ?_;refine Eq.mpr (bAW s i most _) ?_;have zz:((s.cG.length:Int)=0)↔s.cG.length=0:=by omega
 unfold aCQ aHT;by_cases g2:most<1
 ·simp only[g2,or_true,if_true,zaC,zaE,zaB,zaD,aD,zaF,zaO,zaQ,aS,bI,zaI,zaH,zaN,zaM,zaT,zaR,zaS,ge_iff_le,Int.le_refl,if_true,if_false,reduceCtorEq,eq_self,BEq.rfl];exact .rfl
 have g3:¬most=0:=by omega
 by_cases g0:s.cG.length=0
 ·simp only[g0,g2,g3,zz,true_or,if_true,zaC,zaE,zaB,zaD,aD,zaF,zaO,zaQ,aS,bI,zaI,zaH,zaN,zaM,zaT,zaR,zaS,ge_iff_le,Int.le_refl,if_true,if_false,reduceCtorEq,eq_self,BEq.rfl];exact aZW (by rw[Int.zero_tmod])
 by_cases g1:i<0
 ·simp only[g0,g1,g2,g3,zz,true_or,or_true,if_true,zaC,zaE,zaB,zaD,aD,zaF,zaO,zaQ,aS,bI,zaI,zaH,zaN,zaM,zaT,zaR,zaS,ge_iff_le,Int.le_refl,if_true,if_false,reduceCtorEq,eq_self,BEq.rfl];exact aZW (by rw[Int.zero_tmod])
 obtain⟨t1,t2,t3⟩:=aO6 g0 g1;rw[if_neg (by omega)];simp only[g0,g1,g2,g3,zz,t1,t2,t3,zaC,zaE,zaB,zaD,aD,zaF,zaO,zaQ,aS,bI,zaI,zaH,zaN,zaM,zaT,zaR,zaS,ge_iff_le,Int.le_refl,if_true,if_false,reduceCtorEq,eq_self,BEq.rfl];exact .rfl
def TN3:Tab:=fW qq (lC++eU) [] jA [] []
def rF (tag:Int) (s:Slot):Bool:=decide (s.tag=tag) && !s.full
def fG (l:List Slot) (tag w:Int):List Slot×Bool:=if lR (rF tag) l<0 then(l,false)else(l.set (lR (rF tag) l).toNat ⟨(ix l (lR (rF tag) l).toNat).tag,true,w⟩,true)
def bAX:List XV->Option ((XV->Prop)->Prop):=eZ (fun p:List Slot×Int×Int=>[aB 3 cO p.1,.int .i64 p.2.1,.int .u32 p.2.2]) (fun p=>p.1.length<=1000000) (fun p=>fG p.1 p.2.1 p.2.2) (fun y=>.tup [aB 3 cO y.1,.bool y.2])
def bEM (l:List Slot) (tag w:Int) (i:Nat):XSt:=⟨[(8,.int .i64 i),(2,.int .u32 w),(1,.int .i64 tag),(0,.sl 0 [] 0 0 l.length 3)],[(0,some (.tab l.length 3 (fun i=>cO (ix l i))))],1⟩
theorem a7Z:bT zPr TN3:=bQ (jG.app dF) trivial gM trivial trivial
theorem a4Z (l:List Slot) (tag w:Int) (r:XV):(goQ zPr TN3 [(.tmp 6),(.tmp 7)] r (.run nU) [] ⟨kF 0 [aB 3 cO l,.int .i64 tag,.int .u32 w],[],0⟩)=(
 let q1:=l.length*16;cond (decide (q1<=140737488355328)) (cond (gP (fun i=>true) l.length) (bX (Ok zPr (Tab.q TN3)) pM (XSt.mk [(8,.int .i64 0),(0,
  .sl 0 [] 0 0 l.length 3),(7,.bool false),(6,.row true 0 0 fun x=>.unk),(1,.int .i64 tag),(2,.int .u32 w)] [(0,some (.tab l.length 3 fun i=>cO (ix l i)))] 1) [Frm.blk
  0,Frm.seq vW] (dC [AR.tmp 6,AR.tmp 7] r)) False) False):=by kernel_rfl 
theorem a40 (l:List Slot) (tag w:Int) (i:Nat) (r:XV) (A:XSt->Prop):(goQ zPr TN3 [(.tmp 6),(.tmp 7)] r (.run pM) [.lp pM A,.blk 0,.seq vW] (bEM l tag w i))=(
 let q1:=decide ((↑i:Int)<(↑(l.length):Int));
 let q2:=i*3;
 let q3:=pl q2 0;
 let q4:=decide (i<l.length);
 let q5:=decide ((ix l i).tag=tag);
 let q6:=!q5;
 let q7:=pl q2 1;
 let q8:=Nat.beq q7 q7;
 let q9:=pl q2 2;
 let q10:=decide (l.length<=l.length);cond q1 (cond q1 (cond (Nat.beq q3 q3) (cond q4 (cond (cond q1 true q6) (cond (cond q8 true q6) (cond (cond q4 true q6) (cond (cond q5 q5 true) (cond (cond q5 (!(ix l i).full) false) (cond q1 (cond q8 (cond q4 (cond q4 (cond q1 (cond (Nat.beq q9 q9) (cond q4 (cond q4 (cond q10 (aA (.tup [.row false 3 l.length fun i_1=>.agg 3 [.int .i64 (cond (Nat.beq i_1 i) (cond (Nat.beq i i) ((ix l i).tag) ((ix l i).tag)) (cond (Nat.beq i_1 i) ((ix l i).tag) ((ix l i_1).tag))),.bool (cond (Nat.beq i_1 i) (cond (Nat.beq i i) true ((ix l i).full)) (cond (Nat.beq i_1 i) true ((ix l i_1).full))),
  .int .u32 (cond (Nat.beq i_1 i) w (cond (Nat.beq i_1 i) ((ix l i).val) ((ix l i_1).val)))],.bool true]) r) False) False) False) False) False) False) False) False) False) (A (XSt.mk [(8,.int .i64 (IntKind.wrap .i64 ((↑i:Int)+1))),(2,.int .u32 w),(1,.int .i64 tag),(0,.sl 0 [] 0 0 l.length 3)] [(0,some (.tab
  l.length 3 fun i=>cO (ix l i)))] 1))) False) False) False) False) False) False) False) (cond q10 (aA (.tup [aB 3 cO l,.bool false])
  r) False)):=by kernel_rfl
theorem aCR {α:Type} {p:α->Bool} {l:List α} (h:¬lR p l<0):0<=lR p l/\lR p l<l.length/\(lR p l).toNat<l.length:=by
 unfold lR at h ⊢;split
 ·rename_i ha;have h2:=List.findIdx_lt_length.2 (List.any_eq_true.1 ha);omega
 ·rename_i ha;rw[if_neg ha]at h;omega
theorem bAY {l:List Slot} {k:Nat} {w:Int} (hk:k<l.length) {f:Nat->XV} (h1:con (f k)=con (cO ⟨(ix l k).tag,true,w⟩)) (h2:∀ i,i<l.length->¬i=k->con (f i)=con (cO (ix l i))):aA (.tup [.row false 3 l.length f,.bool true]) (.tup [aB 3 cO (l.set k ⟨(ix l k).tag,true,w⟩),.bool true]):=by
 refine⟨iZ (aF (gZ (by simp) (.inl rfl) fun i hi => ?_) (aF (.refl _) bM))⟩;rw[sK];by_cases he:i=k
 ·rw[if_pos ⟨he,hk⟩,he,h1];exact .refl _
 ·rw[if_neg (fun h=>he h.1),h2 i hi he];exact .refl _
theorem aO7:eV zPr (102,bAX):=bB fun⟨l,tag,w⟩ h=>by
 have hl:l.length<=1000000:=h;show Pure _ _ (cons [aB 3 cO l,.int .i64 tag,.int .u32 w]) (con (.tup [aB 3 cO (fG l tag w).1,.bool (fG l tag w).2]));refine j9 mix a7Z aCI (Nat.le_of_ble_eq_true rfl) ?_;refine Eq.mpr (a4Z l tag w _) ?_;have hb:l.length*16<=140737488355328:=by omega
 simp only[hb,g1,g2,g3,g4,g5,g6,g7,aD,zaB,zaF,zaC,cC];refine gT mix a7Z (fun i:Nat=>bEM l tag w i) (fun i=>i<=l.length/\∀ j,j<i->rF tag (ix l j)=false) (fun i=>l.length-i) 0 ⟨Nat.zero_le _,fun j hj=>by omega⟩ (.of (dL ⟨rfl,rfl,rfl,rfl,trivial⟩ ⟨rfl,trivial⟩ (zaF _))) ?_;rintro i ⟨hi,hp⟩;refine Eq.mpr (a40 l tag w i _ _) ?_;by_cases hlt:i<l.length
 ·have h1:(i:Int)<(l.length:Int):=by omega
  have w1:IntKind.i64.wrap ((i:Int)+1)=((i+1:Nat):Int):=wrap_i64 (by omega) (by omega);have e1:rF tag (ix l i)=cond (decide ((ix l i).tag=tag)) (!(ix l i).full) false:=by unfold rF;cases decide ((ix l i).tag=tag)<;>rfl
  simp only[g1,g2,g3,g4,g5,g6,g7,aD,zaB,zaF,zaC,cC,h1,hlt,w1,zaQ];simp only[<-e1];refine kX (fun h => ?_) (fun h => ?_)
  ·unfold fG;rw[tC hlt h hp,if_neg (by omega),zaO];refine bAY hlt ?_ fun j hj he => ?_
   ·simp only[zaQ,zaB];rfl
   ·simp only[dB he,zaD];rfl
  ·refine⟨i+1,⟨hlt,fun j hj => ?_⟩,.of (dL ⟨rfl,rfl,rfl,rfl,trivial⟩ ⟨rfl,trivial⟩ (zaF _)),by omega⟩;by_cases hji:j=i
   ·subst hji;exact h
   ·exact hp j (by omega)
 ·have h1:¬(i:Int)<(l.length:Int):=by omega
  simp only[h1,g1,g2,g3,g4,g5,g6,g7,aD,zaB,zaF,zaC,cC,zaE,zaD];unfold fG;rw[yR fun j hj=>hp j (by omega)];exact .rfl
def aDW (a n:Int):Int:=if a<0\/n<1 then 0 else a/4%n
def aZY:List XV->Option (List Bool×XV)
 |[.int .i64 a,.int .i64 n]=>some ([decide (a<=9223372036854775807)],.int .i64 (aDW a n))
 |_=>none
def kO (m:List Int) (op a:Int):Int:=xJ m.length (fun i=>eP (ix m i)) op a
def ldF (x:Stt) (r:Req):Int:=if 0<=r.addr/\r.addr<=4294967295 then kO x.mem r.op r.addr else 0
def kP (x:Stt) (r:Req):Stt :=
 if r.store then { x with mem:=eM x.mem ⟨r.addr,r.size,r.val⟩,writes:=x.writes++[⟨r.addr,r.size,r.val⟩],saq:=x.saq.tail }
 else if r.reg<0 then { x with ldq:=(fG x.ldq r.tag (ldF x r)).1 }
 else if 1<=r.reg/\r.reg<=15 then { x with a:={ x.a with bC:=fun i=>cond (Nat.beq i r.reg.toNat) (ldF x r) (x.a.bC i),ready:=fun i=>cond (Nat.beq i r.reg.toNat) (IntKind.i64.wrap (x.aE+1)) (x.a.ready i) } }
 else x
def pP (p:Stt×List Req) (r:Req):Stt×List Req := if r.left>0 then(if r.left=1 then(kP p.1 r,p.2)else(p.1,p.2++[{ r with left:=r.left-1 }]))else(p.1,p.2++[r])
def o8 (l:List Req) (p:Stt×List Req):Stt×List Req:=l.foldl pP p
def gB (x:Stt):Stt:={ (o8 x.table (x,[])).1 with table:=(o8 x.table (x,[])).2 }
def TE0:Tab:=fW qq eU [] [] [] []
def zSd:XV:=.agg 38 [.tab 16 1 (fun _=>.int .u32 0),.tab 16 1 (fun _=>.int .i64 0),.agg 3 [.int .i64 0,.int .i64 0,.int .i64 0],.int .i64 0,.bool false,.int .i64 0]
def aDX:XV:=.row true 0 0 (fun _=>.unk)
def zX:XV:=.agg 92 [.int .i64 0,zSd,zSd,aDX,aDX,aDX,aDX,aDX,aDX,aDX,aDX,aDX,.agg 3 [.int .i64 0,.int .i64 0,.int .i64 0],.int .i64 0,.int .i64 0,.int .i64 0]
def iH {α:Type} [Inhabited α] (es:Nat) (en:α->XV) (l:List α):XV:=.tab l.length es (fun i=>en (ix l i))
theorem bEN:bT zPr TE0:=bQ dF trivial trivial trivial trivial
theorem bAZ (a n:Int) (K:XV->Prop):(aO TE0 80 (bL TE0 80 20) 73 [.int .i64 a,.int .i64 n] K)=(
 let q1:=decide (a<0);cond (cond q1 true (!q1)) (cond (cond q1 true (decide (n<1))) (K (.int .i64 0)) (cond (!decide (n=0)) (K (.int .i64 (Int.tmod (IntKind.wrap
  .i64 (Int.tdiv a (4:Int))) n))) False)) False):=by kernel_rfl
theorem yW {x:Stt} {r:Req} (h:r.store=true):kP x r = { x with mem:=eM x.mem ⟨r.addr,r.size,r.val⟩,writes:=x.writes++[⟨r.addr,r.size,r.val⟩],saq:=x.saq.tail }:=by unfold kP;rw[if_pos h]
theorem tK {x:Stt} {r:Req} (h:r.store=false) (h2:r.reg<0):kP x r = { x with ldq:=(fG x.ldq r.tag (ldF x r)).1 }:=by unfold kP;rw[if_neg (by rw[h];simp),if_pos h2]
theorem tL {x:Stt} {r:Req} (h:r.store=false) (h2:1<=r.reg/\r.reg<=15):kP x r = { x with a:={ x.a with bC:=fun i=>cond (Nat.beq i r.reg.toNat) (ldF x r) (x.a.bC i),ready:=fun i=>cond (Nat.beq i r.reg.toNat) (IntKind.i64.wrap (x.aE+1)) (x.a.ready i) } }:=by unfold kP;rw[if_neg (by rw[h];simp),if_neg (by omega),if_pos h2]
theorem yX {x:Stt} {r:Req} (h:r.store=false) (h1:¬r.reg<0) (h2:¬(1<=r.reg/\r.reg<=15)):kP x r=x:=by unfold kP;rw[if_neg (by rw[h];simp),if_neg h1,if_neg h2]
theorem oN {m:List Int} {w:Wr}:(eM m w).length=m.length:=bG
theorem tM {l:List Slot} {t w:Int}:(fG l t w).1.length=l.length:=by unfold fG;split<;>simp
theorem aZZ {m:List Int} {w:Wr} (h:∀ x∈m,u8R x):∀ x∈eM m w,u8R x:=fun x hx=>by
 obtain⟨j,hj,rfl⟩:=List.mem_iff_getElem.1 hx;rw[<-gW hj];rw[oN]at hj;unfold eM;rw[kB hj];show u8R (cond _ _ _);cases (okW m.length w.addr w.size&&(decide (w.addr.toNat<=j)&&decide (j<w.addr.toNat+w.size.toNat)))with
 |true=>rw[zaB];unfold u8R;omega
 |false=>rw[zaD];exact h _ (cA hj)
theorem aTR {op w:Int} (h:0<=w/\w<=4294967295):gC (aDV op w):=by
 unfold aDV gC
 repeat' split
 all_goals omega
theorem aO8 {m:List Int} {op a:Int} (hm:∀ x∈m,u8R x) (hl:m.length<=1000000) (ha:0<=a) (ha2:a<=4294967295):gC (kO m op a):=by
 unfold kO xJ;split
 ·rename_i h;refine aTR ?_;have hs:=aL0 h.1 h.2.1;obtain⟨h1,_⟩:=uW hs ha ha2 (by omega) h.2.2;have hb:=aL1 (n:=m.length) (f:=fun i=>eP (ix m i)) (fun i hi=>hm _ (cA hi)) a.toNat (szI op).toNat (by omega);have:(2:Int)^(8*(szI op).toNat)<=4294967296:=by
   rcases hs with e|e|e<;>rw[e]<;>decide
  omega
 ·unfold gC;omega
theorem bA0 {x:Stt} {r:Req} (hm:∀ y∈x.mem,u8R y) (hl:x.mem.length<=1000000):gC (ldF x r):=by
 unfold ldF;split
 ·rename_i h;exact aO8 hm hl h.1 h.2
 ·unfold gC;omega
theorem cY (x:Int):bK (IntKind.i64.wrap x):=by rw[IntKind.wrap_i64];unfold bK;omega
theorem a41 {x:Stt} {r:Req} (hx:x.wf) (hr:r.wf) (hm:x.mem.length<=1000000) (hb:x.writes.length<=1000000):(kP x r).wf:=by
 obtain⟨a1,a2,a3,a4,a5,a6,a7,a8,a9,a10,a11,a12,a13⟩:=hx;have hld:=bA0 (r:=r) a11.1 hm;by_cases hs:r.store=true
 ·rw[yW hs];refine⟨a1,a2,a3,a4,a5,a6,a7,a8,⟨fun y hy=>a9.1 y (List.mem_of_mem_tail hy), ?_⟩,a10,⟨aZZ a11.1, ?_⟩,⟨fun y hy => ?_, ?_⟩,a13⟩
  ·have:=a9.2;show x.saq.tail.length*32<=_;rw[List.length_tail];omega
  ·show(eM _ _).length*1<=_;rw[oN];exact a11.2
  ·rcases List.mem_append.1 hy with hy|hy
   ·exact a12.1 y hy
   ·obtain rfl:=List.mem_singleton.1 hy;exact⟨hr.2.1,hr.2.2.1,hr.2.2.2.1⟩
  ·show(x.writes++[_]).length*24<=_;rw[bD];omega
 ·have hs:r.store=false:=by simpa using hs
  by_cases h1:r.reg<0
  ·rw[tK hs h1];refine⟨a1,a2,a3,⟨?_, ?_⟩,a5,a6,a7,a8,a9,a10,a11,a12,a13⟩
   ·show ∀ y∈(fG x.ldq r.tag (ldF x r)).1,y.wf;unfold fG;split
    ·exact a4.1
    ·rename_i hn;obtain⟨_,_,b3⟩:=aCR hn;intro y hy;rcases List.mem_or_eq_of_mem_set hy with hy|rfl
     ·exact a4.1 y hy
     ·exact⟨(a4.1 _ (cA b3)).1,hld⟩
   ·show(fG x.ldq r.tag (ldF x r)).1.length*16<=_;rw[tM];exact a4.2
  ·by_cases h2:1<=r.reg/\r.reg<=15
   ·rw[tL hs h2];refine⟨a1,⟨fun i hi => ?_,fun i hi => ?_,a2.2.2⟩,a3,a4,a5,a6,a7,a8,a9,a10,a11,a12,a13⟩
    ·show gC (cond (Nat.beq i r.reg.toNat) (ldF x r) (x.a.bC i));cases Nat.beq i r.reg.toNat with
     |true=>exact hld
     |false=>exact a2.1 i hi
    ·show bK (cond (Nat.beq i r.reg.toNat) (IntKind.i64.wrap (x.aE+1)) (x.a.ready i));cases Nat.beq i r.reg.toNat with
     |true=>exact cY _
     |false=>exact a2.2.1 i hi
   ·rw[yX hs h1 h2];exact⟨a1,a2,a3,a4,a5,a6,a7,a8,a9,a10,a11,a12,a13⟩
def a42 (x0:Stt) (i:Nat) (p:Stt×List Req):Prop:=p.1.wf/\p.1.ldq.length=x0.ldq.length/\p.1.sdq=x0.sdq/\p.1.aeq=x0.aeq/\p.1.abq=x0.abq/\p.1.ebq=x0.ebq/\p.1.saq.length<=x0.saq.length/\p.1.table=x0.table/\p.1.mem.length=x0.mem.length/\p.1.writes.length+p.2.length<=x0.writes.length+i/\p.1.dR=x0.dR/\p.1.cG=x0.cG/\∀ r∈p.2,r.wf
theorem aZ0 {x0:Stt} {i:Nat} {p:Stt×List Req} {r:Req} (h:a42 x0 i p) (hr:r.wf) (hm:x0.mem.length<=1000000) (hb:x0.writes.length+i<=1000000):a42 x0 (i+1) (pP p r):=by
 obtain⟨a1,a2,a3,a4,a5,a6,a7,a8,a9,a10,a11,a12,a13⟩:=h;have wJ:∀ q:Req,q.wf->a42 x0 (i+1) (p.1,p.2++[q]):=fun q hq=>⟨a1,a2,a3,a4,a5,a6,a7,a8,a9,by show p.1.writes.length+(p.2++[q]).length<=_;rw[bD];omega,a11,a12,fun y hy=>by
  rcases List.mem_append.1 hy with hy|hy
  ·exact a13 y hy
  ·obtain rfl:=List.mem_singleton.1 hy;exact hq⟩
 unfold pP;split
 ·split
  ·have hw:=a41 a1 hr (by omega) (by omega);by_cases hs:r.store=true
   ·rw[yW hs]at hw ⊢;exact⟨hw,a2,a3,a4,a5,a6,by show x0.saq.length>=p.1.saq.tail.length;rw[List.length_tail];omega,a8,by show(eM _ _).length=_;rw[oN];exact a9,by show(p.1.writes++[_]).length+p.2.length<=_;rw[bD];omega,a11,a12,a13⟩
   ·have hs:r.store=false:=by simpa using hs
    by_cases h1:r.reg<0
    ·rw[tK hs h1]at hw ⊢;exact⟨hw,by show(fG _ _ _).1.length=_;rw[tM];exact a2,a3,a4,a5,a6,a7,a8,a9,by show p.1.writes.length+p.2.length<=_;omega,a11,a12,a13⟩
    ·by_cases h2:1<=r.reg/\r.reg<=15
     ·rw[tL hs h2]at hw ⊢;exact⟨hw,a2,a3,a4,a5,a6,a7,a8,a9,by show p.1.writes.length+p.2.length<=_;omega,a11,a12,a13⟩
     ·rw[yX hs h1 h2];exact⟨a1,a2,a3,a4,a5,a6,a7,a8,a9,by show p.1.writes.length+p.2.length<=_;omega,a11,a12,a13⟩
  ·rename_i hp _;exact wJ _ ⟨hr.1,hr.2.1,hr.2.2.1,hr.2.2.2.1,(by have:=hr.2.2.2.2.1;show bK (r.left-1);unfold bK at this ⊢;omega),hr.2.2.2.2.2.1,hr.2.2.2.2.2.2⟩
 ·exact wJ _ hr
theorem aKD {l:List Req} {p:Stt×List Req} {i:Nat} (h:i<l.length):o8 (l.take (i+1)) p=pP (o8 (l.take i) p) (ix l i):=by unfold o8;rw[List.take_succ_eq_append_getElem h,List.foldl_append,gW h];rfl
theorem aHV {x0:Stt} (hw:x0.wf) (hm:x0.mem.length<=1000000) (hb:x0.writes.length+x0.table.length<=1000000):∀ {i:Nat},i<=x0.table.length->a42 x0 i (o8 (x0.table.take i) (x0,[]))
 |0,_=>⟨hw,rfl,rfl,rfl,rfl,rfl,zaF _,rfl,rfl,zaF _,rfl,rfl,fun r hr=>by cases hr⟩
 |i+1,h=>by rw[aKD h];exact aZ0 (aHV hw hm hb (Nat.le_of_succ_le h)) (hw.2.2.2.2.2.2.2.2.2.1.1 _ (cA h)) hm (by omega)
theorem aO9 {α:Type} [Inhabited α] {κ:Nat->Option Nat} {es:Nat} {f:Nat->XV} {en:α->XV} {l:List α} {x:α} (h1:∀ i,i<l.length->con (f i)=con (en (ix l i))) (h2:con (f l.length)=con (en x)):leK κ (con (.tab (l.length+1) es f)) (con (iH es en (l++[x]))):=by unfold iH;rw[bD];exact aOR h1 h2 rfl
def aA0 (c:Cfg) (bank:Int) (r:Req):Bool:=decide (aDW r.addr c.dI=bank)&&decide (r.left=0)
def zG (c:Cfg) (bank:Int) (r:Req):Bool:=decide (aDW r.addr c.dI=bank)&&decide (r.left>0)
def e8 (c:Cfg) (bank:Int) (l:List Req) (k:Nat):List Int:=((List.range k).filter (fun j=>aA0 c bank (ix l j))).map (fun j:Nat=>(j:Int))
def nY (s:bF) (x:Stt) (w:List Int):Nat:=(ix w (if w.length>1 then aCQ s x.cG w.length else 0).toNat).toNat
def tN (c:Cfg) (s:bF) (x:Stt) (bank:Int):Stt :=
 if x.table.any (zG c bank)then x else
 if(e8 c bank x.table x.table.length).length=0 then x else
 { x with cG:=if(e8 c bank x.table x.table.length).length>1 then IntKind.i64.wrap (x.cG+1)else x.cG,dR:=IntKind.i64.wrap (x.dR+1),table:=x.table.set (nY s x (e8 c bank x.table x.table.length)) { ix x.table (nY s x (e8 c bank x.table x.table.length))with left:=uY s x.dR c.lat } }
theorem a43:rD zPr (73,aZY):=fun args nd v h hn=>by
 simp only[aZY]at h;split at h
 ·simp only[zaA,zaJ]at h;obtain⟨rfl,rfl⟩:=h;simp only[bH,zaK]at hn;rename_i a n;have h:=hn.1;refine gQ (u:=80) (k:=20) mix bEN ?_;refine Eq.mpr (bAZ a n _) ?_;unfold aDW;by_cases g1:a<0
  ·simp[g1]
  by_cases g2:n<1
  ·simp[g1,g2]
  have g3:¬n=0:=by omega
  rw[if_neg (by omega)];simp only[g1,g2,g3,zaC,zaE,zaB,zaD,aD,zaF,zaO,zaQ,aS,bI,zaI,zaH,zaN,zaM,zaT,zaR,zaS,ge_iff_le,Int.le_refl,if_true,if_false,reduceCtorEq,eq_self,BEq.rfl];refine aHC ?_;rw[Int.tdiv_eq_ediv_of_nonneg (by omega),wrap_i64 (x:=a/4) (by omega) (by omega),Int.tmod_eq_emod_of_nonneg (by omega)]
 ·cases h
theorem aPA {c:Cfg} {b:Int} {l:List Req} {k:Nat} {x:Int} (h:x∈e8 c b l k):0<=x/\x<k:=by unfold e8 at h;obtain⟨j,hj,rfl⟩:=List.mem_map.1 h;have:=List.mem_range.1 (List.mem_filter.1 hj).1;omega
theorem aWC {c:Cfg} {b:Int} {l:List Req} {k:Nat}:e8 c b l (k+1)=if aA0 c b (ix l k)then e8 c b l k++[(k:Int)]else e8 c b l k:=by
 unfold e8;rw[List.range_succ,List.filter_append,List.map_append];by_cases h:aA0 c b (ix l k)=true
 ·simp[h]
 ·have h:aA0 c b (ix l k)=false:=by simpa using h
  simp[h]
theorem aZ1 {c:Cfg} {b:Int} {l:List Req} {k:Nat}:(e8 c b l k).length<=k:=by unfold e8;rw[List.length_map];have:=List.length_filter_le (fun j=>aA0 c b (ix l j)) (List.range k);rw[List.length_range]at this;exact this
def bgK (c:Cfg) (s:bF) (x:Stt):Nat->Stt
 |0=>x
 |k+1=>tN c s (bgK c s x k) (k:Int)
def jY (c:Cfg) (s:bF) (x:Stt):Stt:=if 1<=c.dI/\c.dI<=16/\1<=c.lat/\c.lat<=1000 then bgK c s (gB x) c.dI.toNat else x
def aI5 (x y:Stt):Prop:=y.wf/\y.ldq=x.ldq/\y.sdq=x.sdq/\y.aeq=x.aeq/\y.abq=x.abq/\y.ebq=x.ebq/\y.saq=x.saq/\y.table.length=x.table.length/\y.mem=x.mem/\y.writes=x.writes/\y.a=x.a/\y.e=x.e/\y.aT=x.aT/\y.tags=x.tags/\y.aE=x.aE
theorem aI5.refl {x:Stt} (h:x.wf):aI5 x x:=⟨h,rfl,rfl,rfl,rfl,rfl,rfl,rfl,rfl,rfl,rfl,rfl,rfl,rfl,rfl⟩
theorem aI5.trans {x y z:Stt} (h:aI5 x y) (k:aI5 y z):aI5 x z:=by obtain⟨_,a2,a3,a4,a5,a6,a7,a8,a9,a10,a11,a12,a13,a14,a15⟩:=h;obtain⟨b1,b2,b3,b4,b5,b6,b7,b8,b9,b10,b11,b12,b13,b14,b15⟩:=k;exact⟨b1,b2.trans a2,b3.trans a3,b4.trans a4,b5.trans a5,b6.trans a6,b7.trans a7,b8.trans a8,b9.trans a9,b10.trans a10,b11.trans a11,b12.trans a12,b13.trans a13,b14.trans a14,b15.trans a15⟩
theorem aPB {c:Cfg} {b:Int} {l:List Req} {m:Nat} (h:m<(e8 c b l l.length).length):0<=ix (e8 c b l l.length) m/\(ix (e8 c b l l.length) m).toNat<l.length:=by have:=aPA (cA h);omega
theorem aPC {c:Cfg} {s:bF} {x:Stt} {b:Int} (h:¬(e8 c b x.table x.table.length).length=0):nY s x (e8 c b x.table x.table.length)<x.table.length:=by
 unfold nY;split
 ·rename_i hm;have:=aHU s x.cG (n:=((e8 c b x.table x.table.length).length:Int)) (by omega);exact(aPB (by omega)).2
 ·exact(aPB (m:=0) (by omega)).2
theorem a44 (s:bF) (i most:Int):bK (uY s i most):=by have:=aTQ s.dR i most;unfold uY bK;omega
theorem a45 {c:Cfg} {s:bF} {x:Stt} {b:Int} (hw:x.wf):aI5 x (tN c s x b):=by
 unfold tN;split
 ·exact .refl hw
 ·split
  ·exact .refl hw
  ·rename_i hz;obtain⟨a1,a2,a3,a4,a5,a6,a7,a8,a9,a10,a11,a12,a13,a14,a15,a16⟩:=hw;have hk:=aPC (s:=s) hz;generalize nY s x (e8 c b x.table x.table.length)=k at hk ⊢;refine⟨⟨a1,a2,a3,a4,a5,a6,a7,a8,a9,⟨fun y hy => ?_, ?_⟩,a11,a12,a13,cY _, ?_,a16⟩,rfl,rfl,rfl,rfl,rfl,rfl,List.length_set,rfl,rfl,rfl,rfl,rfl,rfl,rfl⟩
   ·rcases List.mem_or_eq_of_mem_set hy with hy|rfl
    ·exact a10.1 y hy
    ·have:=a10.1 _ (cA hk);exact⟨this.1,this.2.1,this.2.2.1,this.2.2.2.1,a44 _ _ _,this.2.2.2.2.2⟩
   ·show(x.table.set k _).length*64<=_;rw[List.length_set];exact a10.2
   ·show bK (if _ then _ else _);split
    ·exact cY _
    ·exact a15
theorem aCS {c:Cfg} {s:bF} {x:Stt} (hw:x.wf):∀ k,aI5 x (bgK c s x k)
 |0=>.refl hw
 |k+1=>(aCS hw k).trans (a45 (aCS hw k).1)
theorem aTS {x:Stt} (hw:x.wf) (hm:x.mem.length<=1000000) (hb:x.writes.length+x.table.length<=1000000):(gB x).wf/\(gB x).ldq.length=x.ldq.length/\(gB x).sdq=x.sdq/\(gB x).aeq=x.aeq/\(gB x).abq=x.abq/\(gB x).ebq=x.ebq/\(gB x).saq.length<=x.saq.length/\(gB x).mem.length=x.mem.length/\(gB x).writes.length+(gB x).table.length<=x.writes.length+x.table.length:=by have h:=aHV hw hm hb (zaF x.table.length);rw[List.take_length]at h;unfold gB;generalize o8 x.table (x,[])=p at h ⊢;obtain⟨⟨a1,a2,a3,a4,a5,a6,a7,a8,a9,a10,a11,a12,a13⟩,b2,b3,b4,b5,b6,b7,b8,b9,b10,_,_,b11⟩:=h;exact⟨⟨a1,a2,a3,a4,a5,a6,a7,a8,a9,⟨b11,by show p.2.length*64<=_;omega⟩,a11,a12,a13⟩,b2,b3,b4,b5,b6,b7,b9,b10⟩
def z7 (x:Stt):Prop:=x.ok/\x.writes.length+x.table.length<=1000000
theorem aHW {x:Stt} (h:z7 x):z7 (gB x):=by obtain⟨ho,hb⟩:=h;have hw:x.wf:=ho.1;obtain⟨c1,c2,c3,c4,c5,c6,c7,c8,c9⟩:=aTS hw ho.2.2.2.2.2.2.2.2.1 hb;obtain⟨_,b1,b2,b3,b4,b5,b6,b7,b8,b9⟩:=ho;refine⟨⟨c1,by omega,by rw[c3];exact b2,by rw[c4];exact b3,by rw[c5];exact b4,by rw[c6];exact b5,by omega,by omega,by omega,by omega⟩,by omega⟩
theorem aKE {x y:Stt} (h:z7 x) (hb:aI5 x y):z7 y:=by obtain⟨⟨_,b1,b2,b3,b4,b5,b6,b7,b8,b9⟩,hl⟩:=h;obtain⟨c1,c2,c3,c4,c5,c6,c7,c8,c9,c10,_⟩:=hb;exact⟨⟨c1,by rw[c2];exact b1,by rw[c3];exact b2,by rw[c4];exact b3,by rw[c5];exact b4,by rw[c6];exact b5,by rw[c7];exact b6,by rw[c8];exact b7,by rw[c9];exact b8,by rw[c10];exact b9⟩,by rw[c8,c10];exact hl⟩
theorem aZ2 {c:Cfg} {s:bF} {x:Stt} (h:z7 x):z7 (jY c s x):=by
 unfold jY;split
 ·exact aKE (aHW h) (aCS (aHW h).1.1 _)
 ·exact h
def avS:List XV->Option ((XV->Prop)->Prop):=eZ (fun q:Cfg×bF×Stt=>[aV q.1,bO q.2.1,aP q.2.2]) (fun q=>z7 q.2.2) (fun q=>jY q.1 q.2.1 q.2.2) (fun y=>aP y)
theorem okb {s:Stt} (h:s.ok):s.ldq.length*16<=140737488355328/\s.sdq.length*4<=140737488355328/\s.aeq.length*4<=140737488355328/\s.abq.length*1<=140737488355328/\s.ebq.length*1<=140737488355328/\s.saq.length*32<=140737488355328/\s.table.length*64<=140737488355328/\s.mem.length*1<=140737488355328/\s.writes.length*24<=140737488355328:=by obtain⟨_,h⟩:=h;omega
def TRv:Tab:=fW qq eU [(46,aRL),(48,a7W),(73,aZY)] jA [(102,bAX),(75,bEJ),(74,bEK)] []
def bxR (x:Stt):XV:=.agg 92 [.int .i64 x.aE,aR x.a,aR x.e,aB 3 cO x.ldq,aB 1 dA x.sdq,aB 1 dA x.aeq,aB 1 cL x.abq,aB 1 cL x.ebq,aB 5 cB x.saq,aB 8 dS x.table,aB 1 eP x.mem,.sl 16 [] 0 0 x.writes.length 3,lH x.aT,.int .i64 x.dR,.int .i64 x.cG,.int .i64 x.tags]
def aZ3 (c:Cfg) (s:bF) (l:List Req) (x:Stt) (left:List Req) (i:Nat):XSt:=⟨[(9,.int .i64 i),(8,aB 8 dS l),(7,.sl 15 [] 0 0 left.length 8),(6,.ptr 3 [] 0),(5,.ptr 2 [] 0),(4,.ptr 1 [] 0),(3,.ptr 0 [] 0)],[(16,some (iH 3 mQ x.writes)),(15,some (iH 8 dS left)),(3,some zX),(2,some (bxR x)),(1,some (bO s)),(0,some (aV c))],17⟩
def aWD (c:Cfg) (s:bF) (l:List Req) (y:Stt) (k:Nat):XSt:=⟨[(11,.int .i64 k),(7,.sl 15 [] 0 0 y.table.length 8),(6,.ptr 3 [] 0),(5,.ptr 2 [] 0),(4,.ptr 1 [] 0),(3,.ptr 0 [] 0)],[(15,some (iH 8 dS y.table)),(3,some zX),(2,some (aP { y with table:=l })),(1,some (bO s)),(0,some (aV c))],17⟩
def aZ4 (c:Cfg) (s:bF) (l:List Req) (y:Stt) (k:Int) (b:Bool) (w:List Int) (i:Nat):XSt:=⟨[(14,.int .i64 i),(13,.sl 17 [] 0 0 w.length 1),(12,.bool b),(11,.int .i64 k),(7,.sl 15 [] 0 0 y.table.length 8),(6,.ptr 3 [] 0),(5,.ptr 2 [] 0),(4,.ptr 1 [] 0),(3,.ptr 0 [] 0)],[(17,some (iH 1 bJ w)),(15,some (iH 8 dS y.table)),(3,some zX),(2,some (aP { y with table:=l })),(1,some (bO s)),(0,some (aV c))],18⟩
theorem bEO (c:Cfg) (s:bF) (x:Stt) (r:XV):(goQ zPr TRv [(.cell 6 .true 92)] r (.run jS) [] ⟨kF 0 [aV c,bO s,aP x],[],0⟩)=(
 let q1:=x.ldq.length*16;
 let q2:=decide (c.dI>=1);
 let q3:=!cond q2 (decide (c.dI<=16)) false;
 let q4:=decide (c.lat>=1);
 let q5:=cond (decide (x.ldq.length<=x.ldq.length)) (cond (decide (x.sdq.length<=x.sdq.length)) (cond (decide (x.aeq.length<=x.aeq.length)) (cond (decide (x.abq.length<=x.abq.length)) (cond (decide (x.ebq.length<=x.ebq.length)) (cond (decide (x.saq.length<=x.saq.length)) (cond (decide (x.table.length<=x.table.length)) (cond (decide (x.mem.length<=x.mem.length)) (cond (decide (x.writes.length<=x.writes.length)) (aA (aP x) r) False) False) False) False) False) False) False) False) False;
 let q6:XV:=.sl 12 [] 0 0 x.table.length 8;
 let q7:XV:=.row true 0 0 fun x=>.unk;
 let q8:XV:=.agg 92 [.int .i64 x.aE,aR x.a,aR x.e,.sl 6 [] 0 0 x.ldq.length 3,.sl 7 [] 0 0 x.sdq.length 1,.sl 8 [] 0 0 x.aeq.length 1,.sl 9 [] 0 0 x.abq.length 1,
  .sl 10 [] 0 0 x.ebq.length 1,.sl 11 [] 0 0 x.saq.length 5,q6,.sl 13 [] 0 0 x.mem.length 1,.sl 14 [] 0 0 x.writes.length 3,lH x.aT,.int .i64 x.dR,.int .i64 x.cG,.int
  .i64 x.tags];
 let q9:List XV:=[.int .i64 0,.int .i64 0,.int .i64 0];
 let q10:XV:=.agg 3 q9;
 let q11:XV:=.agg 38 [.tab 16 1 fun x=>.int .u32 0,.tab 16 1 fun x=>.int .i64 0,q10,.int .i64 0,.bool false,.int .i64 0];cond (decide (q1<=140737488355328)) (cond (gP
  (fun i=>true) x.ldq.length) (cond (decide (x.sdq.length*4<=140737488355328)) (cond (decide (x.aeq.length*4<=140737488355328)) (cond (decide (x.abq.length*1<=140737488355328)) (cond (decide (x.ebq.length*1<=140737488355328)) (cond (decide (x.saq.length*32<=140737488355328)) (cond (decide (x.table.length*64<=140737488355328)) (cond (decide (x.mem.length
  * 1<=140737488355328)) (cond (decide (x.writes.length*24<=140737488355328)) (cond (cond q2 q2 true) (cond (!q3) (cond (cond q4 q4 true) (cond (cond q3 true (!cond q4 (decide (c.lat<=1000)) false)) q5 (bX (Ok zPr (Tab.q TRv)) jL (XSt.mk [(9,.int .i64 0),(8,q6),(7,q7),(6,.ptr 3 []
  0),(5,.ptr 2 [] 0),(4,.ptr 1 [] 0),(3,.ptr 0 [] 0)] [(14,some (.tab x.writes.length 3 fun i=>mQ (ix x.writes i))),(13,some (.tab x.mem.length 1 fun i=>eP (ix x.mem
  i))),(12,some (.tab x.table.length 8 fun i=>dS (ix x.table i))),(11,some (.tab x.saq.length 5 fun i=>cB (ix x.saq i))),(10,some (.tab x.ebq.length 1 fun i=>cL
  (ix x.ebq i))),(9,some (.tab x.abq.length 1 fun i=>cL (ix x.abq i))),(8,some (.tab x.aeq.length 1 fun i=>dA (ix x.aeq i))),(7,some (.tab x.sdq.length 1 fun i=>dA
  (ix x.sdq i))),(6,some (.tab x.ldq.length 3 fun i=>cO (ix x.ldq i))),(5,some q8),(4,some q8),(3,some (.agg 92 (.int .i64 0::q11::q11::q7::q7::q7::q7::q7
  :: q7::q7::q7::q7::q10::q9))),(2,some q8),(1,some (bO s)),(0,some (aV c))] 15) [Frm.blk 0,Frm.seq iB] (dC [AR.cell 6 true 92] r))) False) (cond q3 q5 False)) False) False) False) False) False) False) False) False) False) False) False):=by kernel_rfl 
theorem bEP (c:Cfg) (s:bF) (l:List Req) (x:Stt) (left:List Req) (i:Nat) (r:XV) (A:XSt->Prop):(goQ zPr TRv [(.cell 6 .true 92)] r (.run jL) [.lp jL A,.blk 0,.seq iB] (aZ3 c s l x left i))=(
 let q1:=decide ((↑i:Int)<(↑(l.length):Int));
 let q2:=IntKind.wrap .i64 ((ix l i).left-1);
 let q3:=decide (x.mem.length<=1099511627776);
 let q4:=x.saq.length-1;
 let q5:XV:=.int .i64 (IntKind.wrap .i64 ((↑i:Int)+1));
 let q6:List (Nat×XV):=[(6,.ptr 3 [] 0),(5,.ptr 2 [] 0),(4,.ptr 1 [] 0),(3,.ptr 0 [] 0)];
 let q7:List (Nat×XV):=(7,.sl 15 [] 0 0 left.length 8)::q6;
 let q8:List (Nat×XV):=(9,q5)::(8,aB 8 dS l)::q7;
 let q9:=fun(i:Nat)=>decide (i<x.writes.length);
 let q10:XV:=.tab (pl x.writes.length 1) 3 fun i_1=>.agg 3 [.int .i64 (cond (q9 i_1) ((ix x.writes i_1).addr) ((ix l i).addr)),.int .i64 (cond (q9 i_1) ((ix x.writes i_1).size) ((ix l i).size)),.int .u32 (cond (q9 i_1) ((ix x.writes i_1).val) ((ix l i).val))];
 let q11:XV:=.agg 3 [.int .i64 ((ix l i).addr),.int .i64 ((ix l i).size),.int .u32 ((ix l i).val)];
 let q12:List XV:=[lH x.aT,.int .i64 x.dR,.int .i64 x.cG,.int .i64 x.tags];
 let q13:List XV:=aB 8 dS x.table::.row false 1 x.mem.length (jR (okW x.mem.length ((ix l i).addr) ((ix l i).size)) (fun i=>eP (ix x.mem i)) (Int.toNat ((ix l i).addr))
  (Int.toNat ((ix l i).size)) ((ix l i).val))::.sl 22 [] 0 0 (pl x.writes.length 1) 3::q12;
 let q14:XV:=.agg 92 (.int .i64 x.aE::aR x.a::aR x.e::aB 3 cO x.ldq::aB 1 dA x.sdq::aB 1 dA x.aeq::aB 1 cL x.abq::aB 1 cL
  x.ebq::.sl 23 [] 0 0 q4 5::q13);
 let q15:XV:=.agg 8 [.bool ((ix l i).store),.int .i64 ((ix l i).op),.int .i64 ((ix l i).addr),.int .i64 ((ix l i).size),.int .u32 ((ix l i).val),.int .i64 q2,.int .i64 ((ix
  l i).reg),.int .i64 ((ix l i).tag)];
 let q16:List XV:=[.int .i64 0,.int .i64 0,.int .i64 0];
 let q17:XV:=.agg 3 q16;
 let q18:XV:=.agg 38 [.tab 16 1 fun x=>.int .u32 0,.tab 16 1 fun x=>.int .i64 0,q17,.int .i64 0,.bool false,.int .i64 0];
 let q19:XV:=.row true 0 0 fun x=>.unk;
 let q20:XV:=.agg 92 (.int .i64 0::q18::q18::q19::q19::q19::q19::q19::q19::q19::q19::q19::q17::q16);
 let q21:List (Nat×Option XV):=[(1,some (bO s)),(0,some (aV c))];
 let q22:XV:=.agg 92 (.int .i64 x.aE::aR x.a::aR x.e::aB 3 cO x.ldq::aB 1 dA x.sdq::aB 1 dA x.aeq::aB 1 cL x.abq::aB 1 cL
  x.ebq::aB 5 cB x.saq::q13);
 let q23:=decide ((ix l i).addr>=0);
 let q24:=IntKind.wrap .u32 (Req.addr (ix l (Int.toNat (↑i:Int))));
 let q25:=decide ((ix l i).reg<0);
 let q26:=xJ x.mem.length (fun i=>eP (ix x.mem i)) ((ix l i).op) (IntKind.wrap .u32 ((ix l i).addr));
 let q27:List Slot×Int×Int->List XV:=fun s=>[aB 3 cO s.1,.int .i64 s.2.1,.int .u32 s.2.2];
 let q28:List XV:=aB 1 dA x.sdq::aB 1 dA x.aeq::aB 1 cL x.abq::aB 1 cL x.ebq::aB 5 cB x.saq::aB 8 dS x.table::aB 1 eP x.mem
  :: .sl 16 [] 0 0 x.writes.length 3::q12;
 let q29:List Slot×Bool->XV:=fun y=>.agg 92 (.int .i64 x.aE::aR x.a::aR x.e::aB 3 cO y.1::q28);
 let q30:List Slot×Int×Int->Prop:=fun s=>aN (s.1.length<=1000000)/\∀(y:List Slot×Bool),y=fG s.1 s.2.1 s.2.2->A (XSt.mk q8 ((20,some (q29 y))::(19,some
  q15)::(18,some (q29 y))::(17,some q15)::(16,some (iH 3 mQ x.writes))::(15,some (iH 8 dS left))::(3,some q20)::(2,some (q29 y))::q21) 21);
 let q31:=decide ((ix l i).reg>=1);
 let q32:=cond q31 q31 true;
 let q33:=cond q31 (decide ((ix l i).reg<=15)) false;
 let q34:=decide (0<=(ix l i).reg);
 let q35:=decide ((ix l i).reg<16);
 let q36:=Int.toNat ((ix l i).reg)*1;
 let q37:=pl 1 q36;
 let q38:=Nat.beq q37 q37;
 let q39:=decide (Int.toNat ((ix l i).reg)<16);
 let q40:=pl 17 q36;
 let q41:=Nat.beq q40 q40;
 let q42:List XV:=[.tab 16 1 fun j=>.int .i64 (cond (Nat.beq j (Int.toNat ((ix l i).reg))) (IntKind.wrap .i64 (x.aE+1)) (x.a.ready j)),dZ x.a.pos,.int .i64 x.a.wait,
  .bool x.a.halted,.int .i64 x.a.done];
 let q43:List XV:=aR x.e::aB 3 cO x.ldq::q28;
 let q44:XV:=.agg 92 (.int .i64 x.aE::.agg 38 ((.tab 16 1 fun j=>.int .u32 (cond (Nat.beq j (Int.toNat ((ix l i).reg))) q26 (x.a.bC j)))::q42)::q43);
 let q45:XV:=.agg 92 (.int .i64 x.aE::aR x.a::q43);
 let q46:List (Nat×Option XV):=(3,some q20)::(2,some q45)::q21;
 let q47:List (Nat×Option XV):=(16,some (iH 3 mQ x.writes))::(15,some (iH 8 dS left))::q46;
 let q48:=XSt.mk q8 ((20,some q45)::(19,some q15)::(18,some q45)::(17,some q15)::q47) 21;
 let q49:XV:=.agg 92 (.int .i64 x.aE::.agg 38 ((.tab 16 1 fun j=>.int .u32 (cond (Nat.beq j (Int.toNat ((ix l i).reg))) (0:Int) (x.a.bC j)))::q42)::q43);
 let q50:=decide (left.length<=left.length);
 let q51:=decide (pl left.length 1*64<=140737488355328);
 let q52:List (Nat×XV):=(9,q5)::(7,.sl 18 [] 0 0 (pl left.length 1) 8)::(8,aB 8 dS l)::q6;
 let q53:=fun(i:Nat)=>decide (i<left.length);
 let q54:Nat->XV:=fun i_1=>.bool (cond (q53 i_1) ((ix left i_1).store) ((ix l i).store));
 let q55:Nat->XV:=fun i_1=>.int .i64 (cond (q53 i_1) ((ix left i_1).op) ((ix l i).op));
 let q56:Nat->XV:=fun i_1=>.int .i64 (cond (q53 i_1) ((ix left i_1).addr) ((ix l i).addr));
 let q57:Nat->XV:=fun i_1=>.int .i64 (cond (q53 i_1) ((ix left i_1).size) ((ix l i).size));
 let q58:Nat->XV:=fun i_1=>.int .u32 (cond (q53 i_1) ((ix left i_1).val) ((ix l i).val));
 let q59:Nat->List XV:=fun i_1=>[.int .i64 (cond (q53 i_1) ((ix left i_1).reg) ((ix l i).reg)),.int .i64 (cond (q53 i_1) ((ix left i_1).tag) ((ix l i).tag))];
 let q60:List (Nat×Option XV):=(16,some (iH 3 mQ x.writes))::(15,none)::q46;cond q1 (cond q1 (cond (decide ((ix l i).left>0)) (cond (decide (q2=0)) (cond ((ix l i).store) (cond q3 (cond (gP (fun i=>true) x.mem.length) (cond (decide (x.writes.length<=x.writes.length)) (cond (decide (pl x.writes.length 1*24<=140737488355328)) (cond (decide ((↑(x.saq.length):Int)>0)) (cond (decide (1<=(↑(x.saq.length):Int))) (cond (decide (q4*32<=140737488355328)) (A (XSt.mk q8 ((23,some (.tab q4 5 fun i
  => cB (ix x.saq (pl 1 i))))::(22,some q10)::(21,some q11)::(20,some q14)::(19,some q15)::(18,some q14)::(17,some q15)::(16,none)::(15,some (iH 8 dS
  left))::(3,some q20)::(2,some q14)::q21) 24)) False) False) (A (XSt.mk q8 ((22,some q10)::(21,some q11)::(20,some q22)::(19,some q15)::(18,some q22)
  :: (17,some q15)::(16,none)::(15,some (iH 8 dS left))::(3,some q20)::(2,some q22)::q21) 23))) False) False) False) False) (cond (cond q23 q23 true) (cond (cond q23 (decide ((ix l i).addr<4294967296)) false) (cond q3 (cond (gP (fun i=>true) x.mem.length) (cond (aQ8 x.mem.length fun i=>eP (ix x.mem
  i)) (cond (decide (0<=IntKind.wrap .u32 ((ix l i).addr))) (cond (decide (IntKind.wrap .u32 ((ix l i).addr)<=4294967295)) (cond q25 (∃(s:List Slot×Int×Int),aI [aB
  3 cO x.ldq,.int .i64 ((ix l i).tag),.int .u32 q26] (q27 s)/\q30 s) (cond q32 (cond q33 (cond q34 (cond q35 (cond q38 (cond q39 (cond q39 (cond q34 (cond q35 (cond q41 (cond q39 (cond q39 (A (XSt.mk q8 ((20,some q44)::(19,some q15)::(18,some q44)::(17,some q15)::(16,some (iH 3 mQ x.writes))::(15,some
  (iH 8 dS left))::(3,some q20)::(2,some q44)::q21) 21)) False) False) False) False) False) False) False) False) False) False) (A q48)) False)) False) False) False) False) False) (cond q25 (∃(s:List Slot×Int×Int),aI [aB 3 cO x.ldq,.int .i64 ((ix l i).tag),.int
  .u32 0] (q27 s)/\q30 s) (cond q32 (cond q33 (cond q34 (cond q35 (cond q38 (cond q39 (cond q39 (cond q34 (cond q35 (cond q41 (cond q39 (cond q39 (A (XSt.mk q8 ((20,some q49)::(19,some q15)::(18,some q49)::(17,some q15)::(16,some (iH 3 mQ x.writes))::(15,some (iH 8 dS left))::(3,some q20)::(2,some
  q49)::q21) 21)) False) False) False) False) False) False) False) False) False) False) (A q48)) False))) False)) (cond q50 (cond q51 (A (XSt.mk q52 ((18,some (.tab (pl left.length 1) 8 fun i=>.agg 8 (q54 i::q55 i::q56 i::q57 i::q58 i::.int .i64 (cond (q53 i) ((ix left i).left) q2)::q59
  i)))::(17,some q15)::q60) 19)) False) False)) (cond q50 (cond q51 (A (XSt.mk q52 ((18,some (.tab (pl left.length 1) 8 fun i_1=>.agg 8 (q54 i_1::q55 i_1 ::
  q56 i_1::q57 i_1::q58 i_1::.int .i64 (cond (q53 i_1) ((ix left i_1).left) ((ix l i).left))::q59 i_1)))::(17,some (dS (ix l i)))::q60) 19)) False) False)) False) (bX (Ok zPr (Tab.q TRv)) cQ (XSt.mk ((11,.int .i64 0)::q7) q47 17) [Frm.blk 2,Frm.seq eY] (dC [AR.cell 6 true 92] r))):=by
 kernel_rfl
theorem bEQ (c:Cfg) (s:bF) (l:List Req) (y:Stt) (k:Nat) (r:XV) (A:XSt->Prop):(goQ zPr TRv [(.cell 6 .true 92)] r (.run cQ) [.lp cQ A,.blk 2,.seq eY] (aWD c s l y k))=(
 let q1:XV:=.row true 0 0 fun x=>.unk;
 let q2:List XV:=[.int .i64 0,.int .i64 0,.int .i64 0];
 let q3:XV:=.agg 3 q2;
 let q4:XV:=.agg 38 [.tab 16 1 fun x=>.int .u32 0,.tab 16 1 fun x=>.int .i64 0,q3,.int .i64 0,.bool false,.int .i64 0];
 let q5:Stt:=Stt.mk y.aE y.a y.e y.ldq y.sdq y.aeq y.abq y.ebq y.saq l y.mem y.writes y.aT y.dR y.cG y.tags;cond (decide ((↑k:Int)<c.dI)) (bX (Ok zPr
  (Tab.q TRv)) jM (XSt.mk [(14,.int .i64 0),(13,q1),(12,.bool false),(11,.int .i64 (↑k:Int)),(7,.sl 15 [] 0 0 y.table.length 8),(6,.ptr 3 [] 0),(5,.ptr
  2 [] 0),(4,.ptr 1 [] 0),(3,.ptr 0 [] 0)] [(15,some (iH 8 dS y.table)),(3,some (.agg 92 (.int .i64 0::q4::q4::q1::q1::q1::q1::q1::q1::q1::q1::q1 ::
  q3::q2))),(2,some (aP q5)),(1,some (bO s)),(0,some (aV c))] 17) [Frm.blk 4,Frm.seq mJ,Frm.blk 3,Frm.seq mK,Frm.lp cQ
  A,Frm.blk 2,Frm.seq eY] (dC [AR.cell 6 true 92] r)) (cond (decide (y.table.length<=y.table.length)) (aA (.agg 92 [.int .i64 q5.aE,aR q5.a,aR
  q5.e,aB 3 cO q5.ldq,aB 1 dA q5.sdq,aB 1 dA q5.aeq,aB 1 cL q5.abq,aB 1 cL q5.ebq,aB 5 cB q5.saq,aB 8 dS y.table,aB 1 eP q5.mem,
  aB 3 mQ q5.writes,lH q5.aT,.int .i64 q5.dR,.int .i64 q5.cG,.int .i64 q5.tags]) r) False)):=by kernel_rfl
theorem bER (c:Cfg) (s:bF) (l:List Req) (y:Stt) (k:Int) (b:Bool) (w:List Int) (i:Nat) (r:XV) (A B:XSt->Prop):(goQ zPr TRv [(.cell 6 .true 92)] r (.run jM) [.lp jM B,.blk 4,.seq mJ,.blk 3,.seq mK,.lp cQ A,.blk 2,.seq eY] (aZ4 c s l y k b w i))=(
 let q1:=decide ((↑i:Int)<(↑(y.table.length):Int));
 let q2:=i*8;
 let q3:=pl q2 2;
 let q4:=decide (i<y.table.length);
 let q5:Req:=ix y.table (pl 0 (Int.toNat (↑i:Int)));
 let q6:=q5.addr;
 let q7:=aDW q6 c.dI;
 let q8:XV:=.int .i64 (IntKind.wrap .i64 ((↑i:Int)+1));
 let q9:XV:=.sl 17 [] 0 0 w.length 1;
 let q10:List (Nat×XV):=[(7,.sl 15 [] 0 0 y.table.length 8),(6,.ptr 3 [] 0),(5,.ptr 2 [] 0),(4,.ptr 1 [] 0),(3,.ptr 0 [] 0)];
 let q11:List (Nat×XV):=(11,.int .i64 k)::q10;
 let q12:List (Nat×XV):=(12,.bool b)::q11;
 let q13:List XV:=[.int .i64 0,.int .i64 0,.int .i64 0];
 let q14:XV:=.agg 3 q13;
 let q15:XV:=.agg 38 [.tab 16 1 fun x=>.int .u32 0,.tab 16 1 fun x=>.int .i64 0,q14,.int .i64 0,.bool false,.int .i64 0];
 let q16:XV:=.row true 0 0 fun x=>.unk;
 let q17:XV:=.agg 92 (.int .i64 0::q15::q15::q16::q16::q16::q16::q16::q16::q16::q16::q16::q14::q13);
 let q18:Stt:=Stt.mk y.aE y.a y.e y.ldq y.sdq y.aeq y.abq y.ebq y.saq l y.mem y.writes y.aT y.dR y.cG y.tags;
 let q19:List (Nat×Option XV):=[(1,some (bO s)),(0,some (aV c))];
 let q20:List (Nat×Option XV):=(15,some (iH 8 dS y.table))::(3,some q17)::(2,some (aP q18))::q19;
 let q21:List (Nat×Option XV):=(17,some (iH 1 bJ w))::q20;
 let q22:=XSt.mk ((14,q8)::(13,q9)::q12) q21 18;
 let q23:=pl q2 5;
 let q24:=Nat.beq q23 q23;
 let q25:=q5.left;
 let q26:=decide ((ix y.table i).left=0);
 let q27:=decide (w.length<=w.length);
 let q28:=decide (pl w.length 1*8<=140737488355328);
 let q29:XV:=.sl 18 [] 0 0 (pl w.length 1) 1;
 let q30:List (Nat×Option XV):=(18,some (.tab (pl w.length 1) 1 fun i_1=>.int .i64 (cond (decide (i_1<w.length)) (ix w i_1) (↑i:Int))))::(17,none)::q20;
 let q31:List (Nat×XV):=(11,.int .i64 (IntKind.wrap .i64 (k+1)))::q10;
 let q32:=q18.cG;
 let q33:XV:=.int .i64 q32;
 let q34:bF×Int×Int->List XV:=fun s=>[bO s.1,.int .i64 s.2.1,.int .i64 s.2.2];
 let q35:=fun(y:Int)=>Int.toNat y*1;
 let q36:=q18.dR;
 let q37:bF×Int×Int->Prop:=fun s_1=>aI [bO s,.int .i64 q36,.int .i64 c.lat] (q34 s_1);
 let q38:Int->bF×Int×Int->Prop:=fun y s=>y=uY s.1 s.2.1 s.2.2;
 let q39:=fun(y:Int)=>ix w (pl 0 (Int.toNat y));
 let q40:=fun(y:Int)=>pl (Int.toNat (ix w (Int.toNat y))*8) 5;
 let q41:=fun(y_1:Int)=>decide (Int.toNat (ix w (Int.toNat y_1))<y.table.length);
 let q42:Int->Req:=fun y_1=>ix y.table (Int.toNat (ix w (Int.toNat y_1)));
 let q43:XV:=.int .i64 q18.aE;
 let q44:XV:=aR q18.a;
 let q45:XV:=aR q18.e;
 let q46:XV:=aB 3 cO q18.ldq;
 let q47:XV:=aB 1 dA q18.sdq;
 let q48:XV:=aB 1 dA q18.aeq;
 let q49:XV:=aB 1 cL q18.abq;
 let q50:XV:=aB 1 cL q18.ebq;
 let q51:XV:=aB 5 cB q18.saq;
 let q52:XV:=aB 8 dS q18.table;
 let q53:XV:=aB 1 eP q18.mem;
 let q54:XV:=aB 3 mQ q18.writes;
 let q55:XV:=lH q18.aT;
 let q56:XV:=.int .i64 (IntKind.wrap .i64 (q36+1));
 let q57:List XV:=[.int .i64 q18.tags];
 let q58:=pl 0 (Int.toNat (0:Int));
 let q59:=ix w q58;
 let q60:=pl (Int.toNat (ix w 0)*8) 5;
 let q61:=decide (Int.toNat (ix w 0)<y.table.length);
 let q62:=fun(j:Nat)=>Nat.beq j (Int.toNat (ix w 0));
 let q63:Req:=ix y.table (Int.toNat (ix w 0));cond q1 (cond q1 (cond (Nat.beq q3 q3) (cond q4 (cond (decide ((ix y.table i).addr<=9223372036854775807)) (cond (decide ¬aDW
  ((ix y.table i).addr) c.dI=k) (B q22) (cond q1 (cond q24 (cond q4 (cond (decide ((ix y.table i).left>0)) (cond q1 (cond q24 (cond q4 (cond q26 (cond q27 (cond q28 (B (XSt.mk ((14,q8)::(13,q29)::(12,.bool true)::q11) q30 19)) False) False) (B (XSt.mk ((14,q8)::(12,.bool true)::(13,q9)::q11) q21
  18))) False) False) False) (cond q1 (cond q24 (cond q4 (cond q26 (cond q27 (cond q28 (B (XSt.mk ((14,q8)::(13,q29)::q12) q30 19)) False) False) (B q22)) False) False) False)) False) False) False)) False) False) False) False) (cond (cond b true (!b)) (cond (cond b true (decide ((↑(w.length):Int)=0))) (A (XSt.mk q31 q21 18)) (cond (decide ((↑(w.length):Int)>1)) (∃(s_1:bF×Int×Int),aI [bO s,q33,.int .i64 (↑(w.length)
  : Int)] (q34 s_1)/\aN True/\∀(y_1:Int),y_1=aCQ s_1.1 s_1.2.1 s_1.2.2->cond (decide (0<=y_1)) (cond (decide (y_1<(↑(w.length):Int))) (cond (Nat.beq (q35 y_1) (q35
  y_1)) (cond (decide (Int.toNat y_1<w.length)) (∃(s:bF×Int×Int),q37 s/\aN True/\∀(y_2:Int),q38 y_2 s->cond (decide (0<=ix w (Int.toNat y_1))) (cond (decide
  (ix w (Int.toNat y_1)<(↑(y.table.length):Int))) (cond (Nat.beq (q40 y_1) (q40 y_1)) (cond (q41 y_1) (cond (q41 y_1) (A (XSt.mk q31 ((17,some (iH 1 bJ w))::(15,some
  (.tab y.table.length 8 fun j=>.agg 8 [.bool (cond (Nat.beq j (Int.toNat (ix w (Int.toNat y_1)))) ((q42 y_1).store) ((ix y.table j).store)),.int .i64 (cond (Nat.beq j (Int.toNat
  (ix w (Int.toNat y_1)))) ((q42 y_1).op) ((ix y.table j).op)),.int .i64 (cond (Nat.beq j (Int.toNat (ix w (Int.toNat y_1)))) ((q42 y_1).addr) ((ix y.table j).addr)),.int .i64
  (cond (Nat.beq j (Int.toNat (ix w (Int.toNat y_1)))) ((q42 y_1).size) ((ix y.table j).size)),.int .u32 (cond (Nat.beq j (Int.toNat (ix w (Int.toNat y_1)))) ((q42 y_1).val) ((ix y.table j).val)),.int .i64 (cond (Nat.beq j (Int.toNat (ix w (Int.toNat y_1)))) y_2 ((ix y.table j).left)),.int .i64 (cond (Nat.beq j (Int.toNat (ix w (Int.toNat y_1)))) ((q42 y_1).reg) ((ix y.table j).reg)),.int .i64 (cond (Nat.beq j (Int.toNat (ix w (Int.toNat y_1)))) ((q42 y_1).tag) ((ix y.table j).tag))]))::(3,some q17)::(2,some (.agg
  92 (q43::q44::q45::q46::q47::q48::q49::q50::q51::q52::q53::q54::q55::q56::.int .i64 (IntKind.wrap .i64 (q32+1))::q57)))::q19) 18)) False) False) False) False) False) False) False) False) False) (cond (decide (0<(↑(w.length):Int))) (cond (decide (0<w.length)) (∃(s:bF×Int×Int),
  q37 s/\aN True/\∀(y_1:Int),q38 y_1 s->cond (decide (0<=ix w 0)) (cond (decide (ix w 0<(↑(y.table.length):Int))) (cond (Nat.beq q60 q60) (cond q61 (cond q61 (A (XSt.mk q31 ((17,some (iH 1 bJ w))::(15,some (.tab y.table.length 8 fun j=>.agg 8 [.bool (cond (q62 j) q63.store ((ix y.table j).store)),.int .i64 (cond (q62 j) q63.op ((ix y.table j).op)),.int .i64 (cond (q62 j) q63.addr ((ix y.table j).addr)),.int .i64 (cond (q62 j) q63.size ((ix y.table j).size)),.int .u32 (cond (q62 j) q63.val ((ix y.table j).val)),.int .i64 (cond (q62 j) y_1 ((ix y.table j).left)),.int .i64 (cond (q62 j) q63.reg ((ix y.table j).reg)),.int .i64 (cond (q62 j) q63.tag ((ix y.table j).tag))]))::(3,some q17)::(2,some (.agg 92 (q43::q44::q45::q46::q47::q48::q49::q50::q51::q52::q53::q54::q55::q56::q33::q57))) ::
  q19) 18)) False) False) False) False) False) False) False))) False)):=by kernel_rfl
theorem aTT:bT zPr TRv:=bQ dF ⟨aOY,a4W,a43,trivial⟩ gM ⟨aO7,a4Y,aZX,trivial⟩ trivial
def aZ5 (x:Stt):XV:=.agg 92 [.int .i64 x.aE,aR x.a,aR x.e,.sl 6 [] 0 0 x.ldq.length 3,.sl 7 [] 0 0 x.sdq.length 1,.sl 8 [] 0 0 x.aeq.length 1,.sl 9 [] 0 0 x.abq.length 1,.sl 10 [] 0 0 x.ebq.length 1,.sl 11 [] 0 0 x.saq.length 5,.sl 12 [] 0 0 x.table.length 8,.sl 13 [] 0 0 x.mem.length 1,.sl 14 [] 0 0 x.writes.length 3,lH x.aT,.int .i64 x.dR,.int .i64 x.cG,.int .i64 x.tags]
def aZ6 (c:Cfg) (s:bF) (x:Stt):XSt:=⟨[(9,.int .i64 0),(8,.sl 12 [] 0 0 x.table.length 8),(7,aDX),(6,.ptr 3 [] 0),(5,.ptr 2 [] 0),(4,.ptr 1 [] 0),(3,.ptr 0 [] 0)],[(14,some (iH 3 mQ x.writes)),(13,some (iH 1 eP x.mem)),(12,some (iH 8 dS x.table)),(11,some (iH 5 cB x.saq)),(10,some (iH 1 cL x.ebq)),(9,some (iH 1 cL x.abq)),(8,some (iH 1 dA x.aeq)),(7,some (iH 1 dA x.sdq)),(6,some (iH 3 cO x.ldq)),(5,some (aZ5 x)),(4,some (aZ5 x)),(3,some zX),(2,some (aZ5 x)),(1,some (bO s)),(0,some (aV c))],15⟩
def bES (c:Cfg) (s:bF) (x:Stt):XSt:=⟨[(9,.int .i64 0),(8,aB 8 dS x.table),(7,aDX),(6,.ptr 3 [] 0),(5,.ptr 2 [] 0),(4,.ptr 1 [] 0),(3,.ptr 0 [] 0)],[(14,some (iH 3 mQ x.writes)),(3,some zX),(2,some (.agg 92 [.int .i64 x.aE,aR x.a,aR x.e,aB 3 cO x.ldq,aB 1 dA x.sdq,aB 1 dA x.aeq,aB 1 cL x.abq,aB 1 cL x.ebq,aB 5 cB x.saq,aB 8 dS x.table,aB 1 eP x.mem,.sl 14 [] 0 0 x.writes.length 3,lH x.aT,.int .i64 x.dR,.int .i64 x.cG,.int .i64 x.tags])),(1,some (bO s)),(0,some (aV c))],15⟩
theorem bET {c:Cfg} {s:bF} {x:Stt}:cJ 15 (aZ6 c s x).st (aZ3 c s x.table x [] 0).st:=by refine(cJ.frz (aB7 (L:=[6,7,8,9,10,11,12,13]) (σ:=aZ6 c s x) (τ:=bES c s x) rfl ⟨rfl,.same,rfl,mF rfl rfl,rfl,.same,rfl,.same,rfl,.same,rfl,.same,rfl,.same,trivial⟩ ⟨rfl,.same,rfl,.same,rfl,.agg (.cons .same (.cons .same (.cons .same (.cons (mF rfl rfl) (.cons (mF rfl rfl) (.cons (mF rfl rfl) (.cons (mF rfl rfl) (.cons (mF rfl rfl) (.cons (mF rfl rfl) (.cons (mF rfl rfl) (.cons (mF rfl rfl) (.cons .same (.cons .same (.cons .same (.cons .same (.cons .same .nil)))))))))))))))),rfl,.same,rfl,.same,trivial⟩)).trans ?_;exact rV [(0,0),(1,1),(2,2),(3,3),(4,4),(5,5),(6,6),(7,7),(8,8),(9,9),(10,10),(11,11),(12,12),(13,13),(14,14),(16,14)] rfl rfl rfl rfl rfl ⟨(aH rfl rfl),(aH rfl rfl),wW rfl,.ptr rfl,.ptr rfl,.ptr rfl,.ptr rfl,trivial⟩ ⟨(aH rfl rfl),⟨8,rfl⟩,(aH rfl rfl),.agg (.cons (aH rfl rfl) (.cons (aH rfl rfl) (.cons (aH rfl rfl) (.cons (aH rfl rfl) (.cons (aH rfl rfl) (.cons (aH rfl rfl) (.cons (aH rfl rfl) (.cons (aH rfl rfl) (.cons (aH rfl rfl) (.cons (aH rfl rfl) (.cons (aH rfl rfl) (.cons (.sl rfl) (.cons (aH rfl rfl) (.cons (aH rfl rfl) (.cons (aH rfl rfl) (.cons (aH rfl rfl) .nil)))))))))))))))),(aH rfl rfl),(aH rfl rfl),trivial⟩
theorem a70 {κ:Nat->Option Nat} {m:List Int} {w:Wr}:leK κ (con (.row false 1 m.length (jR (okW m.length w.addr w.size) (fun i=>eP (ix m i)) w.addr.toNat w.size.toNat w.val))) (con (aB 1 eP (eM m w))):=aHB oN.symm (.inl rfl) fun i hi=>by unfold eM;rw[kB hi];rfl
theorem a46 {c:Cfg} {s:bF} {x:Stt} {r:XV} (ho:x.ok) (hb:x.writes.length+x.table.length<=1000000)
  (hend:∀ X L,(X,L)=o8 x.table (x,[])->bX (Ok zPr (Tab.q TRv)) cQ (XSt.mk [(11,.int .i64 0),(7,.sl 15 [] 0 0 L.length 8),(6,.ptr 3 [] 0),(5,.ptr 2 [] 0),(4,.ptr 1 [] 0),(3,.ptr 0 [] 0)] [(16,some (iH 3 mQ X.writes)),(15,some (iH 8 dS L)),(3,some zX),(2,some (bxR X)),(1,some (bO s)),(0,some (aV c))] 17) [Frm.blk 2,Frm.seq eY] (dC [AR.cell 6 true 92] r)) :
  bX (Ok zPr (Tab.q TRv)) jL (aZ6 c s x) [Frm.blk 0,Frm.seq iB] (dC [AR.cell 6 true 92] r):=by
 have hw:x.wf:=ho.1;have hm0:x.mem.length<=1000000:=ho.2.2.2.2.2.2.2.2.1;have hl0:x.table.length<=1000000:=ho.2.2.2.2.2.2.2.1;have hs0:x.saq.length<=1000000:=ho.2.2.2.2.2.2.1;have hq0:x.ldq.length<=1000000:=ho.2.1;have hr0:∀ r∈x.table,r.wf:=hw.2.2.2.2.2.2.2.2.2.1.1;refine gT mix aTT (fun i:Nat=>aZ3 c s x.table (o8 (x.table.take i) (x,[])).1 (o8 (x.table.take i) (x,[])).2 i) (fun i=>i<=x.table.length) (fun i=>x.table.length-i) 0 (Nat.zero_le _) bET ?_;intro i hi;replace hi:i<=x.table.length:=hi;have inv:=aHV hw hm0 hb hi;have stp:=fun h:i<x.table.length=>aKD (p:=(x,[])) h
 have hfin:i=x.table.length->o8 (x.table.take i) (x,[])=o8 x.table (x,[]):=fun h=>by rw[h,List.take_length]
 generalize o8 (x.table.take i) (x,[])=p at inv stp hfin ⊢;obtain⟨X,L⟩:=p;obtain⟨iw,i2,i3,i4,i5,i6,i7,i8,i9,i10,_⟩:=inv;simp only at iw i2 i3 i4 i5 i6 i7 i8 i9 i10 stp ⊢;refine Eq.mpr (bEP c s x.table X L i _ _) ?_;by_cases hlt:i<x.table.length
 case neg =>
  have h1:¬(i:Int)<(x.table.length:Int):=by omega
  simp only[h1,zaE,zaD];exact hend X L (hfin (by omega))
 have h1:(i:Int)<(x.table.length:Int):=by omega
 have w1:IntKind.i64.wrap ((i:Int)+1)=((i+1:Nat):Int):=wrap_i64 (by omega) (by omega);have hr:(ix x.table i).wf:=hr0 _ (cA hlt);replace stp:=stp hlt;have hu:aQ8 X.mem.length (fun i=>eP (ix X.mem i))=true:=aHD.2 fun i hi=>iw.2.2.2.2.2.2.2.2.2.2.1.1 _ (cA hi)
 have nx:∀ {τ:XSt} (p':Stt×List Req),pP (X,L) (ix x.table i)=p'->cJ 15 τ.st (aZ3 c s x.table p'.1 p'.2 (i+1)).st->∃ j,j<=x.table.length/\cJ 15 τ.st (aZ3 c s x.table (o8 (x.table.take j) (x,[])).1 (o8 (x.table.take j) (x,[])).2 j).st/\x.table.length-j<x.table.length-i:=fun p' hp hk=>⟨i+1,hlt,by rw[stp,hp];exact hk,by omega⟩
 have wl:IntKind.i64.wrap ((ix x.table i).left-1)=(ix x.table i).left-1\/¬(ix x.table i).left>0:=by
  by_cases h:(ix x.table i).left>0
  ·have:=hr.2.2.2.2.1;exact .inl (wrap_i64 (by omega) (by unfold bK at this;omega))
  ·exact .inr h
 generalize hri:ix x.table i=r at hr stp nx wl ⊢;have b1:X.writes.length<=X.writes.length:=zaF _;have b2:(X.writes.length+1)*24<=140737488355328:=by omega
 have b3:(L.length+1)*64<=140737488355328:=by omega
 have b4:X.mem.length<=1099511627776:=by omega
 have b5:(X.saq.length-1)*32<=140737488355328:=by omega
 simp only[h1,w1,hri,zaC,zaB,zaO,zaF,cC,b2,b3,b4,b5,hu,aD];by_cases hl:r.left>0
 case neg => simp only[hl,zaE,zaD];refine nx (X,L++[r]) (by unfold pP;rw[if_neg hl]) ?_;exact rV [(0,0),(1,1),(2,2),(3,3),(4,4),(5,5),(6,6),(7,7),(8,8),(9,9),(10,10),(11,11),(12,12),(13,13),(14,14),(15,18),(16,16)] rfl rfl rfl rfl rfl ⟨(aH rfl rfl),(aH rfl rfl),(by show leK _ (.sl 18 [] 0 0 (L.length+1) 8) (.sl 15 [] 0 0 (L++[_]).length 8);rw[bD];exact .sl rfl),.ptr rfl,.ptr rfl,.ptr rfl,.ptr rfl,trivial⟩ ⟨(aH rfl rfl),(aO9 (fun j hj=>by simp only[hj,zaC,zaB];rfl) (by simp;rfl)),(aH rfl rfl),.agg (.cons (aH rfl rfl) (.cons (aH rfl rfl) (.cons (aH rfl rfl) (.cons (aH rfl rfl) (.cons (aH rfl rfl) (.cons (aH rfl rfl) (.cons (aH rfl rfl) (.cons (aH rfl rfl) (.cons (aH rfl rfl) (.cons (aH rfl rfl) (.cons (aH rfl rfl) (.cons (.sl rfl) (.cons (aH rfl rfl) (.cons (aH rfl rfl) (.cons (aH rfl rfl) (.cons (aH rfl rfl) .nil)))))))))))))))),(aH rfl rfl),(aH rfl rfl),trivial⟩
 obtain wl:=wl.resolve_right (fun h=>h hl);simp only[hl,wl,zaC,zaB];by_cases h1l:r.left=1
 case neg =>
  have hz:¬r.left-1=0:=by omega
  simp only[hz,zaE,zaD];refine nx (X,L++[{ r with left:=r.left-1 }]) (by unfold pP;rw[if_pos hl,if_neg h1l]) ?_;exact rV [(0,0),(1,1),(2,2),(3,3),(4,4),(5,5),(6,6),(7,7),(8,8),(9,9),(10,10),(11,11),(12,12),(13,13),(14,14),(15,18),(16,16)] rfl rfl rfl rfl rfl ⟨(aH rfl rfl),(aH rfl rfl),(by show leK _ (.sl 18 [] 0 0 (L.length+1) 8) (.sl 15 [] 0 0 (L++[_]).length 8);rw[bD];exact .sl rfl),.ptr rfl,.ptr rfl,.ptr rfl,.ptr rfl,trivial⟩ ⟨(aH rfl rfl),(aO9 (fun j hj=>by simp only[hj,zaC,zaB];rfl) (by simp;rfl)),(aH rfl rfl),.agg (.cons (aH rfl rfl) (.cons (aH rfl rfl) (.cons (aH rfl rfl) (.cons (aH rfl rfl) (.cons (aH rfl rfl) (.cons (aH rfl rfl) (.cons (aH rfl rfl) (.cons (aH rfl rfl) (.cons (aH rfl rfl) (.cons (aH rfl rfl) (.cons (aH rfl rfl) (.cons (.sl rfl) (.cons (aH rfl rfl) (.cons (aH rfl rfl) (.cons (aH rfl rfl) (.cons (aH rfl rfl) .nil)))))))))))))))),(aH rfl rfl),(aH rfl rfl),trivial⟩
 have hz:r.left-1=0:=by omega
 have ed:pP (X,L) r=(kP X r,L):=by unfold pP;rw[if_pos hl,if_pos h1l]
 simp only[hz,zaC,zaB];cases hs:r.store with
 |true =>
  simp only[zaB];have wsl:leK (kap [(0,0),(1,1),(2,2),(3,3),(4,4),(5,5),(6,6),(7,7),(8,8),(9,9),(10,10),(11,11),(12,12),(13,13),(14,14),(15,15),(16,22)]) (.sl 22 [] 0 0 (X.writes.length+1) 3) (.sl 16 [] 0 0 (X.writes++[(⟨r.addr,r.size,r.val⟩:Wr)]).length 3):=by rw[bD];exact .sl rfl
  by_cases hq:X.saq.length=0
  ·have q1:¬(X.saq.length:Int)>0:=by omega
   have e:X.saq.tail=X.saq:=by rw[List.eq_nil_of_length_eq_zero hq];rfl
   have ssl:leK (kap [(0,0),(1,1),(2,2),(3,3),(4,4),(5,5),(6,6),(7,7),(8,8),(9,9),(10,10),(11,11),(12,12),(13,13),(14,14),(15,15),(16,22)]) (con (aB 5 cB X.saq)) (con (aB 5 cB X.saq.tail)):=by rw[e];exact aH rfl rfl
   simp only[q1,zaE,zaD];refine nx (kP X r,L) ed ?_;rw[yW hs];exact rV [(0,0),(1,1),(2,2),(3,3),(4,4),(5,5),(6,6),(7,7),(8,8),(9,9),(10,10),(11,11),(12,12),(13,13),(14,14),(15,15),(16,22)] rfl rfl rfl rfl rfl ⟨(aH rfl rfl),(aH rfl rfl),.sl rfl,.ptr rfl,.ptr rfl,.ptr rfl,.ptr rfl,trivial⟩ ⟨(aO9 (fun j hj=>by simp only[hj,zaC,zaB];rfl) (by simp;rfl)),(aH rfl rfl),(aH rfl rfl),.agg (.cons (aH rfl rfl) (.cons (aH rfl rfl) (.cons (aH rfl rfl) (.cons (aH rfl rfl) (.cons (aH rfl rfl) (.cons (aH rfl rfl) (.cons (aH rfl rfl) (.cons (aH rfl rfl) (.cons ssl (.cons (aH rfl rfl) (.cons (a70 (m:=X.mem) (w:=⟨r.addr,r.size,r.val⟩)) (.cons wsl (.cons (aH rfl rfl) (.cons (aH rfl rfl) (.cons (aH rfl rfl) (.cons (aH rfl rfl) .nil)))))))))))))))),(aH rfl rfl),(aH rfl rfl),trivial⟩
  ·have q1:(X.saq.length:Int)>0:=by omega
   have q2:1<=(X.saq.length:Int):=by omega
   have ssl:leK (kap [(0,0),(1,1),(2,2),(3,3),(4,4),(5,5),(6,6),(7,7),(8,8),(9,9),(10,10),(11,11),(12,12),(13,13),(14,14),(15,15),(16,22)]) (con (.row false 5 (X.saq.length-1) fun i=>cB (ix X.saq (1+i)))) (con (aB 5 cB X.saq.tail)):=aHB (by simp) (.inl rfl) fun i hi=>by rw[yQ,Nat.add_comm]
   simp only[q1,q2,zaC,zaB];refine nx (kP X r,L) ed ?_;rw[yW hs];refine cJ.trans (τ:=XSt.st ⟨[(9,.int .i64 ((i+1:Nat):Int)),(8,aB 8 dS x.table),(7,.sl 15 [] 0 0 L.length 8),(6,.ptr 3 [] 0),(5,.ptr 2 [] 0),(4,.ptr 1 [] 0),(3,.ptr 0 [] 0)],[(22,some (.tab (X.writes.length+1) 3 fun j=>.agg 3 [.int .i64 (cond (decide (j<X.writes.length)) ((ix X.writes j).addr) r.addr),.int .i64 (cond (decide (j<X.writes.length)) ((ix X.writes j).size) r.size),.int .u32 (cond (decide (j<X.writes.length)) ((ix X.writes j).val) r.val)])),(15,some (iH 8 dS L)),(3,some zX),(2,some (.agg 92 [.int .i64 X.aE,aR X.a,aR X.e,aB 3 cO X.ldq,aB 1 dA X.sdq,aB 1 dA X.aeq,aB 1 cL X.abq,aB 1 cL X.ebq,.row false 5 (X.saq.length-1) fun i=>cB (ix X.saq (1+i)),aB 8 dS X.table,.row false 1 X.mem.length (jR (okW X.mem.length r.addr r.size) (fun i=>eP (ix X.mem i)) r.addr.toNat r.size.toNat r.val),.sl 22 [] 0 0 (X.writes.length+1) 3,lH X.aT,.int .i64 X.dR,.int .i64 X.cG,.int .i64 X.tags])),(1,some (bO s)),(0,some (aV c))],24⟩) (by
    refine cJ.frz ?_;refine aB7 (L:=[23]) ?_ ?_ ?_
    ·rfl
    ·exact⟨rfl,.same,rfl,.same,rfl,.same,rfl,.same,rfl,.same,rfl,.same,rfl,.same,trivial⟩
    ·exact⟨rfl,.same,rfl,.same,rfl,.same,rfl,.agg (.cons .same (.cons .same (.cons .same (.cons .same (.cons .same (.cons .same (.cons .same (.cons .same (.cons (mF rfl rfl) (.cons .same (.cons .same (.cons .same (.cons .same (.cons .same (.cons .same (.cons .same .nil)))))))))))))))),rfl,.same,rfl,.same,trivial⟩) ?_
   exact rV [(0,0),(1,1),(2,2),(3,3),(4,4),(5,5),(6,6),(7,7),(8,8),(9,9),(10,10),(11,11),(12,12),(13,13),(14,14),(15,15),(16,22)] rfl rfl rfl rfl rfl ⟨(aH rfl rfl),(aH rfl rfl),.sl rfl,.ptr rfl,.ptr rfl,.ptr rfl,.ptr rfl,trivial⟩ ⟨(aO9 (fun j hj=>by simp only[hj,zaC,zaB];rfl) (by simp;rfl)),(aH rfl rfl),(aH rfl rfl),.agg (.cons (aH rfl rfl) (.cons (aH rfl rfl) (.cons (aH rfl rfl) (.cons (aH rfl rfl) (.cons (aH rfl rfl) (.cons (aH rfl rfl) (.cons (aH rfl rfl) (.cons (aH rfl rfl) (.cons ssl (.cons (aH rfl rfl) (.cons (a70 (m:=X.mem) (w:=⟨r.addr,r.size,r.val⟩)) (.cons wsl (.cons (aH rfl rfl) (.cons (aH rfl rfl) (.cons (aH rfl rfl) (.cons (aH rfl rfl) .nil)))))))))))))))),(aH rfl rfl),(aH rfl rfl),trivial⟩
 |false =>
  simp only[zaD];by_cases hg:r.addr>=0/\r.addr<=4294967295
  ·obtain⟨g1,g2⟩:=hg;have gw:IntKind.u32.wrap r.addr=r.addr:=wrap_u32 (by omega) (by omega);have g3:(0:Int)<=r.addr:=g1;have g4:r.addr<4294967296:=by omega
   have hd:ldF X r=xJ X.mem.length (fun i=>eP (ix X.mem i)) r.op r.addr:=by unfold ldF kO;rw[if_pos ⟨g1,g2⟩]
   simp only[g1,g2,g3,g4,gw,zaC,zaB];by_cases hn:r.reg<0
   ·simp only[hn,zaC,zaB];refine⟨(X.ldq,r.tag,xJ X.mem.length (fun i=>eP (ix X.mem i)) r.op r.addr),.rfl,⟨by show X.ldq.length<=1000000;omega⟩, ?_⟩;intro y hy;replace hy:y=fG X.ldq r.tag (xJ X.mem.length (fun i=>eP (ix X.mem i)) r.op r.addr):=hy;rw[<-hd]at hy;subst hy;refine nx (kP X r,L) ed ?_;rw[tK hs hn];exact rV [(0,0),(1,1),(2,2),(3,3),(4,4),(5,5),(6,6),(7,7),(8,8),(9,9),(10,10),(11,11),(12,12),(13,13),(14,14),(15,15),(16,16)] rfl rfl rfl rfl rfl ⟨(aH rfl rfl),(aH rfl rfl),.sl rfl,.ptr rfl,.ptr rfl,.ptr rfl,.ptr rfl,trivial⟩ ⟨(aH rfl rfl),(aH rfl rfl),(aH rfl rfl),.agg (.cons (aH rfl rfl) (.cons (aH rfl rfl) (.cons (aH rfl rfl) (.cons (aH rfl rfl) (.cons (aH rfl rfl) (.cons (aH rfl rfl) (.cons (aH rfl rfl) (.cons (aH rfl rfl) (.cons (aH rfl rfl) (.cons (aH rfl rfl) (.cons (aH rfl rfl) (.cons (.sl rfl) (.cons (aH rfl rfl) (.cons (aH rfl rfl) (.cons (aH rfl rfl) (.cons (aH rfl rfl) .nil)))))))))))))))),(aH rfl rfl),(aH rfl rfl),trivial⟩
   ·by_cases hk:1<=r.reg/\r.reg<=15
    ·have k1:r.reg>=1:=hk.1;have k2:r.reg<=15:=hk.2;have k3:0<=r.reg:=by omega
     have k4:r.reg<16:=by omega
     have k5:r.reg.toNat<16:=by omega
     simp only[hn,k1,k2,k3,k4,k5,zaQ,zaC,zaE,zaB,zaD];refine nx (kP X r,L) ed ?_;rw[tL hs hk,hd];exact rV [(0,0),(1,1),(2,2),(3,3),(4,4),(5,5),(6,6),(7,7),(8,8),(9,9),(10,10),(11,11),(12,12),(13,13),(14,14),(15,15),(16,16)] rfl rfl rfl rfl rfl ⟨(aH rfl rfl),(aH rfl rfl),.sl rfl,.ptr rfl,.ptr rfl,.ptr rfl,.ptr rfl,trivial⟩ ⟨(aH rfl rfl),(aH rfl rfl),(aH rfl rfl),.agg (.cons (aH rfl rfl) (.cons (aH rfl rfl) (.cons (aH rfl rfl) (.cons (aH rfl rfl) (.cons (aH rfl rfl) (.cons (aH rfl rfl) (.cons (aH rfl rfl) (.cons (aH rfl rfl) (.cons (aH rfl rfl) (.cons (aH rfl rfl) (.cons (aH rfl rfl) (.cons (.sl rfl) (.cons (aH rfl rfl) (.cons (aH rfl rfl) (.cons (aH rfl rfl) (.cons (aH rfl rfl) .nil)))))))))))))))),(aH rfl rfl),(aH rfl rfl),trivial⟩
    ·have kz:(cond (decide (r.reg>=1)) (decide (r.reg<=15)) false)=false:=by
      by_cases k1:r.reg>=1
      ·have k2:¬r.reg<=15:=fun h=>hk ⟨k1,h⟩
       simp[k1,k2]
      ·simp[k1]
     simp only[hn,kz,Ra.g2,zaE,zaD,zaB];refine nx (kP X r,L) ed ?_;rw[yX hs hn hk];exact rV [(0,0),(1,1),(2,2),(3,3),(4,4),(5,5),(6,6),(7,7),(8,8),(9,9),(10,10),(11,11),(12,12),(13,13),(14,14),(15,15),(16,16)] rfl rfl rfl rfl rfl ⟨(aH rfl rfl),(aH rfl rfl),.sl rfl,.ptr rfl,.ptr rfl,.ptr rfl,.ptr rfl,trivial⟩ ⟨(aH rfl rfl),(aH rfl rfl),(aH rfl rfl),.agg (.cons (aH rfl rfl) (.cons (aH rfl rfl) (.cons (aH rfl rfl) (.cons (aH rfl rfl) (.cons (aH rfl rfl) (.cons (aH rfl rfl) (.cons (aH rfl rfl) (.cons (aH rfl rfl) (.cons (aH rfl rfl) (.cons (aH rfl rfl) (.cons (aH rfl rfl) (.cons (.sl rfl) (.cons (aH rfl rfl) (.cons (aH rfl rfl) (.cons (aH rfl rfl) (.cons (aH rfl rfl) .nil)))))))))))))))),(aH rfl rfl),(aH rfl rfl),trivial⟩
  ·have gz:(cond (decide (r.addr>=0)) (decide (r.addr<4294967296)) false)=false:=by
    by_cases g1:r.addr>=0
    ·have g2:¬r.addr<4294967296:=fun h=>hg ⟨g1,by omega⟩
     simp[g1,g2]
    ·simp[g1]
   have hd:ldF X r=0:=by unfold ldF;rw[if_neg (by omega)]
   simp only[gz,Ra.g2,zaD,zaB];by_cases hn:r.reg<0
   ·simp only[hn,zaC,zaB];refine⟨(X.ldq,r.tag,0),.rfl,⟨by show X.ldq.length<=1000000;omega⟩, ?_⟩;intro y hy;replace hy:y=fG X.ldq r.tag (0):=hy;rw[<-hd]at hy;subst hy;refine nx (kP X r,L) ed ?_;rw[tK hs hn];exact rV [(0,0),(1,1),(2,2),(3,3),(4,4),(5,5),(6,6),(7,7),(8,8),(9,9),(10,10),(11,11),(12,12),(13,13),(14,14),(15,15),(16,16)] rfl rfl rfl rfl rfl ⟨(aH rfl rfl),(aH rfl rfl),.sl rfl,.ptr rfl,.ptr rfl,.ptr rfl,.ptr rfl,trivial⟩ ⟨(aH rfl rfl),(aH rfl rfl),(aH rfl rfl),.agg (.cons (aH rfl rfl) (.cons (aH rfl rfl) (.cons (aH rfl rfl) (.cons (aH rfl rfl) (.cons (aH rfl rfl) (.cons (aH rfl rfl) (.cons (aH rfl rfl) (.cons (aH rfl rfl) (.cons (aH rfl rfl) (.cons (aH rfl rfl) (.cons (aH rfl rfl) (.cons (.sl rfl) (.cons (aH rfl rfl) (.cons (aH rfl rfl) (.cons (aH rfl rfl) (.cons (aH rfl rfl) .nil)))))))))))))))),(aH rfl rfl),(aH rfl rfl),trivial⟩
   ·by_cases hk:1<=r.reg/\r.reg<=15
    ·have k1:r.reg>=1:=hk.1;have k2:r.reg<=15:=hk.2;have k3:0<=r.reg:=by omega
     have k4:r.reg<16:=by omega
     have k5:r.reg.toNat<16:=by omega
     simp only[hn,k1,k2,k3,k4,k5,zaQ,zaC,zaE,zaB,zaD];refine nx (kP X r,L) ed ?_;rw[tL hs hk,hd];exact rV [(0,0),(1,1),(2,2),(3,3),(4,4),(5,5),(6,6),(7,7),(8,8),(9,9),(10,10),(11,11),(12,12),(13,13),(14,14),(15,15),(16,16)] rfl rfl rfl rfl rfl ⟨(aH rfl rfl),(aH rfl rfl),.sl rfl,.ptr rfl,.ptr rfl,.ptr rfl,.ptr rfl,trivial⟩ ⟨(aH rfl rfl),(aH rfl rfl),(aH rfl rfl),.agg (.cons (aH rfl rfl) (.cons (aH rfl rfl) (.cons (aH rfl rfl) (.cons (aH rfl rfl) (.cons (aH rfl rfl) (.cons (aH rfl rfl) (.cons (aH rfl rfl) (.cons (aH rfl rfl) (.cons (aH rfl rfl) (.cons (aH rfl rfl) (.cons (aH rfl rfl) (.cons (.sl rfl) (.cons (aH rfl rfl) (.cons (aH rfl rfl) (.cons (aH rfl rfl) (.cons (aH rfl rfl) .nil)))))))))))))))),(aH rfl rfl),(aH rfl rfl),trivial⟩
    ·have kz:(cond (decide (r.reg>=1)) (decide (r.reg<=15)) false)=false:=by
      by_cases k1:r.reg>=1
      ·have k2:¬r.reg<=15:=fun h=>hk ⟨k1,h⟩
       simp[k1,k2]
      ·simp[k1]
     simp only[hn,kz,Ra.g2,zaE,zaD,zaB];refine nx (kP X r,L) ed ?_;rw[yX hs hn hk];exact rV [(0,0),(1,1),(2,2),(3,3),(4,4),(5,5),(6,6),(7,7),(8,8),(9,9),(10,10),(11,11),(12,12),(13,13),(14,14),(15,15),(16,16)] rfl rfl rfl rfl rfl ⟨(aH rfl rfl),(aH rfl rfl),.sl rfl,.ptr rfl,.ptr rfl,.ptr rfl,.ptr rfl,trivial⟩ ⟨(aH rfl rfl),(aH rfl rfl),(aH rfl rfl),.agg (.cons (aH rfl rfl) (.cons (aH rfl rfl) (.cons (aH rfl rfl) (.cons (aH rfl rfl) (.cons (aH rfl rfl) (.cons (aH rfl rfl) (.cons (aH rfl rfl) (.cons (aH rfl rfl) (.cons (aH rfl rfl) (.cons (aH rfl rfl) (.cons (aH rfl rfl) (.cons (.sl rfl) (.cons (aH rfl rfl) (.cons (aH rfl rfl) (.cons (aH rfl rfl) (.cons (aH rfl rfl) .nil)))))))))))))))),(aH rfl rfl),(aH rfl rfl),trivial⟩
theorem bEU {c:Cfg} {s:bF} {X:Stt} {L:List Req}:cJ 17 (XSt.st (XSt.mk [(11,.int .i64 0),(7,.sl 15 [] 0 0 L.length 8),(6,.ptr 3 [] 0),(5,.ptr 2 [] 0),(4,.ptr 1 [] 0),(3,.ptr 0 [] 0)] [(16,some (iH 3 mQ X.writes)),(15,some (iH 8 dS L)),(3,some zX),(2,some (bxR X)),(1,some (bO s)),(0,some (aV c))] 17)) (aWD c s X.table { X with table:=L } 0).st:=by
 refine cJ.frz ?_;refine aB7 (L:=[16]) ?_ ?_ ?_
 ·rfl
 ·exact⟨rfl,.same,rfl,.same,rfl,.same,rfl,.same,rfl,.same,rfl,.same,trivial⟩
 ·exact⟨rfl,.same,rfl,.same,rfl,.agg (.cons .same (.cons .same (.cons .same (.cons .same (.cons .same (.cons .same (.cons .same (.cons .same (.cons .same (.cons .same (.cons .same (.cons (mF rfl rfl) (.cons .same (.cons .same (.cons .same (.cons .same .nil)))))))))))))))),rfl,.same,rfl,.same,trivial⟩
theorem bEV {c:Cfg} {s:bF} {l:List Req} {y:Stt} {k:Int}:cJ 17 (XSt.st (XSt.mk [(14,.int .i64 0),(13,aDX),(12,.bool false),(11,.int .i64 k),(7,.sl 15 [] 0 0 y.table.length 8),(6,.ptr 3 [] 0),(5,.ptr 2 [] 0),(4,.ptr 1 [] 0),(3,.ptr 0 [] 0)] [(15,some (iH 8 dS y.table)),(3,some zX),(2,some (aP { y with table:=l })),(1,some (bO s)),(0,some (aV c))] 17)) (aZ4 c s l y k false [] 0).st := rV [(0,0),(1,1),(2,2),(3,3),(4,4),(5,5),(6,6),(7,7),(8,8),(9,9),(10,10),(11,11),(12,12),(13,13),(14,14),(15,15),(16,16)] rfl rfl rfl rfl rfl ⟨(aH rfl rfl),wW rfl,(aH rfl rfl),(aH rfl rfl),.sl rfl,.ptr rfl,.ptr rfl,.ptr rfl,.ptr rfl,trivial⟩ ⟨⟨1,rfl⟩,(aH rfl rfl),(aH rfl rfl),(aH rfl rfl),(aH rfl rfl),(aH rfl rfl),trivial⟩
theorem aZ7 {c:Cfg} {s:bF} {l:List Req} {y:Stt} {k m:Nat} {lt la pi:Int} {w:XV} {f:Nat->XV} (hm:m<y.table.length) (h1:con (f m)=con (dS { ix y.table m with left:=lt })) (h2:∀ j,j<y.table.length->¬j=m->con (f j)=con (dS (ix y.table j))) :
  cJ 17 (XSt.st (XSt.mk [(11,.int .i64 ((k+1:Nat):Int)),(7,.sl 15 [] 0 0 y.table.length 8),(6,.ptr 3 [] 0),(5,.ptr 2 [] 0),(4,.ptr 1 [] 0),(3,.ptr 0 [] 0)] [(17,some w),(15,some (.tab y.table.length 8 f)),(3,some zX),(2,some (aP { y with table:=l,dR:=la,cG:=pi })),(1,some (bO s)),(0,some (aV c))] 18)) (aWD c s l { y with dR:=la,cG:=pi,table:=y.table.set m { ix y.table m with left:=lt } } (k+1)).st:=by
 have hl:(y.table.set m { ix y.table m with left:=lt }).length=y.table.length:=List.length_set;have e1:con (.tab y.table.length 8 f)=con (iH 8 dS (y.table.set m { ix y.table m with left:=lt })):=by
  unfold iH;rw[hl];refine qK fun j hj => ?_
  rw[sK];by_cases he:j=m
  ·rw[if_pos ⟨he,hm⟩,he,h1]
  ·rw[if_neg (fun h=>he h.1),h2 j hj he]
 have e2:∀ n,n=y.table.length->con (.sl 15 [] 0 0 y.table.length 8)=con (.sl 15 [] 0 0 n 8):=fun n hn=>by rw[hn]
 exact .ofL (aEU ⟨eF rfl,eF (e2 _ hl),eF rfl,eF rfl,eF rfl,eF rfl,trivial⟩ ⟨congrArg some e1,rfl,rfl,rfl,rfl,trivial⟩ (zaF _) rfl)
theorem aZ8 {α:Type} [Inhabited α] {p:α->Bool} {l:List α} {i:Nat} (h:i<l.length):(l.take (i+1)).any p=((l.take i).any p||p (ix l i)):=by rw[List.take_succ_eq_append_getElem h,List.any_append,gW h];simp
theorem a47 {c:Cfg} {s:bF} {l:List Req} {y:Stt} {k:Nat} {r:XV} {A:XSt->Prop} (hl0:y.table.length<=1000000) (hr0:∀ r∈y.table,r.wf) (hk:(k:Int)<=16)
  (hA:∀ τ y',tN c s y (k:Int)=y'->cJ 17 τ.st (aWD c s l y' (k+1)).st->A τ) :
  bX (Ok zPr (Tab.q TRv)) jM (XSt.mk [(14,.int .i64 0),(13,aDX),(12,.bool false),(11,.int .i64 k),(7,.sl 15 [] 0 0 y.table.length 8),(6,.ptr 3 [] 0),(5,.ptr 2 [] 0),(4,.ptr 1 [] 0),(3,.ptr 0 [] 0)] [(15,some (iH 8 dS y.table)),(3,some zX),(2,some (aP { y with table:=l })),(1,some (bO s)),(0,some (aV c))] 17) [Frm.blk 4,Frm.seq mJ,Frm.blk 3,Frm.seq mK,Frm.lp cQ A,Frm.blk 2,Frm.seq eY] (dC [AR.cell 6 true 92] r):=by
 refine gT mix aTT (fun i:Nat=>aZ4 c s l y k ((y.table.take i).any (zG c k)) (e8 c k y.table i) i) (fun i=>i<=y.table.length) (fun i=>y.table.length-i) 0 (Nat.zero_le _) bEV ?_;intro i hi;replace hi:i<=y.table.length:=hi;have stp:e8 c k y.table (i+1)=_:=aWC;have hwl:=aZ1 (c:=c) (b:=(k:Int)) (l:=y.table) (k:=i);have hwm:∀ m,m<(e8 c k y.table i).length->0<=ix (e8 c k y.table i) m/\ix (e8 c k y.table i) m<i:=fun m hm=>aPA (cA hm)
 have hfin:i=y.table.length->e8 c k y.table i=e8 c k y.table y.table.length/\(y.table.take i).any (zG c k)=y.table.any (zG c k):=fun h=>by rw[h,List.take_length];exact⟨rfl,rfl⟩
 have bst:=fun h:i<y.table.length=>aZ8 (p:=zG c k) h
 generalize e8 c k y.table i=w at stp hwl hwm hfin ⊢;generalize (y.table.take i).any (zG c k)=b at bst hfin ⊢;refine Eq.mpr (bER c s l y k b w i _ _ _) ?_;by_cases hlt:i<y.table.length
 ·have h1:(i:Int)<(y.table.length:Int):=by omega
  have w1:IntKind.i64.wrap ((i:Int)+1)=((i+1:Nat):Int):=wrap_i64 (by omega) (by omega);have hr:(ix y.table i).wf:=hr0 _ (cA hlt);replace bst:=bst hlt;have nx:∀ {τ:XSt} (b':Bool) (w':List Int),b'=(y.table.take (i+1)).any (zG c k)->w'=e8 c k y.table (i+1)->cJ 17 τ.st (aZ4 c s l y k b' w' (i+1)).st->∃ j,j<=y.table.length/\cJ 17 τ.st (aZ4 c s l y k ((y.table.take j).any (zG c k)) (e8 c k y.table j) j).st/\y.table.length-j<y.table.length-i:=fun b' w' hb hw hk=>⟨i+1,hlt,by rw[<-hb,<-hw];exact hk,by omega⟩
  have b2:(w.length+1)*8<=140737488355328:=by omega
  have ha:(ix y.table i).addr<=9223372036854775807:=hr.2.1.2;simp only[h1,hlt,w1,b2,ha,zaC,zaB,zaO,zaF,cC,zaQ];by_cases hb:aDW (ix y.table i).addr c.dI=(k:Int)
  case neg => simp only[hb,zaM,zaC,zaB];refine nx b w (by rw[bst];simp[zG,hb]) (by rw[stp,if_neg (by simp[aA0,hb])]) ?_;exact .of (dL ⟨rfl,rfl,rfl,rfl,rfl,rfl,rfl,rfl,rfl,trivial⟩ ⟨rfl,rfl,rfl,rfl,rfl,rfl,trivial⟩ (zaF _))
  simp only[hb,zaN,zaE,zaD];by_cases hg:(ix y.table i).left>0
  ·have hz:¬(ix y.table i).left=0:=by omega
   simp only[hg,hz,zaC,zaE,zaB,zaD];refine nx true w (by rw[bst];simp[zG,hb];exact .inr hg) (by rw[stp,if_neg (by simp[aA0,hb,hz])]) ?_;exact .of (dL ⟨rfl,rfl,rfl,rfl,rfl,rfl,rfl,rfl,rfl,trivial⟩ ⟨rfl,rfl,rfl,rfl,rfl,rfl,trivial⟩ (zaF _))
  have nb:zG c k (ix y.table i)=false:=by simp[zG,hb];omega
  simp only[hg,zaE,zaD];by_cases hz:(ix y.table i).left=0
  ·simp only[hz,zaC,zaB];refine nx b (w++[(i:Int)]) (by rw[bst,nb,Bool.or_false]) (by rw[stp,if_pos (by simp[aA0,hb,hz])]) ?_;exact rV [(0,0),(1,1),(2,2),(3,3),(4,4),(5,5),(6,6),(7,7),(8,8),(9,9),(10,10),(11,11),(12,12),(13,13),(14,14),(15,15),(16,16),(17,18)] rfl rfl rfl rfl rfl ⟨(aH rfl rfl),(by show leK _ (.sl 18 [] 0 0 (w.length+1) 1) (.sl 17 [] 0 0 (w++[_]).length 1);rw[bD];exact .sl rfl),(aH rfl rfl),(aH rfl rfl),.sl rfl,.ptr rfl,.ptr rfl,.ptr rfl,.ptr rfl,trivial⟩ ⟨(aO9 (fun j hj=>by simp only[hj,zaC,zaB];rfl) (by simp;rfl)),(aH rfl rfl),(aH rfl rfl),(aH rfl rfl),(aH rfl rfl),(aH rfl rfl),trivial⟩
  ·simp only[hz,zaE,zaD];refine nx b w (by rw[bst,nb,Bool.or_false]) (by rw[stp,if_neg (by simp[aA0,hb,hz])]) ?_;exact .of (dL ⟨rfl,rfl,rfl,rfl,rfl,rfl,rfl,rfl,rfl,trivial⟩ ⟨rfl,rfl,rfl,rfl,rfl,rfl,trivial⟩ (zaF _))
 ·have h1:¬(i:Int)<(y.table.length:Int):=by omega
  obtain rfl:i=y.table.length:=by omega
  obtain⟨f1,f2⟩:=hfin rfl;have wk:IntKind.i64.wrap ((k:Int)+1)=((k+1:Nat):Int):=wrap_i64 (by omega) (by omega);have ef:tN c s y k=if b then y else if w.length=0 then y else { y with cG:=if w.length>1 then IntKind.i64.wrap (y.cG+1)else y.cG,dR:=IntKind.i64.wrap (y.dR+1),table:=y.table.set (nY s y w) { ix y.table (nY s y w)with left:=uY s y.dR c.lat } }:=by unfold tN;rw[<-f1,<-f2]
  simp only[h1,wk,zaE,zaD];cases b with
  |true => simp only[zaB];refine hA _ y (by rw[ef];rfl) ?_;exact .ofL (aEU ⟨eF rfl,eF rfl,eF rfl,eF rfl,eF rfl,eF rfl,trivial⟩ ⟨rfl,rfl,rfl,rfl,rfl,trivial⟩ (zaF _) rfl)
  |false =>
  rw[if_neg (by simp)]at ef;simp only[zaD,zaH,zaB];by_cases hz:w.length=0
  ·have hz':(w.length:Int)=0:=by omega
   simp only[hz',zaC,zaB];refine hA _ y (by rw[ef,if_pos hz]) ?_;exact .ofL (aEU ⟨eF rfl,eF rfl,eF rfl,eF rfl,eF rfl,eF rfl,trivial⟩ ⟨rfl,rfl,rfl,rfl,rfl,trivial⟩ (zaF _) rfl)
  have hz':¬(w.length:Int)=0:=by omega
  rw[if_neg hz]at ef;simp only[hz',zaE,zaD];by_cases hm:w.length>1
  ·have hm':(w.length:Int)>1:=by omega
   simp only[hm',zaC,zaB];refine⟨(s,y.cG,(w.length:Int)),.rfl,⟨trivial⟩, ?_⟩;intro u hu;replace hu:u=aCQ s y.cG w.length:=hu;have hyr:=aHU s y.cG (n:=(w.length:Int)) (by omega);rw[<-hu]at hyr;have y1:0<=u:=hyr.1;have y2:u<(w.length:Int):=hyr.2;have y3:u.toNat<w.length:=by omega
   simp only[y1,y2,y3,zaC,zaB,zaQ];refine⟨(s,y.dR,c.lat),.rfl,⟨trivial⟩, ?_⟩;intro z hz2;replace hz2:z=uY s y.dR c.lat:=hz2;obtain⟨k1,k2⟩:=hwm u.toNat y3;have k3:(ix w u.toNat).toNat<y.table.length:=by omega
   simp only[k1,k2,k3,zaC,zaB,zaQ];have hwh:nY s y w=(ix w u.toNat).toNat:=by unfold nY;rw[if_pos hm,<-hu]
   rw[hwh,if_pos hm,<-hz2]at ef;refine hA _ _ ef ?_;refine aZ7 (c:=c) (s:=s) (l:=l) (y:=y) (k:=k) (lt:=z) (la:=IntKind.i64.wrap (y.dR+1)) (pi:=IntKind.i64.wrap (y.cG+1)) (w:=iH 1 bJ w) k3 ?_ fun j hj he => ?_
   ·simp only[zaQ,zaB];rfl
   ·simp only[dB he,zaD];rfl
  ·have hm':¬(w.length:Int)>1:=by omega
   have y2:(0:Int)<(w.length:Int):=by omega
   have y3:0<w.length:=by omega
   simp only[hm',y2,y3,zaC,zaE,zaB,zaD];refine⟨(s,y.dR,c.lat),.rfl,⟨trivial⟩, ?_⟩;intro z hz2;replace hz2:z=uY s y.dR c.lat:=hz2;obtain⟨k1,k2⟩:=hwm 0 y3;have k3:(ix w 0).toNat<y.table.length:=by omega
   simp only[k1,k2,k3,zaC,zaB,zaQ];have hwh:nY s y w=(ix w 0).toNat:=by unfold nY;rw[if_neg hm];rfl
   rw[hwh,if_neg hm,<-hz2]at ef;refine hA _ _ ef ?_;refine aZ7 (c:=c) (s:=s) (l:=l) (y:=y) (k:=k) (lt:=z) (la:=IntKind.i64.wrap (y.dR+1)) (pi:=y.cG) (w:=iH 1 bJ w) k3 ?_ fun j hj he => ?_
   ·simp only[zaQ,zaB];rfl
   ·simp only[dB he,zaD];rfl
theorem a48 {c:Cfg} {s:bF} {X:Stt} {L:List Req} (hg:z7 { X with table:=L }) (h1:1<=c.dI) (h2:c.dI<=16) :
  bX (Ok zPr (Tab.q TRv)) cQ (XSt.mk [(11,.int .i64 0),(7,.sl 15 [] 0 0 L.length 8),(6,.ptr 3 [] 0),(5,.ptr 2 [] 0),(4,.ptr 1 [] 0),(3,.ptr 0 [] 0)] [(16,some (iH 3 mQ X.writes)),(15,some (iH 8 dS L)),(3,some zX),(2,some (bxR X)),(1,some (bO s)),(0,some (aV c))] 17) [Frm.blk 2,Frm.seq eY] (dC [AR.cell 6 true 92] (aP (bgK c s { X with table:=L } c.dI.toNat))):=by
 refine gT mix aTT (fun k:Nat=>aWD c s X.table (bgK c s { X with table:=L } k) k) (fun k=>k<=c.dI.toNat) (fun k=>c.dI.toNat-k) 0 (Nat.zero_le _) bEU ?_;intro k hk;replace hk:k<=c.dI.toNat:=hk;have hgk:=aKE hg (aCS (c:=c) (s:=s) hg.1.1 k);refine Eq.mpr (bEQ c s X.table _ k _ _) ?_;by_cases hlt:k<c.dI.toNat
 ·have g1:(k:Int)<c.dI:=by omega
  simp only[g1,zaC,zaB];exact a47 hgk.1.2.2.2.2.2.2.2.1 hgk.1.1.2.2.2.2.2.2.2.2.2.1.1 (by omega) fun τ y' hy hw=>⟨k+1,hlt,by show cJ 17 τ.st (aWD c s X.table (tN c s (bgK c s { X with table:=L } k) k) (k+1)).st;rw[hy];exact hw,by omega⟩
 ·have g1:¬(k:Int)<c.dI:=by omega
  obtain rfl:k=c.dI.toNat:=by omega
  simp only[g1,zaE,zaD,zaF,zaC,zaB];exact .rfl
theorem a49:eV zPr (30,avS):=bB fun⟨c,s,x⟩ h=>by
 have hg:z7 x:=h;show Pure _ _ (cons [aV c,bO s,aP x]) (con (aP (jY c s x)));refine j9 mix aTT vT (Nat.le_of_ble_eq_true rfl) ?_;refine Eq.mpr (bEO c s x _) ?_;obtain⟨b1,b2,b3,b4,b5,b6,b7,b8,b9⟩:=okb hg.1;simp only[b1,b2,b3,b4,b5,b6,b7,b8,b9,aD,zaF,cC,zaC,zaB];unfold jY;by_cases h1:c.dI>=1/\c.dI<=16
 ·have e1:(cond (decide (c.dI>=1)) (decide (c.dI<=16)) false)=true:=by simp[h1.1,h1.2]
  have g1:c.dI>=1:=h1.1;by_cases h2:c.lat>=1/\c.lat<=1000
  ·have e2:(cond (decide (c.lat>=1)) (decide (c.lat<=1000)) false)=true:=by simp[h2.1,h2.2]
   simp only[e1,e2,Ra.g2,zaI,zaH,zaB,zaD];rw[if_pos (by omega)];refine a46 hg.1 hg.2 fun X L hXL => ?_
   have he:gB x = { X with table:=L }:=by unfold gB;rw[<-hXL]
   rw[he];exact a48 (by rw[<-he];exact aHW hg) h1.1 h1.2
  ·have e2:(cond (decide (c.lat>=1)) (decide (c.lat<=1000)) false)=false:=by
    by_cases k1:c.lat>=1
    ·have k2:¬c.lat<=1000:=fun h=>h2 ⟨k1,h⟩
     simp[k1,k2]
    ·simp[k1]
   simp only[e1,e2,Ra.g2,zaI,zaH,zaB,zaD];rw[if_neg (by omega)];exact .rfl
 ·have e1:(cond (decide (c.dI>=1)) (decide (c.dI<=16)) false)=false:=by
   by_cases k1:c.dI>=1
   ·have k2:¬c.dI<=16:=fun h=>h1 ⟨k1,h⟩
    simp[k1,k2]
   ·simp[k1]
  simp only[e1,Ra.g2,zaI,zaH,zaB,zaD];rw[if_neg (by omega)];exact .rfl
def aMG (e:Entry) (r:Req):Bool:=!r.store&&qR r.addr r.size e.addr e.size
theorem rZ {n:Int} (h:bK n):aAZ n=true:=aO0.2 h
def oK (c:Cfg) (s:Stt):Bool:=decide (¬s.saq=[])&&(!(ix s.saq 0).known&&(decide (¬s.sdq=[])&&(decide ((s.table.length:Int)<c.bN)&&(!(decide (¬s.aT.kind=0)&&decide ((ix s.saq 0).step>=s.aT.step)) && !s.table.any (aMG (ix s.saq 0))))))
theorem a5A {α:Type} (l:List α):((l.length:Int)=0)=(l=[]):=by
 cases l with
 |nil=>simp
 |cons a l=>simp;omega
def opI (s:Int):Int:=if s=1 then 33 else if s=2 then 32 else 31
def iO (s:Stt):Stt:={ s with
 saq:=s.saq.set 0 { ix s.saq 0 with known:=true,val:=n6 (ix s.sdq 0) (ix s.saq 0).size }
 sdq:=s.sdq.tail
 table:=s.table++[⟨true,opI (ix s.saq 0).size,(ix s.saq 0).addr,(ix s.saq 0).size,n6 (ix s.sdq 0) (ix s.saq 0).size,0,0,0⟩] }
def fV (c:Cfg) (s:Stt):Stt:=if oK c s then iO s else s
theorem aZ9 {s:Stt} (h:s.ok):s.ldq.length*16<=140737488355328/\s.sdq.length*4<=140737488355328/\s.aeq.length*4<=140737488355328/\s.abq.length*1<=140737488355328/\s.ebq.length*1<=140737488355328/\s.saq.length*32<=140737488355328/\s.table.length*64<=140737488355328/\s.mem.length*1<=140737488355328/\s.writes.length*24<=140737488355328:=by obtain⟨_,h⟩:=h;omega
def TC7:Tab:=fW qq (eU++jB) [(104,aTO)] jA [] []
def a71:List XV->Option ((XV->Prop)->Prop):=eZ (fun p:Cfg×Stt=>[aV p.1,aP p.2]) (fun p=>p.2.ok) (fun p=>oK p.1 p.2) (fun y=>.bool y)
def TC8:Tab:=fW qq (eU++jB) [(47,aTL)] jA [(71,a71)] []
def a72:List XV->Option ((XV->Prop)->Prop):=eZ (fun p:Cfg×Stt=>[aV p.1,aP p.2]) (fun p=>p.2.ok) (fun p=>fV p.1 p.2) (fun y=>aP y)
theorem a73:bT zPr TC7:=bQ (dF.app gN) ⟨aTP,trivial⟩ gM trivial trivial
theorem a5B (c:Cfg) (s:Stt) (r:XV):(goQ zPr TC7 [(.tmp 4)] r (.run o7) [] ⟨kF 0 [aV c,aP s],[],0⟩)=(
 letI q1:=decide (0<(↑(s.saq.length):Int));
 letI q2:=decide ((↑(s.saq.length):Int)=0);
 letI q3:=!q2;
 letI q4:=cond q2 true ((ix s.saq 0).known);
 letI q5:=cond q4 true (decide ((↑(s.sdq.length):Int)=0));
 letI q6:=cond q5 true (decide ((↑(s.table.length):Int)>=c.bN));
 letI q7:=!q6;
 letI q8:=decide ¬s.aT.kind=0;
 letI q9:=cond q7 q8 false;
 letI q10:=!q7;cond (cond q1 true (!q3)) (cond (cond q2 true q3) (cond (cond q4 true (!q4)) (cond (cond q5 true (!q5)) (cond (cond q1 true (!q9)) (cond (cond q7 true q10) (cond (cond (cond q8 q9 true) true q10) (cond (cond q6 true q7) (cond (cond q6 true (cond q8 (decide ((ix
  s.saq 0).step>=s.aT.step)) false)) (aA (.bool false) r) (cond q1 (bX (Ok zPr (Tab.q TC7)) nX (XSt.mk [(6,.int .i64 0),(5,.ptr 2 [] 0),(4,
  .bool false),(3,.ptr 1 [] 0)] [(2,some (cB (ix s.saq 0))),(1,some (aP s)),(0,some (aV c))] 3) [Frm.blk 0,Frm.seq qT] (dC [AR.tmp 4] r)) False)) False) False) False) False) False) False) False) False):=by kernel_rfl
theorem a5C (c:Cfg) (s:Stt) (i:Nat) (r:XV) (A:XSt->Prop):(goQ zPr TC7 [(.tmp 4)] r (.run nX) [.lp nX A,.blk 0,.seq qT] ⟨[(6,.int .i64 i),(5,.ptr 2 [] 0),(3,.ptr 1 [] 0)],[(2,some (cB (ix s.saq 0))),(1,some (aP s)),(0,some (aV c))],3⟩)=(
 letI q1:=decide ((↑i:Int)<(↑(s.table.length):Int));cond q1 (cond q1 (cond (cond (aAZ ((ix s.table i).addr)) true (!!(ix s.table i).store)) (cond (cond (aAZ ((ix s.table
  i).size)) true (!!(ix s.table i).store)) (cond (cond (aAZ ((ix s.saq 0).addr)) true (!!(ix s.table i).store)) (cond (cond (aAZ ((ix s.saq 0).size)) true (!!(ix
  s.table i).store)) (cond (cond (!(ix s.table i).store) (!(ix s.table i).store) true) (cond (cond (!(ix s.table i).store) (qR ((ix s.table i).addr) ((ix s.table i).size) ((ix
  s.saq 0).addr) ((ix s.saq 0).size)) false) (aA (.bool false) r) (A (XSt.mk [(6,.int .i64 (IntKind.wrap .i64 ((↑i:Int)+1))),(5,.ptr 2 [] 0),(3,.ptr 1 [] 0)] [(3,
  some (dS (ix s.table i))),(2,some (cB (ix s.saq 0))),(1,some (aP s)),(0,some (aV c))] 4))) False) False) False) False) False) False) (aA
  (.bool true) r)):=by kernel_rfl
theorem bA1 (c:Cfg) (s:Stt) (r:XV):(aO TC8 80 (bL TC8 80 20) 29 [aV c,aP s] (fun v=>aA v r))=(
 letI q1:=s.ldq.length*16;
 letI q2:=decide (s.ldq.length<=s.ldq.length);
 letI q3:=decide (s.sdq.length<=s.sdq.length);
 letI q4:=decide (s.aeq.length<=s.aeq.length);
 letI q5:=decide (s.abq.length<=s.abq.length);
 letI q6:=decide (s.ebq.length<=s.ebq.length);
 letI q7:=decide (s.saq.length<=s.saq.length);
 letI q8:=decide (s.table.length<=s.table.length);
 letI q9:=decide (s.mem.length<=s.mem.length);
 letI q10:=decide (s.writes.length<=s.writes.length);
 letI q11:=pl 0 (Int.toNat (0:Int));
 letI q12:=decide (0<s.saq.length);
 letI q13:=(↑(pl 0 s.sdq.length):Int);
 letI q14:=Nat.beq q11 q11;
 letI q15:=(ix s.saq q11).size;
 letI q16:=cond q14 q15 q15;
 letI q17:=cond q14 q16 q16;
 letI q18:=pl (pl 0 s.table.length) (List.length [AX.t 59]);
 letI q19:=decide (pl s.table.length 1*64<=140737488355328);
 letI q20:=s.sdq.length-1;
 letI q21:=decide (pl 1 q20<=s.sdq.length);
 letI q22:=decide (pl s.table.length 1<=pl s.table.length 1);
 letI q23:XV:=.row false 1 q20 fun i=>dA (ix s.sdq (pl 1 i));
 letI q24:=n6 (ix s.sdq 0) ((ix s.saq 0).size);
 letI q25:XV:=.row false 5 s.saq.length fun i=>.agg 5 [.int .i64 (cond (Nat.beq i 0) ((ix s.saq 0).addr) (cond (Nat.beq i 0) ((ix s.saq 0).addr) ((ix s.saq i).addr))),.int
  .i64 (cond (Nat.beq i 0) ((ix s.saq 0).size) (cond (Nat.beq i 0) ((ix s.saq 0).size) ((ix s.saq i).size))),.int .i64 (cond (Nat.beq i 0) ((ix s.saq 0).step) (cond (Nat.beq
  i 0) ((ix s.saq 0).step) ((ix s.saq i).step))),.bool (cond (Nat.beq i 0) true (cond (Nat.beq i 0) true ((ix s.saq i).known))),.int .u32 (cond (Nat.beq i 0) q24 (cond (Nat.beq i 0) ((ix s.saq 0).val) ((ix s.saq i).val)))];
 letI q26:=fun(i:Nat)=>decide (i<s.table.length);
 letI q27:Nat->XV:=fun i=>.bool (cond (q26 i) ((ix s.table i).store) true);
 letI q28:Nat->List XV:=fun i=>[.int .i64 (cond (q26 i) ((ix s.table i).addr) ((ix s.saq 0).addr)),.int .i64 (cond (q26 i) ((ix s.table i).size) ((ix s.saq 0).size)),.int
  .u32 (cond (q26 i) ((ix s.table i).val) q24),.int .i64 (cond (q26 i) ((ix s.table i).left) (0:Int)),.int .i64 (cond (q26 i) ((ix s.table i).reg) (0:Int)),.int
  .i64 (cond (q26 i) ((ix s.table i).tag) (0:Int))];
 letI q29:List XV:=[aB 1 eP s.mem,aB 3 mQ s.writes,lH s.aT,.int .i64 s.dR,.int .i64 s.cG,.int .i64 s.tags];cond (decide (q1<=140737488355328)) (cond (gP
  (fun i=>true) s.ldq.length) (cond (decide (s.sdq.length*4<=140737488355328)) (cond (decide (s.aeq.length*4<=140737488355328)) (cond (decide (s.abq.length*1<=140737488355328)) (cond (decide (s.ebq.length*1<=140737488355328)) (cond (decide (s.saq.length*32<=140737488355328)) (cond (decide (s.table.length*64<=140737488355328)) (cond (decide (s.mem.length
  * 1<=140737488355328)) (cond (decide (s.writes.length*24<=140737488355328)) (cond q2 (cond q3 (cond q4 (cond q5 (cond q6 (cond q7 (cond q8 (cond q9 (cond q10 (∃(s_1:Cfg×Stt),aI [aV c,aP s] [aV s_1.1,aP s_1.2]/\aN s_1.2.ok/\∀(y:Bool),y=oK s_1.1 s_1.2->cond (!y) (cond q2 (cond q3 (cond q4 (cond q5 (cond q6 (cond q7 (cond q8 (cond q9 (cond q10 (aA (aP s) r) False) False) False) False) False) False) False) False) False) (cond (decide (0<(↑(s.saq.length):Int))) (cond q12 (cond q12 (cond (decide (0<(↑(s.sdq.length):Int))) (cond (decide (0<s.sdq.length)) (cond q12 (cond q12 (cond q12 (cond (decide (1<=(↑(s.sdq.length):Int))) (cond q12 (cond (decide ((ix s.saq 0).size=2)) (cond q12 (cond q12 (cond q12 (cond q8 (cond q19 (cond q2 (cond q21 (cond q4 (cond q5 (cond q6 (cond q7 (cond q22 (cond q9 (cond q10 (aA (.agg 92 (.int .i64 s.aE::aR s.a::aR
  s.e::aB 3 cO s.ldq::q23::aB 1 dA s.aeq::aB 1 cL s.abq::aB 1 cL s.ebq::q25::(.row false 8 (pl s.table.length 1) fun i=>.agg 8 (q27 i::.int
  .i64 (cond (q26 i) ((ix s.table i).op) (32:Int))::q28 i))::q29)) r) False) False) False) False) False) False) False) False) False) False) False) False) False) False) (cond (decide ((ix s.saq 0).size=1)) (cond q12 (cond q12 (cond q12 (cond q8 (cond q19 (cond q2 (cond q21 (cond q4 (cond q5 (cond q6 (cond q7 (cond q22 (cond q9 (cond q10 (aA (.agg 92 (.int .i64 s.aE::aR s.a::aR s.e::aB 3 cO s.ldq::q23 ::
  aB 1 dA s.aeq::aB 1 cL s.abq::aB 1 cL s.ebq::q25::(.row false 8 (pl s.table.length 1) fun i=>.agg 8 (q27 i::.int .i64 (cond (q26 i) ((ix s.table i).op) (33:Int))::q28 i))::q29)) r) False) False) False) False) False) False) False) False) False) False) False) False) False) False) (cond q12 (cond q12 (cond q12 (cond q8 (cond q19 (cond q2 (cond q21 (cond q4 (cond q5 (cond q6 (cond q7 (cond q22 (cond q9 (cond q10 (aA (.agg 92 (.int .i64 s.aE::aR s.a::aR s.e::aB 3 cO s.ldq::q23::aB 1 dA s.aeq::aB 1 cL s.abq::aB 1 cL s.ebq::q25 ::
  (.row false 8 (pl s.table.length 1) fun i=>.agg 8 (q27 i::.int .i64 (cond (q26 i) ((ix s.table i).op) (31:Int))::q28 i))::q29)) r) False) False) False) False) False) False) False) False) False) False) False) False) False) False))) False) False) False) False) False) False) False) False) False) False)) False) False) False) False) False) False) False) False) False) False) False) False) False) False) False) False) False) False) False):=by kernel_rfl
theorem a5D:eV zPr (71,a71):=bB fun⟨c,s⟩ h=>by
 have h:s.ok:=h;show Pure _ _ (cons [aV c,aP s]) (con (.bool (oK c s)));refine j9 mix a73 aE7 (Nat.le_of_ble_eq_true rfl) ?_;refine Eq.mpr (a5B c s _) ?_;simp only[a5A];by_cases g8:s.saq=[]
 ·simp[g8,oK];exact .rfl
 have l8:0<s.saq.length:=List.length_pos_iff.2 g8;have l8':(0:Int)<(s.saq.length:Int):=by omega
 cases hk:(ix s.saq 0).known with
 |true=>simp[g8,l8,hk,oK];exact .rfl
 |false =>
  by_cases g4:s.sdq=[]
  ·simp[g8,l8,hk,g4,oK];exact .rfl
  by_cases gf:c.bN<=(s.table.length:Int)
  ·have gf':¬(s.table.length:Int)<c.bN:=by omega
   simp[g8,l8,hk,g4,gf,gf',oK];exact .rfl
  have gf':(s.table.length:Int)<c.bN:=by omega
  by_cases gt:¬s.aT.kind=0/\(ix s.saq 0).step>=s.aT.step
  ·have gt2:s.aT.step<=(ix s.saq 0).step:=gt.2;simp[g8,l8,hk,g4,gf,gf',gt.1,gt2,oK];exact .rfl
  have ht:(decide (¬s.aT.kind=0)&&decide ((ix s.saq 0).step>=s.aT.step))=false:=by
   rw[zaW,zaP,zaP];by_cases h0:s.aT.kind=0
   ·exact .inl (by simp[h0])
   ·exact .inr fun h=>gt ⟨h0,h⟩
  have ht2:(cond (decide (¬s.aT.kind=0)) (decide ((ix s.saq 0).step>=s.aT.step)) false)=false:=by rw[<-ht];cases decide (¬s.aT.kind=0)<;>rfl
  have hcan:oK c s = !s.table.any (aMG (ix s.saq 0)):=by unfold oK;rw[ht,hk,decide_eq_true g8,decide_eq_true g4,decide_eq_true gf'];rfl
  have he:(ix s.saq 0).wf:=h.1.2.2.2.2.2.2.2.2.1.1 _ (cA l8);have hr:∀ r∈s.table,r.wf:=h.1.2.2.2.2.2.2.2.2.2.1.1;have hl:s.table.length<=1000000:=h.2.2.2.2.2.2.2.1;simp only[g8,hk,g4,gf,gf',l8',ht2,zaC,zaE,zaB,zaD,zaI,zaH,ge_iff_le,zaN,zaM,bI,aS];rw[hcan];have key:bX (Ok zPr (Tab.q TC7)) nX (XSt.mk [(6,.int .i64 0),(5,.ptr 2 [] 0),(4,.bool false),(3,.ptr 1 [] 0)] [(2,some (cB (ix s.saq 0))),(1,some (aP s)),(0,some (aV c))] 3) [Frm.blk 0,Frm.seq qT] (dC [AR.tmp 4] (.bool (!s.table.any (aMG (ix s.saq 0))))):=by
   refine gT mix a73 (fun i:Nat=>⟨[(6,.int .i64 i),(5,.ptr 2 [] 0),(3,.ptr 1 [] 0)],[(2,some (cB (ix s.saq 0))),(1,some (aP s)),(0,some (aV c))],3⟩) (fun i=>i<=s.table.length/\∀ j,j<i->aMG (ix s.saq 0) (ix s.table j)=false) (fun i=>s.table.length-i) 0 ⟨Nat.zero_le _,fun j hj=>by omega⟩ (.of (dL ⟨rfl,rfl,rfl,trivial⟩ ⟨rfl,rfl,rfl,trivial⟩ (zaF _))) ?_;rintro i ⟨hi,hp⟩;refine Eq.mpr (a5C c s i _ _) ?_;by_cases hlt:i<s.table.length
   ·have h1:(i:Int)<(s.table.length:Int):=by omega
    have h2:=hr _ (cA hlt);have w1:IntKind.i64.wrap ((i:Int)+1)=((i+1:Nat):Int):=wrap_i64 (by omega) (by omega);have e1:aMG (ix s.saq 0) (ix s.table i)=cond (!(ix s.table i).store) (qR (ix s.table i).addr (ix s.table i).size (ix s.saq 0).addr (ix s.saq 0).size) false:=by unfold aMG;cases (ix s.table i).store<;>rfl
    simp only[h1,rZ h2.2.1,rZ h2.2.2.1,rZ he.1,rZ he.2.1,w1,<-e1,zaC,zaE,zaB,zaD,aD,zaF,zaO,zaQ,aS,bI,zaI,zaH,zaN,zaM,zaT,zaR,zaS,ge_iff_le,Int.le_refl,if_true,if_false,reduceCtorEq,eq_self,BEq.rfl];refine kX (fun h => ?_) (fun h => ?_)
    ·rw[List.any_eq_true.2 ⟨_,cA hlt,h⟩];exact .rfl
    ·refine⟨i+1,⟨hlt,fun j hj => ?_⟩,.ofL (aEU ⟨eF rfl,eF rfl,eF rfl,trivial⟩ ⟨rfl,rfl,rfl,trivial⟩ (zaF _) rfl),by omega⟩;by_cases hji:j=i
     ·subst hji;exact h
     ·exact hp j (by omega)
   ·have h1:¬(i:Int)<(s.table.length:Int):=by omega
    simp only[h1,zaC,zaE,zaB,zaD,aD,zaF,zaO,zaQ,aS,bI,zaI,zaH,zaN,zaM,zaT,zaR,zaS,ge_iff_le,Int.le_refl,if_true,if_false,reduceCtorEq,eq_self,BEq.rfl];have:s.table.any (aMG (ix s.saq 0))=false:=by rw[<-Bool.not_eq_true,List.any_eq_true];rintro ⟨x,hx,hp2⟩;obtain⟨j,hj,rfl⟩:=List.mem_iff_getElem.1 hx;have:=hp j (by omega);rw[gW hj,hp2]at this;cases this
    rw[this];exact .rfl
  exact key
theorem bEW:bT zPr TC8:=bQ (dF.app gN) ⟨aTN,trivial⟩ gM ⟨a5D,trivial⟩ trivial
theorem a5E:eV zPr (29,a72):=bB fun⟨c,s⟩ h=>by
 have h:s.ok:=h;refine fF (u:=80) (k:=20) mix bEW ?_;refine Eq.mpr (bA1 c s _) ?_;obtain⟨b1,b2,b3,b4,b5,b6,b7,b8,b9⟩:=aZ9 h;simp only[b1,b2,b3,b4,b5,b6,b7,b8,b9,aD,zaF,cC,zaC,zaB];refine⟨(c,s),.rfl,⟨h⟩, ?_⟩;rintro y rfl;show cond (!oK c s) _ _;unfold fV;cases hu:oK c s with
 |false=>exact .rfl
 |true =>
  have hu':=hu;simp only[oK,zaG,zaK]at hu';have l8:0<s.saq.length:=List.length_pos_iff.2 hu'.1;have l4:0<s.sdq.length:=List.length_pos_iff.2 hu'.2.2.1;have l8':(0:Int)<(s.saq.length:Int):=by omega
  have l4':(0:Int)<(s.sdq.length:Int):=by omega
  have l4a:(1:Int)<=(s.sdq.length:Int):=by omega
  have l4b:1+(s.sdq.length-1)<=s.sdq.length:=by omega
  have l9:(s.table.length+1)*64<=140737488355328:=by have:=h.2;omega
  have fin:∀ op:Int,opI (ix s.saq 0).size=op->aA (.agg 92 [.int .i64 s.aE,aR s.a,aR s.e,aB 3 cO s.ldq,.row false 1 (s.sdq.length-1) fun i=>dA (ix s.sdq (1+i)),aB 1 dA s.aeq,aB 1 cL s.abq,aB 1 cL s.ebq,.row false 5 s.saq.length fun i=>.agg 5 [.int .i64 (cond (Nat.beq i 0) ((ix s.saq 0).addr) (cond (Nat.beq i 0) ((ix s.saq 0).addr) ((ix s.saq i).addr))),.int .i64 (cond (Nat.beq i 0) ((ix s.saq 0).size) (cond (Nat.beq i 0) ((ix s.saq 0).size) ((ix s.saq i).size))),.int .i64 (cond (Nat.beq i 0) ((ix s.saq 0).step) (cond (Nat.beq i 0) ((ix s.saq 0).step) ((ix s.saq i).step))),.bool (cond (Nat.beq i 0) true (cond (Nat.beq i 0) true ((ix s.saq i).known))),.int .u32 (cond (Nat.beq i 0) (n6 (ix s.sdq 0) (ix s.saq 0).size) (cond (Nat.beq i 0) ((ix s.saq 0).val) ((ix s.saq i).val)))],.row false 8 (s.table.length+1) fun i=>.agg 8 [.bool (cond (decide (i<s.table.length)) ((ix s.table i).store) true),.int .i64 (cond (decide (i<s.table.length)) ((ix s.table i).op) op),.int .i64 (cond (decide (i<s.table.length)) ((ix s.table i).addr) ((ix s.saq 0).addr)),.int .i64 (cond (decide (i<s.table.length)) ((ix s.table i).size) ((ix s.saq 0).size)),.int .u32 (cond (decide (i<s.table.length)) ((ix s.table i).val) (n6 (ix s.sdq 0) (ix s.saq 0).size)),.int .i64 (cond (decide (i<s.table.length)) ((ix s.table i).left) 0),.int .i64 (cond (decide (i<s.table.length)) ((ix s.table i).reg) 0),.int .i64 (cond (decide (i<s.table.length)) ((ix s.table i).tag) 0)],aB 1 eP s.mem,aB 3 mQ s.writes,lH s.aT,.int .i64 s.dR,.int .i64 s.cG,.int .i64 s.tags]) (aP (iO s)):=fun op hop=>by
   subst hop;refine⟨gK ?_⟩
   repeat' (first|with_reducible exact .refl _|exact bM|refine aF ?_ ?_|exact .refl _)
   ·refine gZ (by simp[iO]) (.inl rfl) fun i hi => ?_
    show leQ (con (dA (ix s.sdq (1+i)))) (con (dA (ix s.sdq.tail i)));rw[yQ,Nat.add_comm];exact .refl _
   ·refine gZ (by simp[iO]) (.inl rfl) fun i hi => ?_
    refine aHE ?_;by_cases hi0:i=0
    ·subst hi0;simp only[iO,sK,l8,and_self,if_true,zaQ,zaB];rfl
    ·simp only[iO,sK,hi0,false_and,if_false,dB hi0,zaD];rfl
   ·refine gZ (by simp[iO]) (.inl rfl) fun i hi => ?_
    refine aHE ?_;by_cases hi0:i<s.table.length
    ·simp only[iO,dJ,hi0,if_true,zaC,zaB];rfl
    ·have:i-s.table.length=0:=by omega
     simp only[iO,dJ,hi0,if_false,zaE,zaD,this];rfl
  simp only[zaI,zaD,zaB,l8,l4,l8',l4',l4a,l4b,l9,zaC,if_true];by_cases g2:(ix s.saq 0).size=2
  ·simp only[decide_eq_true g2,zaB];exact fin _ (by unfold opI;rw[if_neg (by omega),if_pos g2])
  simp only[decide_eq_false g2,zaD];by_cases g1:(ix s.saq 0).size=1
  ·simp only[decide_eq_true g1,zaB];exact fin _ (by unfold opI;rw[if_pos g1])
  simp only[decide_eq_false g1,zaD];exact fin _ (by unfold opI;rw[if_neg g1,if_neg g2])
theorem aKF (x:Int):gC (IntKind.u32.wrap x):=by rw[wA];unfold gC;omega
theorem a0A {w n:Int} (h:gC w):gC (n6 w n):=by
 unfold n6;split
 ·exact aKF _
 split
 ·exact aKF _
 split
 ·exact h
 ·exact⟨by omega,by omega⟩
theorem gO:bK 0:=⟨by omega,by omega⟩
theorem a5F {c:Cfg} {s:Stt} (h:s.ok) (hn:s.table.length<=999999):(fV c s).ok:=by
 unfold fV;split
 ·rename_i hu;simp only[oK,zaG,zaK]at hu;have l8:0<s.saq.length:=List.length_pos_iff.2 hu.1;have l4:0<s.sdq.length:=List.length_pos_iff.2 hu.2.2.1;obtain⟨⟨w0,w1,w2,w3,w4,w5,w6,w7,w8,w9,w10,w11,w12,w13,w14,w15⟩,o⟩:=h;have he:(ix s.saq 0).wf:=w8.1 _ (cA l8);have hm:gC (n6 (ix s.sdq 0) (ix s.saq 0).size):=a0A (w4.1 _ (cA l4));have ho:bK (opI (ix s.saq 0).size):=by
   unfold opI;split
   ·exact⟨by omega,by omega⟩
   split
   ·exact⟨by omega,by omega⟩
   ·exact⟨by omega,by omega⟩
  have t4:(iO s).sdq.length=s.sdq.length-1:=by simp[iO]
  have t8:(iO s).saq.length=s.saq.length:=by simp[iO]
  have t9:(iO s).table.length=s.table.length+1:=by simp[iO]
  refine⟨⟨w0,w1,w2,w3,⟨fun x hx=>w4.1 x (List.mem_of_mem_tail hx),by rw[t4];omega⟩,w5,w6,w7,⟨fun x hx => ?_,by rw[t8];omega⟩,⟨fun x hx => ?_,by rw[t9];omega⟩,w10,w11,w12,w13,w14,w15⟩, ?_⟩
  ·rcases List.mem_or_eq_of_mem_set hx with hx|rfl
   ·exact w8.1 x hx
   ·exact⟨he.1,he.2.1,he.2.2.1,hm⟩
  ·rcases List.mem_append.1 hx with hx|hx
   ·exact w9.1 x hx
   ·simp only[List.mem_singleton]at hx;subst hx;exact⟨ho,he.1,he.2.1,hm,gO,gO,gO⟩
  ·rw[t4,t8,t9];show s.ldq.length<=1000000/\s.sdq.length-1<=1000000/\s.aeq.length<=1000000/\s.abq.length<=1000000/\s.ebq.length<=1000000/\s.saq.length<=1000000/\s.table.length+1<=1000000/\s.mem.length<=1000000/\s.writes.length<=1000000;omega
 ·exact h
theorem g8 (a b:Bool):(a||b && !a || !b)=true:=by cases a<;>cases b<;>rfl
def TJ0:Tab:=fW qq (qQ++eU++fX) [] [] [(20,aRD)] []
def a0B:cE:=⟨fun _=>0,fun _=>0,⟨0,0,0⟩,0,false,0⟩
def a5G:Stt:=⟨0,a0B,a0B,[],[],[],[],[],[],[],[],[],⟨0,0,0⟩,0,0,0⟩
def wB (p:Prog):List Int:=dP p.size.toNat fun i=>cond (decide (i<p.data.length)) (ix p.data i) 0
def aDY (p:Prog):Stt:={ a5G with mem:=wB p }
def jZ (p:Prog):Stt:=if aL p then aDY p else a5G
def bEX:List XV->Option ((XV->Prop)->Prop):=eZ (fun p:Prog=>[aJ p]) (fun p=>p.wf) (fun p=>jZ p) (fun y=>aP y)
theorem bEY:bT zPr TJ0:=bQ ((oI.app dF).app dY) trivial trivial ⟨aDT,trivial⟩ trivial
theorem bH0 (p:Prog) (r:XV):(aO TJ0 80 (bL TJ0 80 20) 10 [aJ p] (fun v=>aA v r))=(
 letI q1:List XV:=[.int .i64 0,.int .i64 0,.int .i64 0];
 letI q2:XV:=.agg 3 q1;
 letI q3:XV:=.agg 38 [.tab 16 1 fun x=>.int .u32 0,.tab 16 1 fun x=>.int .i64 0,q2,.int .i64 0,.bool false,.int .i64 0];
 letI q4:XV:=.row true 0 0 fun x=>.unk;
 letI q5:List XV:=q4::q2::q1;
 letI q6:=Int.toNat p.size*1;∃(s:Prog),aI [aJ p] [aJ s]/\aN s.wf/\∀(y:Bool),y=aL s->bif !y then aA (.agg 92 (.int .i64 0::q3::q3::q4
  :: q4::q4::q4::q4::q4::q4::q4::q5)) r else cond (decide (0<=p.size)) (cond (decide (q6<=140737488355328)) (cond (Nat.beq (Int.toNat p.size) (Int.toNat p.size)) (cond (decide (Int.toNat p.size<=Int.toNat p.size)) (aA (.agg 92 (.int .i64 0::q3::q3::q4::q4::q4::q4::q4::q4::q4::(.row false 1 (Int.toNat p.size) fun i=>.int
  .u8 (cond (decide (i<p.data.length)) (ix p.data i) (0:Int)))::q5)) r) False) False) False) False):=by kernel_rfl
theorem xR {α:Type} [Inhabited α] {es:Nat} {en:α->XV}:leQ (con (.row true 0 0 fun x=>.unk)) (con (aB es en [])):=cM
theorem bH1:leQ (con (.agg 92 [.int .i64 0,.agg 38 [.tab 16 1 fun x=>.int .u32 0,.tab 16 1 fun x=>.int .i64 0,.agg 3 [.int .i64 0,.int .i64 0,.int .i64 0],.int .i64 0,.bool false,.int .i64 0],.agg 38 [.tab 16 1 fun x=>.int .u32 0,.tab 16 1 fun x=>.int .i64 0,.agg 3 [.int .i64 0,.int .i64 0,.int .i64 0],.int .i64 0,.bool false,.int .i64 0],.row true 0 0 fun x=>.unk,.row true 0 0 fun x=>.unk,.row true 0 0 fun x=>.unk,.row true 0 0 fun x=>.unk,.row true 0 0 fun x=>.unk,.row true 0 0 fun x=>.unk,.row true 0 0 fun x=>.unk,.row true 0 0 fun x=>.unk,.row true 0 0 fun x=>.unk,.agg 3 [.int .i64 0,.int .i64 0,.int .i64 0],.int .i64 0,.int .i64 0,.int .i64 0])) (con (aP a5G)) := gK (aF (.refl _) (aF (.refl _) (aF (.refl _) (aF xR (aF xR (aF xR (aF xR (aF xR (aF xR (aF xR (aF xR (aF xR (aF (.refl _) (aF (.refl _) (aF (.refl _) (aF (.refl _) bM))))))))))))))))
theorem uZ {p:Prog}:(wB p).length=p.size.toNat:=bG
theorem bH2 {p:Prog}:leQ (con (.agg 92 [.int .i64 0,.agg 38 [.tab 16 1 fun x=>.int .u32 0,.tab 16 1 fun x=>.int .i64 0,.agg 3 [.int .i64 0,.int .i64 0,.int .i64 0],.int .i64 0,.bool false,.int .i64 0],.agg 38 [.tab 16 1 fun x=>.int .u32 0,.tab 16 1 fun x=>.int .i64 0,.agg 3 [.int .i64 0,.int .i64 0,.int .i64 0],.int .i64 0,.bool false,.int .i64 0],.row true 0 0 fun x=>.unk,.row true 0 0 fun x=>.unk,.row true 0 0 fun x=>.unk,.row true 0 0 fun x=>.unk,.row true 0 0 fun x=>.unk,.row true 0 0 fun x=>.unk,.row true 0 0 fun x=>.unk,.row false 1 p.size.toNat fun i=>.int .u8 (cond (decide (i<p.data.length)) (ix p.data i) 0),.row true 0 0 fun x=>.unk,.agg 3 [.int .i64 0,.int .i64 0,.int .i64 0],.int .i64 0,.int .i64 0,.int .i64 0])) (con (aP (aDY p))) :=
 gK (aF (.refl _) (aF (.refl _) (aF (.refl _) (aF xR (aF xR (aF xR (aF xR (aF xR (aF xR (aF xR (aF (gZ uZ.symm (.inl rfl) fun i hi=>by show leQ _ (con (eP (ix (wB p) i)));unfold wB;rw[kB hi];exact .refl _) (aF xR (aF (.refl _) (aF (.refl _) (aF (.refl _) (aF (.refl _) bM))))))))))))))))
theorem aWE:eV zPr (10,bEX):=bB fun p hw=>by
 have hw:p.wf:=hw;show Pure _ _ (cons [aJ p]) (con (aP (jZ p)));refine fF (u:=80) (k:=20) mix bEY ?_;refine Eq.mpr (bH0 p _) ?_;refine⟨p,.rfl,⟨hw⟩, ?_⟩;intro y hy;replace hy:y=aL p:=hy;subst hy;unfold jZ;cases hr:aL p with
 |false=>exact⟨bH1⟩
 |true =>
  have hr':=hr;simp only[aL,zaG,zaK]at hr';have h1:(0:Int)<=p.size:=by omega
  have h2:p.size.toNat*1<=140737488355328:=by omega
  simp only[g1,g2,g3,g4,g5,g6,g7,aD,zaB,zaF,zaC,cC,h1,h2,zaQ,zaI];exact⟨bH2⟩
def tO (addr size n:Int):Bool:=decide (size=1\/size=2\/size=4)&&(decide (addr>=0)&&(decide (addr<=n)&&(decide (n-addr>=size)&&decide (addr%size=0))))
def bA2:List XV->Option ((XV->Prop)->Prop):=eZ (fun q:Int×Int×Int=>[.int .i64 q.1,.int .i64 q.2.1,.int .i64 q.2.2]) (fun q=>0<=q.2.2/\q.2.2<=1000000) (fun q=>tO q.1 q.2.1 q.2.2) (fun y=>.bool y)
def TKs:Tab:=fW qq (qQ++eU) [] [] [] []
def aRO (n:Int):Bool:=decide (0<=n/\n<=1099511627776)
def v8 (q:Req) (n:Int):Bool:=decide (q.size=szI q.op)&&(tO q.addr q.size n&&((if q.store then decide (aC q.op=5)else decide (aC q.op=4))&&(decide (0<=q.left/\q.left<=1000)&&decide (-1<=q.reg/\q.reg<=15))))
def bEZ:List XV->Option ((XV->Prop)->Prop):=eZ (fun q:Req×Int=>[dS q.1,.int .i64 q.2]) (fun q=>0<=q.2/\q.2<=1000000) (fun q=>v8 q.1 q.2) (fun y=>.bool y)
def aHX (t:Trp):Bool:=if t.kind=0 then decide (t.step=0)&&decide (t.pc=0)else decide (1<=t.kind/\t.kind<=4)&&(aRO t.step&&aRO t.pc)
def TK1:Tab:=fW qq (qQ++eU) [(43,aRK),(41,lM)] [] [(76,wnS),(52,bA2)] []
theorem bE0:bT zPr TKs:=bQ (oI.app dF) trivial trivial trivial trivial
theorem bH3 (addr size n:Int) (r:XV):(aO TKs 80 (bL TKs 80 20) 52 [.int .i64 addr,.int .i64 size,.int .i64 n] (fun v=>aA v r))=(
 letI q1:=decide (size=1);
 letI q2:=cond q1 true (decide (size=2));
 letI q3:=cond q2 true (decide (size=4));
 letI q4:=cond q3 (decide (addr>=0)) false;
 letI q5:=cond q4 (decide (addr<=n)) false;
 letI q6:=cond q5 (decide (IntKind.wrap .i64 (n-addr)>=size)) false;cond (cond q1 true (!q1)) (cond (cond q2 true (!q2)) (cond (cond q3 q3 true) (cond (cond q4 q4 true) (cond (cond q5 q5 true) (cond (cond (!decide (size=0)) true (!q6)) (cond (cond q6 q6 true) (aA (.bool (cond q6 (decide
  (Int.tmod addr size=0)) false)) r) False) False) False) False) False) False) False):=by kernel_rfl
theorem bE1 (q:Req) (n:Int) (r:XV):(aO TK1 80 (bL TK1 80 20) 53 [dS q,.int .i64 n] (fun v=>aA v r))=(
 letI q1:=decide (q.size=szI q.op);
 letI q2:=fun(y:Bool)=>cond q1 y false;
 letI q3:=fun(y:Bool) => !q2 y;
 letI q4:=fun(y:Bool)=>cond (q2 y) true (q3 y);
 letI q5:=cond q.store (decide (aC q.op=5)) false;
 letI q6:=fun(y:Bool)=>cond (q2 y) (!q5) false;
 letI q7:=fun(y:Bool) => !q6 y;
 letI q8:=fun(y:Bool)=>cond (q2 y) (cond q5 true (cond (!q.store) (decide (aC q.op=4)) false)) false;
 letI q9:=fun(y:Bool)=>cond (q8 y) (decide (q.left>=0)) false;
 letI q10:=fun(y:Bool)=>cond (q9 y) (decide (q.left<=1000)) false;
 letI q11:=fun(y:Bool)=>cond (q10 y) (decide (q.reg>=(-1:Int))) false;cond q1 (∃(s:Int×Int×Int),aI [.int .i64 q.addr,.int .i64 q.size,.int .i64 n] [.int
  .i64 s.1,.int .i64 s.2.1,.int .i64 s.2.2]/\aN (0<=s.2.2/\s.2.2<=1000000)/\∀(y:Bool),y=tO s.1 s.2.1 s.2.2->cond (q4 y) (cond (cond (cond q.store (cond (q2 y) q.store false) true) true (q3 y)) (cond (cond (q6 y) true (q7 y)) (cond (cond (cond (!q.store) (cond (q6 y) (!q.store) false) true) true (q7 y)) (cond (q4 y) (cond (cond (cond q5 true (q6 y)) true (q3 y)) (cond (cond (q2 y) (q2 y) true) (cond (cond (q8 y) (q8 y) true) (cond (cond (q9 y) (q9 y) true) (cond (cond (q10 y) (q10 y) true) (cond (cond (q11 y) (q11 y) true) (aA (.bool (cond (q11 y) (decide (q.reg<=15)) false)) r) False) False) False) False) False) False) False) False) False) False) False) (cond (!q1) (cond (cond (cond q.store false true) true true) (cond (cond (cond (!q.store) false true) true true) (cond (cond (cond q5 true false) true true) (aA (.bool false) r) False) False) False) False)):=by kernel_rfl
theorem bH4 {x y:Bool} (h:x=y):aA (.bool x) (.bool y):=by rw[h];exact .rfl
theorem w1F {lo hi x:Int}:cD lo hi [x]=decide (lo<=x/\x<=hi):=by simp[cD]
theorem bA3 {a s:Int} (ha:0<=a):a.tmod s=a%s:=Int.tmod_eq_emod_of_nonneg ha
theorem aTU:eV zPr (52,bA2):=bB fun⟨addr,size,n⟩ h=>by
 obtain⟨hn0,hn⟩:0<=n/\n<=1000000:=h;show Pure _ _ (cons [.int .i64 addr,.int .i64 size,.int .i64 n]) (con (.bool (tO addr size n)));refine fF (u:=80) (k:=20) mix bE0 ?_;refine Eq.mpr (bH3 addr size n _) ?_;simp only[g1,g2,g3,g4,g5,g6,g7,aD,zaB,zaF,zaC,cC];simp only[bor,tD];by_cases hs:size=1\/size=2\/size=4
 ·by_cases ha:0<=addr/\addr<=n
  ·obtain⟨ha0,ha1⟩:=ha;have w1:IntKind.i64.wrap (n-addr)=n-addr:=wrap_i64 (by omega) (by omega);have hs':(decide (size=1)||decide (size=2)||decide (size=4))=true:=by simpa [or_assoc]using hs
   have z:¬size=0:=by omega
   simp only[hs',w1,bA3 ha0,z,g1,g2,g3,g4,g5,g6,g7,aD,zaB,zaF,zaC,cC];refine bH4 ?_;unfold tO;rw[Bool.eq_iff_iff];simp only[zaG,zaV,zaK,or_assoc];constructor
   ·rintro ⟨⟨⟨⟨_,h2⟩,h3⟩,h4⟩,h5⟩;exact⟨hs,h2,h3,h4,h5⟩
   ·rintro ⟨_,h2,h3,h4,h5⟩;exact⟨⟨⟨⟨trivial,h2⟩,h3⟩,h4⟩,h5⟩
  ·have hs':(decide (size=1)||decide (size=2)||decide (size=4))=true:=by simpa [or_assoc]using hs
   have z:¬size=0:=by omega
   have ha':(decide (addr>=0)&&decide (addr<=n))=false:=by rw[<-Bool.not_eq_true,zaG,zaK,zaK];exact ha
   have e:tO addr size n=false:=by rw[<-Bool.not_eq_true];unfold tO;simp only[zaG,zaK];rintro ⟨_,h2,h3,_⟩;exact ha ⟨h2,h3⟩
   rw[e];simp only[hs',z,ha',zaR,Bool.false_and,zaE,zaH,Bool.true_or,zaB,zaD]
   first|exact .rfl|(cases decide (addr>=0)<;>cases decide (addr<=n)<;>first|exact .rfl|simp at ha')
 ·have hs':(decide (size=1)||decide (size=2)||decide (size=4))=false:=by simpa [not_or,and_assoc]using hs
  simp only[hs',Bool.false_and,zaD,zaH,g1,g2,g3,g4,g5,g6,g7,aD,zaB,zaF,zaC,cC];have e:tO addr size n=false:=by unfold tO;rw[decide_eq_false hs];rfl
  rw[e,Bool.or_true];exact .rfl
theorem bE2:bT zPr TK1:=bQ (oI.app dF) ⟨xI,kC,trivial⟩ trivial ⟨a7T,aTU,trivial⟩ trivial
theorem bA4:eV zPr (53,bEZ):=bB fun⟨q,n⟩ h=>by
 obtain⟨hn0,hn⟩:0<=n/\n<=1000000:=h;show Pure _ _ (cons [dS q,.int .i64 n]) (con (.bool (v8 q n)));refine fF (u:=80) (k:=20) mix bE2 ?_;refine Eq.mpr (bE1 q n _) ?_;unfold v8;have e1:decide (0<=q.left/\q.left<=1000)=(decide (q.left>=0)&&decide (q.left<=1000)):=by rw[Bool.eq_iff_iff];simp
 have e2:decide (-1<=q.reg/\q.reg<=15)=(decide (q.reg >= -1)&&decide (q.reg<=15)):=by rw[Bool.eq_iff_iff];simp
 rw[e1,e2];generalize decide (q.size=szI q.op)=c;generalize decide (aC q.op=5)=f5;generalize decide (aC q.op=4)=f4;generalize decide (q.left>=0)=l0;generalize decide (q.left<=1000)=l1;generalize decide (q.reg >= -1)=r0;generalize decide (q.reg<=15)=r1;cases c with
 |false=>cases q.store<;>cases f5<;>cases f4<;>first|exact .rfl|(cases l0<;>first|exact .rfl|(cases l1<;>first|exact .rfl|(cases r0<;>first|exact .rfl|(cases r1<;>exact .rfl))))
 |true =>
  refine⟨(q.addr,q.size,n),.rfl,⟨⟨hn0,hn⟩⟩, ?_⟩;intro y hy;replace hy:y=tO q.addr q.size n:=hy;rw[<-hy];clear hy;cases y with
  |false=>cases q.store<;>cases f5<;>cases f4<;>first|exact .rfl|(cases l0<;>first|exact .rfl|(cases l1<;>first|exact .rfl|(cases r0<;>first|exact .rfl|(cases r1<;>exact .rfl))))
  |true=>cases q.store<;>cases f5<;>cases f4<;>first|exact .rfl|(cases l0<;>first|exact .rfl|(cases l1<;>first|exact .rfl|(cases r0<;>first|exact .rfl|(cases r1<;>exact .rfl))))
def u0 (s:Split) (onE:Bool) (b:Int):List Cell:=if onE then(ix s.blocks b.toNat).e else(ix s.blocks b.toNat).a
def j5 (s:Split) (onE:Bool) (d:cE):Bool:=decide (0<=d.pos.block/\d.pos.block<s.blocks.length)&&(cD 0 (u0 s onE d.pos.block).length [d.pos.index]&&(cD 0 1099511627776 [d.pos.base,d.wait,d.done]&&cD (-1) 1099511627776 (dP 16 d.ready)))
def aPD (c:Cfg) (x:Stt):Bool:=decide ((x.ldq.length:Int)<=c.ldq)&&(decide ((x.sdq.length:Int)<=c.sdq)&&(decide ((x.aeq.length:Int)<=c.aeq)&&(decide ((x.abq.length:Int)<=c.abq)&&(decide ((x.ebq.length:Int)<=c.ebq)&&(decide ((x.saq.length:Int)<=c.saq)&&(decide ((x.table.length:Int)<=c.bN)&&decide ((x.mem.length:Int)<=65536)))))))
def z8 (x:Stt) (q:Req):Bool:=!q.store||(decide (¬x.saq.length=0)&&(decide (q.addr=(ix x.saq 0).addr)&&decide (q.size=(ix x.saq 0).size)))
def eG (l:List Req):Nat:=l.countP (fun q=>q.store)
def aTV (x:Stt):Bool:=x.table.all (z8 x)&&decide (eG x.table=if 0<x.saq.length/\(ix x.saq 0).known=true then 1 else 0)
def aCT (x:Stt) (i:Nat) (e:Entry):Bool:=tO e.addr e.size x.mem.length&&(aRO e.step && !(e.known&&decide (0<i)))
def u7 (x:Stt):Bool:=gP (fun i=>aCT x i (ix x.saq i)) x.saq.length&&(x.table.all (fun q=>v8 q x.mem.length)&&aTV x)
def aU (c:Cfg) (s:Split) (x:Stt):Bool:=cX c&&(j5 s false x.a&&(j5 s true x.e&&(cD 0 1099511627776 [x.aE,x.dR,x.cG,x.tags]&&(aPD c x&&(u7 x&&aHX x.aT)))))
def a0C:List XV->Option ((XV->Prop)->Prop):=eZ (fun q:Cfg×Split×Stt=>[aV q.1,aG q.2.1,aP q.2.2]) (fun q=>q.2.2.ok) (fun q=>aU q.1 q.2.1 q.2.2) (fun y=>.bool y)
theorem a0D {l:List Req} {i:Nat} (h:i<l.length):eG (l.take (i+1))=eG (l.take i)+if(ix l i).store then 1 else 0:=by unfold eG;rw[List.take_succ_eq_append_getElem h,List.countP_append,gW h];simp[List.countP_cons]
theorem aMH {α:Type} [Inhabited α] {l:List α} {p:α->Bool}:l.all p=true↔∀ j,j<l.length->p (ix l j)=true:=by
 rw[List.all_eq_true];constructor
 ·exact fun h j hj=>h _ (cA hj)
 ·intro h y hy;obtain⟨j,hj,rfl⟩:=List.mem_iff_getElem.1 hy;have:=h j hj
  rwa [gW hj]at this
theorem a0E {α:Type} [Inhabited α] {l:List α} {p:α->Bool} {j:Nat} (hj:j<l.length) (h:p (ix l j)=false):l.all p=false:=by rw[<-Bool.not_eq_true,aMH];intro g;rw[g j hj]at h;cases h
end Go.Proofs.YtooojfbfobmkfaaGreat
