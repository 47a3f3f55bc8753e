/- Texts put together. -/
import Derived.Test.YtooojfbfobmkfaaGreatPk5
noncomputable section
namespace Go.Proofs.YtooojfbfobmkfaaGreat
open Go.Ra
set_option linter.unusedVariables false
set_option linter.unusedSimpArgs false
def r0F (m:List Int):jP:=⟨0,⟨0,0,0⟩,0,fun _=>0,m,[]⟩
def itR (p:Prog):Nat->jP×Int
 |0=>(r0F (wB p),0)
 |k+1=>if(itR p k).1.fin=0 then tY p (itR p k).1 (itR p k).2 else itR p k
def kR (fuel:Int):Nat:=if fuel<0 then 0 else if fuel>100000 then 100000 else fuel.toNat
def aM4 (p:Prog) (fuel:Int):jP:=if aL p then(if(itR p (kR fuel)).1.fin=0 then { (itR p (kR fuel)).1 with fin:=3 } else(itR p (kR fuel)).1)else r0F []
def bG9:List XV->Option ((XV->Prop)->Prop):=eZ (fun q:Prog×Int=>[aJ q.1,.int .i64 q.2]) (fun q=>q.1.wf) (fun q=>aM4 q.1 q.2) (fun y=>nJ y)
def TS2:Tab:=fW qq fX [] [] [(20,aRD),(23,a8P)] []
def zR:XV:=.agg 23 [.int .i64 0,.agg 3 [.int .i64 0,.int .i64 0,.int .i64 0],.int .i64 0,.tab 16 1 (fun _=>.int .u32 0),.row true 0 0 (fun _=>.unk),.row true 0 0 (fun _=>.unk)]
def bHA (p:Prog) (F:Int) (s:jP) (pc:Int) (k:Nat):XSt:=⟨[(7,.int .i64 k),(1,.int .i64 F),(6,.int .i64 pc),(5,.ptr 2 [] 0),(4,.ptr 1 [] 0),(2,.ptr 0 [] 0)],[(2,some (nJ s)),(1,some zR),(0,some (aJ p))],3⟩
theorem a8R:bT zPr TS2:=bQ dY trivial trivial ⟨aDT,a65,trivial⟩ trivial
theorem bC2 (p:Prog) (fuel:Int) (r:XV):(goQ zPr TS2 [(.cell 4 .true 23)] r (.run qI) [] ⟨kF 0 [aJ p,.int .i64 fuel],[],0⟩)=(
 let q1:XV:=.agg 3 [.int .i64 0,.int .i64 0,.int .i64 0];
 let q2:XV:=.tab 16 1 fun x=>.int .u32 0;
 let q3:XV:=.row true 0 0 fun x=>.unk;
 let q4:List XV:=[q3];
 let q5:XV:=.agg 23 (.int .i64 0::q1::.int .i64 0::q2::q3::q4);
 let q6:=Int.toNat p.size*1;
 let q7:List (Nat×XV):=[(6,.int .i64 0),(5,.ptr 2 [] 0),(4,.ptr 1 [] 0),(2,.ptr 0 [] 0)];
 let q8:List (Nat×Option XV):=[(2,some (.agg 23 (.int .i64 0::q1::.int .i64 0::q2::(.row false 1 (Int.toNat p.size) fun i=>.int .u8 (cond (decide (i<p.data.length)) (ix p.data i) (0:Int)))::q4))),(1,some q5),(0,some (aJ p))];
 let q9:List Frm:=[Frm.blk 0,Frm.seq sI];
 let q10:List AR:=[AR.cell 4 true 23];∃(s:Prog),aI [aJ p] [aJ s]/\aN s.wf/\∀(y:Bool),y=aL s->cond (!y) (aA q5 r) (cond (decide (0<=p.size)) (cond (decide (q6<=140737488355328)) (cond (Nat.beq (Int.toNat p.size) (Int.toNat p.size)) (cond (decide (Int.toNat p.size<=Int.toNat p.size)) (cond (decide (fuel<0)) (bX
  (Ok zPr (Tab.q TS2)) jU (XSt.mk ((7,.int .i64 0)::(1,.int .i64 0)::q7) q8 3) q9 (dC q10 r)) (cond (decide (fuel>100000)) (bX (Ok zPr (Tab.q
  TS2)) jU (XSt.mk ((7,.int .i64 0)::(1,.int .i64 100000)::q7) q8 3) q9 (dC q10 r)) (bX (Ok zPr (Tab.q TS2)) jU (XSt.mk ((7,.int .i64 0) ::
  (1,.int .i64 fuel)::q7) q8 3) q9 (dC q10 r)))) False) False) False) False)):=by kernel_rfl 
theorem bC3 (p:Prog) (F:Int) (s:jP) (pc:Int) (k:Nat) (r:XV) (A:XSt->Prop):(goQ zPr TS2 [(.cell 4 .true 23)] r (.run jU) [.lp jU A,.blk 0,.seq sI] (bHA p F s pc k))=(
 let q1:=decide ((↑k:Int)<F);
 let q2:=decide (s.fin=0);
 let q3:XV:=.row true 0 0 fun x=>.unk;cond (cond q1 q1 true) (cond (cond q1 q2 false) (∃(s_1:Prog×jP×Int),aI [aJ p,nJ s,.int .i64 pc]
  [aJ s_1.1,nJ s_1.2.1,.int .i64 s_1.2.2]/\aN (s_1.1.wf/\aWR s_1.2.1/\s_1.2.1.writes.length<=999999)/\∀(y:jP×Int),y=tY s_1.1 s_1.2.1 s_1.2.2->A (XSt.mk
  [(7,.int .i64 (IntKind.wrap .i64 ((↑k:Int)+1))),(6,.int .i64 y.2),(1,.int .i64 F),(5,.ptr 2 [] 0),(4,.ptr 1 [] 0),(2,.ptr 0 [] 0)] [(2,some (nJ y.1)),(1,some (.agg
  23 [.int .i64 0,.agg 3 [.int .i64 0,.int .i64 0,.int .i64 0],.int .i64 0,.tab 16 1 fun x=>.int .u32 0,q3,q3])),(0,some (aJ p))] 3)) (cond q2 (aA (.agg 23 [.int
  .i64 3,lH s.aT,.int .i64 s.steps,.tab 16 1 fun i=>.int .u32 (s.bC i),aB 1 eP s.mem,aB 3 mQ s.writes]) r) (aA (nJ s) r))) False):=by kernel_rfl
theorem bHB {m:List Int} (hm:∀ x∈m,u8R x) (hl:m.length<=65536):aWR (r0F m):=by
 have z:bK 0:=by unfold bK;omega
 refine⟨⟨z,⟨z,z,z⟩,z,fun i _=>by show gC 0;unfold gC;omega,⟨hm,by show m.length*1<=_;omega⟩,⟨fun x hx=>(by cases hx),by show 0*24<=_;omega⟩⟩,by show m.length<=_;omega,by show 0<=_;omega⟩
theorem a2N {p:Prog} (hw:p.wf):∀ x∈wB p,u8R x:=fun x hx=>by
 obtain⟨j,hj,rfl⟩:=List.mem_iff_getElem.1 hx;rw[<-gW hj];have hj':j<p.size.toNat:=by rw[<-uZ];exact hj
 unfold wB;rw[kB hj'];by_cases hd:j<p.data.length
 ·rw[decide_eq_true hd];exact hw.2.2.1 _ (cA hd)
 ·rw[decide_eq_false hd];show u8R 0;unfold u8R;omega
theorem vI {p:Prog} (h:aL p=true):0<=p.size/\p.size<=65536/\1<=p.code.length/\p.code.length<=2000:=by simp only[aL,zaG,zaK]at h;omega
theorem a2O {p:Prog} (hw:p.wf) (hr:aL p=true):∀ k:Nat,k<=900000->aM1 (itR p k).1/\(itR p k).1.mem.length=p.size.toNat/\(itR p k).1.writes.length<=k/\bK (itR p k).2
 |0,_=>by have hs:=vI hr;have h:=bHB (a2N hw) (by rw[uZ];omega);exact⟨h.1,uZ,zaF _,by show bK 0;unfold bK;omega⟩
 |k+1,hk=>by
  obtain⟨a1,a2,a3,a4⟩:=a2O hw hr k (by omega);have hs:=vI hr;unfold itR;split
  ·obtain⟨⟨b1,b2,b3⟩,b4⟩:=a2L (p:=p) (r:=(itR p k).1) (pc:=(itR p k).2) ⟨a1,by omega,by omega⟩ (by omega) a4;exact⟨b1,b2.trans a2,by omega,b4⟩
  ·exact⟨a1,a2,by omega,a4⟩
theorem aUV {p:Prog} {k:Nat} (h:¬(itR p k).1.fin=0):∀ j,itR p (k+j)=itR p k
 |0=>rfl
 |j+1=>by show itR p ((k+j)+1)=itR p k;have:=aUV h j;show(if(itR p (k+j)).1.fin=0 then _ else itR p (k+j))=itR p k;rw[this,if_neg h]
theorem bC4:eV zPr (8,bG9):=bB fun⟨p,fuel⟩ hw=>by
 have hw:p.wf:=hw;show Pure _ _ (cons [aJ p,.int .i64 fuel]) (con (nJ (aM4 p fuel)));refine j9 mix a8R aGT (Nat.le_of_ble_eq_true rfl) ?_;refine Eq.mpr (bC2 p fuel _) ?_;refine⟨p,.rfl,⟨hw⟩, ?_⟩;intro y hy;replace hy:y=aL p:=hy;cases y with
 |false => unfold aM4;rw[if_neg (by rw[<-hy];simp)];simp only[zaH,zaB];exact⟨gK (aF (.refl _) (aF (.refl _) (aF (.refl _) (aF (.refl _) (aF cM (aF cM bM))))))⟩
 |true =>
 have hs:=vI hy.symm;have hrun:aM4 p fuel=if(itR p (kR fuel)).1.fin=0 then { (itR p (kR fuel)).1 with fin:=3 } else(itR p (kR fuel)).1:=by unfold aM4;rw[if_pos hy.symm]
 have b1:p.size.toNat*1<=140737488355328:=by omega
 simp only[b1,hs.1,zaQ,zaF,zaI,zaC,zaB,zaD];have key:∀ F:Int,F=(kR fuel:Nat)->bX (Ok zPr (Tab.q TS2)) jU (XSt.mk [(7,.int .i64 0),(1,.int .i64 F),(6,.int .i64 0),(5,.ptr 2 [] 0),(4,.ptr 1 [] 0),(2,.ptr 0 [] 0)] [(2,some (.agg 23 [.int .i64 0,.agg 3 [.int .i64 0,.int .i64 0,.int .i64 0],.int .i64 0,.tab 16 1 (fun _=>.int .u32 0),.row false 1 p.size.toNat (fun i=>.int .u8 (cond (decide (i<p.data.length)) (ix p.data i) 0)),.row true 0 0 (fun _=>.unk)])),(1,some zR),(0,some (aJ p))] 3) [Frm.blk 0,Frm.seq sI] (dC [AR.cell 4 true 23] (nJ (aM4 p fuel))):=by
  intro F hF;have hfl:kR fuel<=100000:=by
   unfold kR;split
   ·omega
   ·split<;>omega
  refine gT mix a8R (fun k:Nat=>bHA p F (itR p k).1 (itR p k).2 k) (fun k=>k<=kR fuel) (fun k=>kR fuel-k) 0 (Nat.zero_le _) ?_ ?_
  ·refine rV [(0,0),(1,1),(2,2)] rfl rfl rfl rfl rfl ⟨aH rfl rfl,aH rfl rfl,aH rfl rfl,.ptr rfl,.ptr rfl,.ptr rfl,trivial⟩ ⟨.agg (.cons (aH rfl rfl) (.cons (aH rfl rfl) (.cons (aH rfl rfl) (.cons (aH rfl rfl) (.cons (aHB uZ.symm (.inl rfl) fun i hi => ?_) (.cons (aHB rfl (.inr rfl) fun j hj=>absurd hj (Nat.not_lt_zero _)) .nil)))))),aH rfl rfl,aH rfl rfl,trivial⟩;show _=con (eP (ix (wB p) i));unfold wB;rw[kB hi];rfl
  intro k hk;replace hk:k<=kR fuel:=hk;obtain⟨i1,i2,i3,i4⟩:=a2O hw hy.symm k (by omega);have hnx:(itR p k).1.fin=0->itR p (k+1)=tY p (itR p k).1 (itR p k).2:=fun h=>by show(if(itR p k).1.fin=0 then _ else _)=_;rw[if_pos h]
  have hst:¬(itR p k).1.fin=0->itR p (kR fuel)=itR p k:=fun h=>by
   have:=aUV h (kR fuel-k)
   rwa [show k+(kR fuel-k)=kR fuel by omega]at this
  refine Eq.mpr (bC3 p F _ _ k _ _) ?_;by_cases hlt:k<kR fuel
  ·have g1:(k:Int)<F:=by omega
   have w1:IntKind.i64.wrap ((k:Int)+1)=((k+1:Nat):Int):=wrap_i64 (by omega) (by omega);by_cases hf:(itR p k).1.fin=0
   ·simp only[g1,hf,w1,zaC,zaB];refine⟨(p,(itR p k).1,(itR p k).2),.rfl,⟨hw,⟨i1,by show(itR p k).1.mem.length<=_;omega,by show(itR p k).1.writes.length<=_;omega⟩,by show(itR p k).1.writes.length<=_;omega⟩, ?_⟩;intro y hy2;replace hy2:y=tY p (itR p k).1 (itR p k).2:=hy2;rw[<-hnx hf]at hy2;subst hy2;exact⟨k+1,hlt,.of (dL ⟨rfl,rfl,rfl,rfl,rfl,rfl,trivial⟩ ⟨rfl,rfl,rfl,trivial⟩ (zaF _)),by omega⟩
   ·simp only[g1,hf,zaC,zaE,zaB,zaD];rw[hrun,hst hf,if_neg hf];exact .rfl
  ·have g1:¬(k:Int)<F:=by omega
   obtain rfl:k=kR fuel:=by omega
   by_cases hf:(itR p (kR fuel)).1.fin=0
   ·simp only[g1,hf,zaC,zaE,zaB,zaD];rw[hrun,if_pos hf];exact .rfl
   ·simp only[g1,hf,zaC,zaE,zaB,zaD];rw[hrun,if_neg hf];exact .rfl
 by_cases f1:fuel<0
 ·simp only[f1,zaC,zaB];exact key 0 (by unfold kR;rw[if_pos f1];rfl)
 ·by_cases f2:fuel>100000
  ·simp only[f1,f2,zaC,zaE,zaB,zaD];exact key 100000 (by unfold kR;rw[if_neg f1,if_pos f2];rfl)
  ·simp only[f1,f2,zaE,zaD];exact key fuel (by unfold kR;rw[if_neg f1,if_neg f2];omega)
structure bC5 (p:Prog) (k:Nat) (r:jP) (pc:Int):Prop where
 bC:∀ i:Nat,1<=i->i<=15->r.bC i=(gh p k).bC i
 mem:r.mem=(gh p k).mem
 wr:r.writes=(gh p k).wr
 pc:pc=((gh p k).pc:Int)
 steps:r.steps=(k:Int)
def gGo (p:Prog) (m:Nat):Prop:=(gh p m).pc<p.code.length/\¬aC (gI p m).op=8/\gOk (gI p m) (gh p m)=true
section
variable {p:Prog} (hr:aL p=true)
include hr
theorem a2P {g g':Nat->Int} (h:∀ i:Nat,1<=i->i<=15->g i=g' i) {n:Int} (h0:0<=n) (h1:n<=15):sM g n=gV g' n:=by
 have _:=hr;unfold sM gV;by_cases hz:n=0
 ·rw[if_pos hz,if_pos (by omega)]
 ·rw[if_neg hz,if_neg (by omega),h n.toNat (by omega) (by omega)]
theorem a2Q {g g':Nat->Int} (h:∀ i:Nat,1<=i->i<=15->g i=g' i) {d v:Int} (h0:0<=d) (h1:d<=15) {i:Nat} (i1:1<=i) (i2:i<=15):(cond (!decide (d=0)&&Nat.beq i d.toNat) v (g i))=gU g' d v i:=by
 have _:=hr;rw[pC];by_cases h2:i=d.toNat
 ·rw[h2,zaQ,decide_eq_false (by omega),if_pos ⟨by omega,rfl⟩];rfl
 ·rw[dB h2,Bool.and_false,if_neg (fun h3=>h2 h3.2)];exact h i i1 i2
theorem aWT {k:Nat} {r:jP} {pc:Int} (h:bC5 p k r pc) (hf:r.fin=0) (hk:k<=100000) :
  (gGo p k->(tY p r pc).1.fin=0/\bC5 p (k+1) (tY p r pc).1 (tY p r pc).2)/\(¬gGo p k->¬(tY p r pc).1.fin=0/\(k:Int)<=(tY p r pc).1.steps):=by
 obtain⟨h1,h2,h3,h4,h5⟩:=h;have hN:=lN hr;have hsz:0<=p.size:=by simp only[aL,zaG,zaK]at hr;omega
 have hml:¬(¬r.fin=0\/aL p=false\/¬(r.mem.length:Int)=p.size):=by
  rintro (g|g|g)
  ·exact g hf
  ·rw[hr]at g;cases g
  ·apply g;rw[h2,aD4,aC9,uZ];omega
 unfold tY;rw[if_neg hml];by_cases hpc:(gh p k).pc<p.code.length
 case neg => rw[if_pos (by rw[h4];omega)];exact⟨fun g=>absurd g.1 hpc,fun _=>⟨by show ¬(2:Int)=0;decide,by show(k:Int)<=r.steps;omega⟩⟩
 rw[if_neg (by rw[h4];omega)];have hI:ix p.code pc.toNat=gI p k:=by rw[h4,zaO];rfl
 rw[hI];have hri:bY (gI p k)=true:=mN hr hpc;obtain⟨⟨d0,d1⟩,⟨a0,a1⟩,⟨b0,b1⟩⟩:=mI hri;have va:=a2P hr h1 a0 a1;have vb:=a2P hr h1 b0 b1;have hadr:aI7 r (gI p k)=gAd (gI p k) (gh p k):=by unfold aI7 gAd;rw[va]
 have hlen:r.mem.length=(gh p k).mem.length:=by rw[h2]
 have hst:IntKind.i64.wrap (r.steps+1)=((k+1:Nat):Int):=by rw[h5];exact wrap_i64 (by omega) (by omega)
 have hfr:=aC0 (gI p k).op;have hpcn:∀ d:Bool,(gh p (k+1)).pc=zH p (gh p k).pc (gTk (gI p k) (gh p k)):=fun _=>rfl
 have w1:IntKind.i64.wrap (pc+1)=(((gh p k).pc+1:Nat):Int):=by rw[h4];exact wrap_i64 (by omega) (by omega)
 have tgt:(aC (gI p k).op=6\/aC (gI p k).op=7)->IntKind.i64.wrap (pc+(gI p k).imm)=((bV p (gh p k).pc).toNat:Int):=fun hf=>by
  have h6:=aKJ hr hpc hf;have h7:bV p (gh p k).pc=((gh p k).pc:Int)+(gI p k).imm:=by
   unfold bV at h6 ⊢;split at h6
   ·omega
   ·rename_i g;rw[if_neg g];rfl
  have h8:=aRG h6;rw[h4,<-h7,wrap_i64 (by omega) (by omega)];omega
 have plainN:¬(aC (gI p k).op=6\/aC (gI p k).op=7)->(gh p (k+1)).pc=(gh p k).pc+1:=fun hf=>by rw[hpcn true];unfold zH;rw[if_neg];have:gI p k=ix p.code (gh p k).pc:=rfl;rw[<-this];omega
 have hgo:gGo p k↔¬aC (gI p k).op=8/\gOk (gI p k) (gh p k)=true:=⟨fun g=>g.2,fun g=>⟨hpc,g⟩⟩;have hregs:∀ i,¬aC (gI p k).op<=4->(gh p (k+1)).bC i=(gh p k).bC i:=fun i hf=>by rw[sC,if_neg (fun g=>hf g.1)]
 have hmem:¬aC (gI p k).op=5->(gh p (k+1)).mem=(gh p k).mem/\(gh p (k+1)).wr=(gh p k).wr:=fun hf=>by
  refine⟨?_, ?_⟩
  ·show(if aC (gI p k).op=5/\gOk (gI p k) (gh p k)=true then eM (gh p k).mem (gWr (gI p k) (gh p k))else(gh p k).mem)=_;rw[if_neg (fun g=>hf g.1)]
  ·show(if aC (gI p k).op=5/\gOk (gI p k) (gh p k)=true then(gh p k).wr++[gWr (gI p k) (gh p k)]else(gh p k).wr)=_;rw[if_neg (fun g=>hf g.1)]
 have ok45:(aC (gI p k).op=4\/aC (gI p k).op=5)->(gOk (gI p k) (gh p k)=true↔dV (szI (gI p k).op) (gAd (gI p k) (gh p k)) r.mem.length=0):=fun hf=>by unfold gOk;rw[if_pos hf,hlen,zaK]
 unfold aR3;rw[hadr];by_cases c1:(aC (gI p k).op=4\/aC (gI p k).op=5)/\¬dV (szI (gI p k).op) (gAd (gI p k) (gh p k)) r.mem.length=0
 ·rw[if_pos c1];refine⟨fun g=>absurd ((ok45 c1.1).1 g.2.2) c1.2,fun _=>⟨by show ¬(2:Int)=0;decide,by show(k:Int)<=r.steps;omega⟩⟩
 rw[if_neg c1];by_cases f4:aC (gI p k).op=4
 ·rw[if_pos f4];have hc:dV (szI (gI p k).op) (gAd (gI p k) (gh p k)) r.mem.length=0:=by
   by_cases g:dV (szI (gI p k).op) (gAd (gI p k) (gh p k)) r.mem.length=0
   ·exact g
   ·exact absurd ⟨.inl f4,g⟩ c1
  have hok:=(ok45 (.inl f4)).2 hc;refine⟨fun _=>⟨hf,fun i i1 i2 => ?_, ?_, ?_, ?_,hst⟩,fun g=>absurd (hgo.2 ⟨by omega,hok⟩) g⟩
  ·show(cond _ _ _)=_;rw[a2Q hr h1 d0 d1 i1 i2,pC,sC];by_cases g:(1<=(gI p k).d/\(gI p k).d<=15)/\i=(gI p k).d.toNat
   ·rw[if_pos g,if_pos ⟨by omega,hok,g⟩];unfold gVl;rw[if_pos f4,h2]
   ·rw[if_neg g,if_neg (fun h=>g h.2.2)]
  ·rw[(hmem (by omega)).1];exact h2
  ·rw[(hmem (by omega)).2];exact h3
  ·rw[plainN (by omega)];exact w1
 rw[if_neg f4];by_cases f5:aC (gI p k).op=5
 ·rw[if_pos f5];have hc:dV (szI (gI p k).op) (gAd (gI p k) (gh p k)) r.mem.length=0:=by
   by_cases g:dV (szI (gI p k).op) (gAd (gI p k) (gh p k)) r.mem.length=0
   ·exact g
   ·exact absurd ⟨.inr f5,g⟩ c1
  have hok:=(ok45 (.inr f5)).2 hc;refine⟨fun _=>⟨hf,fun i i1 i2 => ?_, ?_, ?_, ?_,hst⟩,fun g=>absurd (hgo.2 ⟨by omega,hok⟩) g⟩
  ·rw[hregs i (by omega)];exact h1 i i1 i2
  ·show eM r.mem _=(if aC (gI p k).op=5/\gOk (gI p k) (gh p k)=true then eM (gh p k).mem (gWr (gI p k) (gh p k))else(gh p k).mem);rw[if_pos ⟨f5,hok⟩,h2,vb];rfl
  ·show r.writes++[_]=(if aC (gI p k).op=5/\gOk (gI p k) (gh p k)=true then(gh p k).wr++[gWr (gI p k) (gh p k)]else(gh p k).wr);rw[if_pos ⟨f5,hok⟩,h3,vb];rfl
  ·rw[plainN (by omega)];exact w1
 rw[if_neg f5];have hokN:4<=aC (gI p k).op->gOk (gI p k) (gh p k)=true:=fun g=>by unfold gOk;rw[if_neg (by omega)];unfold Alu.dkB;rw[if_pos (.inr (by rw[a8L];omega))]
 have wJ:6<=aC (gI p k).op->∀ i:Nat,1<=i->i<=15->r.bC i=(gh p (k+1)).bC i:=fun g i i1 i2=>by rw[hregs i (by omega)];exact h1 i i1 i2
 by_cases f6:aC (gI p k).op=6
 ·rw[if_pos f6];refine⟨fun _=>⟨hf,wJ (by omega),by rw[(hmem (by omega)).1];exact h2,by rw[(hmem (by omega)).2];exact h3, ?_,hst⟩,fun g=>absurd (hgo.2 ⟨by omega,hokN (by omega)⟩) g⟩;show(if Alu.tkB (gI p k).op (sM r.bC (gI p k).a) (sM r.bC (gI p k).b)=true then _ else _)=_;rw[va,vb,hpcn true];have e:gI p k=ix p.code (gh p k).pc:=rfl;unfold zH;rw[<-e];cases ht:gTk (gI p k) (gh p k)with
  |true => have ht':Alu.tkB (gI p k).op (gV (gh p k).bC (gI p k).a) (gV (gh p k).bC (gI p k).b)=true:=ht;rw[if_pos ht',if_pos (.inr ⟨f6,rfl⟩)];exact tgt (.inl f6)
  |false => have ht':Alu.tkB (gI p k).op (gV (gh p k).bC (gI p k).a) (gV (gh p k).bC (gI p k).b)=false:=ht;rw[ht',if_neg (by simp),if_neg (by rintro (g|⟨_,g⟩);omega;cases g)];exact w1
 rw[if_neg f6];by_cases f7:aC (gI p k).op=7
 ·rw[if_pos f7];refine⟨fun _=>⟨hf,wJ (by omega),by rw[(hmem (by omega)).1];exact h2,by rw[(hmem (by omega)).2];exact h3, ?_,hst⟩,fun g=>absurd (hgo.2 ⟨by omega,hokN (by omega)⟩) g⟩;show IntKind.i64.wrap (pc+(gI p k).imm)=_;have e:gI p k=ix p.code (gh p k).pc:=rfl;rw[hpcn true];unfold zH;rw[<-e,if_pos (.inl f7)];exact tgt (.inr f7)
 rw[if_neg f7];by_cases f8:aC (gI p k).op=8
 ·rw[if_pos f8];refine⟨fun g=>absurd f8 g.2.1,fun _=>⟨by show ¬(1:Int)=0;decide, ?_⟩⟩;show(k:Int)<=IntKind.i64.wrap (r.steps+1);rw[hst];omega
 rw[if_neg f8];have h2':¬aC (gI p k).op=0:=by have h1:=hri;simp only[bY,zaG,zaK]at h1;exact h1.1
 have hgk:gOk (gI p k) (gh p k)=Alu.dkB (gI p k).op (gI p k).d (gI p k).a (gI p k).b (gI p k).imm (sM r.bC (gI p k).b):=by rw[aR2 (by omega),vb]
 by_cases fd:Alu.dkB (gI p k).op (gI p k).d (gI p k).a (gI p k).b (gI p k).imm (sM r.bC (gI p k).b)=false
 ·rw[if_pos fd];refine⟨fun g => ?_,fun _=>⟨by show ¬(2:Int)=0;decide,by show(k:Int)<=r.steps;omega⟩⟩;have:=g.2.2;rw[hgk,fd]at this;cases this
 ·rw[if_neg fd];have hok:gOk (gI p k) (gh p k)=true:=by rw[hgk];simpa using fd
  refine⟨fun _=>⟨hf,fun i i1 i2 => ?_,by rw[(hmem (by omega)).1];exact h2,by rw[(hmem (by omega)).2];exact h3,by rw[plainN (by omega)];exact w1,hst⟩,fun g=>absurd (hgo.2 ⟨f8,hok⟩) g⟩;show(cond _ _ _)=_;rw[a2Q hr h1 d0 d1 i1 i2,pC,sC];by_cases g:(1<=(gI p k).d/\(gI p k).d<=15)/\i=(gI p k).d.toNat
  ·rw[if_pos g,if_pos ⟨by omega,hok,g⟩];unfold gVl;rw[if_neg f4,va,vb]
  ·rw[if_neg g,if_neg (fun h=>g h.2.2)]
theorem aUW:∀ k:Nat,k<=100000->((itR p k).1.fin=0->(∀ m,m<k->gGo p m)/\bC5 p k (itR p k).1 (itR p k).2)/\(¬(itR p k).1.fin=0->∃ T:Nat,T<k/\(∀ m,m<T->gGo p m)/\¬gGo p T/\(T:Int)<=(itR p k).1.steps)
 |0,_=>⟨fun _=>⟨fun m hm=>by omega,⟨fun i _ _=>rfl,rfl,rfl,rfl,rfl⟩⟩,fun h=>absurd rfl h⟩
 |k+1,hk=>by
  obtain⟨a1,a2⟩:=aUW k (by omega);have e:itR p (k+1)=if(itR p k).1.fin=0 then tY p (itR p k).1 (itR p k).2 else itR p k:=rfl;rw[e];by_cases hf:(itR p k).1.fin=0
  ·rw[if_pos hf];obtain⟨b1,b2⟩:=a1 hf;obtain⟨c1,c2⟩:=aWT hr b2 hf (by omega);by_cases hg:gGo p k
   ·obtain⟨d1,d2⟩:=c1 hg;refine⟨fun _=>⟨fun m hm => ?_,d2⟩,fun h=>absurd d1 h⟩;rcases Nat.lt_or_ge m k with h1|h1
    ·exact b1 m h1
    ·obtain rfl:m=k:=by omega
     exact hg
   ·obtain⟨d1,d2⟩:=c2 hg;exact⟨fun h=>absurd h d1,fun _=>⟨k,by omega,b1,hg,d2⟩⟩
  ·rw[if_neg hf];refine⟨fun h=>absurd h hf,fun h => ?_⟩;obtain⟨T,t1,t2⟩:=a2 h;exact⟨T,by omega,t2⟩
end
section
variable {c:Cfg} {p:Prog} {o:Nat->Int} {s:Split} (hs:Spl p o s) {D:Nat->Bool} {n k:Bool->Nat} {x y:Stt}
include hs
theorem bC6 (h:Inv c p o D n k x) (hn:n true<=1000000000) (hr:aU c s x=true) (hpe2:∀ r:Nat,1<=r->r<=15->0<=x.e.ready r/\x.e.ready r<=x.aE) (hwe:¬x.e.wait>x.aE) (hhf:x.e.halted=false) (h1:(eX c s x).e.done=x.e.done) (h2:(eX c s x).aT=x.aT) :
  ∃ m i,n true<=m/\m<=n true+p.code.length/\Dn p o D true m i=Dn p o D true (n true) (k true)/\eX c s x=atE s x/\Inv c p o D (cS n true m) (cS k true i) (atE s x)/\aU c s (atE s x)=true/\(aW s true x.e.pos).2.1=(m:Int)/\(aW s true (atE s x).e.pos).2.1=(m:Int) /\
   (aZ x m=true\/(aZ x m=false/\i<(cel p o true (rho p D m)).length/\rho p D m<p.code.length/\aD1 c x (ix (kin p o true (rho p D m)) i))):=by
 have hN:=(lN hs.rp).2;obtain⟨r1,r2,hcy,hda,hde,hra⟩:=tV hr;have hRf:¬aU c s x=false:=by rw[hr];simp
 have hh:¬x.e.halted=true:=by rw[hhf];simp
 obtain⟨m,i,B,j,a1,a2,a3,a4,a5⟩:=h.aH9 hs true (by omega) (y:=atE s x) (by funext e;cases e<;>rfl) (by funext e;cases e<;>rfl) (by funext e;cases e<;>rfl) hhf (fun hA hE hc=>by obtain⟨q1,q2,q3,q4,q5,q6,q7,q8⟩:=hc;exact⟨q1,q2,q3,q4,q5,q6,q7,q8⟩);have a2:Stl p o D true (aQ s true x.e.pos) m i B j:=a2;obtain⟨b1,b2⟩:=vG hs a2 (by omega);have e1:aW s true (atE s x).e.pos=aW s true x.e.pos:=b1;have e2:(aW s true x.e.pos).2.1=(m:Int):=by rw[b2]
 have hyy:eX c s x=atE s x/\(aZ x m=true\/(aZ x m=false/\i<(cel p o true (rho p D m)).length/\rho p D m<p.code.length/\aD1 c x (ix (kin p o true (rho p D m)) i))):=by
  unfold eX at h1 h2 ⊢;rw[if_neg (by rintro (h5|h5|h5);exact hRf h5;exact hh h5;exact hwe h5)]at h1 h2 ⊢;rw[e1,e2]at h1 h2 ⊢;by_cases hf:(aQ s true x.e.pos).2=true
  ·rw[if_pos hf]at h1 h2 ⊢;obtain⟨c1,c2⟩:=p8 h2 (by omega);exact⟨c2,.inl c1⟩
  ·rw[if_neg hf]at h1 h2 ⊢;have a2':=a2.2.resolve_right (fun h=>hf h.1);obtain⟨_,hk,hj⟩:=a2';have hi:rho p D m<p.code.length:=by have:=eO a2.1.hb;have:=a2.1.pc;omega
   by_cases hst:aZ x m=true
   ·rw[if_pos (.inl hst)];exact⟨rfl,.inl hst⟩
   ·have hstf:aZ x m=false:=by simpa using hst
    rw[if_neg (by
            rintro (h5|h5)
            ·exact hst h5
            ·rw[aUH hpe2]at h5;cases h5)]at h1 h2 ⊢
    rw[b2]at h1 h2 ⊢;simp only[hf,if_false,zaU]at h1 h2 ⊢;have hkk:=aMT hs hi (by rw[eW];exact hk);rw[<-pQ hk]at hkk ⊢;have hdone:=bG0 hde;have hsd:∀(d:cE) (a w r:Int),(onF (cV d a w r)).done=IntKind.i64.wrap (d.done+1):=fun d a w r=>by show IntKind.i64.wrap ((cV d a w r).done+1)=_;rw[(fU d a w r).2.2.2]
    have hkd:(jN (j:Int) (ix (cel p o true (rho p D m)) i)).kind=(ix (cel p o true (rho p D m)) i).kind:=rfl;rw[<-hkd]at hkk ⊢;generalize jN (j:Int) (ix (cel p o true (rho p D m)) i)=cell at h1 h2 hkk ⊢;have fin:dW c s (atE s x) cell m=atE s x/\aD1 c x cell.kind:=by
     unfold dW at h1 h2 ⊢;by_cases k1:cell.kind=1
     ·rw[if_pos k1]at h1 h2 ⊢;by_cases g:doK (atE s x).e cell.ins=true
      ·rw[if_pos g]at h1;exact absurd ((hsd _ _ _ _).symm.trans h1) hdone
      ·rw[if_neg g]at h2;have:=(p8 h2 (by omega)).1;exact absurd this hst
     rw[if_neg k1]at h1 h2 ⊢;by_cases k6:cell.kind=6
     ·rw[if_pos k6]at h1 h2 ⊢;by_cases g:(atE s x).aeq=[]
      ·rw[if_pos g];exact⟨rfl,.inl ⟨k6,g⟩⟩
      ·rw[if_neg g]at h1;exact absurd ((hsd _ _ _ _).symm.trans h1) hdone
     rw[if_neg k6]at h1 h2 ⊢;by_cases k7:cell.kind=7
     ·rw[if_pos k7]at h1 h2 ⊢;by_cases g:(qU (atE s x).ldq).2.2=true
      ·rw[if_pos g]at h1;exact absurd ((hsd _ _ _ _).symm.trans h1) hdone
      ·rw[if_neg g];refine⟨rfl,.inr (.inl ⟨k7, ?_⟩)⟩;by_cases hpq:x.ldq=[]\/(ix x.ldq 0).full=false
       ·exact hpq
       ·exfalso;apply g;show(qU x.ldq).2.2=true;unfold qU;rw[if_neg hpq]
     rw[if_neg k7]at h1 h2 ⊢;by_cases k8:cell.kind=8
     ·rw[if_pos k8]at h1 h2 ⊢;by_cases g:((atE s x).sdq.length:Int)<c.sdq
      ·rw[if_pos g]at h1;exact absurd h1 hdone
      ·rw[if_neg g];exact⟨rfl,.inr (.inr (.inl ⟨k8,Int.not_lt.1 g⟩))⟩
     rw[if_neg k8]at h1 h2 ⊢;by_cases k9:cell.kind=9
     ·rw[if_pos k9]at h1 h2 ⊢;by_cases g:((atE s x).ebq.length:Int)<c.ebq
      ·rw[if_pos g]at h1;exact absurd h1 hdone
      ·rw[if_neg g];exact⟨rfl,.inr (.inr (.inr (.inl ⟨k9,Int.not_lt.1 g⟩)))⟩
     rw[if_neg k9]at h1 h2 ⊢;by_cases k10:cell.kind=10
     ·rw[if_pos k10]at h1 h2 ⊢;by_cases g:(atE s x).abq=[]
      ·rw[if_pos g];exact⟨rfl,.inr (.inr (.inr (.inr ⟨k10,g⟩)))⟩
      ·rw[if_neg g]at h1;exact absurd h1 hdone
     rw[if_neg k10]at h1 h2 ⊢;by_cases k11:cell.kind=11
     ·rw[if_pos k11]at h1;exact absurd h1 hdone
     rw[if_neg k11]at h1 h2 ⊢;by_cases k12:cell.kind=12
     ·rw[if_pos k12]at h1;exact absurd h1 hdone
     ·omega
    exact⟨fin.1,.inr ⟨hstf,hk,hi,fin.2⟩⟩
 exact⟨m,i,a3,a4,a5,hyy.1,a1,a1L hs hr a2 (by omega),e2,by rw[e1];exact e2,hyy.2⟩
theorem bC7 {z:Stt} (hI:Inv c p o D n k z) (hza:z.a=y.a) (hn:n false<=1000000000) (hRy:aU c s y=true) (hpe:∀ r:Nat,1<=r->r<=15->0<=y.a.ready r/\y.a.ready r<=y.aE) (hwa:¬y.a.wait>y.aE) (hta:y.table=[]) (hhf:y.a.halted=false) (h3':(fL c s y).a.done=y.a.done) (h4':(fL c s y).aT=y.aT) {nE:Nat} (hnb:nE<=2000000000) (hnE:y.e.halted=false->(aW s true y.e.pos).2.1=(nE:Int)) :
  ∃ m i,n false<=m/\m<=n false+p.code.length/\Dn p o D false m i=Dn p o D false (n false) (k false)/\Inv c p o D (cS n false m) (cS k false i) (atA s z)/\(aW s false y.a.pos).2.1=(m:Int) /\
   (aZ y m=true\/(aZ y m=false/\i<(cel p o false (rho p D m)).length/\rho p D m<p.code.length/\(aC7 c y (ix (kin p o false (rho p D m)) i)\/(y.e.halted=false/\(m:Int)>=(nE:Int)+c.jW)))) /\
   (rho p D m<p.code.length->i<(cel p o false (rho p D m)).length):=by
 have hc:=mO hRy;have hg:=iG hc;have hN:=(lN hs.rp).2;obtain⟨r1,r2,hcy,hda,hde,hra⟩:=tV hRy;have hRyf:¬aU c s y=false:=by rw[hRy];simp
 have hh:¬y.a.halted=true:=by rw[hhf];simp
 obtain⟨m,i,B,j,a1,a2,a3,a4,a5⟩:=hI.aH9 hs false (by omega) (y:=atA s z) (by funext e;cases e<;>rfl) (by funext e;cases e<;>rfl) (by funext e;cases e<;>rfl) (show z.a.halted=false by rw[hza];exact hhf) (fun hA hE hc=>by obtain⟨q1,q2,q3,q4,q5,q6,q7,q8⟩:=hc;exact⟨q1,q2,q3,q4,q5,q6,q7,q8⟩);have a2:Stl p o D false (aQ s false y.a.pos) m i B j:=by have a2:Stl p o D false (aQ s false z.a.pos) m i B j:=a2;rw[hza]at a2;exact a2
 obtain⟨b1,b2⟩:=vG hs a2 (by omega);have e1:aW s false (atA s y).a.pos=aW s false y.a.pos:=b1;have e2:(aW s false y.a.pos).2.1=(m:Int):=by rw[b2]
 have hkk:rho p D m<p.code.length->i<(cel p o false (rho p D m)).length:=fun h5=>by
  rcases a2.2 with h6|h6
  ·exact h6.2.1
  ·omega
 refine⟨m,i,a3,a4,a5,a1,e2, ?_,hkk⟩;by_cases hsm:aZ y m=true
 ·exact .inl hsm
 have hsmf:aZ y m=false:=by simpa using hsm
 refine .inr ⟨hsmf, ?_⟩;unfold fL at h3' h4';rw[if_neg (by rintro (h5|h5|h5);exact hRyf h5;exact hh h5;exact hwa h5)]at h3' h4';rw[e1,e2]at h3' h4';by_cases hf:(aQ s false y.a.pos).2=true
 ·rw[if_pos hf]at h4';exact absurd (p8 h4' (by omega)).1 hsm
 rw[if_neg hf]at h3' h4';have a2':=a2.2.resolve_right (fun h=>hf h.1);obtain⟨_,hk,hj⟩:=a2';have hi:rho p D m<p.code.length:=by have:=eO a2.1.hb;have:=a2.1.pc;omega
 refine⟨hk,hi, ?_⟩;by_cases hah:qW c s (atA s y)=true
 ·refine .inr ?_;unfold qW at hah;simp only[zaG,zaK,Bool.not_eq_true']at hah;have h5:y.e.halted=false:=hah.1;refine⟨h5, ?_⟩;have h6:=hah.2.2.2;have h7:(aW s true (atA s y).e.pos).2.1=(nE:Int):=hnE h5;rw[e1,e2,h7,wrap_i64 (by omega) (by omega)]at h6;exact h6
 refine .inl ?_;rw[if_neg (by
         rintro (h5|h5|h5)
         ·exact hsm h5
         ·exact hah h5
         ·rw[aUH hpe]at h5;cases h5)]at h3' h4'
 rw[b2]at h3' h4';simp only[hf,if_false,zaU]at h3' h4';have hkd:=aMU hs hi (by rw[eW];exact hk);rw[<-pQ hk]at hkd ⊢;have hdone:¬IntKind.i64.wrap (y.a.done+1)=y.a.done:=bG0 hda;have hsd:∀(d:cE) (a w r:Int),(onF (cV d a w r)).done=IntKind.i64.wrap (d.done+1):=fun d a w r=>by show IntKind.i64.wrap ((cV d a w r).done+1)=_;rw[(fU d a w r).2.2.2]
 have hkd2:(jN (j:Int) (ix (cel p o false (rho p D m)) i)).kind=(ix (cel p o false (rho p D m)) i).kind:=rfl;rw[<-hkd2]at hkd ⊢;generalize jN (j:Int) (ix (cel p o false (rho p D m)) i)=cell at h3' h4' hkd ⊢;have hty:y.table=[]:=hta;unfold dN at h3' h4';by_cases k1:cell.kind=1
 ·rw[if_pos k1]at h3' h4';by_cases g:doK (atA s y).a cell.ins=true
  ·rw[if_pos g]at h3';exact absurd ((hsd _ _ _ _).symm.trans h3') hdone
  ·rw[if_neg g]at h4';exact absurd (p8 h4' (by omega)).1 hsm
 rw[if_neg k1]at h3' h4';by_cases k5:cell.kind=5
 ·rw[if_pos k5]at h3' h4';by_cases g:((atA s y).aeq.length:Int)<c.aeq
  ·rw[if_pos g]at h3';exact absurd h3' hdone
  ·exact .inl ⟨k5,Int.not_lt.1 g⟩
 rw[if_neg k5]at h3' h4';by_cases k2:cell.kind=2\/cell.kind=3
 ·rw[if_pos k2,jC c (atA s y) cell _ _ rfl]at h3' h4';by_cases g0:dV (szI cell.ins.op) (gY (atA s y).a cell.ins) (atA s y).mem.length=0
  case neg => rw[if_pos g0]at h4';exact absurd (p8 h4' g0).1 hsm
  rw[if_neg (fun h5=>h5 g0)]at h3' h4';by_cases g1:((fK (atA s y).saq (IntKind.i64.wrap (gY (atA s y).a cell.ins)) (szI cell.ins.op)).2=true/\(o9 (fK (atA s y).saq (IntKind.i64.wrap (gY (atA s y).a cell.ins)) (szI cell.ins.op)).1 cell.ins.op (IntKind.i64.wrap (gY (atA s y).a cell.ins))).2=false)\/((fK (atA s y).saq (IntKind.i64.wrap (gY (atA s y).a cell.ins)) (szI cell.ins.op)).2=false/\((atA s y).table.length:Int)>=c.bN)
  ·refine .inr (.inl ⟨k2,fun hnil => ?_⟩);rcases g1 with⟨g1,_⟩|⟨_,g1⟩
   ·have h5:(atA s y).saq=[]:=hnil;rw[h5]at g1;cases g1
   ·have h5:(atA s y).table=[]:=hty;rw[h5,List.length_nil]at g1;omega
  rw[if_neg g1]at h3' h4';by_cases k3:cell.kind=3
  ·rw[if_pos k3]at h3' h4';by_cases g2:((atA s y).ldq.length:Int)>=c.ldq
   ·exact .inr (.inr (.inl ⟨k3,g2⟩))
   ·rw[if_neg g2]at h3';split at h3'
    ·exact absurd h3' hdone
    ·exact absurd h3' hdone
  ·rw[if_neg k3]at h3';split at h3'
   ·exact absurd ((hsd _ _ _ _).symm.trans h3') hdone
   ·exfalso;have h5:IntKind.i64.wrap (cE.done (if cell.ins.d=0 then(atA s y).a else { (atA s y).a with ready:=fun i=>cond (Nat.beq i cell.ins.d.toNat) (-1) ((atA s y).a.ready i) })+1)=y.a.done:=h3';split at h5
    ·exact hdone h5
    ·exact hdone h5
 rw[if_neg k2]at h3' h4';by_cases k4:cell.kind=4
 ·rw[if_pos k4]at h3' h4';by_cases g0:dV (szI cell.ins.op) (gY (atA s y).a cell.ins) (atA s y).mem.length=0
  case neg => rw[if_pos g0]at h4';exact absurd (p8 h4' g0).1 hsm
  rw[if_neg (fun h5=>h5 g0)]at h3' h4';by_cases g2:((atA s y).saq.length:Int)>=c.saq
  ·exact .inr (.inr (.inr (.inl ⟨k4,g2⟩)))
  ·rw[if_neg g2]at h3';exact absurd h3' hdone
 rw[if_neg k4]at h3' h4';by_cases k9:cell.kind=9
 ·rw[if_pos k9]at h3' h4';by_cases g:((atA s y).abq.length:Int)<c.abq
  ·rw[if_pos g]at h3';exact absurd h3' hdone
  ·exact .inr (.inr (.inr (.inr (.inl ⟨k9,Int.not_lt.1 g⟩))))
 rw[if_neg k9]at h3' h4';by_cases k10:cell.kind=10
 ·rw[if_pos k10]at h3' h4';by_cases g:(atA s y).ebq=[]
  ·exact .inr (.inr (.inr (.inr (.inr ⟨k10,g⟩))))
  ·rw[if_neg g]at h3';exact absurd h3' hdone
 rw[if_neg k10]at h3' h4';by_cases k11:cell.kind=11
 ·rw[if_pos k11]at h3';exact absurd h3' hdone
 rw[if_neg k11]at h3' h4';by_cases k12:cell.kind=12
 ·rw[if_pos k12]at h3';exact absurd h3' hdone
 ·omega
end
structure wX (p:Prog) (T:Nat):Prop where
 go:∀ m,m<T->gGo p m
 no:¬gGo p T
theorem wX.le {p:Prog} {T m:Nat} (h:wX p T) (hm:¬gGo p m):T<=m:=by
 rcases Nat.lt_or_ge m T with h1|h1
 ·exact absurd (h.go m h1) hm
 ·exact h1
theorem a66 {p:Prog} {m:Nat} (h:a2G p m):¬gGo p m:=by
 rintro ⟨h1,_,h3⟩;rcases h with h|h
 ·rw[mP]at h;omega
 ·rw[h]at h3;cases h3
theorem bC8 {p:Prog} {o:Nat->Int} {D:Nat->Bool} {e:Bool} {n k m:Nat} {c:Cell} (hm:m<n) (hc:c∈cel p o e (rho p D m)):(m,c)∈Dn p o D e n k:=by unfold Dn;exact List.mem_append_left _ (List.mem_flatMap.2 ⟨m,List.mem_range.2 hm,List.mem_map.2 ⟨c,hc,rfl⟩⟩)
theorem bHC {p:Prog} {o:Nat->Int} {D:Nat->Bool} {e:Bool} {n k:Nat} {z:Nat×Cell} (hz:z∈Dn p o D e n k):z.1<=n:=by
 unfold Dn at hz;rcases List.mem_append.1 hz with h|h
 ·obtain⟨m,hm,h1⟩:=List.mem_flatMap.1 h;obtain⟨c,_,rfl⟩:=List.mem_map.1 h1;have:=List.mem_range.1 hm;show m<=n;omega
 ·obtain⟨c,_,rfl⟩:=List.mem_map.1 h;exact zaF _
section
variable {c:Cfg} {p:Prog} {o:Nat->Int} {s:Split} (hs:Spl p o s) {T:Nat} {n k:Bool->Nat} {x:Stt} {tb:List Req}
theorem aUX {D:Nat->Bool} {m:Nat} (h:p.code.length<=rho p D m):∀ j,rho p D (m+j)=rho p D m+j
 |0=>rfl
 |j+1=>by have h1:=aUX h j;show zH p (rho p D (m+j)) (D (m+j))=_;rw[h1];unfold zH;rw[aEW (by omega),if_neg (by rintro (g|⟨g,_⟩)<;>exact absurd g (by decide))];omega
include hs
theorem a2R (hi:Inv c p o (gD p) n k x) (h:p.code.length<=(gh p T).pc) (e:Bool):n e<=T:=by
 have _:=hs;rcases Nat.lt_or_ge T (n e)with h1|h1
 ·exfalso;obtain⟨B,j,hp⟩:=hi.ctl.pr e;have h2:=eO hp.hb;have h3:=hp.pc;have h4:=aUX (p:=p) (D:=gD p) (m:=T) (by rw[mP];exact h) (n e-T);rw[show T+(n e-T)=n e by omega,mP (n:=T)]at h4;rcases hp.here with h5|h5<;>omega
 ·exact h1
theorem aM5 (hi:Inv c p o (gD p) n k x) (h:aC (gI p T).op=8) (e:Bool):n e<=T:=by
 have _:=hs;rcases Nat.lt_or_ge T (n e)with h1|h1
 ·exfalso;have h2:=hi.ctl.nh e T h1;rw[mP]at h2;exact h2 h
 ·exact h1
theorem a2S (hT:wX p T):∃ f:Bool,∀(c:Cfg) (n k:Bool->Nat) (x:Stt) (tb:List Req),Inv c p o (gD p) n k x->Val p (Dn p o (gD p) false (n false) (k false)) (Dn p o (gD p) true (n true) (k true)) x tb->n f<=T:=by
 by_cases h1:(gh p T).pc<p.code.length
 case neg=>exact⟨false,fun c n k x tb hi _=>a2R hs hi (by omega) false⟩
 by_cases h2:aC (gI p T).op=8
 ·exact⟨false,fun c n k x tb hi _=>aM5 hs hi h2 false⟩
 have hok:gOk (gI p T) (gh p T)=false:=by
  cases h3:gOk (gI p T) (gh p T)with
  |false=>rfl
  |true=>exact absurd ⟨h1,h2,h3⟩ hT.no
 obtain⟨S,tA,tE,c1,c2,hS,hl,hsh⟩:=xY hs.cl h1;have hI:ix p.code (gh p T).pc=gI p T:=rfl;rw[hI]at hsh;have fin:∀(f:Bool) (cell:Cell),cell∈cel p o f (gh p T).pc->1<=cell.kind->cell.kind<=4->∃ f:Bool,∀(c:Cfg) (n k:Bool->Nat) (x:Stt) (tb:List Req),Inv c p o (gD p) n k x->Val p (Dn p o (gD p) false (n false) (k false)) (Dn p o (gD p) true (n true) (k true)) x tb->n f<=T:=fun f cell hc k1 k2=>by
  refine⟨f,fun c n k x tb hi hv => ?_⟩;rcases Nat.lt_or_ge T (n f)with h4|h4
  ·exfalso;have h5:(T,cell)∈Dn p o (gD p) f (n f) (k f):=bC8 h4 (by rw[mP];exact hc);have h6:okC p (T,cell):=by
    cases f
    ·exact hv.oa _ h5
    ·exact hv.oe _ h5
   have h7:gOk (gI p T) (gh p T)=true:=h6 ⟨k1,k2⟩;rw[hok]at h7;cases h7
  ·exact h4
 have high:6<=aC (gI p T).op->False:=fun h3=>by
  have:gOk (gI p T) (gh p T)=true:=by unfold gOk;rw[if_neg (by omega)];unfold Alu.dkB;rw[if_pos (.inr (by rw[a8L];omega))]
  rw[hok]at this;cases this
 rcases hsh with g|g|g|g|g|g|g|g|g
 ·exact fin false (cI 1 (gI p T) (gh p T).pc 0) (by rw[c1,g.2.1];simp) (by show(1:Int)<=1;decide) (by show(1:Int)<=4;decide)
 ·exact fin true (cI 1 (gI p T) (gh p T).pc 0) (by rw[c2,g.2.2.1];simp) (by show(1:Int)<=1;decide) (by show(1:Int)<=4;decide)
 ·exact fin false (cI 3 (gI p T) (gh p T).pc 0) (by rw[c1,g.2.1];simp) (by show(1:Int)<=3;decide) (by show(3:Int)<=4;decide)
 ·exact fin false (cI 2 (gI p T) (gh p T).pc 0) (by rw[c1,g.2.1];simp) (by show(1:Int)<=2;decide) (by show(2:Int)<=4;decide)
 ·exact fin false (cI 4 (gI p T) (gh p T).pc 0) (by rw[c1,g.2.1];simp) (by show(1:Int)<=4;decide) (by show(4:Int)<=4;decide)
 all_goals exact(high (by omega)).elim
theorem aUY (hT:wX p T) (hi:Inv c p o (gD p) n k x) {e:Bool} (h:fO x e=true):T<=n e/\aC (gI p (n e)).op=8:=by have _:=hs;have h1:=hi.hal e h;rw[mP]at h1;exact⟨hT.le fun g=>g.2.1 h1,h1⟩
end
def uc (T:Nat) (l:List (Nat×Cell)):Nat:=l.countP fun z=>decide (z.1<=T)
def ld (l:List (Nat×Cell)):Nat:=l.countP fun z=>decide (z.2.kind=2\/z.2.kind=3)
theorem aD8 {T:Nat} {l r:List (Nat×Cell)}:uc T (l++r)=uc T l+uc T r:=List.countP_append
theorem aA2 {l r:List (Nat×Cell)}:ld (l++r)=ld l+ld r:=List.countP_append
theorem aR5 {T m:Nat} {c:Cell}:uc T [(m,c)]=if m<=T then 1 else 0:=by unfold uc;by_cases h:m<=T<;>simp[h]
theorem a2T {m:Nat} {c:Cell}:ld [(m,c)]=if c.kind=2\/c.kind=3 then 1 else 0:=by unfold ld;by_cases h:c.kind=2\/c.kind=3<;>simp[h]
section
variable {p:Prog} {o:Nat->Int} (hc:eJ p o=true) {D:Nat->Bool} {T:Nat} {e:Bool}
def aA3 (p:Prog) (o:Nat->Int) (D:Nat->Bool) (e:Bool) (m:Nat):Nat:=(cel p o e (rho p D m)).length
theorem aUZ:∀ n:Nat,uc T ((List.range n).flatMap fun m=>(cel p o e (rho p D m)).map (Prod.mk m))<=tot (aA3 p o D e) (min n (T+1))
 |0=>Nat.zero_le _
 |n+1=>by
  rw[fT,aD8];have h1:=aUZ n;rcases Nat.lt_or_ge T n with h2|h2
  ·have e1:uc T ((cel p o e (rho p D n)).map (Prod.mk n))=0:=by
    unfold uc;rw[List.countP_eq_zero];intro z hz;obtain⟨c,_,rfl⟩:=List.mem_map.1 hz;simp;omega
   rw[e1];rw[show min n (T+1)=T+1 by omega]at h1;rw[show min (n+1) (T+1)=T+1 by omega];exact h1
  ·have e1:uc T ((cel p o e (rho p D n)).map (Prod.mk n))<=aA3 p o D e n:=by
    have:=List.countP_le_length (p:=fun z:Nat×Cell=>decide (z.1<=T)) (l:=(cel p o e (rho p D n)).map (Prod.mk n));rw[List.length_map]at this;exact this
   rw[show min n (T+1)=n by omega]at h1;rw[show min (n+1) (T+1)=n+1 by omega];show _<=tot (aA3 p o D e) n+aA3 p o D e n;omega
theorem a8S {n k:Nat}:uc T (Dn p o D e n k)<=tot (aA3 p o D e) (T+1):=by
 have h1:uc T (Dn p o D e n k)<=uc T (Dn p o D e (n+1) 0):=by
  rw[<-r7]
  conv=>lhs;rw[p5]
  conv=>rhs;rw[p5,List.take_length]
  rw[aD8,aD8];have:=((List.take_sublist k (cel p o e (rho p D n))).map (Prod.mk n)).countP_le (p:=fun z:Nat×Cell=>decide (z.1<=T));unfold uc;omega
 have h2:Dn p o D e (n+1) 0=(List.range (n+1)).flatMap fun m=>(cel p o e (rho p D m)).map (Prod.mk m):=by unfold Dn;simp
 rw[h2]at h1;have h3:=aUZ (p:=p) (o:=o) (D:=D) (T:=T) (e:=e) (n+1);have h4:=pB (f:=aA3 p o D e) (show min (n+1) (T+1)<=T+1 by omega);omega
include hc
theorem aU0 (m:Nat):aA3 p o D false m+aA3 p o D true m+cK p o D false 4 m<=7/\ld ((cel p o false (rho p D m)).map (Prod.mk m))<=1:=by
 unfold aA3 cK kin;by_cases hi:rho p D m<p.code.length
 case neg=>rw[oO (by omega),oO (by omega)];exact⟨by simp,by simp[ld]⟩
 obtain⟨S,tA,tE,c1,c2,hS,hl,hs⟩:=xY hc hi;have ht:=aUO hc hs;rw[c1,c2];refine⟨?_, ?_⟩
 ·have e5:((S.map (cR 5 (rho p D m:Int) 0)).map Cell.kind).count 4=0:=by
   rw[List.count_eq_zero];intro h;obtain⟨c,hc,h1⟩:=List.mem_map.1 h;obtain⟨r,_,rfl⟩:=List.mem_map.1 hc;exact absurd h1 (by decide:¬(5:Int)=4)
  have e6:(tA.map Cell.kind).count 4<=tA.length:=by
   have:=List.count_le_length (a:=(4:Int)) (l:=tA.map Cell.kind)
   rwa [List.length_map]at this
  rw[List.map_append,List.count_append,e5];simp only[List.length_append,List.length_map];omega
 ·rw[List.map_append,aA2];have e5:ld ((S.map (cR 5 (rho p D m:Int) 0)).map (Prod.mk m))=0:=by
   unfold ld;rw[List.countP_eq_zero];intro z hz;obtain⟨c,hc,rfl⟩:=List.mem_map.1 hz;obtain⟨r,_,rfl⟩:=List.mem_map.1 hc;show ¬decide ((5:Int)=2\/(5:Int)=3)=true;decide
  have e6:ld (tA.map (Prod.mk m))<=tA.length:=by
   have:=List.countP_le_length (p:=fun z:Nat×Cell=>decide (z.2.kind=2\/z.2.kind=3)) (l:=tA.map (Prod.mk m))
   rwa [List.length_map]at this
  omega
theorem aU1:∀ n:Nat,tot (aA3 p o D false) n+tot (aA3 p o D true) n+tot (cK p o D false 4) n<=7*n
 |0=>zaF _
 |n+1=>by have h1:=aU1 n;have h2:=(aU0 hc (D:=D) n).1;show tot (aA3 p o D false) n+aA3 p o D false n+(tot (aA3 p o D true) n+aA3 p o D true n)+(tot (cK p o D false 4) n+cK p o D false 4 n)<=_;omega
theorem aU2:∀ n:Nat,ld (Dn p o D false n 0)<=n
 |0=>by unfold Dn ld;simp
 |n+1=>by have h1:=aU2 n;have h2:=(aU0 hc (D:=D) n).2;rw[<-r7,p5,List.take_length,aA2];omega
theorem bHD {n k:Nat}:ld (Dn p o D false n k)<=n+1:=by
 have h1:ld (Dn p o D false n k)<=ld (Dn p o D false (n+1) 0):=by
  rw[<-r7]
  conv=>lhs;rw[p5]
  conv=>rhs;rw[p5,List.take_length]
  rw[aA2,aA2];have:=((List.take_sublist k (cel p o false (rho p D n))).map (Prod.mk n)).countP_le (p:=fun z:Nat×Cell=>decide (z.2.kind=2\/z.2.kind=3));unfold ld;omega
 have:=aU2 hc (D:=D) (n+1);omega
end
section
variable {c:Cfg} {p:Prog} {o:Nat->Int} {s:Split} (hs:Spl p o s) {T:Nat} {n k:Bool->Nat} {x:Stt}
include hs
theorem aU3 {f:Bool} (hf:n f<=T) (hi:Inv c p o (gD p) n k x):uc T (Dn p o (gD p) false (n false) (k false))+uc T (Dn p o (gD p) true (n true) (k true))+x.writes.length<=7*(T+1):=by
 have h1:=a8S (p:=p) (o:=o) (D:=gD p) (T:=T) (e:=false) (n:=n false) (k:=k false);have h2:=a8S (p:=p) (o:=o) (D:=gD p) (T:=T) (e:=true) (n:=n true) (k:=k true);have h3:=aU1 hs.cl (D:=gD p) (T+1);have h4:x.writes.length<=tot (cK p o (gD p) false 4) (T+1):=by
  obtain⟨q1,q2,⟨pre,q3,q3'⟩,q4,_⟩:=hi.cnt;have q3l:=congrArg List.length q3;simp only[List.length_map,List.length_append,nZ,q3']at q3l;cases f with
  |false => have h5:kc 4 (Dn p o (gD p) false (n false) (k false))<=tot (cK p o (gD p) false 4) (n false+1):=aPM;have h6:=pB (f:=cK p o (gD p) false 4) (show n false+1<=T+1 by omega);omega
  |true => have h5:kc 8 (Dn p o (gD p) true (n true) (k true))<=tot (cK p o (gD p) true 8) (n true+1):=aPM;have h6:=pB (f:=cK p o (gD p) true 8) (show n true+1<=T+1 by omega);have h7:tot (cK p o (gD p) true 8) (T+1)=tot (cK p o (gD p) false 4) (T+1):=a09 (fun m=>((bal (o:=o) (D:=gD p) hs.rp m).2.2.1).symm) _;omega
 omega
end
structure Tm (T:Nat) (n:Bool->Nat) (x:Stt) (w:Int):Prop where
 a:n false<=T->(∀ r:Nat,1<=r->r<=15->x.a.ready r<=x.aE+w)/\x.a.wait<=x.aE+w
 e:n true<=T->(∀ r:Nat,1<=r->r<=15->x.e.ready r<=x.aE+w)/\x.e.wait<=x.aE+w
def sQ (c:Cfg) (T:Nat) (x:Stt):Int:=if x.saq=[]\/knS x.saq=1\/(ix x.saq 0).step>(T:Int)then 0 else c.lat+2
def b2i (b:Bool):Int:=if b then 1 else 0
def lft (T:Nat) (hA hE:List (Nat×Cell)) (x:Stt):Int:=7*((T:Int)+1)+2-((uc T hA:Int)+(uc T hE:Int)+(x.writes.length:Int)+b2i x.a.halted+b2i x.e.halted)
def Pt (c:Cfg) (p:Prog) (o:Nat->Int) (s:Split) (T:Nat) (n k:Bool->Nat) (x:Stt) (m:Int):Prop := ∃ w:Int,0<=w/\Tm T n x w/\w+eD (wgI c.lat) x.table+sQ c T x+tP s x+(c.lat+1)*((T:Int)+66-(ld (Dn p o (gD p) false (n false) (k false)):Int))+cZ c*lft T (Dn p o (gD p) false (n false) (k false)) (Dn p o (gD p) true (n true) (k true)) x<=m
structure Rch (c:Cfg) (p:Prog) (o:Nat->Int) (T:Nat) (n k:Bool->Nat) (x:Stt):Prop where
 inv:Inv c p o (gD p) n k x
 val:Val p (Dn p o (gD p) false (n false) (k false)) (Dn p o (gD p) true (n true) (k true)) x x.table
 trp:¬x.aT.kind=0->(T:Int)<=x.aT.step
 ldb:ld (Dn p o (gD p) false (n false) (k false))<=T+66
theorem aU4 {c:Cfg} (hc:0<=c.lat) (T:Nat) (x:Stt):0<=sQ c T x/\sQ c T x<=c.lat+2:=by unfold sQ;split<;>omega
theorem aU5 (b:Bool):0<=b2i b/\b2i b<=1:=by cases b<;>decide
theorem TrS.ge {p:Prog} {T:Nat} (hT:wX p T) {x y:Stt} (h:TrS p x y) (hx:¬x.aT.kind=0->(T:Int)<=x.aT.step):¬y.aT.kind=0->(T:Int)<=y.aT.step:=fun hk=>by
 rcases h with h|⟨_,m,h1,h2⟩
 ·rw[h]at hk ⊢;exact hx hk
 ·have:=hT.le (a66 h2);omega
theorem a2U {s:Split} {x y:Stt} (h:y.aT=x.aT) {e:Bool} (hp:dX y (!e)=dX x (!e)) (hh:fO y (!e)=fO x (!e)) (hr:p4 s x e=false):tP s y<=tP s x:=by
 have h1:p4 s y (!e)=p4 s x (!e):=by unfold p4 aZ;rw[hp,hh,h]
 unfold tP;cases e with
 |true =>
  have h1:p4 s y false=p4 s x false:=h1;rw[h1,hr];have:(if p4 s y true=true then(0:Int)else 1)<=1:=by split<;>omega
  simp only[zaU,if_false];omega
 |false =>
  have h1:p4 s y true=p4 s x true:=h1;rw[h1,hr];have:(if p4 s y false=true then(0:Int)else 1)<=1:=by split<;>omega
  simp only[zaU,if_false];omega
section
variable {c:Cfg} {p:Prog} {o:Nat->Int} {s:Split} (hs:Spl p o s) {T:Nat} {n k:Bool->Nat} {x:Stt}
include hs
theorem bC9 {f:Bool} (hf:n f<=T) (hi:Inv c p o (gD p) n k x) (hcan:oK c x=true):¬(ix x.saq 0).step>(T:Int):=by
 simp only[oK,zaG,zaK,Bool.not_eq_true']at hcan;obtain⟨u1,u2,u3,_⟩:=hcan;have l8:0<x.saq.length:=List.length_pos_iff.2 u1;have l4:0<x.sdq.length:=List.length_pos_iff.2 u3;obtain⟨q1,q2,⟨pre,q3,q3'⟩,q4,_⟩:=hi.cnt;have q3l:=congrArg List.length q3;simp only[List.length_map,List.length_append,nZ,q3']at q3l;have k0:knS x.saq=0:=by unfold knS;rw[if_neg];rintro ⟨_,h1⟩;rw[h1]at u2;cases u2
 rw[k0]at q4;have lA:x.writes.length<(stK 4 (Dn p o (gD p) false (n false) (k false))).length:=by rw[nZ];omega
 have lE:x.writes.length<(stK 8 (Dn p o (gD p) true (n true) (k true))).length:=by rw[nZ];omega
 have hst:((ix (stK 4 (Dn p o (gD p) false (n false) (k false))) x.writes.length:Nat):Int)=(ix x.saq 0).step:=by
  have h2:ix ((stK 4 (Dn p o (gD p) false (n false) (k false))).map (fun m:Nat=>(m:Int))) x.writes.length=ix (pre++x.saq.map Entry.step) x.writes.length:=by rw[q3]
  rw[nI lA,dJ,q3',if_neg (Nat.lt_irrefl _),Nat.sub_self,nI l8]at h2;exact h2
 have eA:stK 4 (Dn p o (gD p) false (n false) (k false))=vK 4 (fun z=>z.1) (Dn p o (gD p) false (n false) (k false)):=rfl;have eE:stK 8 (Dn p o (gD p) true (n true) (k true))=vK 8 (fun z=>z.1) (Dn p o (gD p) true (n true) (k true)):=rfl;have hpp:=a1U hs.cl (n:=n false) (k:=k false) (n':=n true) (k':=k true) (fun m=>m);have heq:ix (stK 4 (Dn p o (gD p) false (n false) (k false))) x.writes.length=ix (stK 8 (Dn p o (gD p) true (n true) (k true))) x.writes.length:=by rw[eA,eE];exact a2A hpp.1 hpp.2 lA lE
 have inS:∀ {e:Bool} {K:Int} {i:Nat},i<(stK K (Dn p o (gD p) e (n e) (k e))).length->ix (stK K (Dn p o (gD p) e (n e) (k e))) i<=n e:=fun {e K i} h=>by have h1:=cA h;unfold stK at h1;obtain⟨z,hz,h2⟩:=List.mem_map.1 h1;have:=bHC (List.mem_filter.1 hz).1;unfold stK;omega
 cases f with
 |false=>have:=inS lA;omega
 |true=>have:=inS lE;omega
theorem a67 (hT:wX p T) {f:Bool} (hF:∀(c:Cfg) (n k:Bool->Nat) (x:Stt) (tb:List Req),Inv c p o (gD p) n k x->Val p (Dn p o (gD p) false (n false) (k false)) (Dn p o (gD p) true (n true) (k true)) x tb->n f<=T)
  (hi:Inv c p o (gD p) n k x) (hv:Val p (Dn p o (gD p) false (n false) (k false)) (Dn p o (gD p) true (n true) (k true)) x x.table) (hn:n true<=1000000000) (hsl:1<=c.jW/\c.jW<=64) {n' k':Bool->Nat} {y:Stt} (hi':Inv c p o (gD p) n' k' y) {m:Nat} (hm:m<=n' false)
  (hF':n' f<=T) (hah:x.e.halted=true\/(aW s true x.e.pos).2.2=false\/(m:Int)<IntKind.i64.wrap ((aW s true x.e.pos).2.1+c.jW)):m<=T+63:=by
 have hN:=(lN hs.rp).2;cases f with
 |false=>omega
 |true =>
 have hn1:=hF c n k x x.table hi hv;by_cases hh:x.e.halted=true
 ·obtain⟨h1,h2⟩:=aUY hs hT hi (e:=true) hh;have h3:n true=T:=by omega
  rw[h3]at h2;have:=aM5 hs hi' h2 false;omega
 have hhf:x.e.halted=false:=by simpa using hh
 obtain⟨mE,iE,B,j,a1,a2,a3,a4,a5⟩:=hi.aH9 hs true (by omega) (y:=atE s x) (by funext e;cases e<;>rfl) (by funext e;cases e<;>rfl) (by funext e;cases e<;>rfl) hhf (fun hA hE hc=>by obtain⟨q1,q2,q3,q4,q5,q6,q7,q8⟩:=hc;exact⟨q1,q2,q3,q4,q5,q6,q7,q8⟩);have a2:Stl p o (gD p) true (aQ s true x.e.pos) mE iE B j:=a2;obtain⟨_,b2⟩:=vG hs a2 (by omega);have hmE:mE<=T:=hF c _ _ _ x.table a1 (by show Val p (Dn p o (gD p) false (n false) (k false)) (Dn p o (gD p) true mE iE) (atE s x) (atE s x).table;rw[a5];exact hv.same ⟨rfl,rfl,rfl,rfl,rfl,rfl,rfl,rfl,rfl,rfl,rfl⟩);rcases hah with g|g|g
 ·exact absurd g hh
 ·rw[b2]at g;have g:(aQ s true x.e.pos).2=true:=by simpa using g
  have h1:rho p (gD p) mE=p.code.length:=by
   rcases a2.2 with h|h
   ·rw[h.1]at g;cases g
   ·exact h.2.1
  rw[mP]at h1;have h2:=hT.le (m:=mE) fun h3=>by have:=h3.1;omega
  have h3:mE=T:=by omega
  rw[h3]at h1;have:=a2R hs hi' (T:=T) (by omega) false;omega
 ·rw[b2]at g;have g:(m:Int)<IntKind.i64.wrap ((mE:Int)+c.jW):=g;rw[wrap_i64 (by omega) (by omega)]at g;omega
end
theorem aIB {c:Cfg} (hc:cX c=true):cZ c=8+c.mul+c.div+4*((c.bN+2)*(c.lat+2)):=by unfold cZ;rw[if_neg (by rw[hc];simp)]
theorem a2V {c:Cfg} {p:Prog} {o:Nat->Int} {D:Nat->Bool} {n k:Bool->Nat} {s:Split} {T:Nat} {x:Stt} (h:Inv c p o D n k x) (hr:aU c s x=true):c.mul+c.div+eD (wgI c.lat) x.table+sQ c T x+tP s x<cZ c:=by
 have hc:=mO hr;have hg:=iG hc;have h1:=a8H h.cnt.lf;have h2:=aU4 (c:=c) (by omega) T x;have h3:=aD2 s x;have h4:(x.table.length:Int)<=c.bN:=by simp only[aU,aPD,zaG,zaK]at hr;exact hr.2.2.2.2.1.2.2.2.2.2.2.1
 have h5:(x.table.length:Int)*(c.lat+1)<=c.bN*(c.lat+1):=Int.mul_le_mul_of_nonneg_right h4 (by omega);rw[aIB hc];have e1:(c.bN+2)*(c.lat+2)=c.bN*(c.lat+1)+c.bN+2*c.lat+4:=by rw[Int.add_mul,show c.lat+2=(c.lat+1)+1 by omega,Int.mul_add c.bN (c.lat+1) 1];omega
 have h6:0<=c.bN*(c.lat+1):=Int.mul_nonneg (by omega) (by omega);omega
theorem aU6 {c:Cfg} {s:Split} {x:Stt} (h:pY c s x=false):aU c s x=true:=by
 unfold pY at h;cases hr:aU c s x with
 |true=>rfl
 |false=>rw[hr]at h;simp at h
theorem aWU {c:Cfg} {s:Split} {x:Stt} {v:Int} (h:aU c s { x with aE:=v }=true) (hv:0<=x.aE/\x.aE<=1099511627776):aU c s x=true:=by unfold aU at h ⊢;simp only[cD,List.all_cons,List.all_nil,zaG,zaT,zaK]at h ⊢;exact⟨h.1,h.2.1,h.2.2.1,⟨hv,h.2.2.2.1.2⟩,h.2.2.2.2⟩
theorem a2W {c:Cfg} {s:Split} {x:Stt} (t:bF) (hr:aU c s x=true) (ha:Adv c.lat x (jY c t x)) (ht:Tim x (c.mul+c.div)):Tim (lV c s t x) (c.mul+c.div):=by
 have hc:=mO hr;have hg:=iG hc;obtain⟨_,_,hcy,_⟩:=tV hr;obtain⟨s1,s2,s3,s4,s5,s6,s7,s8,s9,s10,_⟩:=ha.same;have e0:lV c s t x = { fL c s (eX c s (fV c (jY c t x)))with aE:=IntKind.i64.wrap ((fL c s (eX c s (fV c (jY c t x)))).aE+1) }:=by unfold lV;rw[if_pos hr]
 rw[e0];generalize jY c t x=x1 at ha s1 s2 s10;have f2:=aUJ c x1;generalize fV c x1=x2 at f2;have c2:x2.aE=x.aE:=by rw[f2.2.2.1,s1]
 have f3:=aMV c s x2;have ry2:Rdy x2.e (x.aE+1+(c.mul+c.div)):=by rw[f2.2.1,s2];exact⟨fun r a b=>by have:=ht.e r a b;omega,by have:=ht.we;omega⟩
 have ry3:=a1N (s:=s) hc (by rw[c2];omega) (by rw[c2];omega) ry2;have ra2:Rdy x2.a (x.aE+1+(c.mul+c.div)):=by
  rw[f2.1];refine⟨fun r a b => ?_,by have:=ht.wa;rw[s10];omega⟩;rcases ha.rd r with h1|h1
  ·rw[h1];have:=ht.a r a b;omega
  ·rw[h1];omega
 have ra3:Rdy (eX c s x2).a (x.aE+1+(c.mul+c.div)):=by rw[f3.1];exact ra2
 have c3:(eX c s x2).aE=x.aE:=by rw[f3.2.2,c2]
 generalize eX c s x2=x3 at ry3 ra3 c3;have f4:=aUI c s x3;have ra4:=a1O (s:=s) hc (by rw[c3];omega) (by rw[c3];omega) ra3;have c4:(fL c s x3).aE=x.aE:=by rw[f4.2.2,c3]
 have wcy:IntKind.i64.wrap ((fL c s x3).aE+1)=x.aE+1:=by rw[c4];exact wrap_i64 (by omega) (by omega)
 rw[wcy];refine⟨fun r a b=>ra4.1 r a b,fun r a b => ?_,ra4.2, ?_⟩
 ·show(fL c s x3).e.ready r<=_;rw[f4.1];exact ry3.1 r a b
 ·show(fL c s x3).e.wait<=_;rw[f4.1];exact ry3.2
section
variable {c:Cfg} {p:Prog} {o:Nat->Int} {s:Split} (hs:Spl p o s) {T:Nat} {n k:Bool->Nat} {x:Stt}
include hs
theorem stuck (hT:wX p T) {f:Bool} (hF:∀(c:Cfg) (n k:Bool->Nat) (x:Stt) (tb:List Req),Inv c p o (gD p) n k x->Val p (Dn p o (gD p) false (n false) (k false)) (Dn p o (gD p) true (n true) (k true)) x tb->n f<=T)
  (h:Rch c p o T n k x) (hr:aU c s x=true) (hn:∀ e,n e<=900000000) (hw:Tm T n x 0) (htb:x.table=[]) (hcan:oK c x=false) (hov:pY c s x=false)
  {x3 x4:Stt} (hx3:eX c s x=x3) (hx4:fL c s x3=x4) (hr3:aU c s x3=true) {n3 k3 n4:Bool->Nat} (n3f:n3 false=n false) (k3f:k3 false=k false) (n3a:n true<=n3 true) (n3b:n3 true<=n true+(p.code.length+1)) (i3:Inv c p o (gD p) n3 k3 x3) (v3:Val p (Dn p o (gD p) false (n3 false) (k3 false)) (Dn p o (gD p) true (n3 true) (k3 true)) x3 x3.table) (n4t:n4 true=n3 true)
  (hF4:n4 f<=T) (tr3:x3.aT=x.aT) (tr4:x4.aT=x3.aT)
  (oE:(Dn p o (gD p) true (n3 true) (k3 true)=Dn p o (gD p) true (n true) (k true)/\Still s x x3)\/(∃ m:Nat,T<m/\m<=n3 true/\x3.e.halted=false/\aZ x m=false/\x3.table=x.table/\x3.saq=x.saq/\∃ i,Dn p o (gD p) true (n true) (k true)=Dn p o (gD p) true m i))
  (oA:Still s x3 x4\/(∃ m:Nat,T<m/\m<=n4 false/\x3.a.halted=false/\(aW s false x3.a.pos).2.1=(m:Int)/\aZ x3 m=false)):False:=by
 have hN:=(lN hs.rp).2;have hc:=mO hr;have hg:=iG hc;obtain⟨r1,r2,hcy,hda,hde,hra⟩:=tV hr;have hkn:knS x.saq=0:=by rw[htb]at r1;exact r1.symm
 have f3:=aMV c s x;rw[hx3]at f3;have hA3:x3.a=x.a:=f3.1;have hcy3:x3.aE=x.aE:=f3.2.2;have hst3:∀ v,aZ x3 v=aZ x v:=fun v=>by unfold aZ;rw[tr3]
 have tab3:x3.table=[]:=by
  rcases oE with⟨_,h1⟩|⟨m,_,_,_,_,h1,_,_⟩
  ·rw[h1.q.2.2.2.2.2.2.1];exact htb
  ·rw[h1];exact htb
 have saq3:x3.saq=x.saq:=by
  rcases oE with⟨_,h1⟩|⟨m,_,_,_,_,_,h1,_⟩
  ·exact h1.q.2.2.2.2.2.1
  ·exact h1
 have hpe:∀ r:Nat,1<=r->r<=15->0<=x.a.ready r:=fun r ha hb=>by
  by_cases h5:x.a.ready r<0
  ·obtain⟨q,hq,_⟩:=h.inv.cnt.pe r ha hb h5;rw[htb]at hq;cases hq
  ·omega
 obtain⟨z1,n1,k1,hz,hI1,hn1f,hk1f,hD1,hn1,hn1b,hnx1,hE⟩:∃ z1 n1 k1,(z1.a=x3.a/\z1.ldq=x3.ldq/\z1.sdq=x3.sdq/\z1.aeq=x3.aeq/\z1.abq=x3.abq/\z1.ebq=x3.ebq/\z1.saq=x3.saq/\z1.table=x3.table/\z1.aT=x3.aT/\z1.e.halted=x3.e.halted/\z1.writes=x3.writes/\z1.mem=x3.mem/\z1.tags=x3.tags/\z1.e.bC=x3.e.bC)/\Inv c p o (gD p) n1 k1 z1/\n1 false=n3 false/\k1 false=k3 false/\Dn p o (gD p) true (n1 true) (k1 true)=Dn p o (gD p) true (n3 true) (k3 true) /\
   (n1 true<=1000000000)/\True/\(x3.e.halted=false->(aW s true x3.e.pos).2.1=(n1 true:Int)) /\
   (x3.e.halted=true\/(x3.e.halted=false/\aZ x (n1 true)=true/\(aW s true x.e.pos).2.1=(n1 true:Int)) \/
    (x3.e.halted=false/\aZ x (n1 true)=false/\k1 true<(cel p o true (rho p (gD p) (n1 true))).length/\rho p (gD p) (n1 true)<p.code.length/\aD1 c x3 (ix (kin p o true (rho p (gD p) (n1 true))) (k1 true))) \/
    (x3.e.halted=false/\T<n1 true/\∃ m:Nat,T<m/\aZ x m=false)):=by
  have same:∀ y:Stt,y=x3->(y.a=x3.a/\y.ldq=x3.ldq/\y.sdq=x3.sdq/\y.aeq=x3.aeq/\y.abq=x3.abq/\y.ebq=x3.ebq/\y.saq=x3.saq/\y.table=x3.table/\y.aT=x3.aT/\y.e.halted=x3.e.halted/\y.writes=x3.writes/\y.mem=x3.mem/\y.tags=x3.tags/\y.e.bC=x3.e.bC):=fun y hy=>by subst hy;exact⟨rfl,rfl,rfl,rfl,rfl,rfl,rfl,rfl,rfl,rfl,rfl,rfl,rfl,rfl⟩
  by_cases hh:x3.e.halted=true
  ·exact⟨x3,n3,k3,same _ rfl,i3,rfl,rfl,rfl,by have:=hn true;omega,trivial,fun h5=>(by rw[hh]at h5;cases h5),.inl hh⟩
  have hhf:x3.e.halted=false:=by simpa using hh
  obtain⟨mE,iE,B,j,a1,a2,a3,a4,a5⟩:=i3.aH9 hs true (by have:=hn true;omega) (y:=atE s x3) (by funext e;cases e<;>rfl) (by funext e;cases e<;>rfl) (by funext e;cases e<;>rfl) hhf (fun hA hE hc=>by obtain⟨q1,q2,q3,q4,q5,q6,q7,q8⟩:=hc;exact⟨q1,q2,q3,q4,q5,q6,q7,q8⟩);have a2:Stl p o (gD p) true (aQ s true x3.e.pos) mE iE B j:=a2;obtain⟨_,b2⟩:=vG hs a2 (by have:=hn true;omega);have e2:(aW s true x3.e.pos).2.1=(mE:Int):=by rw[b2]
  have late:(T<mE/\((∃ m:Nat,T<m/\aZ x m=false)\/(aZ x mE=true/\(aW s true x.e.pos).2.1=(mE:Int))))->∃ z1 n1 k1,(z1.a=x3.a/\z1.ldq=x3.ldq/\z1.sdq=x3.sdq/\z1.aeq=x3.aeq/\z1.abq=x3.abq/\z1.ebq=x3.ebq/\z1.saq=x3.saq/\z1.table=x3.table/\z1.aT=x3.aT/\z1.e.halted=x3.e.halted/\z1.writes=x3.writes/\z1.mem=x3.mem/\z1.tags=x3.tags/\z1.e.bC=x3.e.bC)/\Inv c p o (gD p) n1 k1 z1/\n1 false=n3 false/\k1 false=k3 false/\Dn p o (gD p) true (n1 true) (k1 true)=Dn p o (gD p) true (n3 true) (k3 true) /\
   (n1 true<=1000000000)/\True/\(x3.e.halted=false->(aW s true x3.e.pos).2.1=(n1 true:Int)) /\
   (x3.e.halted=true\/(x3.e.halted=false/\aZ x (n1 true)=true/\(aW s true x.e.pos).2.1=(n1 true:Int)) \/
    (x3.e.halted=false/\aZ x (n1 true)=false/\k1 true<(cel p o true (rho p (gD p) (n1 true))).length/\rho p (gD p) (n1 true)<p.code.length/\aD1 c x3 (ix (kin p o true (rho p (gD p) (n1 true))) (k1 true))) \/
    (x3.e.halted=false/\T<n1 true/\∃ m:Nat,T<m/\aZ x m=false)):=fun⟨g1,g2⟩=>by
   refine⟨atE s x3,cS n3 true mE,cS k3 true iE,⟨rfl,rfl,rfl,rfl,rfl,rfl,rfl,rfl,rfl,rfl,rfl,rfl,rfl,rfl⟩,a1,rfl,rfl,a5,by show mE<=_;have:=hn true;omega,trivial,fun _=>e2, ?_⟩;rcases g2 with g2|g2
   ·exact .inr (.inr (.inr ⟨hhf,g1,g2⟩))
   ·exact .inr (.inl ⟨hhf,g2⟩)
  rcases oE with⟨d1,S3⟩|⟨m,m1,m2,m3,m4,_,_,_⟩
  ·have hxh:x.e.halted=false:=by rw[<-S3.e.2.2.1];exact hhf
   have hnx:aW s true x3.e.pos=aW s true x.e.pos:=S3.nx true;rcases Nat.lt_or_ge T (n true)with g|g
   ·refine late ⟨by have:=a3;omega, ?_⟩;cases hst:aZ x mE with
    |true=>exact .inr ⟨rfl,by rw[<-hnx];exact e2⟩
    |false=>exact .inl ⟨mE,by omega,hst⟩
   ·have hwE:=hw.e g;obtain⟨m,i,l1,l2,l3,l4,l5,l6,l7,l8,l9⟩:=bC6 hs h.inv (by have:=hn true;omega) hr (fun r a b=>⟨h.inv.cnt.rde r a b,by have:=hwE.1 r a b;omega⟩) (by have:=hwE.2;omega) hxh (by rw[hx3];exact S3.e.2.2.2) (by rw[hx3];exact tr3);have hxx:atE s x=x3:=by rw[<-l4];exact hx3
    rw[hxx]at l5 l6 l8;refine⟨x3,cS n true m,cS k true i,same _ rfl,l5,n3f.symm,k3f.symm, ?_,by show m<=_;have:=hn true;omega,trivial,fun _=>l8, ?_⟩
    ·show Dn p o (gD p) true m i=_;rw[l3,d1]
    ·rcases l9 with l9|⟨l9,l10,l11,l12⟩
     ·exact .inr (.inl ⟨hhf,l9,l7⟩)
     ·refine .inr (.inr (.inl ⟨hhf,l9,l10,l11, ?_⟩));rw[<-hxx];exact l12
  ·exact late ⟨by omega,.inl ⟨m,m1,m4⟩⟩
 obtain⟨z1a,z1b,z1c,z1d,z1e,z1f,z1g,z1h,z1i,z1j,z1k,z1l,z1m,z1n⟩:=hz;have n4x:n3 true=n4 true:=n4t.symm;have hA3r:∀ r:Nat,x3.a.ready r=x.a.ready r:=fun r=>by rw[hA3]
 obtain⟨z,n2,k2,hI2,hz2,hn2,hk2,hD2,hA,hkA⟩:∃ z n2 k2,Inv c p o (gD p) n2 k2 z/\(z.e=z1.e/\z.ldq=z1.ldq/\z.sdq=z1.sdq/\z.aeq=z1.aeq/\z.abq=z1.abq/\z.ebq=z1.ebq/\z.saq=z1.saq/\z.table=z1.table/\z.aT=z1.aT/\z.a.halted=z1.a.halted/\z.writes=z1.writes/\z.mem=z1.mem/\z.tags=z1.tags/\z.a.bC=z1.a.bC/\z.a.ready=z1.a.ready)/\n2 true=n1 true/\k2 true=k1 true/\Dn p o (gD p) false (n2 false) (k2 false)=Dn p o (gD p) false (n3 false) (k3 false) /\
   (x3.a.halted=true\/(x3.a.halted=false/\aZ x (n2 false)=true/\(aW s false x.a.pos).2.1=(n2 false:Int)) \/
    (x3.a.halted=false/\aZ x (n2 false)=false/\k2 false<(cel p o false (rho p (gD p) (n2 false))).length/\rho p (gD p) (n2 false)<p.code.length/\(aC7 c x3 (ix (kin p o false (rho p (gD p) (n2 false))) (k2 false))\/(x3.e.halted=false/\(n2 false:Int)>=(n1 true:Int)+c.jW))) \/
    (x3.a.halted=false/\T<n2 false/\aZ x (n2 false)=false)) /\
   (x3.a.halted=false->rho p (gD p) (n2 false)<p.code.length->k2 false<(cel p o false (rho p (gD p) (n2 false))).length):=by
  by_cases hh:x3.a.halted=true
  ·exact⟨z1,n1,k1,hI1,⟨rfl,rfl,rfl,rfl,rfl,rfl,rfl,rfl,rfl,rfl,rfl,rfl,rfl,rfl,rfl⟩,rfl,rfl,by rw[hn1f,hk1f],.inl hh,fun h5=>(by rw[hh]at h5;cases h5)⟩
  have hhf:x3.a.halted=false:=by simpa using hh
  have late:(T<n3 false\/∃ m:Nat,T<m/\(aW s false x3.a.pos).2.1=(m:Int)/\aZ x3 m=false)->∃ z n2 k2,Inv c p o (gD p) n2 k2 z/\(z.e=z1.e/\z.ldq=z1.ldq/\z.sdq=z1.sdq/\z.aeq=z1.aeq/\z.abq=z1.abq/\z.ebq=z1.ebq/\z.saq=z1.saq/\z.table=z1.table/\z.aT=z1.aT/\z.a.halted=z1.a.halted/\z.writes=z1.writes/\z.mem=z1.mem/\z.tags=z1.tags/\z.a.bC=z1.a.bC/\z.a.ready=z1.a.ready)/\n2 true=n1 true/\k2 true=k1 true/\Dn p o (gD p) false (n2 false) (k2 false)=Dn p o (gD p) false (n3 false) (k3 false) /\
   (x3.a.halted=true\/(x3.a.halted=false/\aZ x (n2 false)=true/\(aW s false x.a.pos).2.1=(n2 false:Int)) \/
    (x3.a.halted=false/\aZ x (n2 false)=false/\k2 false<(cel p o false (rho p (gD p) (n2 false))).length/\rho p (gD p) (n2 false)<p.code.length/\(aC7 c x3 (ix (kin p o false (rho p (gD p) (n2 false))) (k2 false))\/(x3.e.halted=false/\(n2 false:Int)>=(n1 true:Int)+c.jW))) \/
    (x3.a.halted=false/\T<n2 false/\aZ x (n2 false)=false)) /\
   (x3.a.halted=false->rho p (gD p) (n2 false)<p.code.length->k2 false<(cel p o false (rho p (gD p) (n2 false))).length):=fun g=>by
   obtain⟨mA,iA,B,j,a1,a2,a3,a4,a5⟩:=hI1.aH9 hs false (by have:=hn false;omega) (y:=atA s z1) (by funext e;cases e<;>rfl) (by funext e;cases e<;>rfl) (by funext e;cases e<;>rfl) (show z1.a.halted=false by rw[z1a];exact hhf) (fun hA hE hc=>by obtain⟨q1,q2,q3,q4,q5,q6,q7,q8⟩:=hc;exact⟨q1,q2,q3,q4,q5,q6,q7,q8⟩);have a2:Stl p o (gD p) false (aQ s false z1.a.pos) mA iA B j:=a2;rw[z1a]at a2;obtain⟨_,b2⟩:=vG hs a2 (by have:=hn false;omega);have e2:(aW s false x3.a.pos).2.1=(mA:Int):=by rw[b2]
   have hge:T<mA:=by
    rcases g with g|⟨m,g1,g2,_⟩
    ·rw[hn1f]at a3;omega
    ·rw[e2]at g2;omega
   have kk:rho p (gD p) mA<p.code.length->iA<(cel p o false (rho p (gD p) mA)).length:=fun h5=>by
    rcases a2.2 with h6|h6
    ·exact h6.2.1
    ·omega
   refine⟨atA s z1,cS n1 false mA,cS k1 false iA,a1,⟨rfl,rfl,rfl,rfl,rfl,rfl,rfl,rfl,rfl,rfl,rfl,rfl,rfl,rfl,rfl⟩,rfl,rfl, ?_, ?_,fun _=>kk⟩
   ·show Dn p o (gD p) false mA iA=_;rw[a5,hn1f,hk1f]
   ·cases hst:aZ x mA with
    |true=>exact .inr (.inl ⟨hhf,hst,by rw[<-hA3];exact e2⟩)
    |false=>exact .inr (.inr (.inr ⟨hhf,hge,hst⟩))
  rcases oA with S4|⟨m,m1,m2,m3,m4,m5⟩
  ·rcases Nat.lt_or_ge T (n false)with g|g
   ·exact late (.inl (by rw[n3f];exact g))
   ·have hwA:=hw.a g;obtain⟨m,i,l1,l2,l3,l4,l5,l6,l7⟩:=bC7 (y:=x3) (z:=z1) hs hI1 z1a (by rw[hn1f,n3f];have:=hn false;omega) hr3 (fun r a b=>by rw[hA3r,hcy3];exact⟨hpe r a b,by have:=hwA.1 r a b;omega⟩) (by rw[hA3,hcy3];have:=hwA.2;omega) tab3 hhf (by rw[hx4];exact S4.a.2.2.2) (by rw[hx4];exact tr4) (nE:=n1 true) (by omega) hnx1;refine⟨atA s z1,cS n1 false m,cS k1 false i,l4,⟨rfl,rfl,rfl,rfl,rfl,rfl,rfl,rfl,rfl,rfl,rfl,rfl,rfl,rfl,rfl⟩,rfl,rfl, ?_, ?_,fun _=>l7⟩
    ·show Dn p o (gD p) false m i=_;rw[l3,hn1f,hk1f]
    ·simp only[hst3]at l6;rcases l6 with l6|⟨l6,l8,l9,l10⟩
     ·exact .inr (.inl ⟨hhf,l6,by rw[<-hA3];exact l5⟩)
     ·exact .inr (.inr (.inl ⟨hhf,l6,l8,l9,l10⟩))
  ·exact late (.inr ⟨m,m1,m4,m5⟩)
 obtain⟨y1,y2,y3,y4,y5,y6,y7,y8,y9,y10,y11,y12,y13,y14,y15⟩:=hz2;have hsz:∀ v,aZ z v=aZ x v:=fun v=>by unfold aZ;rw[y9,z1i,tr3]
 have zeh:z.e.halted=x3.e.halted:=by rw[y1];exact z1j
 have zah:z.a.halted=x3.a.halted:=by rw[y10,z1a]
 have hVz:Val p (Dn p o (gD p) false (n2 false) (k2 false)) (Dn p o (gD p) true (n2 true) (k2 true)) z z.table:=by rw[hD2,hn2,hk2,hD1];exact v3.same ⟨by rw[y15,z1a],by rw[y14,z1a],by rw[y1,z1n],by rw[y4,z1d],by rw[y2,z1b],by rw[y13,z1m],by rw[y7,z1g],by rw[y3,z1c],by rw[y11,z1k],by rw[y12,z1l],by rw[y8,z1h]⟩
 have hFz:=hF c n2 k2 z z.table hI2 hVz;have tabz:z.table=[]:=by rw[y8,z1h];exact tab3
 have saqz:z.saq=x.saq:=by rw[y7,z1g,saq3]
 have bE:∀ K,aD1 c x3 K->aD1 c z K:=fun K h5=>by unfold aD1 at h5 ⊢;rw[y2,y3,y4,y5,y6,z1b,z1c,z1d,z1e,z1f];exact h5
 have bA:∀ K,aC7 c x3 K->aC7 c z K:=fun K h5=>by unfold aC7 at h5 ⊢;rw[y2,y4,y5,y6,y7,z1b,z1d,z1e,z1f,z1g];exact h5
 have halX:∀ e:Bool,fO z e=true->T<n2 (!e)->n2 e<=T->False:=fun e h1 h2 h3=>by
  obtain⟨g1,g2⟩:=aUY hs hT hI2 h1;have g3:n2 e=T:=by omega
  rw[g3]at g2;have:=aM5 hs hI2 g2 (!e);omega
 have stop_le:∀ {a b:Nat},aZ x a=true->a<=b->aZ x b=true:=fun {a b} h1 h2=>by have h3:=xX h1;unfold aZ;rw[zaG,zaK,zaK];exact⟨h3.1,by omega⟩
 have hcz:¬z.saq=[]->¬z.sdq=[]->(ix z.saq 0).known=false->(z.aT.kind=0\/(ix z.saq 0).step<z.aT.step)->False:=by
  intro g1 g2 g3 g4;rw[saqz]at g1 g3 g4;rw[y9,z1i,tr3]at g4;by_cases hxs:x.sdq=[]
  case neg=>exact bCM hc htb hcan g1 hxs g3 g4
  rcases oE with⟨_,S3⟩|⟨m,m1,m2,m3,m4,_,_,i,m5⟩
  ·apply g2;rw[y3,z1c,S3.q.2.1];exact hxs
  ·
   have hfA:n false<=T:=by
    cases f with
    |true=>omega
    |false=>exact hF c n k x x.table h.inv h.val
   obtain⟨q1,q2,⟨pre,q3,q3'⟩,q4,_⟩:=h.inv.cnt;have q3l:=congrArg List.length q3;simp only[List.length_map,List.length_append,nZ,q3']at q3l;rw[hkn,hxs,m5]at q4;have u1:kc 4 (Dn p o (gD p) false (n false) (k false))<=tot (cK p o (gD p) false 4) (n false+1):=aPM;have u2:=pB (f:=cK p o (gD p) false 4) (show n false+1<=m by omega);have u3:tot (cK p o (gD p) true 8) m<=kc 8 (Dn p o (gD p) true m i):=a08;have u4:tot (cK p o (gD p) false 4) m=tot (cK p o (gD p) true 8) m:=a09 (fun j=>(bal (o:=o) (D:=gD p) hs.rp j).2.2.1) _;have u5:=List.length_pos_iff.2 g1;simp only[List.length_nil]at q4;omega
 have heh:x3.e.halted=true->x.e.halted=true:=fun g=>by
  rcases oE with⟨_,S3⟩|⟨m,m1,m2,m3,_⟩
  ·rw[<-S3.e.2.2.1];exact g
  ·rw[m3]at g;cases g
 have hov2:(x.e.halted=true\/(aZ x (n2 true)=true/\(aW s true x.e.pos).2.1=(n2 true:Int)))->(x3.a.halted=true\/(aZ x (n2 false)=true/\(aW s false x.a.pos).2.1=(n2 false:Int)))->z.saq.any (aAA z)=true:=fun h5 h6=>by
  unfold pY at hov;rw[hr]at hov;have q1:pR s true x.e x=true:=by
   unfold pR;rw[zaV];rcases h5 with h5|⟨h5,h7⟩
   ·exact .inl h5
   ·rw[h7];exact .inr h5
  have q2:pR s false x.a x=true:=by
   unfold pR;rw[zaV,<-hA3];rcases h6 with h6|⟨h6,h7⟩
   ·exact .inl h6
   ·rw[hA3,h7];exact .inr h6
  rw[q1,q2,htb]at hov;simp only[zaI,Bool.false_or,zaR,List.length_nil,zaC,Bool.not_eq_false']at hov;rw[saqz,show aAA z=aAA x by funext e;unfold aAA;rw[y9,z1i,tr3]];exact hov
 have hknz:knS z.saq=0:=by rw[saqz];exact hkn
 have kA:z.a.halted=false->rho p (gD p) (n2 false)<p.code.length->k2 false<(cel p o false (rho p (gD p) (n2 false))).length:=fun g=>hkA (by rw[<-zah];exact g)
 have no:∀ {v},aZ x v=false->aZ x v=true->False:=fun g1 g2=>by rw[g1]at g2;cases g2
 have sA':∀(P:Prop),P\/(x3.a.halted=true\/(x3.a.halted=false/\aZ x (n2 false)=true/\(aW s false x.a.pos).2.1=(n2 false:Int))\/(x3.a.halted=false/\aZ x (n2 false)=false/\k2 false<(cel p o false (rho p (gD p) (n2 false))).length/\rho p (gD p) (n2 false)<p.code.length/\(aC7 c x3 (ix (kin p o false (rho p (gD p) (n2 false))) (k2 false))\/(x3.e.halted=false/\(n2 false:Int)>=(n1 true:Int)+c.jW))))->P\/z.a.halted=true\/(z.a.halted=false/\aZ z (n2 false)=true)\/(z.a.halted=false/\aZ z (n2 false)=false/\k2 false<(cel p o false (rho p (gD p) (n2 false))).length/\rho p (gD p) (n2 false)<p.code.length/\(aC7 c z (ix (kin p o false (rho p (gD p) (n2 false))) (k2 false))\/(z.e.halted=false/\(n2 false:Int)>=(n2 true:Int)+c.jW))):=fun P g=>by
  rw[zah,hsz,zeh,hn2];rcases g with g|g|⟨g1,g2,_⟩|⟨g1,g2,g3,g4,g5⟩
  ·exact .inl g
  ·exact .inr (.inl g)
  ·exact .inr (.inr (.inl ⟨g1,g2⟩))
  ·exact .inr (.inr (.inr ⟨g1,g2,g3,g4,g5.imp (bA _) id⟩))
 by_cases hEL:x3.e.halted=false/\T<n1 true/\∃ m:Nat,T<m/\aZ x m=false
 ·obtain⟨e1,e2,m,e3,e4⟩:=hEL;have hf0:n2 false<=T:=by
   cases f with
   |true=>rw[hn2]at hFz;omega
   |false=>exact hFz
  rcases hA with a1|⟨a1,a2,a3⟩|⟨a1,a2,a3,a4,a5⟩|⟨a1,a2,a3⟩
  ·exact halX false (by show z.a.halted=true;rw[zah];exact a1) (by show T<n2 true;omega) hf0
  ·exact no e4 (stop_le a2 (by omega))
  ·rcases a5 with a5|a5
   ·exact dead hs.rp hI2 hc tabz hknz hcz (.inl ⟨by omega,by rw[hsz];exact a2,a3,a4,bA _ a5⟩) (sA' _ (.inr (.inr (.inr ⟨a1,a2,a3,a4,.inl a5⟩)))) kA
   ·omega
  ·omega
 have hE3:x3.e.halted=true\/(x3.e.halted=false/\aZ x (n1 true)=true/\(aW s true x.e.pos).2.1=(n1 true:Int))\/(x3.e.halted=false/\aZ x (n1 true)=false/\k1 true<(cel p o true (rho p (gD p) (n1 true))).length/\rho p (gD p) (n1 true)<p.code.length/\aD1 c x3 (ix (kin p o true (rho p (gD p) (n1 true))) (k1 true))):=by
  rcases hE with g|g|g|g
  ·exact .inl g
  ·exact .inr (.inl g)
  ·exact .inr (.inr g)
  ·exact absurd g hEL
 have sE':z.e.halted=true\/(z.e.halted=false/\aZ z (n2 true)=true)\/(z.e.halted=false/\aZ z (n2 true)=false/\k2 true<(cel p o true (rho p (gD p) (n2 true))).length/\rho p (gD p) (n2 true)<p.code.length/\aD1 c z (ix (kin p o true (rho p (gD p) (n2 true))) (k2 true))):=by
  rw[zeh,hsz,hn2,hk2];rcases hE3 with g|⟨g1,g2,_⟩|⟨g1,g2,g3,g4,g5⟩
  ·exact .inl g
  ·exact .inr (.inl ⟨g1,g2⟩)
  ·exact .inr (.inr ⟨g1,g2,g3,g4,bE _ g5⟩)
 have hE5:(z.e.halted=true\/aZ z (n2 true)=true)->x.e.halted=true\/(aZ x (n2 true)=true/\(aW s true x.e.pos).2.1=(n2 true:Int)):=fun g=>by
  rw[zeh,hsz]at g;rw[hn2]at g ⊢;rcases hE3 with g1|⟨g1,g2,g3⟩|⟨g1,g2,_⟩
  ·exact .inl (heh g1)
  ·exact .inr ⟨g2,g3⟩
  ·rcases g with g|g
   ·rw[g1]at g;cases g
   ·exact(no g2 g).elim
 rcases hA with a1|⟨a1,a2,a3⟩|⟨a1,a2,a3,a4,a5⟩|⟨a1,a2,a3⟩
 ·exact dead hs.rp hI2 hc tabz hknz hcz (.inr ⟨sE',fun h5 h6=>hov2 (hE5 h5) (.inl a1)⟩) (sA' _ (.inr (.inl a1))) kA
 ·exact dead hs.rp hI2 hc tabz hknz hcz (.inr ⟨sE',fun h5 h6=>hov2 (hE5 h5) (.inr ⟨a2,a3⟩)⟩) (sA' _ (.inr (.inr (.inl ⟨a1,a2,a3⟩)))) kA
 ·refine dead hs.rp hI2 hc tabz hknz hcz (.inr ⟨sE',fun h5 h6 => ?_⟩) (sA' _ (.inr (.inr (.inr ⟨a1,a2,a3,a4,a5⟩)))) kA;rw[zah,hsz]at h6;rcases h6 with h6|h6
  ·rw[a1]at h6;cases h6
  ·exact(no a2 h6).elim
 ·have hf1:n2 true<=T:=by
   cases f with
   |false=>omega
   |true=>exact hFz
  rcases hE3 with g1|⟨g1,g2,g3⟩|⟨g1,g2,_⟩
  ·exact halX true (by show z.e.halted=true;rw[zeh];exact g1) a2 hf1
  ·exact no a3 (stop_le g2 (by omega))
  ·refine dead hs.rp hI2 hc tabz hknz hcz (.inr ⟨sE',fun h5 h6 => ?_⟩) (sA' _ (.inl ⟨by omega,by rw[zeh];exact g1,by rw[hsz,hn2];exact g2⟩)) kA;rw[zeh,hsz,hn2]at h5;rcases h5 with h5|h5
   ·rw[g1]at h5;cases h5
   ·exact(no g2 h5).elim
end
section
variable {c:Cfg} {p:Prog} {o:Nat->Int} {s:Split} (hs:Spl p o s) {T:Nat} {n k:Bool->Nat} {x:Stt}
include hs
theorem bHE (hT:wX p T) {f:Bool} (hF:∀(c:Cfg) (n k:Bool->Nat) (x:Stt) (tb:List Req),Inv c p o (gD p) n k x->Val p (Dn p o (gD p) false (n false) (k false)) (Dn p o (gD p) true (n true) (k true)) x tb->n f<=T)
  (t:bF) (h:Rch c p o T n k x) (hr:aU c s x=true) (hn:∀ e,n e<=800000000) (ht:Tim x (c.mul+c.div)) (hx:x.ok) (hfit:x.writes.length+x.table.length<=900000) (hk:kQ s) (hov:pY c s x=false) :
  ∃ n' k',(∀ e,n' e<=n e+(p.code.length+1))/\Rch c p o T n' k' (lV c s t x)/\(pY c s (lV c s t x)=false->∀ m,Pt c p o s T n k x m->∃ m',m'<m/\Pt c p o s T n' k' (lV c s t x) m')/\Tim (lV c s t x) (c.mul+c.div):=by
 have hN:=(lN hs.rp).2;have hc:=mO hr;have hg:=iG hc;obtain⟨r1,r2,hcy,hda,hde,hra⟩:=tV hr;obtain⟨_,_,_,_,hop,hpe,hrde,hlf⟩:=h.inv.cnt;have ha:=bCL (t:=t) ⟨hg.2.2.2.2.2.2.1.1,hg.2.2.2.2.2.2.1.2⟩ ⟨hg.2.2.2.2.2.2.2.2.2.1.1,hg.2.2.2.2.2.2.2.2.2.1.2⟩ ⟨hcy.1,by omega⟩ (by rw[r1];exact bCN _) hop hpe hlf hx.1;have hlat:1<=c.lat:=hg.2.2.2.2.2.2.2.2.2.1.1;have htim:=a2W t hr ha ht;have cok:=aMN (c:=c) (t:=t) hk ⟨hx,hfit⟩;have htags:0<=x.tags/\x.tags<=1099511627776:=by have h1:=hr;unfold aU at h1;simp only[cD,List.all_cons,List.all_nil,zaG,zaT,zaK]at h1;exact h1.2.2.2.1.2.2.2
 have e0:lV c s t x = { fL c s (eX c s (fV c (jY c t x)))with aE:=IntKind.i64.wrap ((fL c s (eX c s (fV c (jY c t x)))).aE+1) }:=by unfold lV;rw[if_pos hr]
 have i1:=h.inv.adv hr ha;have v1:=a6R (c:=c) (t:=t) ⟨hcy.1,by omega⟩ h.val;have w3:∀ e∈(eX c s (fV c (jY c t x))).saq,e.wf:=by obtain⟨⟨_,_,_,_,_,_,_,_,w,_⟩,_⟩:=cok.2.2.1;exact w.1
 rw[e0]at htim ⊢;generalize jY c t x=x1 at ha i1 v1 w3 htim ⊢;have i2:=i1.send hlat;have v2:=a2C (c:=c) ⟨_,(a1U hs.cl (n:=n false) (k:=k false) (n':=n true) (k':=k true) (fun m=>m)).1,(a1U hs.cl (n:=n false) (k:=k false) (n':=n true) (k':=k true) (fun m=>m)).2⟩ v1;have f2:=aUJ c x1;have hcan1:fV c x1=if oK c x1 then iO x1 else x1:=rfl;generalize hx2:fV c x1=x2 at i2 v2 f2 hcan1 w3 htim ⊢;obtain⟨s1,s2,s3,s4,s5,s6,s7,s8,s9,s10,s11,s12,s13⟩:=ha.same;have c2:x2.aE=x.aE:=by rw[f2.2.2.1,s1]
 have f3:=aMV c s x2;obtain⟨n3,k3,n3f,k3f,n3a,n3b,i3,v3,t3,o3⟩:=bG3 hs i2 v2 (by have:=hn true;omega) (by rw[c2];omega);have c3:(eX c s x2).aE=x.aE:=by rw[f3.2.2,c2]
 generalize hx3:eX c s x2=x3 at f3 i3 v3 t3 o3 c3 w3 htim ⊢;have tg3:x3.tags=x.tags:=by rw[v3.tg,n3f,k3f,<-h.val.tg]
 have f4:=aUI c s x3;obtain⟨n4,k4,n4t,k4t,n4a,n4b,i4,v4,t4,o4⟩:=bG4 hs i3 v3 (by have:=hn false;omega) (by rw[c3];omega) hlat w3 (by rw[tg3];omega);have c4:(fL c s x3).aE=x.aE:=by rw[f4.2.2,c3]
 generalize hx4:fL c s x3=x4 at f4 i4 v4 t4 o4 c4 htim ⊢;have wcy:IntKind.i64.wrap (x4.aE+1)=x.aE+1:=by rw[c4];exact wrap_i64 (by omega) (by omega)
 rw[wcy]at htim ⊢;have hF1:=hF c n k x x.table h.inv h.val;have hF3:=hF c n3 k3 x3 _ i3 v3;have hF4:=hF c n4 k4 x4 _ i4 v4;have hA3:Dn p o (gD p) false (n3 false) (k3 false)=Dn p o (gD p) false (n false) (k false):=by rw[n3f,k3f]
 have hE4:Dn p o (gD p) true (n4 true) (k4 true)=Dn p o (gD p) true (n3 true) (k3 true):=by rw[n4t,k4t]
 have hsl:1<=c.jW/\c.jW<=64:=by omega
 have Ah:∀ m:Nat,m<=n4 false->(x3.e.halted=true\/(aW s true x3.e.pos).2.2=false\/(m:Int)<IntKind.i64.wrap ((aW s true x3.e.pos).2.1+c.jW))->m<=T+63:=fun m hm hah=>a67 hs hT hF i3 v3 (by have:=hn true;omega) hsl i4 hm hF4 hah
 have hldm:ld (Dn p o (gD p) false (n4 false) (k4 false))<=T+66:=by
  rcases o4 with⟨d,_⟩|⟨d,_⟩|⟨m,cell,d,g1,g2,_,_,_,_,g3,_⟩
  ·rw[d,hA3];exact h.ldb
  ·rw[d,hA3];exact h.ldb
  ·have h1:=Ah m g2 g3;have h2:=bHD hs.cl (D:=gD p) (n:=n3 false) (k:=k3 false);rw[d,aA2,a2T];split<;>omega
 refine⟨n4,k4,fun e => ?_,⟨?_, ?_, ?_,hldm⟩, ?_,htim⟩
 ·cases e
  ·omega
  ·omega
 ·obtain⟨q1,q2,q3,q4,q5,q6,q7,q8⟩:=i4.cnt;have hp:dX { x4 with aE:=x.aE+1 }=dX x4:=by funext e;cases e<;>rfl
  have hb:bqB { x4 with aE:=x.aE+1 }=bqB x4:=by funext e;cases e<;>rfl
  have hh:fO { x4 with aE:=x.aE+1 }=fO x4:=by funext e;cases e<;>rfl
  exact⟨by rw[hp,hb];exact i4.ctl,by rw[hh];exact i4.hal,⟨q1,q2,q3,q4,q5,q6,q7,q8⟩⟩
 ·exact v4.same ⟨rfl,rfl,rfl,rfl,rfl,rfl,rfl,rfl,rfl,rfl,rfl⟩
 ·refine t4.ge hT (t3.ge hT ?_);rw[f2.2.2.2.1,s7];exact h.trp
 intro hovy m ⟨w,hw0,hwt,hwm⟩;have hry:=aU6 hovy;have hr3:x3=x4\/aU c s x3=true:=by
  cases hq:aU c s x3 with
  |true=>exact .inr rfl
  |false=>exact .inl (by rw[<-hx4];unfold fL;rw[if_pos (.inl hq)])
 have hr3:aU c s x3=true:=by
  rcases hr3 with g|g
  ·rw[g];exact aWU hry (by rw[c4];omega)
  ·exact g
 have iy:Inv c p o (gD p) n4 k4 { x4 with aE:=x.aE+1 }:=by
  obtain⟨q1,q2,q3,q4,q5,q6,q7,q8⟩:=i4.cnt;have hp:dX { x4 with aE:=x.aE+1 }=dX x4:=by funext e;cases e<;>rfl
  have hb:bqB { x4 with aE:=x.aE+1 }=bqB x4:=by funext e;cases e<;>rfl
  have hh:fO { x4 with aE:=x.aE+1 }=fO x4:=by funext e;cases e<;>rfl
  exact⟨by rw[hp,hb];exact i4.ctl,by rw[hh];exact i4.hal,⟨q1,q2,q3,q4,q5,q6,q7,q8⟩⟩
 have stuff:=a2V (T:=T) iy hry;have Qp:0<cZ c:=by have h1:=aUK (M:=c.lat) (by omega) x4.table;have h2:=aU4 (c:=c) (by omega) T { x4 with aE:=x.aE+1 };have h3:=aD2 s { x4 with aE:=x.aE+1 };have h1':0<=eD (wgI c.lat) ({ x4 with aE:=x.aE+1 }:Stt).table:=h1;omega
 have xe2:x2.e=x.e:=by rw[f2.2.1,s2]
 have xa2:x2.a=x1.a:=f2.1;have xe4:x4.e=x3.e:=f4.1;have xa3:x3.a=x1.a:=by rw[f3.1,xa2]
 have wr4:x4.writes=x1.writes:=by rw[f4.2.1,f3.2.1,f2.2.2.2.2]
 have E1:((uc T (Dn p o (gD p) true (n3 true) (k3 true)):Int)+b2i x3.e.halted=(uc T (Dn p o (gD p) true (n true) (k true)):Int)+b2i x.e.halted+1) \/
   ((uc T (Dn p o (gD p) true (n3 true) (k3 true)):Int)+b2i x3.e.halted=(uc T (Dn p o (gD p) true (n true) (k true)):Int)+b2i x.e.halted/\((Dn p o (gD p) true (n3 true) (k3 true)=Dn p o (gD p) true (n true) (k true)/\Still s x2 x3)\/(∃ m:Nat,T<m/\m<=n3 true/\x3.e.halted=false/\aZ x2 m=false/\(aW s true x2.e.pos).2.1=(m:Int)/\x2.e.halted=false/\x3.aT=x2.aT/\x3.table=x2.table/\x3.saq=x2.saq/\∃ i,Dn p o (gD p) true (n true) (k true)=Dn p o (gD p) true m i))):=by
  rcases o3 with⟨d,S⟩|⟨d,g1,g2,_⟩|⟨m,cell,d,g0,g1,g2,g3,g4,g5,g6,g7,g8,g9⟩
  ·exact .inr ⟨by rw[d,S.e.2.2.1,xe2],.inl ⟨d,S⟩⟩
  ·refine .inl ?_;rw[xe2]at g1;rw[d,g1,g2];show _+1=_+0+1;omega
  ·rw[d,aD8,aR5,g4];rw[xe2]at g3;by_cases hm:m<=T
   ·refine .inl ?_;rw[if_pos hm,g3,Int.natCast_add];omega
   ·refine .inr ⟨?_,.inr ⟨m,by omega,g2,rfl,g6,g5,by rw[xe2];exact g3,g7,g8,g9,g0⟩⟩;rw[if_neg hm,g3,Int.natCast_add];omega
 have A1:((uc T (Dn p o (gD p) false (n4 false) (k4 false)):Int)+b2i x4.a.halted=(uc T (Dn p o (gD p) false (n false) (k false)):Int)+b2i x.a.halted+1) \/
   ((uc T (Dn p o (gD p) false (n4 false) (k4 false)):Int)+b2i x4.a.halted=(uc T (Dn p o (gD p) false (n false) (k false)):Int)+b2i x.a.halted/\((Dn p o (gD p) false (n4 false) (k4 false)=Dn p o (gD p) false (n false) (k false)/\Still s x3 x4)\/(∃ m:Nat,T<m/\m<=n4 false/\x3.a.halted=false/\(aW s false x3.a.pos).2.1=(m:Int)/\aZ x3 m=false/\x4.aT=x3.aT /\
    ((x4.table=x3.table/\ld (Dn p o (gD p) false (n false) (k false))<=ld (Dn p o (gD p) false (n4 false) (k4 false)))\/(ld (Dn p o (gD p) false (n4 false) (k4 false))=ld (Dn p o (gD p) false (n false) (k false))+1/\∃ q:Req,q.left=0/\x4.table=x3.table++[q]))/\(x4.saq=x3.saq\/∃ b:Entry,b.step=(m:Int)/\b.known=false/\x4.saq=x3.saq++[b])))):=by
  have hax:x3.a.halted=x.a.halted:=by rw[xa3,s11]
  rcases o4 with⟨d,S⟩|⟨d,g1,g2,_⟩|⟨m,cell,d,g1,g2,g3,g4,g5,g6,g7,g8,g9,g10⟩
  ·exact .inr ⟨by rw[d,hA3,S.a.2.2.1,hax],.inl ⟨by rw[d,hA3],S⟩⟩
  ·refine .inl ?_;rw[hax]at g1;rw[d,hA3,g1,g2];show _+1=_+0+1;omega
  ·have g3':=g3;rw[hax]at g3';by_cases hm:m<=T
   ·refine .inl ?_;rw[d,hA3,aD8,aR5,g4,if_pos hm,g3',Int.natCast_add];omega
   ·refine .inr ⟨?_,.inr ⟨m,by omega,g2,g3,g5,g6,g8, ?_,g10⟩⟩
    ·rw[d,hA3,aD8,aR5,g4,if_neg hm,g3',Int.natCast_add];omega
    ·rw[d,hA3,aA2,a2T];rcases g9 with g9|⟨g9,g11⟩
     ·exact .inl ⟨g9,by omega⟩
     ·exact .inr ⟨by rw[if_pos g9],g11⟩
 have wr:x1.writes.length=x.writes.length\/x1.writes.length=x.writes.length+1:=by
  rcases ha.st with⟨_,g,_⟩|⟨_,g,_⟩
  ·exact .inl g
  ·exact .inr g
 have ldm:ld (Dn p o (gD p) false (n false) (k false))<=ld (Dn p o (gD p) false (n4 false) (k4 false)):=by
  rcases o4 with⟨d,_⟩|⟨d,_⟩|⟨m,cell,d,_⟩
  ·rw[d,hA3];exact zaF _
  ·rw[d,hA3];exact zaF _
  ·rw[d,hA3,aA2];omega
 have hsum0:=aUK (M:=c.lat) (by omega) x.table;have hsq0:=aU4 (c:=c) (by omega) T x;have htp0:=aD2 s x;have ly:lft T (Dn p o (gD p) false (n4 false) (k4 false)) (Dn p o (gD p) true (n4 true) (k4 true)) { x4 with aE:=x.aE+1 }=7*((T:Int)+1)+2-((uc T (Dn p o (gD p) false (n4 false) (k4 false)):Int)+(uc T (Dn p o (gD p) true (n3 true) (k3 true)):Int)+(x1.writes.length:Int)+b2i x4.a.halted+b2i x3.e.halted):=by unfold lft;rw[hE4];show _-(_+_+(x4.writes.length:Int)+b2i x4.a.halted+b2i x4.e.halted)=_;rw[wr4,xe4]
 have lx:lft T (Dn p o (gD p) false (n false) (k false)) (Dn p o (gD p) true (n true) (k true)) x=7*((T:Int)+1)+2-((uc T (Dn p o (gD p) false (n false) (k false)):Int)+(uc T (Dn p o (gD p) true (n true) (k true)):Int)+(x.writes.length:Int)+b2i x.a.halted+b2i x.e.halted):=rfl;generalize hLx:lft T (Dn p o (gD p) false (n false) (k false)) (Dn p o (gD p) true (n true) (k true)) x=Lx at lx hwm;generalize hLy:lft T (Dn p o (gD p) false (n4 false) (k4 false)) (Dn p o (gD p) true (n4 true) (k4 true)) { x4 with aE:=x.aE+1 }=Ly at ly;have exm:(c.lat+1)*((T:Int)+66-(ld (Dn p o (gD p) false (n4 false) (k4 false)):Int))<=(c.lat+1)*((T:Int)+66-(ld (Dn p o (gD p) false (n false) (k false)):Int)):=Int.mul_le_mul_of_nonneg_left (by omega) (by omega);by_cases hu:Ly<Lx
 ·
  refine⟨c.mul+c.div+eD (wgI c.lat) ({ x4 with aE:=x.aE+1 }:Stt).table+sQ c T { x4 with aE:=x.aE+1 }+tP s { x4 with aE:=x.aE+1 }+(c.lat+1)*((T:Int)+66-(ld (Dn p o (gD p) false (n4 false) (k4 false)):Int))+cZ c*Ly, ?_,c.mul+c.div,by omega,⟨fun _=>⟨fun r a b=>htim.a r a b,htim.wa⟩,fun _=>⟨fun r a b=>htim.e r a b,htim.we⟩⟩,by rw[hLy];exact Int.le_refl _⟩;have hq:cZ c*Ly<=cZ c*(Lx-1):=Int.mul_le_mul_of_nonneg_left (by omega) (by omega);rw[Int.mul_sub,Int.mul_one]at hq;omega
 have hEq:Ly=Lx:=by rcases E1 with g1|g1<;>rcases A1 with g2|g2<;>rcases wr with g3|g3<;>omega
 have hE:(Dn p o (gD p) true (n3 true) (k3 true)=Dn p o (gD p) true (n true) (k true)/\Still s x2 x3)\/(∃ m:Nat,T<m/\m<=n3 true/\x3.e.halted=false/\aZ x2 m=false/\(aW s true x2.e.pos).2.1=(m:Int)/\x2.e.halted=false/\x3.aT=x2.aT/\x3.table=x2.table/\x3.saq=x2.saq/\∃ i,Dn p o (gD p) true (n true) (k true)=Dn p o (gD p) true m i):=by
  rcases E1 with g1|g1
  ·exfalso;rcases A1 with g2|g2<;>rcases wr with g3|g3<;>omega
  ·exact g1.2
 have hA:(Dn p o (gD p) false (n4 false) (k4 false)=Dn p o (gD p) false (n false) (k false)/\Still s x3 x4)\/(∃ m:Nat,T<m/\m<=n4 false/\x3.a.halted=false/\(aW s false x3.a.pos).2.1=(m:Int)/\aZ x3 m=false/\x4.aT=x3.aT /\
    ((x4.table=x3.table/\ld (Dn p o (gD p) false (n false) (k false))<=ld (Dn p o (gD p) false (n4 false) (k4 false)))\/(ld (Dn p o (gD p) false (n4 false) (k4 false))=ld (Dn p o (gD p) false (n false) (k false))+1/\∃ q:Req,q.left=0/\x4.table=x3.table++[q]))/\(x4.saq=x3.saq\/∃ b:Entry,b.step=(m:Int)/\b.known=false/\x4.saq=x3.saq++[b])):=by
  rcases A1 with g1|g1
  ·exfalso;rcases E1 with g2|g2<;>rcases wr with g3|g3<;>omega
  ·exact g1.2
 have hwr:x1.writes.length=x.writes.length:=by
  rcases wr with g|g
  ·exact g
  ·exfalso;rcases E1 with g2|g2<;>rcases A1 with g3|g3<;>omega
 have hsaq:x1.saq=x.saq:=by
  rcases ha.st with⟨g,_,_⟩|⟨_,g,_⟩
  ·exact g
  ·omega
 have sQ1:sQ c T x1=sQ c T x:=by unfold sQ;rw[hsaq]
 have T1:tP s x1=tP s x:=a8G (by funext e;cases e;exact s11;show x1.e.halted=_;rw[s2];rfl) (by funext e;cases e;exact s9;show x1.e.pos=_;rw[s2];rfl) s7;have T2:tP s x2=tP s x1:=a8G (by funext e;cases e;show x2.a.halted=_;rw[f2.1];rfl;show x2.e.halted=_;rw[f2.2.1];rfl) (by funext e;cases e;show x2.a.pos=_;rw[f2.1];rfl;show x2.e.pos=_;rw[f2.2.1];rfl) f2.2.2.2.1;have snd:(oK c x1=true/\eD (wgI c.lat) x2.table+sQ c T x2=eD (wgI c.lat) x1.table+sQ c T x1-1)\/(oK c x1=false/\x2=x1):=by
  cases hcn:oK c x1 with
  |false=>rw[hcn]at hcan1;exact .inr ⟨rfl,hcan1⟩
  |true =>
   have hst:=bC9 hs hF1 i1 hcn;rw[hcn,if_pos rfl]at hcan1;refine .inl ⟨rfl, ?_⟩;simp only[oK,zaG,zaK]at hcn;obtain⟨u1,u2,_⟩:=hcn;have l8:0<x1.saq.length:=List.length_pos_iff.2 u1;have e1:eD (wgI c.lat) x2.table=eD (wgI c.lat) x1.table+(c.lat+1):=by rw[hcan1];show eD (wgI c.lat) (x1.table++[_])=_;rw[tU];show _+((if(0:Int)>0 then(0:Int)else c.lat+1)+0)=_;rw[if_neg (by omega),Int.add_zero]
   have hk1:knS x2.saq=1:=by rw[hcan1];unfold knS;rw[if_pos];refine⟨by show 0<(x1.saq.set 0 _).length;rw[List.length_set];exact l8, ?_⟩;show(ix (x1.saq.set 0 _) 0).known=true;rw[sK,if_pos ⟨rfl,l8⟩]
   have e2:sQ c T x2=0:=if_pos (.inr (.inl hk1));have e3:sQ c T x1=c.lat+2:=by
    unfold sQ;rw[if_neg];rintro (h1|h1|h1)
    ·exact u1 h1
    ·unfold knS at h1;split at h1
     ·rename_i h2;rw[h2.2]at u2;cases u2
     ·cases h1
    ·exact hst h1
   omega
 have E2:eD (wgI c.lat) x3.table=eD (wgI c.lat) x2.table/\sQ c T x3=sQ c T x2/\tP s x3<=tP s x2/\(¬x3.aT=x2.aT->tP s x3<tP s x2):=by
  rcases hE with⟨_,S⟩|⟨m',m1,m2,m3,m4,m5,m6,m7,m8,m9,_⟩
  ·have hq:=S.q.2.2.2.2.2;refine⟨by rw[hq.2.1],by unfold sQ;rw[hq.1],S.rst⟩
  ·refine⟨by rw[m8],by unfold sQ;rw[m9],a2U (e:=true) m7 (by show x3.a.pos=x2.a.pos;rw[f3.1]) (by show x3.a.halted=x2.a.halted;rw[f3.1]) ?_,fun g=>absurd m7 g⟩;unfold p4;show(x2.e.halted||aZ x2 (aW s true x2.e.pos).2.1)=false;rw[m5,m6,m4];rfl
 have A2:eD (wgI c.lat) x4.table+(c.lat+1)*((T:Int)+66-(ld (Dn p o (gD p) false (n4 false) (k4 false)):Int))<=eD (wgI c.lat) x3.table+(c.lat+1)*((T:Int)+66-(ld (Dn p o (gD p) false (n false) (k false)):Int))/\sQ c T x4=sQ c T x3/\tP s x4<=tP s x3/\(¬x4.aT=x3.aT->tP s x4<tP s x3):=by
  rcases hA with⟨d,S⟩|⟨m',m1,m2,m3,m4,m5,m6,m7,m8⟩
  ·have hq:=S.q.2.2.2.2.2;refine⟨by rw[hq.2.1,d];exact Int.le_refl _,by unfold sQ;rw[hq.1],S.rst⟩
  ·refine⟨?_, ?_,a2U (e:=false) m6 (by show x4.e.pos=x3.e.pos;rw[xe4]) (by show x4.e.halted=x3.e.halted;rw[xe4]) ?_,fun g=>absurd m6 g⟩
   ·rcases m7 with⟨g1,g2⟩|⟨g1,q,g2,g3⟩
    ·rw[g1];omega
    ·rw[g3,tU,g1];have e1:eD (wgI c.lat) [q]=c.lat+1:=by
      show wgI c.lat q+0=_;unfold wgI;rw[g2,if_neg (by omega)];omega
     have e2:(c.lat+1)*((T:Int)+66-((ld (Dn p o (gD p) false (n false) (k false))+1:Nat):Int))=(c.lat+1)*((T:Int)+66-(ld (Dn p o (gD p) false (n false) (k false)):Int))-(c.lat+1):=by rw[show((T:Int)+66-((ld (Dn p o (gD p) false (n false) (k false))+1:Nat):Int))=((T:Int)+66-(ld (Dn p o (gD p) false (n false) (k false)):Int))-1 by omega,Int.mul_sub,Int.mul_one]
     rw[e1,e2];omega
   ·rcases m8 with g|⟨b,g1,g2,g3⟩
    ·unfold sQ;rw[g]
    ·unfold sQ;rw[g3];cases hs3:x3.saq with
     |nil => rw[if_pos (.inr (.inr (by show b.step>(T:Int);rw[g1];omega))),if_pos (.inl rfl)]
     |cons a l =>
      have ek:knS (a::l++[b])=knS (a::l):=by unfold knS;simp[ix]
      have e0:ix (a::l++[b]) 0=ix (a::l) 0:=rfl;rw[ek,e0];simp
   ·unfold p4;show(x3.a.halted||aZ x3 (aW s false x3.a.pos).2.1)=false;rw[m4,m3,m5];rfl
 have tim:∀ w':Int,0<=w'->w<=1+w'->Tm T n4 { x4 with aE:=x.aE+1 } w':=fun w' h0 h1=>by
  refine⟨fun g => ?_,fun g => ?_⟩
  ·rcases hA with⟨_,S⟩|⟨m',m1,m2,_⟩
   ·have hwa:=hwt.a (by omega);refine⟨fun r a b => ?_, ?_⟩
    ·show x4.a.ready r<=x.aE+1+w';rw[S.a.1,xa3];rcases ha.rd r with h2|h2
     ·rw[h2];have:=hwa.1 r a b;omega
     ·rw[h2];omega
    ·show x4.a.wait<=x.aE+1+w';rw[S.a.2.1,xa3,s10];have:=hwa.2;omega
   ·omega
  ·show(∀ r:Nat,1<=r->r<=15->x4.e.ready r<=x.aE+1+w')/\x4.e.wait<=x.aE+1+w';rw[xe4];rcases hE with⟨_,S⟩|⟨m',m1,m2,_⟩
   ·have hwe:=hwt.e (by omega);refine⟨fun r a b => ?_, ?_⟩
    ·rw[S.e.1,xe2];have:=hwe.1 r a b;omega
    ·rw[S.e.2.1,xe2];have:=hwe.2;omega
   ·omega
 have fin:∀ w':Int,0<=w'->w<=1+w'->w'+eD (wgI c.lat) x4.table+(c.lat+1)*((T:Int)+66-(ld (Dn p o (gD p) false (n4 false) (k4 false)):Int))+sQ c T x4+tP s x4<w+eD (wgI c.lat) x.table+(c.lat+1)*((T:Int)+66-(ld (Dn p o (gD p) false (n false) (k false)):Int))+sQ c T x+tP s x->∃ m',m'<m/\Pt c p o s T n4 k4 { x4 with aE:=x.aE+1 } m':=fun w' h0 h1 h2=>by
  refine⟨w'+eD (wgI c.lat) x4.table+sQ c T x4+tP s x4+(c.lat+1)*((T:Int)+66-(ld (Dn p o (gD p) false (n4 false) (k4 false)):Int))+cZ c*Ly, ?_,w',h0,tim w' h0 h1, ?_⟩
  ·rw[hEq];omega
  ·rw[hLy];show w'+eD (wgI c.lat) x4.table+sQ c T x4+tP s x4+_+_<=_;exact Int.le_refl _
 have hph:=ha.ph;have hsend:eD (wgI c.lat) x2.table+sQ c T x2<=eD (wgI c.lat) x1.table+sQ c T x1:=by
  rcases snd with⟨_,h1⟩|⟨_,h1⟩
  ·omega
  ·rw[h1];exact Int.le_refl _
 obtain⟨g1,g2,g3,g4⟩:=E2;obtain⟨g5,g6,g7,g8⟩:=A2;by_cases hwp:0<w
 ·exact fin (w-1) (by omega) (by omega) (by omega)
 by_cases htb:x.table=[]
 case neg => have:=ha.dn htb;exact fin 0 (by omega) (by omega) (by omega)
 have hx1:x1=x:=ha.no htb;rcases snd with⟨_,h1⟩|⟨hcn,h1⟩
 ·exact fin 0 (by omega) (by omega) (by omega)
 by_cases htr3:x3.aT=x2.aT
 case neg => have:=g4 htr3;exact fin 0 (by omega) (by omega) (by omega)
 by_cases htr4:x4.aT=x3.aT
 case neg => have:=g8 htr4;exact fin 0 (by omega) (by omega) (by omega)
 exfalso;have hx2x:x2=x:=by rw[h1,hx1]
 rw[hx1]at hcn;have hw00:w=0:=by omega
 rw[hw00]at hwt;rw[hx2x]at hx3 hE htr3;refine stuck hs hT hF h hr (fun e=>by have:=hn e;omega) hwt htb hcn hov hx3 hx4 hr3 n3f k3f n3a n3b i3 v3 n4t hF4 htr3 htr4 ?_ ?_
 ·rcases hE with g|⟨m',m1,m2,m3,m4,_,_,_,m8,m9,m10⟩
  ·exact .inl g
  ·exact .inr ⟨m',m1,m2,m3,m4,m8,m9,m10⟩
 ·rcases hA with g|⟨m',m1,m2,m3,m4,m5,_⟩
  ·exact .inl g.2
  ·exact .inr ⟨m',m1,m2,m3,m4,m5⟩
end
@[irreducible] def iP:AC:=cdO (trF zPr qq 3)
@[irreducible] def kS:AC:=cdA [1,1,1,1,1,1,1,1,0,1,0,0] iP
@[irreducible] def pD:AC:=cdA [1,1,1,1,1,1,1,1,1] iP
theorem sD:trF zPr qq 3=some (99,[(.tmp 8)],iP):=by kernel_rfl
@[irreducible] def aAB:AC:=cdO (trF zPr qq 4)
theorem aI8:trF zPr qq 4=some (14,[(.tmp 0)],aAB):=by kernel_rfl
def aIC:oX:=[(3,99,[(.tmp 8)],iP),(4,14,[(.tmp 0)],aAB)]
theorem aID:nF (fun p=>trF zPr qq p.1=some p.2) aIC:=⟨sD,aI8,trivial⟩
@[irreducible] def aAC:AC:=cdO (trF zPr qq 6)
theorem aI9:trF zPr qq 6=some (10,[(.tmp 2)],aAC):=by kernel_rfl
def aP3:oX:=[(6,10,[(.tmp 2)],aAC)]
theorem aR6:nF (fun p=>trF zPr qq p.1=some p.2) aP3:=⟨aI9,trivial⟩
@[irreducible] def xZ:AC:=cdO (trF zPr qq 5)
theorem aIE:trF zPr qq 5=some (25,[(.cell 4 .true 17),(.tmp 5)],xZ):=by kernel_rfl
def aP4:oX:=[(5,25,[(.cell 4 .true 17),(.tmp 5)],xZ)]
theorem aR7:nF (fun p=>trF zPr qq p.1=some p.2) aP4:=⟨aIE,trivial⟩
@[irreducible] def aE8:AC:=cdO (trF zPr qq 14)
theorem aP5:trF zPr qq 14=some (2,[(.cell 0 .true 12)],aE8):=by kernel_rfl
def aP6:oX:=[(14,2,[(.cell 0 .true 12)],aE8)]
theorem aR8:nF (fun p=>trF zPr qq p.1=some p.2) aP6:=⟨aP5,trivial⟩
@[irreducible] def kT:AC:=cdO (trF zPr qq 16)
@[irreducible] def n5:AC:=cdA [1,1,0,1,0,0] kT
@[irreducible] def sF:AC:=cdA [1,1,1] kT
theorem yA:trF zPr qq 16=some (20,[(.cell 2 .true 16)],kT):=by kernel_rfl
def aP7:oX:=[(16,20,[(.cell 2 .true 16)],kT)]
theorem aR9:nF (fun p=>trF zPr qq p.1=some p.2) aP7:=⟨yA,trivial⟩
@[irreducible] def aIF:AC:=cdO (trF zPr qq 18)
theorem aSA:trF zPr qq 18=some (13,[(.tmp 2)],aIF):=by kernel_rfl
def aU7:oX:=[(18,13,[(.tmp 2)],aIF)]
theorem aWV:nF (fun p=>trF zPr qq p.1=some p.2) aU7:=⟨aSA,trivial⟩
@[irreducible] def yB:AC:=cdO (trF zPr qq 9)
theorem aIG:trF zPr qq 9=some (13,[(.tmp 4)],yB):=by kernel_rfl
@[irreducible] def aAD:AC:=cdO (trF zPr qq 13)
theorem aJA:trF zPr qq 13=some (21,[(.tmp 2)],aAD):=by kernel_rfl
def aIH:oX:=[(9,13,[(.tmp 4)],yB),(13,21,[(.tmp 2)],aAD)]
theorem aII:nF (fun p=>trF zPr qq p.1=some p.2) aIH:=⟨aIG,aJA,trivial⟩
def TZ0:Tab:=fW qq (aP7++aU7++aP3) [] [] [] []
def TZ1:Tab:=fW qq (aIH++aP6++aIC) [] [] [(31,aZO)] []
def a8T (n:Int) (g:Nat->Int) (i:Nat):XSt:=⟨[(4,.int .i64 i),(3,.ptr 1 [] 0),(2,.ptr 0 [] 0),(0,.int .i64 n)],[(1,some (.tab 16 1 fun j=>.int .i64 (g j))),(0,some (.tab 16 1 fun x=>.int .i64 0))],2⟩
def a2X (n:Int) (i:Nat):Bool:=decide (eR .and .i64 (Int.fdiv n (2^Nat.min (Int.toNat (IntKind.wrap .u64 (i:Int))) 64)) 1=1)
def owK (n:Int):Nat->Nat->Int
 |0=>fun _=>0
 |k+1=>fun j=>cond (Nat.beq j (k+1)) (cond (a2X n (k+1)) 1 2) (owK n k j)
def aP8 (n:Int):Nat->Int:=owK n 15
def a8U:List XV->Option ((XV->Prop)->Prop):=eZ (fun n:Int=>[.int .i64 n]) (fun _=>True) (fun n=>aP8 n) (fun y=>dE y)
def a8V (p:Prog):Bool:=decide ((p.code.length:Int)<=200)&&decide ((p.data.length:Int)<=500)
def a2Y (p:Prog):Bool:=a8V p&&decide (p.size<=300)
def bHF:List XV->Option ((XV->Prop)->Prop):=eZ (fun p:Prog=>[aJ p]) (fun _=>True) (fun p=>a2Y p) (fun y=>.bool y)
def qtS:List XV->Option ((XV->Prop)->Prop):=eZ (fun c:Cfg=>[aV c]) (fun _=>True) (fun c=>cZ c) (fun y=>.int .i64 y)
def a8W:List XV->Option ((XV->Prop)->Prop):=eZ (fun _:Unit=>[]) (fun _=>True) (fun _=>true) (fun y=>.bool y)
def p6 (p:Prog) (n:Int):Split×Bool:=if(pV p (aP8 n)).2=0 then((pV p (aP8 n)).1,true)else((aHK p).1,decide ((aHK p).2=0))
def a8X:List XV->Option ((XV->Prop)->Prop):=eZ (fun q:Prog×Int=>[aJ q.1,.int .i64 q.2]) (fun q=>q.1.wf) (fun q=>p6 q.1 q.2) (fun y=>.tup [aG y.1,.bool y.2])
def TZ2:Tab:=fW qq aP4 [] [] [(16,a8U),(15,bAP),(17,bD8)] []
theorem bHG (n:Int) (r:XV):(goQ zPr TZ0 [(.cell 2 .true 16)] r (.run kT) [] ⟨kF 0 [.int .i64 n],[],0⟩)=(
 let q1:XV:=.tab 16 1 fun x=>.int .i64 0;bX (Ok zPr (Tab.q TZ0)) n5 (XSt.mk [(4,.int .i64 1),(3,.ptr 1 [] 0),(2,.ptr 0 [] 0),(0,.int .i64 n)] [(1,
  some q1),(0,some q1)] 2) [Frm.blk 0,Frm.seq sF] (dC [AR.cell 2 true 16] r)):=by kernel_rfl
theorem bDA (n:Int) (g:Nat->Int) (i:Nat) (r:XV) (A:XSt->Prop):(goQ zPr TZ0 [(.cell 2 .true 16)] r (.run n5) [.lp n5 A,.blk 0,.seq sF] (a8T n g i))=(
 let q1:=(↑i:Int)<16;
 let q2:=decide q1;
 let q3:=i*1;
 let q4:=Nat.beq q3 q3;
 let q5:=decide (i<16);
 let q6:List (Nat×XV):=[(4,.int .i64 (IntKind.wrap .i64 ((↑i:Int)+1))),(3,.ptr 1 [] 0),(2,.ptr 0 [] 0),(0,.int .i64 n)];
 let q7:=fun(j:Nat)=>cond (Nat.beq j i) (2:Int) (g j);
 let q8:List (Nat×Option XV):=[(0,some (.tab 16 1 fun x=>.int .i64 0))];cond (decide q1) (cond q2 (cond q4 (cond q5 (cond q5 (cond (decide (eR .and .i64 (Int.fdiv
  n ((2:Int)^Nat.min (Int.toNat (IntKind.wrap .u64 (↑i:Int))) 64)) (1:Int)=1)) (cond q2 (cond q4 (cond q5 (cond q5 (A (XSt.mk q6 ((1,some (.tab 16 1 fun j =>
  .int .i64 (cond (Nat.beq j i) (1:Int) (q7 j))))::q8) 2)) False) False) False) False) (A (XSt.mk q6 ((1,some (.tab 16 1 fun j=>.int .i64 (q7 j)))::q8)
  2))) False) False) False) False) (aA (.tab 16 1 fun j=>.int .i64 (g j)) r)):=by kernel_rfl
theorem bHH (p:Prog) (r:XV):(aO TZ0 80 (bL TZ0 80 20) 6 [aJ p] (fun v=>aA v r))=(
 let q1:=decide ((↑(p.code.length):Int)<=200);
 let q2:=cond q1 (decide ((↑(p.data.length):Int)<=500)) false;cond (cond q1 q1 true) (cond (cond q2 q2 true) (aA (.bool (cond q2 (decide (p.size
  <= 300)) false)) r) False) False):=by kernel_rfl
theorem bIH (c:Cfg) (r:XV):(aO TZ1 80 (bL TZ1 80 20) 13 [aV c] (fun v=>aA v r))=(∃(s:Cfg),aI [aV c] [aV s]/\aN True/\∀(y:Bool),y=cX s->cond (!y) (aA (.int .i64 0) r) (aA (.int .i64 (IntKind.wrap .i64 (IntKind.wrap .i64
 (IntKind.wrap .i64 ((8:Int)+c.mul)+c.div)+IntKind.wrap .i64 (IntKind.wrap .i64 ((4:Int)*IntKind.wrap .i64 (c.bN+2))*IntKind.wrap .i64 (c.lat+2))))) r)):=by kernel_rfl
theorem bHI (r:XV):(aO TZ1 80 (bL TZ1 80 20) 4 [] (fun v=>aA v r))=(
 let q1:=fun(s:Cfg)=>aI [.agg 12 [.int .i64 1,.int .i64 1,.int .i64 1,.int .i64 1,.int .i64 1,.int .i64 1,.int .i64 1,.int .i64 1,.int .i64 1,.int .i64 1,.int .i64
  1,.int .i64 1]] [aV s];∃(s:Cfg),aI [.agg 12 [.int .i64 0,.int .i64 0,.int .i64 0,.int .i64 0,.int .i64 0,.int .i64 0,.int .i64 0,.int .i64 0,.int .i64 0,.int .i64
  0,.int .i64 0,.int .i64 0]] [aV s]/\aN True/\∀(y:Bool),y=cX s->cond (!y) (∃(s:Cfg),q1 s/\aN True/\∀(y:Bool),y=cX s->cond (!y) (aA (.bool
  false) r) (∃(s:Cfg),q1 s/\aN True/\∀(y:Bool),y=cX s->cond (!y) (aA (.bool false) r) (aA (.bool true) r))) (aA (.bool false) r)):=by kernel_rfl
theorem bDB (p:Prog) (n:Int) (r:XV):(aO TZ2 80 (bL TZ2 80 20) 5 [aJ p,.int .i64 n] (fun v=>aA v r))=(
 let q1:Split×Int->Prop:=fun y=>aA (.tup [aG y.1,.bool (decide (y.2=0))]) r;∃(s:Int),aI [.int .i64 n] [.int .i64 s]/\aN True/\∀(y:Nat->Int),y =
  aP8 s->∃(s:Prog×(Nat->Int)),aI [aJ p,.tab 16 1 fun i=>.int .i64 (y i)] [aJ s.1,dE s.2]/\aN s.1.wf/\∀(y:Split×Int),y=pV s.1 s.2->cond (decide
  ¬y.2=0) (∃(s:Prog),aI [aJ p] [aJ s]/\aN s.wf/\∀(y:Split×Int),y=aHK s->q1 y) (q1 y)):=by kernel_rfl
theorem a2Z:bT zPr TZ0:=bQ ((aR9.app aWV).app aR6) trivial trivial trivial trivial
theorem a8Y:bT zPr TZ1:=bQ ((aII.app aR8).app aID) trivial trivial ⟨bAS,trivial⟩ trivial
theorem bDC:eV zPr (16,a8U):=bB fun n _=>by
 show Pure _ _ (cons [.int .i64 n]) (con (dE (aP8 n)));refine j9 mix a2Z yA (Nat.le_of_ble_eq_true rfl) ?_;refine Eq.mpr (bHG n _) ?_;refine gT mix a2Z (fun i:Nat=>a8T n (owK n i) (i+1)) (fun i=>i<=15) (fun i=>15-i) 0 (Nat.zero_le _) (.of (dL ⟨rfl,rfl,rfl,rfl,trivial⟩ ⟨rfl,rfl,trivial⟩ (zaF _))) ?_;intro i hi;replace hi:i<=15:=hi;refine Eq.mpr (bDA n _ (i+1) _ _) ?_;by_cases hlt:i<15
 ·have h1:((i+1:Nat):Int)<16:=by omega
  have h2:i+1<16:=by omega
  have w1:IntKind.i64.wrap (((i+1:Nat):Int)+1)=((i+1+1:Nat):Int):=wrap_i64 (by omega) (by omega);simp only[h1,h2,w1,zaQ,zaC,zaB];show cond (a2X n (i+1)) _ _;have e1:∀ v:Int,a2X n (i+1)=(decide (v=1))->(v=1\/v=2)->(fun j=>XV.int .i64 (cond (Nat.beq j (i+1)) v (owK n i j)))=fun j=>XV.int .i64 (owK n (i+1) j):=fun v hv hv2=>by funext j;show _=XV.int .i64 (cond (Nat.beq j (i+1)) (cond (a2X n (i+1)) 1 2) (owK n i j));rw[hv];rcases hv2 with rfl|rfl<;>rfl
  cases hb:a2X n (i+1)with
  |true =>
   refine⟨i+1,hlt, ?_,by omega⟩;have e2:(fun j=>XV.int .i64 (cond (Nat.beq j (i+1)) 1 (cond (Nat.beq j (i+1)) 2 (owK n i j))))=fun j=>XV.int .i64 (owK n (i+1) j):=by rw[<-e1 1 (by rw[hb];rfl) (.inl rfl)];funext j;cases Nat.beq j (i+1)<;>rfl
   rw[e2];exact .of (dL ⟨rfl,rfl,rfl,rfl,trivial⟩ ⟨rfl,rfl,trivial⟩ (zaF _))
  |false => refine⟨i+1,hlt, ?_,by omega⟩;rw[e1 2 (by rw[hb];rfl) (.inr rfl)];exact .of (dL ⟨rfl,rfl,rfl,rfl,trivial⟩ ⟨rfl,rfl,trivial⟩ (zaF _))
 ·obtain rfl:i=15:=by omega
  exact .rfl
theorem bDD:eV zPr (6,bHF):=bB fun p _=>by show Pure _ _ (cons [aJ p]) (con (.bool (a2Y p)));refine fF (u:=80) (k:=20) mix a2Z ?_;refine Eq.mpr (bHH p _) ?_;simp only[aS,zaB];simp only[tD];exact .rfl
theorem bHJ:eV zPr (13,qtS):=bB fun c _=>by
 show Pure _ _ (cons [aV c]) (con (.int .i64 (cZ c)));refine fF (u:=80) (k:=20) mix a8Y ?_;refine Eq.mpr (bIH c _) ?_;refine⟨c,.rfl,⟨trivial⟩, ?_⟩;rintro y rfl;unfold cZ;cases h:cX c with
 |false=>exact .rfl
 |true =>
  have hg:=iG h;have w:∀ x:Int,0<=x->x<=1000000->IntKind.i64.wrap x=x:=fun x h1 h2=>wrap_i64 (by omega) (by omega)
  have m1:(c.bN+2)*(c.lat+2)<=66*1002:=Int.mul_le_mul (by omega) (by omega) (by omega) (by omega);have m2:0<=(c.bN+2)*(c.lat+2):=Int.mul_nonneg (by omega) (by omega);rw[if_neg (by simp)];show aA (.int .i64 (IntKind.i64.wrap (IntKind.i64.wrap (IntKind.i64.wrap (8+c.mul)+c.div)+IntKind.i64.wrap (IntKind.i64.wrap (4*IntKind.i64.wrap (c.bN+2))*IntKind.i64.wrap (c.lat+2))))) _;rw[w (8+c.mul) (by omega) (by omega),w (8+c.mul+c.div) (by omega) (by omega),w (c.bN+2) (by omega) (by omega),w (c.lat+2) (by omega) (by omega),w (4*(c.bN+2)) (by omega) (by omega),Int.mul_assoc,w (4*((c.bN+2)*(c.lat+2))) (by omega) (by omega),w _ (by omega) (by omega)];exact .rfl
theorem a68:eV zPr (4,a8W):=bB fun _ _=>by show Pure _ _ (cons []) (con (.bool true));refine fF (u:=80) (k:=20) mix a8Y ?_;refine Eq.mpr (bHI _) ?_;refine⟨⟨0,0,0,0,0,0,0,0,0,0,0,0⟩,.rfl,⟨trivial⟩, ?_⟩;rintro y rfl;show ∃ _,_;refine⟨⟨1,1,1,1,1,1,1,1,1,1,1,1⟩,.rfl,⟨trivial⟩, ?_⟩;rintro y rfl;show ∃ _,_;refine⟨⟨1,1,1,1,1,1,1,1,1,1,1,1⟩,.rfl,⟨trivial⟩, ?_⟩;rintro y rfl;exact .rfl
theorem bHK:bT zPr TZ2:=bQ aR7 trivial trivial ⟨bDC,aTJ,aZN,trivial⟩ trivial
theorem a69:eV zPr (5,a8X):=bB fun⟨p,n⟩ hw=>by
 have hw:p.wf:=hw;show Pure _ _ (cons [aJ p,.int .i64 n]) (con (.tup [aG (p6 p n).1,.bool (p6 p n).2]));refine fF (u:=80) (k:=20) mix bHK ?_;refine Eq.mpr (bDB p n _) ?_;refine⟨n,.rfl,⟨trivial⟩, ?_⟩;rintro o rfl;refine⟨(p,aP8 n),.rfl,⟨hw⟩, ?_⟩;intro y hy;replace hy:y=pV p (aP8 n):=hy;unfold p6;rw[<-hy];by_cases h:y.2=0
 ·rw[if_pos h];simp only[h,zaN,zaE,zaD,zaC];exact .rfl
 ·rw[if_neg h];simp only[h,zaM,zaC,zaB];refine⟨p,.rfl,⟨hw⟩, ?_⟩;rintro z rfl;exact .rfl
theorem aWW {p:Prog} {n:Int} (h:(p6 p n).2=true):∃ o,Spl p o (p6 p n).1:=by
 have key:∀ o,(pV p o).2=0->Spl p o (pV p o).1:=fun o h1=>by
  refine bB6 ?_;unfold pV at h1;cases hc:eJ p o with
  |true=>rfl
  |false=>rw[if_neg (by rw[hc];simp)]at h1;cases h1
 unfold p6 at h ⊢;by_cases h1:(pV p (aP8 n)).2=0
 ·rw[if_pos h1];exact⟨_,key _ h1⟩
 ·rw[if_neg h1]at h ⊢;exact⟨_,key (uV p) (of_decide_eq_true h)⟩
theorem a7A {i:Ins} {o:Nat->Int} {pc off:Int} (hi:i.wf) (hr:bY i=true) (hp:bK pc) (ho:bK off):(∀ c∈(jD i o pc off).1,c.wf/\0<=c.ins.d/\c.ins.d<=15)/\∀ c∈(jD i o pc off).2,c.wf/\0<=c.ins.d/\c.ins.d<=15:=by
 have hd:=(mI hr).1;have zi:(⟨0,0,0,0,0⟩:Ins).wf:=⟨gO,gO,gO,gO,gO⟩;have c1:∀ k:Int,0<=k->k<=12->(cI k i pc off).wf/\0<=(cI k i pc off).ins.d/\(cI k i pc off).ins.d<=15:=fun k h1 h2=>⟨⟨⟨by show -_<=k;omega,by show k<=_;omega⟩,hi,gO,hp,ho⟩,hd.1,hd.2⟩
 have c2:∀ k r:Int,0<=k->k<=12->bK r->(cR k pc off r).wf/\0<=(cR k pc off r).ins.d/\(cR k pc off r).ins.d<=15:=fun k r h1 h2 h3=>⟨⟨⟨by show -_<=k;omega,by show k<=_;omega⟩,zi,h3,hp,ho⟩,by show(0:Int)<=0;omega,by show(0:Int)<=15;omega⟩
 have c3:∀ k:Int,0<=k->k<=12->(cP k pc off).wf/\0<=(cP k pc off).ins.d/\(cP k pc off).ins.d<=15:=fun k h1 h2=>⟨⟨⟨by show -_<=k;omega,by show k<=_;omega⟩,zi,gO,hp,ho⟩,by show(0:Int)<=0;omega,by show(0:Int)<=15;omega⟩
 have sub:∀(l out:List Int),(∀ x∈out,x∈aY i)->(∀ x∈l,x∈aY i)->∀ x∈l.foldl (fun out x=>if fC o x=1/\findF out x<0 then out++[x]else out) out,x∈aY i:=by
  intro l
  induction l with
  |nil=>intro out h1 _ x hx;exact h1 x hx
  |cons a l ih =>
   intro out h1 h2 x hx;rw[List.foldl_cons]at hx;refine ih _ (fun z hz => ?_) (fun z hz=>h2 z (List.mem_cons_of_mem _ hz)) x hx;split at hz
   ·rcases List.mem_append.1 hz with hz|hz
    ·exact h1 z hz
    ·obtain rfl:=List.mem_singleton.1 hz;exact h2 _ (List.mem_cons_self ..)
   ·exact h1 z hz
 have hs:∀ x∈gX i o,bK x:=fun x hx=>by have h1:=sub (aY i) [] (fun x hx=>by cases hx) (fun x hx=>hx) x hx;have h2:=(kK (i:=i)).2 x h1;exact⟨by omega,by omega⟩
 have cs:∀ k:Int,0<=k->k<=12->∀ c∈(gX i o).map (cR k pc off),c.wf/\0<=c.ins.d/\c.ins.d<=15:=fun k h1 h2 c hc=>by obtain⟨r,hr,rfl⟩:=List.mem_map.1 hc;exact c2 k r h1 h2 (hs r hr)
 have ap:∀(l:List Cell) (d:Cell),(∀ c∈l,c.wf/\0<=c.ins.d/\c.ins.d<=15)->(d.wf/\0<=d.ins.d/\d.ins.d<=15)->∀ c∈l++[d],c.wf/\0<=c.ins.d/\c.ins.d<=15:=fun l d h1 h2 c hc=>by
  rcases List.mem_append.1 hc with hc|hc
  ·exact h1 c hc
  ·obtain rfl:=List.mem_singleton.1 hc;exact h2
 have one:∀ d:Cell,(d.wf/\0<=d.ins.d/\d.ins.d<=15)->∀ c∈[d],c.wf/\0<=c.ins.d/\c.ins.d<=15:=fun d h2 c hc=>by obtain rfl:=List.mem_singleton.1 hc;exact h2
 have nil:∀ c∈([]:List Cell),c.wf/\0<=c.ins.d/\c.ins.d<=15:=fun c hc=>by cases hc
 have two2:∀ d d':Cell,(d.wf/\0<=d.ins.d/\d.ins.d<=15)->(d'.wf/\0<=d'.ins.d/\d'.ins.d<=15)->∀ c∈[d,d'],c.wf/\0<=c.ins.d/\c.ins.d<=15:=fun d d' h1 h2 c hc=>by
  rcases List.mem_cons.1 hc with rfl|hc
  ·exact h1
  ·obtain rfl:=List.mem_singleton.1 hc;exact h2
 have hb:bK i.b:=hi.2.2.2.1;unfold jD;split
 ·exact⟨nil,nil⟩
 split
 ·split
  ·exact⟨one _ (c1 1 (by omega) (by omega)),nil⟩
  ·exact⟨cs 5 (by omega) (by omega),ap _ _ (cs 6 (by omega) (by omega)) (c1 1 (by omega) (by omega))⟩
 split
 ·split
  ·exact⟨one _ (c1 3 (by omega) (by omega)),one _ (c1 7 (by omega) (by omega))⟩
  ·exact⟨one _ (c1 2 (by omega) (by omega)),nil⟩
 split
 ·split
  ·exact⟨two2 _ _ (c2 5 _ (by omega) (by omega) hb) (c1 4 (by omega) (by omega)),two2 _ _ (c2 6 _ (by omega) (by omega) hb) (c2 8 _ (by omega) (by omega) hb)⟩
  ·exact⟨one _ (c1 4 (by omega) (by omega)),one _ (c2 8 _ (by omega) (by omega) hb)⟩
 split
 ·split
  ·exact⟨one _ (c1 9 (by omega) (by omega)),one _ (c3 10 (by omega) (by omega))⟩
  ·exact⟨ap _ _ (cs 5 (by omega) (by omega)) (c3 10 (by omega) (by omega)),ap _ _ (cs 6 (by omega) (by omega)) (c1 9 (by omega) (by omega))⟩
 split
 ·exact⟨one _ (c3 11 (by omega) (by omega)),one _ (c3 11 (by omega) (by omega))⟩
 split
 ·exact⟨one _ (c3 12 (by omega) (by omega)),one _ (c3 12 (by omega) (by omega))⟩
 ·exact⟨nil,nil⟩
theorem aP9 (l:List Int) (h:l.length<=1000000) (x:Int):bK (findF l x):=by
 unfold findF lR;split
 ·rename_i h2;have:=List.findIdx_lt_length.2 (List.any_eq_true.1 h2);exact⟨by omega,by omega⟩
 ·exact⟨by omega,by omega⟩
theorem Spl.ok {p:Prog} {o:Nat->Int} {s:Split} (hs:Spl p o s) (hw:p.wf):kQ s:=by
 have hr:=hs.rp;have hN:=(lN hr).2;have hnb:nbN p<=2000:=(mB (p:=p)).2.2;refine⟨by rw[hs.nb];omega,fun b hb => ?_⟩;obtain⟨B,hB,rfl⟩:=vB hb;rw[hs.nb]at hB;have hsd:=eO hB;rw[hs.blk hB];have hsr:(tG p (aM p) B).src.toNat=cW p B:=rfl;have em:∀ j,j<dM p B-cW p B->(∀ c∈(jD (ix p.code (cW p B+j)) o ((cW p B+j:Nat):Int) (j:Int)).1,c.wf/\0<=c.ins.d/\c.ins.d<=15)/\∀ c∈(jD (ix p.code (cW p B+j)) o ((cW p B+j:Nat):Int) (j:Int)).2,c.wf/\0<=c.ins.d/\c.ins.d<=15:=fun j hj => a7A (hw.1.1 _ (cA (by omega))) (mN hr (by omega)) ⟨by omega,by omega⟩ ⟨by omega,by omega⟩
 have hA:∀ c∈emA p o (tG p (aM p) B) (dM p B-cW p B),c.wf/\0<=c.ins.d/\c.ins.d<=15:=fun c hc=>by unfold emA at hc;rw[hsr]at hc;obtain⟨j,hj,hc⟩:=List.mem_flatMap.1 hc;exact(em j (List.mem_range.1 hj)).1 c hc
 have hE:∀ c∈emE p o (tG p (aM p) B) (dM p B-cW p B),c.wf/\0<=c.ins.d/\c.ins.d<=15:=fun c hc=>by unfold emE at hc;rw[hsr]at hc;obtain⟨j,hj,hc⟩:=List.mem_flatMap.1 hc;exact(em j (List.mem_range.1 hj)).2 c hc
 have lA:(emA p o (tG p (aM p) B) (dM p B-cW p B)).length<=4*(dM p B-cW p B):=xF fun j=>tH.1
 have lE:(emE p o (tG p (aM p) B) (dM p B-cW p B)).length<=4*(dM p B-cW p B):=xF fun j=>tH.2
 refine⟨fun c hc=>(hA c hc).2,⟨by show _<=((cW p B:Nat):Int);omega,by show((cW p B:Nat):Int)<=_;omega⟩,⟨by show _<=((dM p B:Nat):Int);omega,by show((dM p B:Nat):Int)<=_;omega⟩, ?_, ?_,⟨fun c hc=>(hA c hc).1, ?_⟩,⟨fun c hc=>(hE c hc).1, ?_⟩⟩
 ·show bK (vS p (aM p) B);unfold vS;split
  ·exact aP9 _ (show(aM p).length<=_ by have:nbN p=(aM p).length:=rfl;omega) _
  ·exact⟨by omega,by omega⟩
 ·show bK (rU p (aM p) B);unfold rU;split
  ·exact aP9 _ (show(aM p).length<=_ by have:nbN p=(aM p).length:=rfl;omega) _
  ·exact⟨by omega,by omega⟩
 ·show(emA p o (tG p (aM p) B) (dM p B-cW p B)).length*72<=_;omega
 ·show(emE p o (tG p (aM p) B) (dM p B-cW p B)).length*72<=_;omega
def wC (n:Int):Int:=if n<0 then 0 else if n>100000 then 100000 else n
def aWX (c:Cfg) (n:Int):Int:=cZ c*(8*wC n+16)
def bHL:List XV->Option ((XV->Prop)->Prop):=eZ (fun q:Cfg×Int=>[aV q.1,.int .i64 q.2]) (fun _=>True) (fun q=>aWX q.1 q.2) (fun y=>.int .i64 y)
def TY1:Tab:=fW qq aIH [] [] [(13,qtS)] []
def TY2:Tab:=fW qq aIC [] [] [(4,a8W),(5,a8X),(6,bHF),(7,aZO),(10,bEX),(9,bHL),(11,bGU),(12,bGV),(8,bG9)] []
def bHM (c:Cfg) (t:bF) (s:Split) (x:Stt) (q:Int) (i:Nat):XSt:=⟨[(15,.int .i64 i),(14,.ptr 5 [] 0),(13,.int .i64 q),(10,.ptr 3 [] 0),(7,.ptr 2 [] 0),(6,.ptr 1 [] 0)],[(5,some (aP x)),(3,some (aG s)),(2,some (bO t)),(1,some (aV c))],6⟩
theorem bHN (c:Cfg) (n:Int) (r:XV):(aO TY1 80 (bL TY1 80 20) 9 [aV c,.int .i64 n] (fun v=>aA v r))=(
 let q1:=if 100000<n then(100000:Int)else n;∃(s:Cfg),aI [aV c] [aV s]/\aN True/\∀(y:Int),y=cZ s->aA (.int .i64 (IntKind.wrap .i64 (y*IntKind.wrap
  .i64 (IntKind.wrap .i64 ((8:Int)*if q1>0 then q1 else(0:Int))+16)))) r):=by kernel_rfl
theorem bHO (p:Prog) (n:Int) (c:Cfg) (t:bF) (r:XV):(goQ zPr TY2 [(.tmp 8)] r (.run iP) [] ⟨kF 0 [aJ p,.int .i64 n,aV c,bO t],[],0⟩)=(
 let q1:Prog×Int->List XV:=fun s=>[aJ s.1,.int .i64 s.2];
 let q2:=fun(s:Prog)=>aI [aJ p] [aJ s];
 let q3:Bool->Bool->Bool:=fun y y_1=>cond (cond (!y) true (!y_1)) true (decide ((↑(t.dR.length):Int)>60));
 let q4:Bool->Bool->Bool:=fun y y_1=>cond (q3 y y_1) true (decide ((↑(t.cG.length):Int)>60));
 let q5:Bool->Bool->Split×Bool->Bool:=fun y y_1 y_2=>cond (q4 y y_1) true (!y_2.2);
 let q6:Bool->Bool->Split×Bool->Bool->Bool:=fun y y_1 y_2 y_3=>cond (q5 y y_1 y_2) true (!y_3);
 let q7:Bool->Bool->Split×Bool->Bool->Bool:=fun y y_1 y_2 y_3=>cond (q6 y y_1 y_2 y_3) true (decide (c.lat>6));
 let q8:Bool->Bool->Split×Bool->Bool->Bool:=fun y y_1 y_2 y_3=>cond (q7 y y_1 y_2 y_3) true (decide (c.mul>6));∃(s:Unit),aI [] []/\aN True/\∀(y:Bool),
  y=true->∃(s:Prog×Int),aI [aJ p,.int .i64 n] (q1 s)/\aN s.1.wf/\∀(y_1:Split×Bool),y_1=p6 s.1 s.2->cond (!!y) (∃(s:Prog),q2 s/\aN True /\
  ∀(y_2:Bool),y_2=a2Y s->cond (cond (cond (!y) true (!y_2)) true (!cond (!y) true (!y_2))) (cond (cond (q3 y y_2) true (!q3 y y_2)) (cond (cond (q4 y y_2) true (!q4 y y_2)) (cond (!q5 y y_2 y_1) (∃(s:Cfg),aI [aV c] [aV s]/\aN True/\∀(y_3:Bool),y_3=cX s->cond (cond (q6 y y_2 y_1 y_3) true (!q6
  y y_2 y_1 y_3)) (cond (cond (q7 y y_2 y_1 y_3) true (!q7 y y_2 y_1 y_3)) (cond (cond (q8 y y_2 y_1 y_3) true (!q8 y y_2 y_1 y_3)) (cond (bif q8 y y_2 y_1 y_3 then true else
  decide (c.div>6)) (aA (.bool y) r) (∃(s:Prog×Int),aI [aJ p,.int .i64 40] (q1 s)/\aN s.1.wf/\∀(y:jP),y=aM4 s.1 s.2->cond (decide (y.fin=3)) (aA (.bool true) r) (∃(s:Cfg×Int),aI [aV c,.int .i64 y.steps] [aV s.1,.int .i64 s.2]/\aN True/\∀(y_4:Int),y_4=aWX s.1 s.2->∃(s:Prog),q2 s/\aN
  s.wf/\∀(y_5:Stt),y_5=jZ s->bX (Ok zPr (Tab.q TY2)) kS (XSt.mk [(15,.int .i64 0),(14,.ptr 5 [] 0),(13,.int .i64 y_4),(10,.ptr 3 [] 0),
  (8,.bool false),(7,.ptr 2 [] 0),(6,.ptr 1 [] 0)] [(5,some (aP y_5)),(4,some (nJ y)),(3,some (aG y_1.1)),(2,some (bO t)),(1,some (aV c)),(0,some
  (aJ p))] 6) [Frm.blk 0,Frm.seq pD] (dC [AR.tmp 8] r)))) False) False) False) (cond (q5 y y_2 y_1) (aA (.bool y) r) False)) False) False) False) (cond (!y) (aA (.bool y) r) False)):=by kernel_rfl
theorem bHP (c:Cfg) (t:bF) (s:Split) (x:Stt) (q:Int) (i:Nat) (r:XV) (A:XSt->Prop):(goQ zPr TY2 [(.tmp 8)] r (.run kS) [.lp kS A,.blk 0,.seq pD] (bHM c t s x q i))=(
 let q1:=decide ((↑i:Int)<q);
 let q2:Cfg×Split×Stt->Prop:=fun s_1=>aI [aV c,aG s,aP x] [aV s_1.1,aG s_1.2.1,aP s_1.2.2];
 let q3:Cfg×Split×Stt->Prop:=fun s=>aN (s.2.2.ok/\s.2.1.blocks.length<=1000000);
 let q4:Bool->Cfg×Split×Stt->Prop:=fun y s=>y=pY s.1 s.2.1 s.2.2;
 let q5:Cfg×Split×bF×Stt->Split:=fun s=>s.2.1;
 let q6:Cfg×Split×bF×Stt->bF:=fun s=>s.2.2.1;
 let q7:Cfg×Split×bF×Stt->Stt:=fun s=>s.2.2.2;
 let q8:=∃(s:Cfg×Split×Stt),q2 s/\q3 s/\∀(y:Bool),q4 y s->aA (.bool y) r;cond q1 (∃(s_1:Cfg×Split×Stt),q2 s_1/\q3 s_1/\∀(y:Bool),q4 y s_1->cond (cond q1 (!y) false) (∃(s_2:Cfg×Split×bF×Stt),aI [aV c,aG s,bO t,aP x] [aV s_2.1,aG (q5 s_2),bO (q6 s_2),aP (q7 s_2)]
  /\ aN (a1F (q7 s_2)/\kQ (q5 s_2))/\∀(y:Stt),y=lV s_2.1 (q5 s_2) (q6 s_2) (q7 s_2)->A (XSt.mk [(15,.int .i64 (IntKind.wrap .i64 ((↑i:Int)+1))),(14,.ptr 5 []
  0),(13,.int .i64 q),(10,.ptr 3 [] 0),(7,.ptr 2 [] 0),(6,.ptr 1 [] 0)] [(5,some (aP y)),(3,some (aG s)),(2,some (bO t)),(1,some (aV c))] 6)) q8) (cond (!q1) q8 False)):=by kernel_rfl
end Go.Proofs.YtooojfbfobmkfaaGreat
