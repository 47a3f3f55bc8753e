/- Texts put together. -/
import Derived.Test.YtooojfbfobmkfaaGreatPk4
noncomputable section
namespace Go.Proofs.YtooojfbfobmkfaaGreat
open Go.Ra
set_option linter.unusedVariables false
set_option linter.unusedSimpArgs false
def cS {α:Type} (f:Bool->α) (e:Bool) (v:α):Bool->α:=fun e'=>cond (e' == e) v (f e')
theorem cN {α:Type} (f:Bool->α) (e:Bool) (v:α):cS f e v e=v:=by cases e<;>rfl
theorem bP {α:Type} (f:Bool->α) (e:Bool) (v:α):cS f e v (!e)=f (!e):=by cases e<;>rfl
theorem two (P:Bool->Prop) (e:Bool) (h1:P e) (h2:P (!e)):∀ e',P e':=by intro e';cases e<;>cases e'<;>assumption
structure Ctl (p:Prog) (o:Nat->Int) (D:Nat->Bool) (n k:Bool->Nat) (q:Bool->Pos) (b:Bool->List Bool):Prop where
 pr:∀ e,∃ B j,PR p o D e (q e) (n e) (k e) B j
 nh:∀ e m,m<n e->¬aC (ix p.code (rho p D m)).op=8
 bq:∀ e,(stK 9 (Dn p o D e (n e) (k e))).map D=(stK 10 (Dn p o D (!e) (n (!e)) (k (!e)))).map D++b e
section
variable {p:Prog} {o:Nat->Int} {s:Split} (hs:Spl p o s) {D:Nat->Bool} {n k:Bool->Nat} {q:Bool->Pos} {b:Bool->List Bool}
theorem bCJ (hr:aL p=true) (e:Bool) (m:Nat):cK p o D e 9 m=cK p o D (!e) 10 m:=by
 have:=bal (o:=o) (D:=D) hr m;cases e
 ·exact this.2.2.2.1
 ·exact this.2.2.2.2.symm
include hs
theorem Ctl.settle (h:Ctl p o D n k q b) (e:Bool) (hn:n e<=1152921504606846976):∃ n' k' B j,Ctl p o D (cS n e n') (cS k e k') (cS q e (aQ s e (q e)).1) b/\Stl p o D e (aQ s e (q e)) n' k' B j/\Dn p o D e n' k'=Dn p o D e (n e) (k e)/\n e<=n'/\n'<=n e+p.code.length:=by
 obtain⟨B,j,hp⟩:=h.pr e;have hr:=hs.rp;have hN:=(lN hr).2;have hpc:rho p D (n e)<=p.code.length:=by have h1:=eO hp.hb;have h2:=hp.pc;rcases hp.here with h3|h3<;>omega
 obtain⟨n',k',B',j',a1,a2,a3,a4,a5⟩:=hs.bB7 (nbN p+1) hp (by omega) (by omega);have hpc':rho p D n'<=p.code.length:=by have h1:=eO a1.1.hb;have h2:=a1.1.pc;rcases a1.1.here with h3|h3<;>omega
 have e0:aQ s e (q e)=lU s e (nbN p+1) (q e):=by unfold aQ;rw[hs.nb]
 rw[<-e0]at a1;refine⟨n',k',B',j',⟨two _ e ?_ ?_,two _ e ?_ ?_,two _ e ?_ ?_⟩,a1,a2,a3,by omega⟩
 ·rw[cN,cN,cN];exact⟨B',j',a1.1⟩
 ·rw[bP,bP,bP];exact h.pr _
 ·rw[cN];intro m hm;rcases Nat.lt_or_ge m (n e)with h1|h1
  ·exact h.nh e m h1
  ·have:=aT8 (a5 m h1 hm);rw[a8E];exact this.2
 ·rw[bP];exact h.nh _
 ·rw[cN,cN,bP,bP,a2];exact h.bq e
 ·rw[bP,bP,Bool.not_not,cN,cN,a2];have:=h.bq (!e)
  rwa [Bool.not_not]at this
theorem Ctl.on (h:Ctl p o D n k q b) (e:Bool) {B j:Nat} (hp:PR p o D e (q e) (n e) (k e) B j) (hk:k e<(cel p o e (rho p D (n e))).length) (hj:cW p B+j<dM p B) (hc:(ix (cel p o e (rho p D (n e))) (k e)).kind<=8) :
  Ctl p o D n (cS k e (k e+1)) (cS q e { q e with index:=IntKind.i64.wrap ((q e).index+1) }) b/\Dn p o D e (n e) (k e+1)=Dn p o D e (n e) (k e)++[(n e,ix (cel p o e (rho p D (n e))) (k e))]:=by
 have hr:=hs.rp;have h1:=eO hp.hb;have h2:=hp.pc;have hN:=(lN hr).2;have hd:=aKL hk;have hka:=yZ (o:=o) (e:=e) hr (show rho p D (n e)<p.code.length by omega) (by rw[eW];exact hk);rw[pQ hk]at hc;have s9:∀ K:Int,9<=K->stK K (Dn p o D e (n e) (k e+1))=stK K (Dn p o D e (n e) (k e)):=fun K hK=>by rw[hd,oP,r8,if_neg (by rw[pQ hk];omega),List.append_nil]
 have hidx:=hp.idx;have hpl:=aH4 (f:=fun j=>cel p o e (cW p B+j)) (fun j=>aC3) j;have h4:=aC3 (p:=p) (o:=o) (e:=e) (i:=rho p D (n e));refine⟨⟨two _ e ?_ ?_,h.nh,two _ e ?_ ?_⟩,hd⟩
 ·rw[cN,cN];refine⟨B,j,hp.blk,hp.hb,hp.pc,hp.base,hp.aH3, ?_,.inl ⟨hj,by omega,fun h5=>.inl ?_⟩⟩
  ·show IntKind.i64.wrap ((q e).index+1)=_;rw[hidx,wrap_i64 (by omega) (by omega)];omega
  ·cases h6:gG (ix p.code (rho p D (n e)))with
   |false=>rfl
   |true => have:=hka.2.2.2.1 h6 (by rw[eW];exact h5);omega
 ·rw[bP,bP];exact h.pr _
 ·rw[cN,bP,s9 9 (by omega)];exact h.bq e
 ·rw[bP,Bool.not_not,cN,s9 10 (by omega)];have:=h.bq (!e)
  rwa [Bool.not_not]at this
theorem aMO {e:Bool} {q:Pos} {n k B j:Nat} (hp:PR p o D e q n k B j) (hk:k+1=(cel p o e (rho p D n)).length) (hj:cW p B+j<dM p B) {t:Bool} (hn:n<=1152921504606846976)
  (hf:(aC (ix p.code (rho p D n)).op=6/\D n=t)\/(aC (ix p.code (rho p D n)).op=7/\t=true)) :
  ∃ n' k' B' j',PR p o D e (goF s q t) n' k' B' j'/\Dn p o D e n' k'=Dn p o D e n (k+1)/\n<=n'/\n'<=n+1:=by
 have hr:=hs.rp;have h1:=eO hp.hb;have h2:=hp.pc;have hN:=(lN hr).2;have hb:=hp.hb;have hnb:=hs.nb;have hlast:cW p B+j+1=dM p B:=by
  rcases Nat.lt_or_ge (cW p B+j+1) (dM p B)with h3|h3
  ·have h4:=a05 hr hb (show cW p B<=rho p D n by omega) (by omega);have:=aH1.1 h4;omega
  ·omega
 have hl:dM p B-1=rho p D n:=by omega
 cases t with
 |true =>
  obtain⟨T,hT,h3,h4⟩:=bB5 hr hb (by rw[hl];exact aKJ hr (by omega) (by omega));have hgo:goF s q true=⟨(T:Int),0,(n:Int)+1⟩:=by unfold goF;rw[hp.blk,zaO,hs.blk hb];show(if true=true/\0<=(B:Int)/\(B:Int)<(s.blocks.length:Int)/\0<=rU p (aM p) B/\rU p (aM p) B<(s.blocks.length:Int)then Pos.mk (rU p (aM p) B) 0 (IntKind.i64.wrap (q.base+aCV s (B:Int)))else _)=_;rw[h3,if_pos ⟨rfl,by omega,by omega,by omega,by omega⟩,hs.lng hb];have:=hp.base;rw[wrap_i64 (by omega) (by omega)];congr 1;omega
  have hrho:rho p D (n+1)=cW p T:=by
   show zH p (rho p D n) (D n)=_;unfold zH;rw[if_pos (by
           rcases hf with hf|hf
           ·exact .inr hf
           ·exact .inl hf.1)]
   rw[hl]at h4;omega
  have hsd:=eO hT;refine⟨n+1,0,T,0,⟨by rw[hgo],hT,by omega,by rw[hgo];show(n:Int)+1+((0:Nat):Int)=((n+1:Nat):Int);omega,by rw[hgo];show(0:Int)<=(n:Int)+1;omega,by rw[hgo];rfl,.inl ⟨by omega,Nat.zero_le _,fun h6=>.inl ?_⟩⟩, ?_,by omega,by omega⟩
  ·cases h7:gG (ix p.code (rho p D (n+1)))with
   |false=>rfl
   |true => have:=aFP (o:=o) hr (by omega) h7 e;omega
  ·rw[hk,r7]
 |false =>
  have hgo:goF s q false = { q with index:=IntKind.i64.wrap (q.index+1) }:=by unfold goF;rw[if_neg (by simp)]
  have hidx:=hp.idx;have hpl:=aH4 (f:=fun j=>cel p o e (cW p B+j)) (fun j=>aC3) j;have h4:=aC3 (p:=p) (o:=o) (e:=e) (i:=rho p D n);refine⟨n,k+1,B,j,⟨by rw[hgo];exact hp.blk,hb,hp.pc,by rw[hgo];exact hp.base,by rw[hgo];exact hp.aH3, ?_,.inl ⟨hj,by omega,fun _=>.inr ?_⟩⟩,rfl,zaF _,by omega⟩
  ·rw[hgo];show IntKind.i64.wrap (q.index+1)=_;rw[hidx,wrap_i64 (by omega) (by omega)];omega
  ·rcases hf with hf|hf
   ·exact hf
   ·cases hf.2
end
theorem aH6 {α:Type} {f g:Nat->List α}:∀ {n:Nat},(∀ m,m<n->f m=g m)->(List.range n).flatMap f=(List.range n).flatMap g
 |0,_=>rfl
 |n+1,h=>by rw[fT,fT,aH6 fun m hm=>h m (by omega),h n (by omega)]
section
variable {p:Prog} {o:Nat->Int} {s:Split} (hs:Spl p o s) {D:Nat->Bool} {n k:Bool->Nat} {q:Bool->Pos} {b:Bool->List Bool}
include hs
theorem Ctl.jump (h:Ctl p o D n k q b) (e:Bool) {B j:Nat} (hp:PR p o D e (q e) (n e) (k e) B j) (hk:k e<(cel p o e (rho p D (n e))).length) (hj:cW p B+j<dM p B) (hn:n e<=1152921504606846976) (hc:(ix (cel p o e (rho p D (n e))) (k e)).kind=11) :
  ∃ n' k',Ctl p o D (cS n e n') (cS k e k') (cS q e (goF s (q e) true)) b/\Dn p o D e n' k'=Dn p o D e (n e) (k e)++[(n e,ix (cel p o e (rho p D (n e))) (k e))]/\n e<=n'/\n'<=n e+1:=by
 have hr:=hs.rp;have h1:=eO hp.hb;have h2:=hp.pc;have hka:=yZ (o:=o) (e:=e) hr (show rho p D (n e)<p.code.length by omega) (by rw[eW];exact hk);have hk11:=hka.2.1 (by rw[<-pQ hk];exact hc);rw[eW]at hk11;have hd:=aKL hk;obtain⟨n',k',B',j',c1,c2,c3,c4⟩:=aMO hs hp hk11.2 hj hn (t:=true) (.inr ⟨hk11.1,rfl⟩);rw[hd]at c2;have s9:∀ K:Int,K<=10->stK K (Dn p o D e n' k')=stK K (Dn p o D e (n e) (k e)):=fun K hK=>by rw[c2,oP,r8,if_neg (by rw[hc];omega),List.append_nil]
 refine⟨n',k',⟨two _ e ?_ ?_,two _ e ?_ ?_,two _ e ?_ ?_⟩,c2,c3,c4⟩
 ·rw[cN,cN,cN];exact⟨B',j',c1⟩
 ·rw[bP,bP,bP];exact h.pr _
 ·rw[cN];intro m hm;rcases Nat.lt_or_ge m (n e)with h3|h3
  ·exact h.nh e m h3
  ·obtain rfl:m=n e:=by omega
   omega
 ·rw[bP];exact h.nh _
 ·rw[cN,cN,bP,bP,s9 9 (by omega)];exact h.bq e
 ·rw[bP,bP,Bool.not_not,cN,cN,s9 10 (by omega)];have:=h.bq (!e)
  rwa [Bool.not_not]at this
theorem Ctl.follow (h:Ctl p o D n k q b) (e:Bool) {B j:Nat} (hp:PR p o D e (q e) (n e) (k e) B j) (hk:k e<(cel p o e (rho p D (n e))).length) (hj:cW p B+j<dM p B) (hn:n e<=1152921504606846976) (hc:(ix (cel p o e (rho p D (n e))) (k e)).kind=10) {t:Bool} {r:List Bool} (hb:b (!e)=t::r) :
  D (n e)=t/\∃ n' k',Ctl p o D (cS n e n') (cS k e k') (cS q e (goF s (q e) t)) (cS b (!e) r)/\Dn p o D e n' k'=Dn p o D e (n e) (k e)++[(n e,ix (cel p o e (rho p D (n e))) (k e))]/\n e<=n'/\n'<=n e+1:=by
 have hr:=hs.rp;have h1:=eO hp.hb;have h2:=hp.pc;have hka:=yZ (o:=o) (e:=e) hr (show rho p D (n e)<p.code.length by omega) (by rw[eW];exact hk);have hkk:ix (kin p o e (rho p D (n e))) (k e)=10:=by rw[<-pQ hk];exact hc
 obtain⟨k1,k2,k3,k4⟩:=hka.1 (.inr hkk);rw[eW]at k2;have hd:=aKL hk;have hq:=h.bq (!e);rw[Bool.not_not,hb]at hq;have hf10:cK p o D e 10 (n e)=1:=by
  unfold cK;have e1:kin p o e (rho p D (n e))=(kin p o e (rho p D (n e))).take (k e)++[ix (kin p o e (rho p D (n e))) (k e)]:=by rw[<-aFO (by rw[eW];exact hk),k2,<-eW,List.take_length]
  rw[e1,List.count_append,k4,hkk];rfl
 have hfg:cK p o D (!e) 9=cK p o D e 10:=by
  funext m;have:=bCJ (o:=o) (D:=D) hr (!e) m
  rwa [Bool.not_not]at this
 have hDt:D (n e)=t:=by
  rw[xS,xS,k4,List.replicate_zero,List.append_nil,hfg]at hq;have hcb:((kin p o (!e) (rho p D (n (!e)))).take (k (!e))).count 9<=cK p o D (!e) 9 (n (!e)):=(List.take_sublist _ _).count_le 9;rw[hfg]at hcb;generalize ((kin p o (!e) (rho p D (n (!e)))).take (k (!e))).count 9=c at hq hcb;have hlen:=congrArg List.length hq;simp only[List.length_map,List.length_append,aA1,List.length_replicate,List.length_cons]at hlen;have hkc:c<=0\/1<=c:=by omega
  rcases Nat.lt_trichotomy (n (!e)) (n e)with h3|h3|h3
  ·exfalso;have h4:tot (cK p o D e 10) (n (!e)+1)=tot (cK p o D e 10) (n (!e))+cK p o D e 10 (n (!e)):=rfl;have h5:=pB (f:=cK p o D e 10) (show n (!e)+1<=n e by omega);omega
  ·rw[h3]at hq hlen;have h4:c=c-1+1:=by omega
   rw[h4,List.replicate_succ,List.map_append,List.append_cancel_left_eq,List.map_cons,List.cons.injEq]at hq;exact hq.1
  ·obtain⟨r',e1,_⟩:=a07 (f:=cK p o D e 10) (show n e+1<=n (!e) from h3);rw[e1,aC2,hf10,List.append_assoc,List.append_assoc,List.map_append,List.append_cancel_left_eq]at hq;have:(List.replicate 1 (n e)++(r'++List.replicate c (n (!e)))).map D=D (n e)::(r'++List.replicate c (n (!e))).map D:=rfl;rw[this,List.cons.injEq]at hq;exact hq.1
 refine⟨hDt, ?_⟩;obtain⟨n',k',B',j',c1,c2,c3,c4⟩:=aMO hs hp k2 hj hn (t:=t) (.inl ⟨k1,hDt⟩);rw[hd]at c2;refine⟨n',k',⟨two _ e ?_ ?_,two _ e ?_ ?_,two _ e ?_ ?_⟩,c2,c3,c4⟩
 ·rw[cN,cN,cN];exact⟨B',j',c1⟩
 ·rw[bP,bP,bP];exact h.pr _
 ·rw[cN];intro m hm;rcases Nat.lt_or_ge m (n e)with h3|h3
  ·exact h.nh e m h3
  ·obtain rfl:m=n e:=by omega
   omega
 ·rw[bP];exact h.nh _
 ·rw[cN,cN,bP,bP];have h3:cS b (!e) r e=b e:=by cases e<;>rfl
  rw[h3,c2,oP,r8,if_neg (by rw[hc];omega),List.append_nil];exact h.bq e
 ·rw[bP,bP,Bool.not_not,cN,cN,cN,c2,oP,r8,if_pos hc,List.map_append,List.append_assoc];have:=h.bq (!e);rw[Bool.not_not,hb]at this;rw[this,<-hDt];rfl
theorem Ctl.branch (h:Ctl p o D n k q b) (e:Bool) {B j:Nat} (hp:PR p o D e (q e) (n e) (k e) B j) (hk:k e<(cel p o e (rho p D (n e))).length) (hj:cW p B+j<dM p B) (hn:n e<=1152921504606846976) (hc:(ix (cel p o e (rho p D (n e))) (k e)).kind=9) (t:Bool) {D':Nat->Bool} (hD':D'=fun m=>cond (m == n e) t (D m)) :
  ∃ n' k',Ctl p o D' (cS n e n') (cS k e k') (cS q e (goF s (q e) t)) (cS b e (b e++[t]))/\Dn p o D' e n' k'=Dn p o D e (n e) (k e)++[(n e,ix (cel p o e (rho p D (n e))) (k e))]/\Dn p o D' (!e) (n (!e)) (k (!e))=Dn p o D (!e) (n (!e)) (k (!e))/\n e<=n'/\n'<=n e+1/\rho p D' (n e)=rho p D (n e)/\n (!e)<=n e:=by
 have hr:=hs.rp;have h1:=eO hp.hb;have h2:=hp.pc;have hka:=yZ (o:=o) (e:=e) hr (show rho p D (n e)<p.code.length by omega) (by rw[eW];exact hk);have hkk:ix (kin p o e (rho p D (n e))) (k e)=9:=by rw[<-pQ hk];exact hc
 obtain⟨k1,k2,k3,k4⟩:=hka.1 (.inl hkk);rw[eW]at k2;have hsplit:kin p o e (rho p D (n e))=(kin p o e (rho p D (n e))).take (k e)++[ix (kin p o e (rho p D (n e))) (k e)]:=by rw[<-aFO (by rw[eW];exact hk),k2,<-eW,List.take_length]
 have hf9:cK p o D e 9 (n e)=1:=by unfold cK;rw[hsplit,List.count_append,k3,hkk];rfl
 have hf10:cK p o D e 10 (n e)=0:=by unfold cK;rw[hsplit,List.count_append,k4,hkk];rfl
 have hg:cK p o D (!e) 10=cK p o D e 9:=by funext m;exact(bCJ (o:=o) (D:=D) hr e m).symm
 have hg9:cK p o D (!e) 9=cK p o D e 10:=by
  funext m;have:=bCJ (o:=o) (D:=D) hr (!e) m
  rwa [Bool.not_not]at this
 have hq:=h.bq e;have hlen:=congrArg List.length hq;simp only[List.length_map,List.length_append,nZ]at hlen;rw[aKM,aKM,k3,hg]at hlen;have hno:n (!e)<=n e:=by
  rcases Nat.lt_or_ge (n e) (n (!e))with h3|h3
  ·exfalso;have h4:=pB (f:=cK p o D e 9) (show n e+1<=n (!e) from h3);have h5:tot (cK p o D e 9) (n e+1)=tot (cK p o D e 9) (n e)+cK p o D e 9 (n e):=rfl;omega
  ·exact h3
 have hsame:n (!e)=n e->((kin p o (!e) (rho p D (n (!e)))).take (k (!e))).count 10=0/\k (!e)<(cel p o (!e) (rho p D (n (!e)))).length:=fun h3=>by
  have h4:((kin p o (!e) (rho p D (n (!e)))).take (k (!e))).count 10=0:=by rw[h3]at hlen ⊢;omega
  refine⟨h4, ?_⟩;rcases Nat.lt_or_ge (k (!e)) (cel p o (!e) (rho p D (n (!e)))).length with h5|h5
  ·exact h5
  ·rw[List.take_of_length_le (by rw[eW];exact h5)]at h4;have h6:cK p o D (!e) 10 (n (!e))=0:=h4;rw[hg,h3]at h6;omega
 have hag:∀ m,m<n e->D m=D' m:=fun m hm=>by rw[hD'];show D m=cond (m == n e) t (D m);rw[show(m == n e)=false by simp;omega];rfl
 have hat:D' (n e)=t:=by rw[hD'];simp
 have hrho:∀ m,m<=n e->rho p D' m=rho p D m:=fun m hm=>(aRU fun i hi=>hag i (by omega)).symm
 have hDn:∀(e':Bool) (m i:Nat),m<=n e->Dn p o D' e' m i=Dn p o D e' m i:=fun e' m i hm=>by unfold Dn;rw[hrho m hm];congr 1;exact aH6 fun x hx=>by rw[hrho x (by omega)]
 have hp':PR p o D' e (q e) (n e) (k e) B j:=⟨hp.blk,hp.hb,by rw[hrho _ (zaF _)];exact hp.pc,hp.base,hp.aH3,hp.idx,.inl ⟨hj,by rw[hrho _ (zaF _)];omega,fun h6=>by rw[hrho _ (zaF _)]at h6;omega⟩⟩;obtain⟨n',k',B',j',c1,c2,c3,c4⟩:=aMO hs hp' (by rw[hrho _ (zaF _)];exact k2) hj hn (t:=t) (.inl ⟨by rw[hrho _ (zaF _)];exact k1,hat⟩);rw[hDn e _ _ (zaF _),aKL hk]at c2;have mapD:∀ l:List Nat,(∀ x∈l,x<n e)->l.map D'=l.map D:=fun l hl=>List.map_congr_left fun x hx=>(hag x (hl x hx)).symm
 have ltS:∀(f:Nat->Nat) (m c:Nat),m<=n e->(m=n e->c=0)->∀ x∈SL f m++List.replicate c m,x<n e:=fun f m c hm h0 x hx=>by
  rcases List.mem_append.1 hx with hx|hx
  ·have:=aUA hx;omega
  ·have h3:=List.eq_of_mem_replicate hx;rcases Nat.lt_or_ge m (n e)with h4|h4
   ·omega
   ·have:=h0 (by omega);subst this;cases hx
 have lt9e:∀ x∈stK 9 (Dn p o D e (n e) (k e)),x<n e:=by rw[xS];exact ltS _ _ _ (zaF _) fun _=>k3
 have lt10e:∀ x∈stK 10 (Dn p o D e (n e) (k e)),x<n e:=by rw[xS];exact ltS _ _ _ (zaF _) fun _=>k4
 have lt10o:∀ x∈stK 10 (Dn p o D (!e) (n (!e)) (k (!e))),x<n e:=by rw[xS];exact ltS _ _ _ hno fun h3=>(hsame h3).1
 have lt9o:∀ x∈stK 9 (Dn p o D (!e) (n (!e)) (k (!e))),x<n e:=by
  rw[xS];refine ltS _ _ _ hno fun h3 => ?_
  have h4:cK p o D (!e) 9 (n (!e))=0:=by rw[hg9,h3];exact hf10
  have h5:((kin p o (!e) (rho p D (n (!e)))).take (k (!e))).count 9<=cK p o D (!e) 9 (n (!e)):=(List.take_sublist _ _).count_le 9;omega
 refine⟨n',k',⟨two _ e ?_ ?_,two _ e ?_ ?_,two _ e ?_ ?_⟩,c2,hDn _ _ _ hno,c3,c4,hrho _ (zaF _),hno⟩
 ·rw[cN,cN,cN];exact⟨B',j',c1⟩
 ·rw[bP,bP,bP];obtain⟨B2,j2,h3⟩:=h.pr (!e);have h4:=hrho _ hno;refine⟨B2,j2,h3.blk,h3.hb,by rw[h4];exact h3.pc,h3.base,h3.aH3,h3.idx, ?_⟩;rw[h4];rcases h3.here with⟨a1,a2,a3⟩|a1
  ·refine .inl ⟨a1,a2,fun a4 => ?_⟩;rcases Nat.lt_or_ge (n (!e)) (n e)with h5|h5
   ·have:=a3 a4;unfold aPK at this ⊢;rw[h4,<-hag _ h5];exact this
   ·have:=(hsame (by omega)).2;omega
  ·exact .inr a1
 ·rw[cN];intro m hm;rw[hrho m (by omega)];rcases Nat.lt_or_ge m (n e)with h3|h3
  ·exact h.nh e m h3
  ·obtain rfl:m=n e:=by omega
   omega
 ·rw[bP];intro m hm;rw[hrho m (by omega)];exact h.nh _ m hm
 ·rw[cN,cN,bP,bP,cN,c2,hDn _ _ _ hno,oP,r8,if_pos hc,List.map_append,mapD _ lt9e,mapD _ lt10o,hq,List.append_assoc];show _++(_++[D' (n e)])=_;rw[hat]
 ·rw[bP,bP,bP,Bool.not_not,cN,cN,c2,hDn _ _ _ hno,oP,r8,if_neg (by rw[hc];omega),List.append_nil,mapD _ lt9o,mapD _ lt10e];have:=h.bq (!e)
  rwa [Bool.not_not]at this
end
def eD (f:Req->Int):List Req->Int
 |[]=>0
 |r::l=>f r+eD f l
theorem tU {f:Req->Int} {l r:List Req}:eD f (l++r)=eD f l+eD f r:=by
 induction l with
 |nil=>simp[eD]
 |cons a l ih=>simp only[List.cons_append,eD,ih];omega
theorem aPQ {f:Req->Int} {a:Req}:∀ {l:List Req} {k:Nat},k<l.length->eD f (l.set k a)=eD f l-f (ix l k)+f a
 |[],k,h=>absurd h (Nat.not_lt_zero _)
 |r::l,0,h=>by show f a+eD f l=f r+eD f l-f r+f a;omega
 |r::l,k+1,h=>by show f r+eD f (l.set k a)=f r+eD f l-f (ix l k)+f a;rw[aPQ (Nat.lt_of_succ_lt_succ h)];omega
theorem a6G {f:Req->Int} (hf:∀ r,0<=f r) {l:List Req}:0<=eD f l:=by
 induction l with
 |nil=>exact Int.le_refl _
 |cons a l ih=>have:=hf a;simp only[eD];omega
def wgI (M:Int) (r:Req):Int:=if r.left>0 then r.left else M+1
theorem aUD {c:Cfg} {b:Int} {l:List Req} {k:Nat} {x:Int} (h:x∈e8 c b l k):aA0 c b (ix l x.toNat)=true:=by unfold e8 at h;obtain⟨j,hj,rfl⟩:=List.mem_map.1 h;have:=(List.mem_filter.1 hj).2;simpa using this
theorem a6H {c:Cfg} {b:Int} {l:List Req} {k j:Nat} (hj:j<k) (h:aA0 c b (ix l j)=true):¬(e8 c b l k).length=0:=by
 intro h0;have h1:((j:Nat):Int)∈e8 c b l k:=by unfold e8;exact List.mem_map.2 ⟨j,List.mem_filter.2 ⟨List.mem_range.2 hj,h⟩,rfl⟩
 rw[List.eq_nil_of_length_eq_zero h0]at h1;cases h1
theorem a1H {c:Cfg} {s:bF} {x:Stt} {b:Int} (h:¬(e8 c b x.table x.table.length).length=0):aA0 c b (ix x.table (nY s x (e8 c b x.table x.table.length)))=true:=by
 unfold nY;split
 ·rename_i hm;have:=aHU s x.cG (n:=((e8 c b x.table x.table.length).length:Int)) (by omega);exact aUD (cA (by omega))
 ·exact aUD (cA (by show(0:Int).toNat<_;simp;omega))
theorem aD0 {c:Cfg} {s:bF} {x:Stt} {b:Int}:(tN c s x b=x/\(x.table.any (zG c b)=true\/(e8 c b x.table x.table.length).length=0))\/(x.table.any (zG c b)=false/\∃ k pi,k<x.table.length/\aA0 c b (ix x.table k)=true/\tN c s x b = { x with cG:=pi,dR:=IntKind.i64.wrap (x.dR+1),table:=x.table.set k { ix x.table k with left:=uY s x.dR c.lat } }):=by
 by_cases h1:x.table.any (zG c b)=true
 ·exact .inl ⟨by unfold tN;rw[if_pos h1],.inl h1⟩
 ·by_cases h2:(e8 c b x.table x.table.length).length=0
  ·exact .inl ⟨by unfold tN;rw[if_neg h1,if_pos h2],.inr h2⟩
  ·refine .inr ⟨by simpa using h1,nY s x (e8 c b x.table x.table.length),(if(e8 c b x.table x.table.length).length>1 then IntKind.i64.wrap (x.cG+1)else x.cG),aPC (s:=s) h2,a1H h2, ?_⟩;unfold tN;rw[if_neg h1,if_neg h2]
def opn (t:Int) (l:List Slot):Nat:=l.countP (rF t)
def aC5 (t:Int) (q:Req):Bool:=!q.store&&(decide (q.reg<0)&&decide (q.tag=t))
def pnd (t:Int) (l:List Req):Nat:=l.countP (aC5 t)
theorem aPR {l:List Slot} {t w:Int} (t':Int):opn t' (fG l t w).1<=opn t' l/\opn t (fG l t w).1<=opn t l-1:=by
 unfold fG;split
 ·rename_i h;refine⟨zaF _, ?_⟩;have:opn t l=0:=by
   unfold opn;rw[List.countP_eq_zero];intro z hz h2;have h3:l.any (rF t)=true:=List.any_eq_true.2 ⟨z,hz,h2⟩;unfold lR at h;rw[if_pos h3]at h;omega
  show opn t l<=_;omega
 ·rename_i h;obtain⟨b1,b2,b3⟩:=aCR h;have hp:rF t (ix l (lR (rF t) l).toNat)=true:=by
   unfold lR at h ⊢;split
   ·rename_i h3;rw[if_pos h3]at h;rw[zaO];have h4:=List.findIdx_lt_length.2 (List.any_eq_true.1 h3);rw[gW h4];exact List.findIdx_getElem
   ·rename_i h3;rw[if_neg h3]at h;omega
  generalize (lR (rF t) l).toNat=i at b3 hp;have key:∀ t',opn t' (l.set i ⟨(ix l i).tag,true,w⟩)=opn t' l-(if rF t' (ix l i)then 1 else 0):=fun t'=>by unfold opn;rw[List.countP_set b3,gW b3];simp[rF]
  refine⟨?_, ?_⟩
  ·rw[key];omega
  ·rw[key,hp];simp
theorem lG {l r:List Req}:eG (l++r)=eG l+eG r:=List.countP_append
theorem qY {q:Req} {l:List Req}:eG (q::l)=eG l+if q.store then 1 else 0:=List.countP_cons
theorem zA {t:Int} {l r:List Req}:pnd t (l++r)=pnd t l+pnd t r:=List.countP_append
theorem aPS {t:Int} {q:Req} {l:List Req}:pnd t (q::l)=pnd t l+if aC5 t q then 1 else 0:=List.countP_cons
structure FI (x:Stt) (M:Int) (z:Stt) (l:List Req):Prop where
 same:z.aE=x.aE/\z.e=x.e/\z.sdq=x.sdq/\z.aeq=x.aeq/\z.abq=x.abq/\z.ebq=x.ebq/\z.aT=x.aT/\z.tags=x.tags/\z.a.pos=x.a.pos/\z.a.wait=x.a.wait/\z.a.halted=x.a.halted/\z.a.done=x.a.done/\z.ldq.length=x.ldq.length
 st:(z.saq=x.saq/\z.writes.length=x.writes.length/\eG l=eG x.table)\/(z.saq=x.saq.tail/\z.writes.length=x.writes.length+1/\eG x.table=eG l+1)
 op:∀ t,opn t z.ldq<=pnd t l
 pe:∀ r:Nat,1<=r->r<=15->z.a.ready r<0->∃ q∈l,q.store=false/\q.reg=(r:Int)
 rd:∀ r,z.a.ready r=x.a.ready r\/z.a.ready r=x.aE+1
 lf:∀ q∈l,0<=q.left/\q.left<=M
theorem a6I {x:Stt} {M:Int} (hc:0<=x.aE/\x.aE<=2000000000000) (h1:eG x.table<=1) {z:Stt} {acc rest:List Req} {r:Req} (h:FI x M z (acc++r::rest)) :
  FI x M (pP (z,acc) r).1 ((pP (z,acc) r).2++rest)/\eD (wgI M) ((pP (z,acc) r).2++rest)<=eD (wgI M) (acc++r::rest)/\(r.left>0->eD (wgI M) ((pP (z,acc) r).2++rest)<eD (wgI M) (acc++r::rest)):=by
 have hw:∀ l:List Req,eD (wgI M) (r::l)=wgI M r+eD (wgI M) l:=fun l=>rfl
 unfold pP;by_cases hl:r.left>0
 case neg => rw[if_neg hl];show FI x M z (acc++[r]++rest)/\eD (wgI M) (acc++[r]++rest)<=_/\_;rw[List.append_assoc,List.singleton_append];exact⟨h,Int.le_refl _,fun h2=>absurd h2 hl⟩
 rw[if_pos hl];by_cases hl1:r.left=1
 case neg =>
  rw[if_neg hl1];show FI x M z (acc++[{ r with left:=r.left-1 }]++rest)/\eD (wgI M) (acc++[{ r with left:=r.left-1 }]++rest)<=_/\_;rw[List.append_assoc,List.singleton_append];have e1:wgI M { r with left:=r.left-1 }=wgI M r-1:=by unfold wgI;rw[if_pos hl,if_pos (by show r.left-1>0;omega)]
  have e2:eD (wgI M) (acc ++ { r with left:=r.left-1 }::rest)=eD (wgI M) (acc++r::rest)-1:=by rw[tU,tU,hw];show _+(wgI M { r with left:=r.left-1 }+_)=_;rw[e1];omega
  refine⟨⟨h.same, ?_,fun t => ?_,fun i hi hi2 hi3 => ?_,h.rd,fun q hq => ?_⟩,by omega,fun _=>by omega⟩
  ·have:=h.st;rw[lG,qY]at this ⊢;exact this
  ·have:=h.op t;rw[zA,aPS]at this ⊢;exact this
  ·obtain⟨q,hq,h2,h3⟩:=h.pe i hi hi2 hi3;rcases List.mem_append.1 hq with hq|hq
   ·exact⟨q,List.mem_append_left _ hq,h2,h3⟩
   ·rcases List.mem_cons.1 hq with rfl|hq
    ·exact⟨{ q with left:=q.left-1 },List.mem_append_right _ (List.mem_cons_self ..),h2,h3⟩
    ·exact⟨q,List.mem_append_right _ (List.mem_cons_of_mem _ hq),h2,h3⟩
  ·rcases List.mem_append.1 hq with hq|hq
   ·exact h.lf q (List.mem_append_left _ hq)
   ·rcases List.mem_cons.1 hq with rfl|hq
    ·have:=h.lf r (List.mem_append_right _ (List.mem_cons_self ..));show 0<=r.left-1/\r.left-1<=M;omega
    ·exact h.lf q (List.mem_append_right _ (List.mem_cons_of_mem _ hq))
 rw[if_pos hl1];have e1:wgI M r=1:=by unfold wgI;rw[if_pos hl,hl1]
 have e2:eD (wgI M) (acc++rest)=eD (wgI M) (acc++r::rest)-1:=by rw[tU,tU,hw,e1];omega
 have hsub:∀ q,q∈acc++rest->q∈acc++r::rest:=fun q hq=>by
  rcases List.mem_append.1 hq with hq|hq
  ·exact List.mem_append_left _ hq
  ·exact List.mem_append_right _ (List.mem_cons_of_mem _ hq)
 have hrm:∀ q,q∈acc++r::rest->q≠r->q∈acc++rest:=fun q hq hne=>by
  rcases List.mem_append.1 hq with hq|hq
  ·exact List.mem_append_left _ hq
  ·rcases List.mem_cons.1 hq with hq|hq
   ·exact absurd hq hne
   ·exact List.mem_append_right _ hq
 refine⟨?_,by show eD (wgI M) (acc++rest)<=_;omega,fun _=>by show eD (wgI M) (acc++rest)<_;omega⟩;show FI x M (kP z r) (acc++rest);have hst:=h.st;have hop:=h.op;have hcs:eG (acc++r::rest)=eG (acc++rest)+if r.store then 1 else 0:=by rw[lG,lG,qY];omega
 have hps:∀ t,pnd t (acc++r::rest)=pnd t (acc++rest)+if aC5 t r then 1 else 0:=fun t=>by rw[zA,zA,aPS];omega
 rw[hcs]at hst;by_cases hs:r.store=true
 ·rw[yW hs];rw[if_pos hs]at hst;have hpz:∀ t,aC5 t r=false:=fun t=>by unfold aC5;rw[hs];rfl
  refine⟨h.same, ?_,fun t => ?_,fun i hi hi2 hi3 => ?_,h.rd,fun q hq=>h.lf q (hsub q hq)⟩
  ·rcases hst with⟨a1,a2,a3⟩|⟨a1,a2,a3⟩
   ·refine .inr ⟨by show z.saq.tail=_;rw[a1],by show(z.writes++[_]).length=_;rw[bD,a2],by omega⟩
   ·omega
  ·have:=hop t;rw[hps,hpz]at this;exact this
  ·obtain⟨q,hq,h2,h3⟩:=h.pe i hi hi2 hi3;exact⟨q,hrm q hq fun e=>(by rw[e,hs]at h2;cases h2),h2,h3⟩
 ·have hs:r.store=false:=by simpa using hs
  rw[hs]at hst;simp only[zaU,if_false,Nat.add_zero]at hst;by_cases g1:r.reg<0
  ·rw[tK hs g1];refine⟨?_,hst,fun t => ?_,fun i hi hi2 hi3 => ?_,h.rd,fun q hq=>h.lf q (hsub q hq)⟩
   ·have:=h.same;exact⟨this.1,this.2.1,this.2.2.1,this.2.2.2.1,this.2.2.2.2.1,this.2.2.2.2.2.1,this.2.2.2.2.2.2.1,this.2.2.2.2.2.2.2.1,this.2.2.2.2.2.2.2.2.1,this.2.2.2.2.2.2.2.2.2.1,this.2.2.2.2.2.2.2.2.2.2.1,this.2.2.2.2.2.2.2.2.2.2.2.1,by show(fG _ _ _).1.length=_;rw[tM];exact this.2.2.2.2.2.2.2.2.2.2.2.2⟩
   ·have h2:=hop t;have h3:=aPR (l:=z.ldq) (t:=r.tag) (w:=ldF z r) t;rw[hps]at h2;show opn t (fG z.ldq r.tag (ldF z r)).1<=_;by_cases ht:r.tag=t
    ·subst ht;have h4:aC5 r.tag r=true:=by unfold aC5;rw[hs];simp[g1]
     rw[if_pos h4]at h2;omega
    ·have h4:aC5 t r=false:=by unfold aC5;rw[decide_eq_false ht];simp
     rw[h4]at h2;simp only[zaU,if_false,Nat.add_zero]at h2;omega
   ·obtain⟨q,hq,h2,h3⟩:=h.pe i hi hi2 hi3;exact⟨q,hrm q hq fun e=>(by rw[e]at h3;omega),h2,h3⟩
  ·have hpz:∀ t,aC5 t r=false:=fun t=>by unfold aC5;rw[decide_eq_false g1];simp
   have hop2:∀ t,opn t z.ldq<=pnd t (acc++rest):=fun t=>by have:=hop t;rw[hps,hpz]at this;exact this
   by_cases g2:1<=r.reg/\r.reg<=15
   ·rw[tL hs g2];have hcy:IntKind.i64.wrap (z.aE+1)=x.aE+1:=by rw[h.same.1];exact wrap_i64 (by omega) (by omega)
    refine⟨h.same,hst,hop2,fun i hi hi2 hi3 => ?_,fun i => ?_,fun q hq=>h.lf q (hsub q hq)⟩
    ·by_cases hi4:i=r.reg.toNat
     ·exfalso;have:(cond (Nat.beq i r.reg.toNat) (IntKind.i64.wrap (z.aE+1)) (z.a.ready i))<0:=hi3;rw[hi4,zaQ,zaB,hcy]at this;omega
     ·have:(cond (Nat.beq i r.reg.toNat) (IntKind.i64.wrap (z.aE+1)) (z.a.ready i))<0:=hi3;rw[dB hi4,zaD]at this;obtain⟨q,hq,h2,h3⟩:=h.pe i hi hi2 this;exact⟨q,hrm q hq fun e=>hi4 (by rw[e]at h3;omega),h2,h3⟩
    ·show(cond (Nat.beq i r.reg.toNat) (IntKind.i64.wrap (z.aE+1)) (z.a.ready i))=_\/(cond (Nat.beq i r.reg.toNat) (IntKind.i64.wrap (z.aE+1)) (z.a.ready i))=_;cases Nat.beq i r.reg.toNat
     ·exact h.rd i
     ·exact .inr hcy
   ·rw[yX hs g1 g2];refine⟨h.same,hst,hop2,fun i hi hi2 hi3 => ?_,h.rd,fun q hq=>h.lf q (hsub q hq)⟩;obtain⟨q,hq,h2,h3⟩:=h.pe i hi hi2 hi3;exact⟨q,hrm q hq fun e=>(by rw[e]at h3;omega),h2,h3⟩
theorem a1I {x:Stt} {M:Int} (hc:0<=x.aE/\x.aE<=2000000000000) (h1:eG x.table<=1):∀ {rest acc:List Req} {z:Stt},FI x M z (acc++rest) ->
  FI x M (o8 rest (z,acc)).1 (o8 rest (z,acc)).2/\eD (wgI M) (o8 rest (z,acc)).2<=eD (wgI M) (acc++rest)/\((∃ r∈rest,r.left>0)->eD (wgI M) (o8 rest (z,acc)).2<eD (wgI M) (acc++rest))/\((∀ r∈rest,¬r.left>0)->o8 rest (z,acc)=(z,acc++rest))
 |[],acc,z,h=>by rw[List.append_nil]at h ⊢;exact⟨h,Int.le_refl _,fun⟨r,hr,_⟩=>(by cases hr),fun _=>rfl⟩
 |r::rest,acc,z,h=>by
  obtain⟨a1,a2,a3⟩:=a6I hc h1 h;have e:o8 (r::rest) (z,acc)=o8 rest ((pP (z,acc) r).1,(pP (z,acc) r).2):=rfl;obtain⟨b1,b2,b3,b4⟩:=a1I hc h1 a1;rw[e];refine⟨b1,by omega,fun⟨q,hq,hq2⟩ => ?_,fun hn => ?_⟩
  ·rcases List.mem_cons.1 hq with rfl|hq
   ·have:=a3 hq2;omega
   ·have:=b3 ⟨q,hq,hq2⟩;omega
  ·have h5:pP (z,acc) r=(z,acc++[r]):=by unfold pP;rw[if_neg (hn r (List.mem_cons_self ..))]
   rw[b4 fun q hq=>hn q (List.mem_cons_of_mem _ hq),h5];simp
structure Adv (M:Int) (x y:Stt):Prop extends FI x M y y.table where
 ph:eD (wgI M) y.table<=eD (wgI M) x.table
 dn:¬x.table=[]->eD (wgI M) y.table<eD (wgI M) x.table
 no:x.table=[]->y=x
theorem aUE {l l':List Req} (h:l'.map (fun q:Req=>(q.store,q.reg,q.tag))=l.map fun q:Req=>(q.store,q.reg,q.tag)):(∀ t,pnd t l'=pnd t l)/\eG l'=eG l/\∀ r:Nat,(∃ q∈l,q.store=false/\q.reg=(r:Int))->∃ q∈l',q.store=false/\q.reg=(r:Int):=by
 refine⟨fun t => ?_, ?_,fun r ⟨q,hq,h1,h2⟩ => ?_⟩
 ·have e:∀ l:List Req,pnd t l=(l.map fun q:Req=>(q.store,q.reg,q.tag)).countP (fun k => !k.1&&(decide (k.2.1<0)&&decide (k.2.2=t))):=fun l=>by
   rw[List.countP_map];rfl
  rw[e,e,h]
 ·have e:∀ l:List Req,eG l=(l.map fun q:Req=>(q.store,q.reg,q.tag)).countP (fun k=>k.1):=fun l=>by
   rw[List.countP_map];rfl
  rw[e,e,h]
 ·have h3:(q.store,q.reg,q.tag)∈l'.map fun q:Req=>(q.store,q.reg,q.tag):=by rw[h];exact List.mem_map.2 ⟨q,hq,rfl⟩
  obtain⟨q',hq',h4⟩:=List.mem_map.1 h3;simp only[zaJ]at h4;exact⟨q',hq',by rw[h4.1];exact h1,by rw[h4.2.1];exact h2⟩
theorem aUF {l:List Req} {k:Nat} (h:k<l.length) (v:Int):(l.set k { ix l k with left:=v }).map (fun q:Req=>(q.store,q.reg,q.tag))=l.map fun q:Req=>(q.store,q.reg,q.tag):=by
 rw[List.map_set];refine List.ext_getElem (by simp) fun i h1 h2 => ?_
 rw[List.getElem_set];split
 ·rename_i h3;subst h3;simp[gW h]
 ·rfl
theorem a6J {a n:Int} (h:1<=n):0<=aDW a n/\aDW a n<n:=by
 unfold aDW;split
 ·omega
 ·have:=Int.emod_nonneg (a/4) (show n≠0 by omega);have:=Int.emod_lt_of_pos (a/4) (show 0<n by omega);omega
theorem bCK {c:Cfg} {t:bF} {y:Stt} {b:Int} (hlat:1<=c.lat) (hl:∀ q∈y.table,0<=q.left/\q.left<=c.lat):(tN c t y b).table.map (fun q:Req=>(q.store,q.reg,q.tag))=y.table.map (fun q:Req=>(q.store,q.reg,q.tag))/\(∀ q∈(tN c t y b).table,0<=q.left/\q.left<=c.lat) /\
  ((tN c t y b=y/\((∀ q∈y.table,q.left=0)->∀ q∈y.table,¬aDW q.addr c.dI=b))\/eD (wgI c.lat) (tN c t y b).table<eD (wgI c.lat) y.table):=by
 rcases aD0 (c:=c) (s:=t) (x:=y) (b:=b)with⟨h1,h2⟩|⟨_,k,pi,hk,hw,h1⟩
 ·rw[h1];refine⟨rfl,hl,.inl ⟨rfl,fun h3 q hq hb => ?_⟩⟩;rcases h2 with h2|h2
  ·obtain⟨z,hz,hz2⟩:=List.any_eq_true.1 h2;simp only[zG,zaG,zaK]at hz2;have:=h3 z hz;omega
  ·obtain⟨i,hi,rfl⟩:=vB hq;refine a6H hi ?_ h2;simp only[aA0,zaG,zaK];exact⟨hb,h3 _ hq⟩
 ·have hr:=a4X t y.dR hlat;simp only[aA0,zaG,zaK]at hw;rw[h1];refine⟨aUF hk _,fun q hq => ?_,.inr ?_⟩
  ·rcases List.mem_or_eq_of_mem_set hq with hq|rfl
   ·exact hl q hq
   ·show 0<=uY t y.dR c.lat/\_;exact⟨by omega,hr.2⟩
  ·show eD (wgI c.lat) (y.table.set k _)<_;rw[aPQ hk];have e1:wgI c.lat (ix y.table k)=c.lat+1:=by unfold wgI;rw[if_neg (by omega)]
   have e2:wgI c.lat { ix y.table k with left:=uY t y.dR c.lat }=uY t y.dR c.lat:=by unfold wgI;rw[if_pos (by show uY t y.dR c.lat>0;omega)]
   rw[e1,e2];omega
theorem a1J {c:Cfg} {t:bF} {y:Stt} (hlat:1<=c.lat) (hl:∀ q∈y.table,0<=q.left/\q.left<=c.lat):∀ k:Nat,(bgK c t y k).table.map (fun q:Req=>(q.store,q.reg,q.tag))=y.table.map (fun q:Req=>(q.store,q.reg,q.tag))/\(∀ q∈(bgK c t y k).table,0<=q.left/\q.left<=c.lat) /\
  ((bgK c t y k=y/\((∀ q∈y.table,q.left=0)->∀ q∈y.table,(k:Int)<=aDW q.addr c.dI\/aDW q.addr c.dI<0))\/eD (wgI c.lat) (bgK c t y k).table<eD (wgI c.lat) y.table)
 |0=>⟨rfl,hl,.inl ⟨rfl,fun _ q _=>by omega⟩⟩
 |k+1=>by
  obtain⟨a1,a2,a3⟩:=a1J (t:=t) hlat hl k;obtain⟨b1,b2,b3⟩:=bCK (t:=t) (b:=(k:Int)) hlat a2;have e:bgK c t y (k+1)=tN c t (bgK c t y k) (k:Int):=rfl;rw[e];refine⟨b1.trans a1,b2, ?_⟩;rcases a3 with⟨a3,a4⟩|a3
  ·rw[a3]at b3 ⊢;rcases b3 with⟨b3,b4⟩|b3
   ·refine .inl ⟨b3,fun h q hq => ?_⟩;have h1:=a4 h q hq;have h2:=b4 h q hq;omega
   ·exact .inr b3
  ·rcases b3 with⟨b3,_⟩|b3
   ·rw[b3];exact .inr a3
   ·exact .inr (by omega)
theorem bCL {c:Cfg} {t:bF} {x:Stt} (hb:1<=c.dI/\c.dI<=16) (hm:1<=c.lat/\c.lat<=1000) (hc:0<=x.aE/\x.aE<=2000000000000) (h1:eG x.table<=1) (hop:∀ t,opn t x.ldq<=pnd t x.table)
  (hpe:∀ r:Nat,1<=r->r<=15->x.a.ready r<0->∃ q∈x.table,q.store=false/\q.reg=(r:Int)) (hlf:∀ q∈x.table,0<=q.left/\q.left<=c.lat) (hw:x.wf):Adv c.lat x (jY c t x):=by
 have e0:jY c t x=bgK c t (gB x) c.dI.toNat:=by unfold jY;rw[if_pos ⟨hb.1,hb.2,hm.1,hm.2⟩]
 have h0:FI x c.lat x ([]++x.table):=⟨⟨rfl,rfl,rfl,rfl,rfl,rfl,rfl,rfl,rfl,rfl,rfl,rfl,rfl⟩,.inl ⟨rfl,rfl,rfl⟩,hop,hpe,fun _=>.inl rfl,hlf⟩;obtain⟨f1,f2,f3,f4⟩:=a1I hc h1 h0;rw[List.nil_append]at f2 f3 f4;have f1:FI x c.lat (gB x) (gB x).table:=⟨f1.same,f1.st,f1.op,f1.pe,f1.rd,f1.lf⟩;have f2:eD (wgI c.lat) (gB x).table<=eD (wgI c.lat) x.table:=f2;have f3:(∃ r∈x.table,r.left>0)->eD (wgI c.lat) (gB x).table<eD (wgI c.lat) x.table:=f3;have f5:(∀ r∈x.table,¬r.left>0)->gB x=x:=fun h=>by unfold gB;rw[f4 h]
 obtain⟨g1,g2,g3⟩:=a1J (t:=t) (y:=gB x) hm.1 f1.lf c.dI.toNat;have hbi:aI5 (gB x) (bgK c t (gB x) c.dI.toNat)\/True:=.inr trivial;have hsame:∀ k:Nat,(bgK c t (gB x) k).aE=(gB x).aE/\(bgK c t (gB x) k).a=(gB x).a/\(bgK c t (gB x) k).e=(gB x).e/\(bgK c t (gB x) k).ldq=(gB x).ldq/\(bgK c t (gB x) k).sdq=(gB x).sdq/\(bgK c t (gB x) k).aeq=(gB x).aeq/\(bgK c t (gB x) k).abq=(gB x).abq/\(bgK c t (gB x) k).ebq=(gB x).ebq/\(bgK c t (gB x) k).saq=(gB x).saq/\(bgK c t (gB x) k).writes=(gB x).writes/\(bgK c t (gB x) k).aT=(gB x).aT/\(bgK c t (gB x) k).tags=(gB x).tags:=by
  intro k
  induction k with
  |zero=>exact⟨rfl,rfl,rfl,rfl,rfl,rfl,rfl,rfl,rfl,rfl,rfl,rfl⟩
  |succ k ih =>
   have e:bgK c t (gB x) (k+1)=tN c t (bgK c t (gB x) k) (k:Int):=rfl;rw[e];rcases aD0 (c:=c) (s:=t) (x:=bgK c t (gB x) k) (b:=(k:Int))with⟨h1,_⟩|⟨_,k2,pi,hk,hw,h1⟩
   ·rw[h1];exact ih
   ·rw[h1];exact ih
 obtain⟨s1,s2,s3,s4,s5,s6,s7,s8,s9,s10,s11,s12⟩:=hsame c.dI.toNat;obtain⟨k1,k2,k3⟩:=aUE g1;rw[e0];have fs:=f1.same;refine⟨⟨?_, ?_,fun t' => ?_,fun r hr hr2 hr3 => ?_,fun r => ?_,g2⟩, ?_,fun hne => ?_,fun hz => ?_⟩
 ·rw[s1,s2,s3,s4,s5,s6,s7,s8,s11,s12];exact fs
 ·rw[s9,s10,k2];exact f1.st
 ·rw[s4,k1];exact f1.op t'
 ·rw[s2]at hr3;exact k3 r (f1.pe r hr hr2 hr3)
 ·rw[s2];exact f1.rd r
 ·rcases g3 with⟨g3,_⟩|g3
  ·rw[g3];exact f2
  ·omega
 ·rcases g3 with⟨g3,g4⟩|g3
  ·by_cases hp:∃ r∈x.table,r.left>0
   ·rw[g3];exact f3 hp
   ·exfalso;have hp2:∀ r∈x.table,¬r.left>0:=fun r hr h=>hp ⟨r,hr,h⟩
    have e1:=f5 hp2;rw[e1]at g4;obtain⟨q,hq⟩:=List.exists_mem_of_ne_nil _ hne;have h2:=g4 (fun r hr=>by have:=hp2 r hr;have:=hlf r hr;omega) q hq;have h3:=a6J (a:=q.addr) hb.1;omega
  ·omega
 ·have e1:=f5 (by rw[hz];intro r hr;cases hr);rcases g3 with⟨g3,_⟩|g3
  ·rw[g3,e1]
  ·exfalso;rw[e1,hz]at g3;have:(bgK c t x c.dI.toNat).table=[]:=by
    rw[e1,hz]at g1;simpa using g1
   rw[this]at g3;omega
def dX (x:Stt):Bool->Pos
 |true=>x.e.pos
 |false=>x.a.pos
def bqB (x:Stt):Bool->List Bool
 |true=>x.ebq
 |false=>x.abq
def fO (x:Stt):Bool->Bool
 |true=>x.e.halted
 |false=>x.a.halted
def knS (l:List Entry):Nat:=if 0<l.length/\(ix l 0).known=true then 1 else 0
structure Cnt (c:Cfg) (hA hE:List (Nat×Cell)) (x:Stt):Prop where
 aq:kc 5 hA=kc 6 hE+x.aeq.length
 lq:kc 3 hA=kc 7 hE+x.ldq.length
 sq:∃ pre:List Int,(stK 4 hA).map (fun m:Nat=>(m:Int))=pre++x.saq.map Entry.step/\pre.length=x.writes.length
 dq:kc 8 hE=x.writes.length+knS x.saq+x.sdq.length
 op:∀ t,opn t x.ldq<=pnd t x.table
 pe:∀ r:Nat,1<=r->r<=15->x.a.ready r<0->∃ q∈x.table,q.store=false/\q.reg=(r:Int)
 rde:∀ r:Nat,1<=r->r<=15->0<=x.e.ready r
 lf:∀ q∈x.table,0<=q.left/\q.left<=c.lat
structure Inv (c:Cfg) (p:Prog) (o:Nat->Int) (D:Nat->Bool) (n k:Bool->Nat) (x:Stt):Prop where
 ctl:Ctl p o D n k (dX x) (bqB x)
 hal:∀ e,fO x e=true->aC (ix p.code (rho p D (n e))).op=8
 cnt:Cnt c (Dn p o D false (n false) (k false)) (Dn p o D true (n true) (k true)) x
theorem tV {c:Cfg} {s:Split} {x:Stt} (h:aU c s x=true):eG x.table=knS x.saq/\(∀ i,0<i->i<x.saq.length->(ix x.saq i).known=false)/\(0<=x.aE/\x.aE<=1099511627776)/\(0<=x.a.done/\x.a.done<=1099511627776)/\(0<=x.e.done/\x.e.done<=1099511627776)/\(∀ r,r<16 -> -1<=x.a.ready r):=by
 simp only[aU,zaG]at h;obtain⟨_,ha,he,hn,_,hs,_⟩:=h;simp only[u7,zaG]at hs;obtain⟨h1,_,h2⟩:=hs;simp only[aTV,zaG,zaK]at h2;refine⟨?_,fun i hi hl => ?_, ?_, ?_, ?_,fun r hr => ?_⟩
 ·rw[h2.2];rfl
 ·have:=dH.1 h1 i hl;simp only[aCT,zaG,Bool.not_eq_true']at this;have h3:=this.2.2;rw[zaW]at h3;rcases h3 with h3|h3
  ·exact h3
  ·rw[zaP]at h3;omega
 ·simp only[cD,List.all_cons,zaG,zaK]at hn;exact hn.1
 ·simp only[j5,cD,List.all_cons,zaG,zaK]at ha;omega
 ·simp only[j5,cD,List.all_cons,zaG,zaK]at he;omega
 ·simp only[j5,zaG]at ha;have h3:=ha.2.2.2;unfold cD at h3;rw[List.all_eq_true]at h3;have h4:=h3 (x.a.ready r) (by rw[<-kB (n:=16) (f:=x.a.ready) hr];exact cA (by rw[bG];exact hr));simp only[zaK]at h4;exact h4.1
theorem aPT {l:List Entry} (h:∀ i,0<i->i<l.length->(ix l i).known=false):knS l.tail=0:=by unfold knS;rw[if_neg];rintro ⟨h1,h2⟩;rw[List.length_tail]at h1;rw[yQ,h 1 (by omega) (by omega)]at h2;cases h2
section
variable {c:Cfg} {p:Prog} {o:Nat->Int} {D:Nat->Bool} {n k:Bool->Nat} {s:Split}
theorem Inv.adv {x y:Stt} (h:Inv c p o D n k x) (hr:aU c s x=true) (ha:Adv c.lat x y):Inv c p o D n k y:=by
 obtain⟨s1,s2,s3,s4,s5,s6,s7,s8,s9,s10,s11,s12,s13⟩:=ha.same;obtain⟨r1,r2,_⟩:=tV hr;have hp:dX y=dX x:=by funext e;cases e;exact s9;show y.e.pos=_;rw[s2];rfl
 have hb:bqB y=bqB x:=by funext e;cases e;exact s5;exact s6
 have hh:fO y=fO x:=by funext e;cases e;exact s11;show y.e.halted=_;rw[s2];rfl
 refine⟨by rw[hp,hb];exact h.ctl,by rw[hh];exact h.hal, ?_⟩;obtain⟨q1,q2,⟨pre,q3,q3'⟩,q4,q5,q6,q7,q8⟩:=h.cnt;refine⟨by rw[s4];exact q1,by rw[s13];exact q2, ?_, ?_,ha.op,ha.pe,by rw[s2];exact q7,ha.lf⟩
 ·rcases ha.st with⟨a1,a2,_⟩|⟨a1,a2,a3⟩
  ·exact⟨pre,by rw[a1];exact q3,by rw[a2];exact q3'⟩
  ·cases hq:x.saq with
   |nil =>
    exfalso;rw[hq]at r1;have:knS ([]:List Entry)=0:=by unfold knS;simp
    omega
   |cons e l => refine⟨pre++[e.step], ?_,by rw[List.length_append,a2,q3'];rfl⟩;rw[a1,hq,q3,hq];simp
 ·rcases ha.st with⟨a1,a2,_⟩|⟨a1,a2,a3⟩
  ·rw[a1,a2,s3];exact q4
  ·have h1:knS x.saq=1:=by
    have:knS x.saq<=1:=by unfold knS;split<;>omega
    omega
   rw[a1,a2,s3,aPT r2];omega
theorem Inv.send {x:Stt} (h:Inv c p o D n k x) (hlat:1<=c.lat):Inv c p o D n k (fV c x):=by
 unfold fV;split
 ·rename_i hu;simp only[oK,zaG,zaK]at hu;obtain⟨u1,u2,u3,_⟩:=hu;have l8:0<x.saq.length:=List.length_pos_iff.2 u1;have l4:0<x.sdq.length:=List.length_pos_iff.2 u3;refine⟨?_, ?_, ?_⟩
  ·have hp:dX (iO x)=dX x:=by funext e;cases e<;>rfl
   have hb:bqB (iO x)=bqB x:=by funext e;cases e<;>rfl
   rw[hp,hb];exact h.ctl
  ·have hh:fO (iO x)=fO x:=by funext e;cases e<;>rfl
   rw[hh];exact h.hal
  ·obtain⟨q1,q2,⟨pre,q3,q3'⟩,q4,q5,q6,q7,q8⟩:=h.cnt;have t8:(iO x).saq.map Entry.step=x.saq.map Entry.step:=by
    show(x.saq.set 0 _).map Entry.step=_;rw[List.map_set];refine List.ext_getElem (by simp) fun i h1 h2 => ?_
    rw[List.getElem_set];split
    ·rename_i h3;subst h3;simp[gW l8]
    ·rfl
   refine⟨q1,q2,⟨pre,by rw[t8];exact q3,q3'⟩, ?_,fun t => ?_,fun r hr hr2 hr3 => ?_,q7,fun q hq => ?_⟩
   ·have e1:knS x.saq=0:=by
     unfold knS;rw[if_neg];rintro ⟨_,h1⟩;rw[h1]at u2;cases u2
    have e2:knS (iO x).saq=1:=by unfold knS;rw[if_pos];refine⟨by show 0<(x.saq.set 0 _).length;rw[List.length_set];exact l8, ?_⟩;show(ix (x.saq.set 0 _) 0).known=true;rw[sK,if_pos ⟨rfl,l8⟩]
    have e3:(iO x).sdq.length=x.sdq.length-1:=by simp[iO]
    rw[e2,e3];show _=x.writes.length+1+_;omega
   ·show opn t x.ldq<=pnd t (x.table++[_]);rw[zA];have:=q5 t;omega
   ·obtain⟨q,hq,h1⟩:=q6 r hr hr2 hr3;exact⟨q,List.mem_append_left _ hq,h1⟩
   ·rcases List.mem_append.1 hq with hq|hq
    ·exact q8 q hq
    ·obtain rfl:=List.mem_singleton.1 hq;show 0<=(0:Int)/\(0:Int)<=c.lat;omega
 ·exact h
variable (hs:Spl p o s)
include hs
theorem a1K {e:Bool} {r:Pos×Bool} {m i b j:Nat} (h:Stl p o D e r m i b j):aQ s e r.1=r:=by
 obtain⟨h1,h2⟩:=h;have hr:=hs.rp;have hb:=h1.hb;have hnb:=hs.nb;unfold aQ;rw[aCW,h1.blk,if_neg (by omega)];rcases h2 with⟨hf,hk,hj⟩|⟨hf,hk,hk0,hj,hl⟩
 ·rw[h1.pc]at hk;rw[if_pos (by rw[h1.idx];have:=(hs.aH0 hb e hj hk).1;omega),<-hf]
 ·have h3:dM p b-cW p b=j:=by omega
  rw[if_neg (by rw[h1.idx,hs.yY hb,h3,hk0];omega)];have hops:¬(ix p.code (dM p b-1)).op=40/\¬(ix p.code (dM p b-1)).op=41:=by
   rcases h1.here with h4|h4
   ·omega
   ·exact h4.2.2
  rw[if_pos (.inl (by rw[zaO,hs.blk hb];show vS p (aM p) b<0;rw[aT6 hr hb hops.1 hops.2,if_neg (by omega)];omega)),<-hf]
end
section
variable {c:Cfg} {p:Prog} {o:Nat->Int} {s:Split} (hs:Spl p o s) {D:Nat->Bool} {n k:Bool->Nat} {x y:Stt}
def more (p:Prog) (o:Nat->Int) (D:Nat->Bool) (n k:Bool->Nat) (e:Bool):Bool->List (Nat×Cell):=cS (fun e'=>Dn p o D e' (n e') (k e')) e (Dn p o D e (n e) (k e)++[(n e,ix (cel p o e (rho p D (n e))) (k e))])
include hs
theorem Inv.on (h:Inv c p o D n k x) (e:Bool) {B j:Nat} (hp:PR p o D e (dX x e) (n e) (k e) B j) (hk:k e<(cel p o e (rho p D (n e))).length) (hj:cW p B+j<dM p B) (hc:(ix (cel p o e (rho p D (n e))) (k e)).kind<=8)
  (h1:dX y=cS (dX x) e { dX x e with index:=IntKind.i64.wrap ((dX x e).index+1) }) (h2:bqB y=bqB x) (h3:fO y=fO x) (h4:Cnt c (more p o D n k e false) (more p o D n k e true) y):Inv c p o D n (cS k e (k e+1)) y:=by
 obtain⟨a1,a2⟩:=h.ctl.on hs e hp hk hj hc;refine⟨by rw[h1,h2];exact a1,by rw[h3];exact h.hal, ?_⟩;unfold more at h4;rw[<-a2]at h4;cases e
 ·exact h4
 ·exact h4
theorem Inv.con (h:Inv c p o D n k x) (e:Bool) {D':Nat->Bool} {m i:Nat} (a1:Ctl p o D' (cS n e m) (cS k e i) (dX y) (bqB y)) (a2:Dn p o D' e m i=Dn p o D e (n e) (k e)++[(n e,ix (cel p o e (rho p D (n e))) (k e))]) (a3:Dn p o D' (!e) (n (!e)) (k (!e))=Dn p o D (!e) (n (!e)) (k (!e))) (a4:rho p D' (n (!e))=rho p D (n (!e)))
  (h3:fO y=fO x) (h5:fO x e=false) (h4:Cnt c (more p o D n k e false) (more p o D n k e true) y):Inv c p o D' (cS n e m) (cS k e i) y:=by
 have _:=hs;refine⟨a1, ?_, ?_⟩
 ·rw[h3];refine two _ e ?_ ?_
  ·intro h6;rw[h5]at h6;cases h6
  ·intro h6;rw[bP,a4];exact h.hal _ h6
 ·unfold more at h4;rw[<-a2]at h4;cases e
  ·have:Dn p o D' true (n true) (k true)=Dn p o D true (n true) (k true):=a3;show Cnt c (Dn p o D' false m i) (Dn p o D' true (n true) (k true)) y;rw[this];exact h4
  ·have:Dn p o D' false (n false) (k false)=Dn p o D false (n false) (k false):=a3;show Cnt c (Dn p o D' false (n false) (k false)) (Dn p o D' true m i) y;rw[this];exact h4
theorem Inv.jump (h:Inv c p o D n k x) (e:Bool) {B j:Nat} (hp:PR p o D e (dX x e) (n e) (k e) B j) (hk:k e<(cel p o e (rho p D (n e))).length) (hj:cW p B+j<dM p B) (hn:n e<=1152921504606846976) (hc:(ix (cel p o e (rho p D (n e))) (k e)).kind=11)
  (h1:dX y=cS (dX x) e (goF s (dX x e) true)) (h2:bqB y=bqB x) (h3:fO y=fO x) (h5:fO x e=false) (h4:Cnt c (more p o D n k e false) (more p o D n k e true) y):∃ m i,m<=n e+1/\Inv c p o D (cS n e m) (cS k e i) y:=by
 obtain⟨m,i,a1,a2,_,a3⟩:=h.ctl.jump hs e hp hk hj hn hc;exact⟨m,i,a3,h.con hs e (by rw[h1,h2];exact a1) a2 rfl rfl h3 h5 h4⟩
theorem Inv.follow (h:Inv c p o D n k x) (e:Bool) {B j:Nat} (hp:PR p o D e (dX x e) (n e) (k e) B j) (hk:k e<(cel p o e (rho p D (n e))).length) (hj:cW p B+j<dM p B) (hn:n e<=1152921504606846976) (hc:(ix (cel p o e (rho p D (n e))) (k e)).kind=10) {t:Bool} {r:List Bool} (hb:bqB x (!e)=t::r)
  (h1:dX y=cS (dX x) e (goF s (dX x e) t)) (h2:bqB y=cS (bqB x) (!e) r) (h3:fO y=fO x) (h5:fO x e=false) (h4:Cnt c (more p o D n k e false) (more p o D n k e true) y):∃ m i,m<=n e+1/\Inv c p o D (cS n e m) (cS k e i) y:=by
 obtain⟨_,m,i,a1,a2,_,a3⟩:=h.ctl.follow hs e hp hk hj hn hc hb;exact⟨m,i,a3,h.con hs e (by rw[h1,h2];exact a1) a2 rfl rfl h3 h5 h4⟩
theorem Inv.branch (h:Inv c p o D n k x) (e:Bool) {B j:Nat} (hp:PR p o D e (dX x e) (n e) (k e) B j) (hk:k e<(cel p o e (rho p D (n e))).length) (hj:cW p B+j<dM p B) (hn:n e<=1152921504606846976) (hc:(ix (cel p o e (rho p D (n e))) (k e)).kind=9) (t:Bool)
  (h1:dX y=cS (dX x) e (goF s (dX x e) t)) (h2:bqB y=cS (bqB x) e (bqB x e++[t])) (h3:fO y=fO x) (h5:fO x e=false) (h4:Cnt c (more p o D n k e false) (more p o D n k e true) y):∃ D' m i,m<=n e+1/\Inv c p o D' (cS n e m) (cS k e i) y:=by
 obtain⟨m,i,a1,a2,a3,_,a4,_,a5⟩:=h.ctl.branch hs e hp hk hj hn hc t rfl;refine⟨_,m,i,a4,h.con hs e (by rw[h1,h2];exact a1) a2 a3 (aRU fun j hj => ?_) h3 h5 h4⟩;show(cond (j == n e) t (D j))=D j;rw[show(j == n e)=false by simp;omega];rfl
theorem Inv.halt (h:Inv c p o D n k x) (e:Bool) (hk:k e<(cel p o e (rho p D (n e))).length) (hi:rho p D (n e)<p.code.length) (hc:(ix (cel p o e (rho p D (n e))) (k e)).kind=12)
  (h1:dX y=dX x) (h2:bqB y=bqB x) (h3:fO y=cS (fO x) e true) (h4:Cnt c (Dn p o D false (n false) (k false)) (Dn p o D true (n true) (k true)) y):Inv c p o D n k y:=by
 refine⟨by rw[h1,h2];exact h.ctl, ?_,h4⟩;rw[h3];refine two _ e ?_ ?_
 ·intro _;have hka:=yZ (o:=o) (e:=e) hs.rp hi (by rw[eW];exact hk);exact hka.2.2.1 (by rw[<-pQ hk];exact hc)
 ·rw[bP];exact h.hal _
end
theorem fU (d:cE) (n w r:Int):(cV d n w r).pos=d.pos/\(cV d n w r).halted=d.halted/\(cV d n w r).wait=d.wait/\(cV d n w r).done=d.done:=by unfold cV;split<;>exact⟨rfl,rfl,rfl,rfl⟩
theorem xW {d:cE} {n w r:Int} (i:Nat):(cV d n w r).ready i=d.ready i\/(cV d n w r).ready i=r:=by
 unfold cV;split
 ·show(cond (Nat.beq i n.toNat) r (d.ready i))=_\/(cond (Nat.beq i n.toNat) r (d.ready i))=_;cases Nat.beq i n.toNat
  ·exact .inl rfl
  ·exact .inr rfl
 ·exact .inl rfl
theorem vF (c:Cfg) (op:Int):1<=u9 c op/\u9 c op<=50:=by
 unfold u9
 repeat' split
 all_goals omega
section
variable {c:Cfg} {p:Prog} {o:Nat->Int} {s:Split} (hs:Spl p o s) {D:Nat->Bool} {n k:Bool->Nat} {x:Stt}
theorem Inv.note (h:Inv c p o D n k x) (kd st pc:Int):Inv c p o D n k (cF x kd st pc):=by
 unfold cF;split
 ·have hp:dX { x with aT:=⟨kd,st,pc⟩ }=dX x:=by funext e;cases e<;>rfl
  have hb:bqB { x with aT:=⟨kd,st,pc⟩ }=bqB x:=by funext e;cases e<;>rfl
  have hh:fO { x with aT:=⟨kd,st,pc⟩ }=fO x:=by funext e;cases e<;>rfl
  obtain⟨q1,q2,q3,q4,q5,q6,q7,q8⟩:=h.cnt;exact⟨by rw[hp,hb];exact h.ctl,by rw[hh];exact h.hal,⟨q1,q2,q3,q4,q5,q6,q7,q8⟩⟩
 ·exact h
theorem Cnt.aMP {hA hE:List (Nat×Cell)} (h:Cnt c hA hE x) {z:Nat×Cell} {y:Stt} (h1:hA.length=hA.length) (a1:x.aeq.length=(if z.2.kind=6 then 1 else 0)+y.aeq.length) (a2:x.ldq.length=(if z.2.kind=7 then 1 else 0)+y.ldq.length) (a3:y.saq=x.saq/\y.writes=x.writes) (a4:y.sdq.length=x.sdq.length+(if z.2.kind=8 then 1 else 0))
  (a5:∀ t,opn t y.ldq<=opn t x.ldq) (a6:y.a=x.a/\y.table=x.table) (a7:∀ r:Nat,1<=r->r<=15->0<=y.e.ready r):Cnt c hA (hE++[z]) y:=by
 obtain⟨q1,q2,q3,q4,q5,q6,q7,q8⟩:=h;have hz:∀ K:Int,kc K (hE++[z])=kc K hE+if z.2.kind=K then 1 else 0:=fun K=>by rw[aRV];congr 1;exact aRW
 refine⟨by rw[hz];omega,by rw[hz];omega,by rw[a3.1,a3.2];exact q3,by rw[hz,a3.1,a3.2];omega,fun t=>by rw[a6.2];have:=q5 t;have:=a5 t;omega,by rw[a6.1,a6.2];exact q6,a7,by rw[a6.2];exact q8⟩
include hs
end
theorem aMQ {t:Int} {l r:List Slot}:opn t (l++r)=opn t l+opn t r:=List.countP_append
theorem aMR {t a:Int}:opn t [(⟨a,false,0⟩:Slot)]=if a=t then 1 else 0:=by unfold opn rF;by_cases h:a=t<;>simp[h]
theorem a6K {t:Int} {q:Req}:pnd t [q]=if aC5 t q then 1 else 0:=by unfold pnd;cases h:aC5 t q<;>simp[h]
theorem a6L {l:List Entry} {e:Entry} (h:e.known=false):knS (l++[e])=knS l:=by
 unfold knS;cases l with
 |nil=>simp[ix,h]
 |cons a l=>simp[ix]
section
variable {c:Cfg} {p:Prog} {o:Nat->Int} {s:Split} (hs:Spl p o s) {D:Nat->Bool} {n k:Bool->Nat} {x:Stt}
theorem Cnt.aPU {hA hE:List (Nat×Cell)} (h:Cnt c hA hE x) {z:Nat×Cell} {y:Stt} (a1:y.aeq.length=x.aeq.length+(if z.2.kind=5 then 1 else 0)) (a2:y.ldq.length=x.ldq.length+(if z.2.kind=3 then 1 else 0)) (a3:y.saq.map Entry.step=x.saq.map Entry.step++(if z.2.kind=4 then [(z.1:Int)]else [])) (a4:knS y.saq=knS x.saq/\y.writes=x.writes/\y.sdq=x.sdq/\y.e=x.e)
  (a5:∀ t,opn t y.ldq<=pnd t y.table) (a6:∀ r:Nat,1<=r->r<=15->y.a.ready r<0->∃ q∈y.table,q.store=false/\q.reg=(r:Int)) (a7:∀ q∈y.table,0<=q.left/\q.left<=c.lat):Cnt c (hA++[z]) hE y:=by
 obtain⟨q1,q2,⟨pre,q3,q3'⟩,q4,q5,q6,q7,q8⟩:=h;have hz:∀ K:Int,kc K (hA++[z])=kc K hA+if z.2.kind=K then 1 else 0:=fun K=>by rw[aRV];congr 1;exact aRW
 refine⟨by rw[hz];omega,by rw[hz];omega,⟨pre, ?_,by rw[a4.2.1];exact q3'⟩,by rw[a4.1,a4.2.1,a4.2.2.1];exact q4,a5,a6,by rw[a4.2.2.2];exact q7,a7⟩;rw[oP,List.map_append,q3,a3,List.append_assoc];congr 2;rw[show stK 4 [z]=if z.2.kind=4 then [z.1]else [] from r8];split<;>rfl
include hs
end
section
variable {c:Cfg} {p:Prog} {o:Nat->Int} {s:Split} (hs:Spl p o s) {D:Nat->Bool} {n k:Bool->Nat} {x:Stt}
include hs
theorem Inv.bB7 (h:Inv c p o D n k x) (e:Bool) (hn:n e<=1152921504606846976) {y:Stt} (h1:dX y=cS (dX x) e (aQ s e (dX x e)).1) (h2:bqB y=bqB x) (h3:fO y=fO x) (h5:fO x e=false) (h4:∀ hA hE,Cnt c hA hE x->Cnt c hA hE y) :
  ∃ m i B j,Inv c p o D (cS n e m) (cS k e i) y/\Stl p o D e (aQ s e (dX x e)) m i B j/\n e<=m/\m<=n e+2000:=by
 obtain⟨m,i,B,j,a1,a2,a3,a4,a5⟩:=h.ctl.settle hs e hn;have hN:=(lN hs.rp).2;refine⟨m,i,B,j,⟨by rw[h1,h2];exact a1, ?_,h4 _ _ ?_⟩,a2,a4,by omega⟩
 ·rw[h3];refine two _ e ?_ ?_
  ·intro h6;rw[h5]at h6;cases h6
  ·intro h6;rw[bP];exact h.hal _ h6
 ·have hc:=h.cnt;cases e
  ·show Cnt c (Dn p o D false m i) (Dn p o D true (n true) (k true)) x;rw[a3];exact hc
  ·show Cnt c (Dn p o D false (n false) (k false)) (Dn p o D true m i) x;rw[a3];exact hc
theorem vG {e:Bool} {q:Pos} {m i B j:Nat} (h:Stl p o D e (aQ s e q) m i B j) (hm:m<=2305843009213693952):aW s e (aQ s e q).1=aW s e q/\aW s e q=(if(aQ s e q).2 then noCell else jN (j:Int) (ix (cel p o e (rho p D m)) i),(m:Int),!(aQ s e q).2):=by have h1:=a1K hs h;refine⟨?_,hs.next h hm⟩;unfold aW;rw[h1]
end
structure Still (s:Split) (x y:Stt):Prop where
 q:y.ldq=x.ldq/\y.sdq=x.sdq/\y.aeq=x.aeq/\y.abq=x.abq/\y.ebq=x.ebq/\y.saq=x.saq/\y.table=x.table/\y.writes=x.writes/\y.aE=x.aE
 a:y.a.ready=x.a.ready/\y.a.wait=x.a.wait/\y.a.halted=x.a.halted/\y.a.done=x.a.done
 e:y.e.ready=x.e.ready/\y.e.wait=x.e.wait/\y.e.halted=x.e.halted/\y.e.done=x.e.done
 nx:∀ e,aW s e (dX y e)=aW s e (dX x e)
 tr:y.aT=x.aT\/(¬y.aT.kind=0/\∃ e,y.aT.step=(aW s e (dX x e)).2.1/\aZ x (aW s e (dX x e)).2.1=false/\fO x e=false)
theorem Still.none {s:Split} {x:Stt}:Still s x x:=⟨⟨rfl,rfl,rfl,rfl,rfl,rfl,rfl,rfl,rfl⟩,⟨rfl,rfl,rfl,rfl⟩,⟨rfl,rfl,rfl,rfl⟩,fun _=>rfl,.inl rfl⟩
theorem Still.note {s:Split} {x y:Stt} (h:Still s x y) (ht:y.aT=x.aT) {e:Bool} {kd pc:Int} (hk:¬kd=0) (hh:fO x e=false):Still s x (cF y kd (aW s e (dX x e)).2.1 pc):=by
 unfold cF;split
 ·rename_i g;have g2:x.aT.kind=0\/x.aT.step>(aW s e (dX x e)).2.1:=by rw[<-ht];exact g
  refine⟨h.q,h.a,h.e,fun e' => ?_,.inr ⟨hk,e,rfl, ?_,hh⟩⟩
  ·have:=h.nx e';cases e'
   ·exact this
   ·exact this
  ·unfold aZ;rw[zaW,zaP,zaP];rcases g2 with g2|g2
   ·exact .inl (fun g3=>g3 g2)
   ·exact .inr (by omega)
 ·exact h
theorem bG0 {d:Int} (h:0<=d/\d<=1099511627776):¬IntKind.i64.wrap (d+1)=d:=by rw[wrap_i64 (by omega) (by omega)];omega
section
variable {c:Cfg} {p:Prog} {o:Nat->Int} {s:Split} (hs:Spl p o s) {D:Nat->Bool} {n k:Bool->Nat} {x:Stt}
include hs
end
theorem aC6 {m k:Nat} {a K:Int} {t:List Int}:((List.replicate m a++t).take k).count K=(if a=K then min k m else 0)+(t.take (k-m)).count K:=by rw[List.take_append,List.count_append,List.take_replicate,List.count_replicate,List.length_replicate];by_cases h:a=K<;>simp[h]
theorem aUG {j:Nat} {z K:Int}:([z].take j).count K=if 0<j/\z=K then 1 else 0:=by
 cases j with
 |zero=>simp
 |succ j=>by_cases h:z=K<;>simp[h]
theorem a6M {j:Nat} {K:Int}:(([]:List Int).take j).count K=0:=by simp
theorem aH7 {m k:Nat} {a:Int} {t:List Int}:ix (List.replicate m a++t) k=if k<m then a else ix t (k-m):=by
 rw[dJ,List.length_replicate];split
 ·rename_i h;exact a1A (d:=0) h
 ·rfl
theorem aRZ {p:Prog} {o:Nat->Int} {D:Nat->Bool} {e:Bool} {K:Int} {n k T i:Nat}:(i<tot (cK p o D e K) T->i<(stK K (Dn p o D e n k)).length->ix (stK K (Dn p o D e n k)) i<T)/\(tot (cK p o D e K) T<=i->i<(stK K (Dn p o D e n k)).length->T<=ix (stK K (Dn p o D e n k)) i):=by
 have hle:(stK K (Dn p o D e n k)).length<=tot (cK p o D e K) (n+1):=by rw[nZ];exact aPM
 rw[xS]at hle ⊢;generalize ((kin p o e (rho p D n)).take k).count K=r at hle ⊢;generalize cK p o D e K=f at hle ⊢;rcases Nat.lt_or_ge n T with h|h
 ·refine⟨fun _ h2 => ?_,fun h1 h2 => ?_⟩
  ·rcases List.mem_append.1 (cA h2)with h3|h3
   ·have:=aUA h3;omega
   ·rw[List.eq_of_mem_replicate h3];exact h
  ·have:=pB (f:=f) (show n+1<=T from h);omega
 ·obtain⟨R,e1,e2⟩:=a07 (f:=f) h;rw[e1,List.append_assoc];refine⟨fun h1 h2 => ?_,fun h1 h2 => ?_⟩
  ·rw[dJ,aA1,if_pos h1];exact aUA (cA (by rw[aA1];exact h1))
  ·rw[dJ,aA1,if_neg (by omega)];have h3:i-tot f T<(R++List.replicate r n).length:=by
    rw[List.length_append,aA1]at h2;omega
   rcases List.mem_append.1 (cA h3)with h4|h4
   ·exact e2 _ h4
   ·rw[List.eq_of_mem_replicate h4];exact h
section
variable {c:Cfg} {p:Prog} {o:Nat->Int} {s:Split} {D:Nat->Bool} {n k:Bool->Nat} {z:Stt}
def aD1 (c:Cfg) (z:Stt) (K:Int):Prop:=(K=6/\z.aeq=[])\/(K=7/\(z.ldq=[]\/(ix z.ldq 0).full=false))\/(K=8/\(z.sdq.length:Int)>=c.sdq)\/(K=9/\(z.ebq.length:Int)>=c.ebq)\/(K=10/\z.abq=[])
def aC7 (c:Cfg) (z:Stt) (K:Int):Prop:=(K=5/\(z.aeq.length:Int)>=c.aeq)\/((K=2\/K=3)/\¬z.saq=[])\/(K=3/\(z.ldq.length:Int)>=c.ldq)\/(K=4/\(z.saq.length:Int)>=c.saq)\/(K=9/\(z.abq.length:Int)>=c.abq)\/(K=10/\z.ebq=[])
theorem aMS {m:Nat} (h:aZ z m=false):z.aT.kind=0\/(m:Int)<z.aT.step:=by
 unfold aZ at h;rw[zaW,zaP,zaP]at h;rcases h with h|h
 ·exact .inl (by simpa using h)
 ·exact .inr (by omega)
theorem xX {m:Nat} (h:aZ z m=true):¬z.aT.kind=0/\z.aT.step<=(m:Int):=by unfold aZ at h;simpa using h
theorem bCM (hc:cX c=true) (ht:z.table=[]) (hcan:oK c z=false) (h1:¬z.saq=[]) (h2:¬z.sdq=[]) (h4:(ix z.saq 0).known=false) (h3:z.aT.kind=0\/(ix z.saq 0).step<z.aT.step):False:=by have hg:=iG hc;unfold oK at hcan;rw[decide_eq_true h1,h4,decide_eq_true h2,ht,decide_eq_true (show(([]:List Req).length:Int)<c.bN by simp;omega)]at hcan;simp only[zaR,zaH,List.any_nil,zaT,Bool.not_eq_false',zaG,zaK]at hcan;omega
theorem dead (hr:aL p=true) (h:Inv c p o D n k z) (hc:cX c=true) (ht:z.table=[]) (hkn:knS z.saq=0) (hcan:¬z.saq=[]->¬z.sdq=[]->(ix z.saq 0).known=false->(z.aT.kind=0\/(ix z.saq 0).step<z.aT.step)->False)
  (sE:(n false<n true/\aZ z (n false)=false/\k false<(cel p o false (rho p D (n false))).length/\rho p D (n false)<p.code.length/\aC7 c z (ix (kin p o false (rho p D (n false))) (k false)))\/((z.e.halted=true\/(z.e.halted=false/\aZ z (n true)=true)\/(z.e.halted=false/\aZ z (n true)=false/\k true<(cel p o true (rho p D (n true))).length/\rho p D (n true)<p.code.length/\aD1 c z (ix (kin p o true (rho p D (n true))) (k true))))/\((z.e.halted=true\/aZ z (n true)=true)->(z.a.halted=true\/aZ z (n false)=true)->z.saq.any (aAA z)=true)))
  (sA:(n true<n false/\z.e.halted=false/\aZ z (n true)=false)\/z.a.halted=true\/(z.a.halted=false/\aZ z (n false)=true)\/(z.a.halted=false/\aZ z (n false)=false/\k false<(cel p o false (rho p D (n false))).length/\rho p D (n false)<p.code.length/\(aC7 c z (ix (kin p o false (rho p D (n false))) (k false))\/(z.e.halted=false/\(n false:Int)>=(n true:Int)+c.jW))))
  (kA:z.a.halted=false->rho p D (n false)<p.code.length->k false<(cel p o false (rho p D (n false))).length):False:=by
 have hg:=iG hc;have hb:=fun m=>bal (o:=o) (D:=D) hr m
 obtain⟨q1,q2,⟨pre,q3,q3'⟩,q4,q5,_,_,_⟩:=h.cnt;have bqE:=congrArg List.length (h.ctl.bq true);have bqA:=congrArg List.length (h.ctl.bq false);simp only[List.length_map,List.length_append,nZ,zaI,zaH]at bqE bqA;replace bqE:kc 9 (Dn p o D true (n true) (k true))=kc 10 (Dn p o D false (n false) (k false))+z.ebq.length:=bqE;replace bqA:kc 9 (Dn p o D false (n false) (k false))=kc 10 (Dn p o D true (n true) (k true))+z.abq.length:=bqA;have q3l:=congrArg List.length q3;simp only[List.length_map,List.length_append,nZ,q3']at q3l;rw[hkn]at q4;have e5:cK p o D false 5=cK p o D true 6:=funext fun m=>(hb m).1
 have e3:cK p o D false 3=cK p o D true 7:=funext fun m=>(hb m).2.1
 have e4:cK p o D false 4=cK p o D true 8:=funext fun m=>(hb m).2.2.1
 have e9:cK p o D false 9=cK p o D true 10:=funext fun m=>(hb m).2.2.2.1
 have e10:cK p o D false 10=cK p o D true 9:=funext fun m=>(hb m).2.2.2.2
 have can:¬z.saq=[]->¬z.sdq=[]->(z.aT.kind=0\/(ix z.saq 0).step<z.aT.step)->False:=fun h1 h2 h3=>by
  have h4:(ix z.saq 0).known=false:=by
   unfold knS at hkn;split at hkn
   ·cases hkn
   ·rename_i h5;cases h6:(ix z.saq 0).known with
    |false=>rfl
    |true=>exact absurd ⟨List.length_pos_iff.2 h1,h6⟩ h5
  exact hcan h1 h2 h4 h3
 have hstep:∀ i,i<z.saq.length->((ix (stK 4 (Dn p o D false (n false) (k false))) (z.writes.length+i):Nat):Int)=(ix z.saq i).step/\z.writes.length+i<(stK 4 (Dn p o D false (n false) (k false))).length:=fun i hi=>by
  have h1:z.writes.length+i<(stK 4 (Dn p o D false (n false) (k false))).length:=by rw[nZ];omega
  refine⟨?_,h1⟩;have h2:ix ((stK 4 (Dn p o D false (n false) (k false))).map (fun m:Nat=>(m:Int))) (z.writes.length+i)=ix (pre++z.saq.map Entry.step) (z.writes.length+i):=by rw[q3]
  rw[nI h1,dJ,q3',if_neg (by omega),Nat.add_sub_cancel_left,nI hi]at h2;exact h2
 have send:∀ m:Nat,aZ z m=false->z.writes.length<tot (cK p o D false 4) m->¬z.saq=[]->¬z.sdq=[]->False:=fun m h1 h2 h3 h4=>by
  have h5:=hstep 0 (List.length_pos_iff.2 h3);have h6:=(aRZ (p:=p) (o:=o) (D:=D) (e:=false) (K:=4) (n:=n false) (k:=k false) (T:=m) (i:=z.writes.length+0)).1 h2 h5.2;refine can h3 h4 ?_;rcases aMS h1 with h7|h7
  ·exact .inl h7
  ·exact .inr (by omega)
 have nil_of:∀ {α:Type} (l:List α),l.length=0->l=[]:=fun l hl=>List.eq_nil_of_length_eq_zero hl
 have nn:∀ {α:Type} (l:List α),0<l.length->¬l=[]:=fun l hl=>List.length_pos_iff.1 hl
 have halE:z.e.halted=true->aC (ix p.code (rho p D (n true))).op=8/\n false<=n true:=fun h1=>by
  have h2:=h.hal true h1;refine⟨h2, ?_⟩;rcases Nat.lt_or_ge (n true) (n false)with h3|h3
  ·exact absurd h2 (h.ctl.nh false _ h3)
  ·exact h3
 have halA:z.a.halted=true->aC (ix p.code (rho p D (n false))).op=8/\n true<=n false:=fun h1=>by
  have h2:=h.hal false h1;refine⟨h2, ?_⟩;rcases Nat.lt_or_ge (n false) (n true)with h3|h3
  ·exact absurd h2 (h.ctl.nh true _ h3)
  ·exact h3
 have gE:∀ K,tot (cK p o D true K) (n true)<=kc K (Dn p o D true (n true) (k true)):=fun K=>a08
 have gA:∀ K,tot (cK p o D false K) (n false)<=kc K (Dn p o D false (n false) (k false)):=fun K=>a08
 have lA:∀ K,kc K (Dn p o D false (n false) (k false))<=tot (cK p o D false K) (n false+1):=fun K=>aPM
 have vE:=fun K=>aKM (p:=p) (o:=o) (D:=D) (e:=true) (K:=K) (n:=n true) (k:=k true)
 have vA:=fun K=>aKM (p:=p) (o:=o) (D:=D) (e:=false) (K:=K) (n:=n false) (k:=k false)
 have ts:∀(e:Bool) (K:Int) (m:Nat),tot (cK p o D e K) (m+1)=tot (cK p o D e K) m+(kin p o e (rho p D m)).count K:=fun e K m=>rfl
 have mono:∀(e:Bool) (K:Int) {a b:Nat},a<=b->tot (cK p o D e K) a<=tot (cK p o D e K) b:=fun e K a b h=>pB h
 have aCase:n false<n true->aZ z (n false)=false->k false<(cel p o false (rho p D (n false))).length->rho p D (n false)<p.code.length->aC7 c z (ix (kin p o false (rho p D (n false))) (k false))->False:=fun hlt hst hk hN hB=>by
  obtain⟨m,tA,tE,s1,s2,s3⟩:=shape (o:=o) hr hN;rw[<-eW,s1,List.length_append,List.length_replicate]at hk;have hv:∀ K,kc K (Dn p o D false (n false) (k false))=tot (cK p o D false K) (n false)+((if(5:Int)=K then min (k false) m else 0)+(tA.take (k false-m)).count K):=fun K=>by rw[vA,s1,aC6]
  have hz:∀ K,¬(5:Int)=K->k false<=m->kc K (Dn p o D false (n false) (k false))=tot (cK p o D false K) (n false):=fun K h1 h2=>by rw[hv,if_neg h1,show k false-m=0 by omega];simp
  rw[s1,aH7]at hB;have m5:=mono true 6 (show n false+1<=n true from hlt);have m3:=mono true 7 (show n false+1<=n true from hlt);have m4:=mono true 8 (Nat.le_of_lt hlt);have m9:=mono true 10 (Nat.le_of_lt hlt);have m10:=mono true 9 (show n false+1<=n true from hlt);have g6:=gE 6;have g7:=gE 7;have g8:=gE 8;have g10:=gE 10;have g9:=gE 9;have l5:=lA 5;have l3:=lA 3;rw[e5]at l5;rw[e3]at l3;have hst4:kc 4 (Dn p o D false (n false) (k false))=tot (cK p o D false 4) (n false)->¬z.saq=[]->False:=fun h1 h2=>by have h3:=List.length_pos_iff.2 h2;rw[e4]at h1;refine send (n false) hst (by rw[e4];omega) h2 (nn _ (by omega))
  by_cases hm:k false<m
  ·rw[if_pos hm]at hB;rcases hB with⟨_,h1⟩|⟨h1,_⟩|⟨h1,_⟩|⟨h1,_⟩|⟨h1,_⟩|⟨h1,_⟩
   ·omega
   all_goals omega
  ·rw[if_neg hm]at hB;rcases s3 with s3|s3|s3|s3|s3|s3|s3|s3|s3
   ·rw[s3.2.1]at hB hk;have hkm:k false=m:=by simp at hk;omega
    rw[hkm,Nat.sub_self,aK]at hB;rcases hB with⟨h1,_⟩|⟨h1,_⟩|⟨h1,_⟩|⟨h1,_⟩|⟨h1,_⟩|⟨h1,_⟩<;>omega
   ·rw[s3.2.1]at hk;simp at hk;omega
   ·rw[s3.2.1]at hB hk;have hkm:k false=m:=by simp at hk;omega
    rw[hkm,Nat.sub_self,aK]at hB;rcases hB with⟨h1,_⟩|⟨_,h2⟩|⟨_,h2⟩|⟨h1,_⟩|⟨h1,_⟩|⟨h1,_⟩
    ·omega
    ·exact hst4 (hz 4 (by omega) (by omega)) h2
    ·omega
    all_goals omega
   ·rw[s3.2.1]at hB hk;have hkm:k false=m:=by simp at hk;omega
    rw[hkm,Nat.sub_self,aK]at hB;rcases hB with⟨h1,_⟩|⟨_,h2⟩|⟨h1,h2⟩|⟨h1,_⟩|⟨h1,_⟩|⟨h1,_⟩
    ·omega
    ·exact hst4 (hz 4 (by omega) (by omega)) h2
    all_goals omega
   ·rw[s3.2.1]at hB hk;have hkm:k false=m:=by simp at hk;omega
    rw[hkm,Nat.sub_self,aK]at hB;rcases hB with⟨h1,_⟩|⟨h1,_⟩|⟨h1,_⟩|⟨_,h2⟩|⟨h1,_⟩|⟨h1,_⟩
    ·omega
    ·omega
    ·omega
    ·exact hst4 (hz 4 (by omega) (by omega)) (nn _ (by omega))
    all_goals omega
   ·rw[s3.2.1]at hB hk;have hkm:k false=m:=by simp at hk;omega
    rw[hkm,Nat.sub_self,aK]at hB;have h9:=hz 9 (by omega) (by omega);rw[e9]at h9;rcases hB with⟨h1,_⟩|⟨h1,_⟩|⟨h1,_⟩|⟨h1,_⟩|⟨_,h2⟩|⟨h1,_⟩<;>omega
   ·rw[s3.2.1]at hB hk;have hkm:k false=m:=by simp at hk;omega
    rw[hkm,Nat.sub_self,aK]at hB;have h10:=hz 10 (by omega) (by omega);rw[e10]at h10;have h11:=ts true 9 (n false);rw[s2,List.count_append,s3.2.2]at h11;have h12:([9]:List Int).count 9=1:=rfl;rcases hB with⟨h1,_⟩|⟨h1,_⟩|⟨h1,_⟩|⟨h1,_⟩|⟨h1,_⟩|⟨_,h2⟩
    ·omega
    ·omega
    ·omega
    ·omega
    ·omega
    ·rw[h2,List.length_nil]at bqE;omega
   ·rw[s3.2.1]at hB hk;have hkm:k false=m:=by simp at hk;omega
    rw[hkm,Nat.sub_self,aK]at hB;rcases hB with⟨h1,_⟩|⟨h1,_⟩|⟨h1,_⟩|⟨h1,_⟩|⟨h1,_⟩|⟨h1,_⟩<;>omega
   ·rw[s3.2.1]at hB hk;have hkm:k false=m:=by simp at hk;omega
    rw[hkm,Nat.sub_self,aK]at hB;rcases hB with⟨h1,_⟩|⟨h1,_⟩|⟨h1,_⟩|⟨h1,_⟩|⟨h1,_⟩|⟨h1,_⟩<;>omega
 rcases sE with sE|⟨sE,hov⟩
 ·exact aCase sE.1 sE.2.1 sE.2.2.1 sE.2.2.2.1 sE.2.2.2.2
 by_cases hE:z.e.halted=true\/aZ z (n true)=true
 case neg =>
  have hE1:¬z.e.halted=true:=fun h1=>hE (.inl h1)
  have hE2:aZ z (n true)=false:=by
   cases h1:aZ z (n true)with
   |false=>rfl
   |true=>exact(hE (.inr h1)).elim
  obtain⟨_,_,hk,hN,hB⟩:z.e.halted=false/\aZ z (n true)=false/\k true<(cel p o true (rho p D (n true))).length/\rho p D (n true)<p.code.length/\aD1 c z (ix (kin p o true (rho p D (n true))) (k true)):=by
   rcases sE with h1|h1|h1
   ·exact absurd h1 hE1
   ·rw[hE2]at h1;cases h1.2
   ·exact h1
  by_cases hle:n true<=n false
  case neg =>
   have hAh:¬z.a.halted=true:=fun h1=>hle (halA h1).2
   have hAs:¬aZ z (n false)=true:=fun h1=>by
    have h2:=xX h1;rcases aMS hE2 with h3|h3
    ·exact h2.1 h3
    ·omega
   rcases sA with h1|h1|h1|⟨_,h2,h3,h4,h5⟩
   ·omega
   ·exact hAh h1
   ·exact hAs h1.2
   ·rcases h5 with h5|h5
    ·exact aCase (by omega) h2 h3 h4 h5
    ·omega
  have sameA:n false=n true->¬aC (ix p.code (rho p D (n true))).op=8->k false<(kin p o false (rho p D (n true))).length/\aC7 c z (ix (kin p o false (rho p D (n true))) (k false)):=fun h1 h2=>by
   rw[h1]at sA;rcases sA with h3|h3|h3|⟨_,_,h3,_,h4⟩
   ·omega
   ·have:=(halA h3).1;rw[h1]at this;exact absurd this h2
   ·rw[hE2]at h3;cases h3.2
   ·rw[eW];refine⟨h3, ?_⟩;rcases h4 with h4|h4
    ·exact h4
    ·omega
  obtain⟨m,tA,tE,s1,s2,s3⟩:=shape (o:=o) hr hN;rw[<-eW,s2,List.length_append,List.length_replicate]at hk;have hv:∀ K,kc K (Dn p o D true (n true) (k true))=tot (cK p o D true K) (n true)+((if(6:Int)=K then min (k true) m else 0)+(tE.take (k true-m)).count K):=fun K=>by rw[vE,s2,aC6]
  have hz:∀ K,¬(6:Int)=K->k true<=m->kc K (Dn p o D true (n true) (k true))=tot (cK p o D true K) (n true):=fun K h1 h2=>by rw[hv,if_neg h1,show k true-m=0 by omega];simp
  have hvA:n false=n true->∀ K,kc K (Dn p o D false (n false) (k false))=tot (cK p o D false K) (n false)+((if(5:Int)=K then min (k false) m else 0)+(tA.take (k false-m)).count K):=fun h1 K=>by rw[vA,h1,s1,aC6]
  have hgt:n true=n false\/n true+1<=n false:=by omega
  rw[s2,aH7]at hB;have bno:∀ K:Int,K=1\/K=11\/K=12->¬aD1 c z K:=fun K h1 h2=>by rcases h2 with⟨h2,_⟩|⟨h2,_⟩|⟨h2,_⟩|⟨h2,_⟩|⟨h2,_⟩<;>omega
  by_cases hm:k true<m
  ·rw[if_pos hm]at hB;have hq:z.aeq=[]:=by rcases hB with⟨_,h2⟩|⟨h2,_⟩|⟨h2,_⟩|⟨h2,_⟩|⟨h2,_⟩<;>first|exact h2|omega
   have h6:=hv 6;rw[if_pos rfl,show k true-m=0 by omega]at h6;simp only[List.take_zero,List.count_nil]at h6;rw[hq,List.length_nil]at q1;have h7:=ts true 6 (n true);rw[s2,List.count_append,List.count_replicate_self]at h7;rcases hgt with h8|h8
   ·have h9:=sameA h8.symm (fun h9=>by rcases s3 with h|h|h|h|h|h|h|h|h<;>omega);have h10:=hvA h8.symm 5;have hA5:∀ j,(tA.take j).count 5=0:=fun j=>by
     rcases s3 with h|h|h|h|h|h|h|h|h
     all_goals (first|rw[h.2.1] ; first|rw[aUG,if_neg (by omega)]|exact a6M)
    rw[if_pos rfl,hA5,h8.symm,e5]at h10;have h11:k false<m:=by rw[h8.symm]at q1;omega
    rw[s1,aH7,if_pos h11]at h9;rcases h9.2 with⟨_,h1⟩|⟨h1,_⟩|⟨h1,_⟩|⟨h1,_⟩|⟨h1,_⟩|⟨h1,_⟩
    ·rw[hq,List.length_nil]at h1;omega
    all_goals omega
   ·have h9:=mono false 5 h8;have h10:=gA 5;rw[e5]at h9 h10;omega
  ·rw[if_neg hm]at hB;rcases s3 with s3|s3|s3|s3|s3|s3|s3|s3|s3
   ·rw[s3.2.2.1]at hk;simp at hk;omega
   ·rw[s3.2.2]at hB hk;have hkm:k true=m:=by simp at hk;omega
    rw[hkm,Nat.sub_self,aK]at hB;exact bno _ (.inl rfl) hB
   ·rw[s3.2.2.1]at hB hk;have hkm:k true=m:=by simp at hk;omega
    rw[hkm,Nat.sub_self,aK]at hB;have hq:z.ldq=[]:=by
     rcases hB with⟨h1,_⟩|⟨_,h1⟩|⟨h1,_⟩|⟨h1,_⟩|⟨h1,_⟩
     ·omega
     ·rcases h1 with h1|h1
      ·exact h1
      ·cases hl:z.ldq with
       |nil=>rfl
       |cons a l =>
        exfalso;have h2:=q5 a.tag;rw[ht,hl]at h2;rw[hl,aK]at h1;have h3:0<opn a.tag (a::l):=by unfold opn;rw[List.countP_pos_iff];exact⟨a,List.mem_cons_self ..,by unfold rF;simp[h1]⟩
        have h4:pnd a.tag ([]:List Req)=0:=rfl;omega
     all_goals omega
    rw[hq,List.length_nil]at q2;have h7:=hz 7 (by omega) (by omega);have h8:=hz 8 (by omega) (by omega);have h9:=ts true 7 (n true);rw[s2,s3.2.2.1,List.count_append]at h9;have h10:([7]:List Int).count 7=1:=rfl;rcases hgt with h11|h11
    ·have h12:=sameA h11.symm (by omega);rw[s1,s3.2.1,s3.2.2.2]at h12;have h13:k false=0:=by have:=h12.1;simp at this;omega
     rw[h13]at h12;have h14:aC7 c z 3:=h12.2;have h15:kc 4 (Dn p o D false (n false) (k false))=tot (cK p o D false 4) (n false):=by rw[hvA h11.symm 4,h13,s3.2.2.2];simp
     rw[e4,<-h11]at h15;rcases h14 with⟨h1,_⟩|⟨_,h1⟩|⟨_,h1⟩|⟨h1,_⟩|⟨h1,_⟩|⟨h1,_⟩
     ·omega
     ·have h16:=List.length_pos_iff.2 h1;rw[<-h11]at q3l;exact send (n true) hE2 (by rw[e4];omega) h1 (nn _ (by omega))
     ·rw[hq,List.length_nil]at h1;omega
     all_goals omega
    ·have h12:=mono false 3 h11;have h13:=gA 3;rw[e3]at h12 h13;omega
   ·rw[s3.2.2.1]at hk;simp at hk;omega
   ·rw[s3.2.2]at hB hk;have hkm:k true=m:=by simp at hk;omega
    rw[hkm,Nat.sub_self,aK]at hB;have hq:(z.sdq.length:Int)>=c.sdq:=by rcases hB with⟨h1,_⟩|⟨h1,_⟩|⟨_,h1⟩|⟨h1,_⟩|⟨h1,_⟩<;>first|exact h1|omega
    have h8:=hz 8 (by omega) (by omega);have h9:=mono false 4 hle;have h10:=gA 4;rw[e4]at h9 h10;exact send (n true) hE2 (by rw[e4];omega) (nn _ (by omega)) (nn _ (by omega))
   ·rw[s3.2.2.1]at hB hk;have hkm:k true=m:=by simp at hk;omega
    rw[hkm,Nat.sub_self,aK]at hB;have hq:z.abq=[]:=by rcases hB with⟨h1,_⟩|⟨h1,_⟩|⟨h1,_⟩|⟨h1,_⟩|⟨_,h1⟩<;>first|exact h1|omega
    rw[hq,List.length_nil]at bqA;have h8:=hz 10 (by omega) (by omega);have h9:=ts true 10 (n true);rw[s2,s3.2.2.1,List.count_append]at h9;have h10:([10]:List Int).count 10=1:=rfl;rcases hgt with h11|h11
    ·have h12:=sameA h11.symm (by omega);rw[s1,s3.2.1,s3.2.2.2]at h12;have h13:k false=0:=by have:=h12.1;simp at this;omega
     rw[h13]at h12;have h14:aC7 c z 9:=h12.2;rcases h14 with⟨h1,_⟩|⟨h1,_⟩|⟨h1,_⟩|⟨h1,_⟩|⟨_,h1⟩|⟨h1,_⟩
     ·omega
     ·omega
     ·omega
     ·omega
     ·rw[hq,List.length_nil]at h1;omega
     ·omega
    ·have h12:=mono false 9 h11;have h13:=gA 9;rw[e9]at h12 h13;omega
   ·rw[s3.2.2]at hB hk;have hkm:k true=m:=by simp at hk;omega
    rw[hkm,Nat.sub_self,aK]at hB;have hq:(z.ebq.length:Int)>=c.ebq:=by rcases hB with⟨h1,_⟩|⟨h1,_⟩|⟨h1,_⟩|⟨_,h1⟩|⟨h1,_⟩<;>first|exact h1|omega
    have h8:=hz 9 (by omega) (by omega);have h9:=mono false 10 hle;have h10:=gA 10;rw[e10]at h9 h10;omega
   ·rw[s3.2.2.1]at hB hk;have hkm:k true=m:=by simp at hk;omega
    rw[hkm,Nat.sub_self,aK]at hB;exact bno _ (.inr (.inl rfl)) hB
   ·rw[s3.2.2.1]at hB hk;have hkm:k true=m:=by simp at hk;omega
    rw[hkm,Nat.sub_self,aK]at hB;exact bno _ (.inr (.inr rfl)) hB
 ·by_cases hA:z.a.halted=true\/aZ z (n false)=true
  case neg =>
   rcases sA with h1|h1|h1|⟨_,h2,h3,h4,h5⟩
   ·rcases hE with h6|h6
    ·rw[h1.2.1]at h6;cases h6
    ·rw[h1.2.2]at h6;cases h6
   ·exact hA (.inl h1)
   ·exact hA (.inr h1.2)
   ·have hlt:n false<n true:=by
     rcases hE with h6|h6
     ·have h7:=halE h6;rcases Nat.lt_or_ge (n false) (n true)with h8|h8
      ·exact h8
      ·exfalso;have h9:n false=n true:=by omega
       rw[<-h9]at h7;have h10:=(yZ (o:=o) (e:=false) hr h4 (by rw[eW];exact h3)).2.2.2.2 h7.1;rw[h10]at h5;rcases h5 with h5|h5
       ·rcases h5 with⟨h1,_⟩|⟨h1,_⟩|⟨h1,_⟩|⟨h1,_⟩|⟨h1,_⟩|⟨h1,_⟩<;>omega
       ·rw[h6]at h5;cases h5.1
     ·have h7:=xX h6;rcases aMS h2 with h8|h8
      ·exact absurd h8 h7.1
      ·omega
    rcases h5 with h5|h5
    ·exact aCase hlt h2 h3 h4 h5
    ·omega
  obtain⟨e0,he0,ho⟩:=List.any_eq_true.1 (hov hE hA);obtain⟨i,hi,rfl⟩:=vB he0;have hne:¬z.saq=[]:=fun h1=>by rw[h1]at hi;cases hi
  unfold aAA at ho;rw[zaV,zaK,zaK]at ho;have putH:z.e.halted=true->kc 4 (Dn p o D false (n false) (k false))<=kc 8 (Dn p o D true (n true) (k true)):=fun h1=>by
   have h2:=halE h1;have h3:=gE 8;rcases Nat.lt_or_ge (n false) (n true)with h4|h4
   ·have h5:=lA 4;have h6:=mono false 4 (show n false+1<=n true from h4);rw[e4]at h5 h6;omega
   ·have h5:n false=n true:=by omega
    have h6:=vA 4;rw[h5]at h6;have h7:((kin p o false (rho p D (n true))).take (k false)).count 4=0:=by
     by_cases hN:rho p D (n true)<p.code.length
     ·obtain⟨m,tA,tE,s1,s2,s3⟩:=shape (o:=o) hr hN;rw[s1,aC6,if_neg (by omega)];rcases s3 with s3|s3|s3|s3|s3|s3|s3|s3|s3
      all_goals first
       |(exfalso;omega)
       |(rw[s3.2.1,aUG,if_neg (by omega)])
     ·rw[aMK (by omega)];simp
    rw[h7,e4]at h6;rw[h5];omega
  by_cases hk0:z.aT.kind=0
  ·have hEh:z.e.halted=true:=by
    rcases hE with h1|h1
    ·exact h1
    ·exact absurd hk0 (xX h1).1
   have h2:=putH hEh;exact can hne (nn _ (by omega)) (.inl hk0)
  ·have ho:=ho.resolve_left hk0;have hsi:=hstep i hi;have hs0:=hstep 0 (by omega);have hlt:z.writes.length+i<tot (cK p o D false 4) z.aT.step.toNat:=by
    rcases Nat.lt_or_ge (z.writes.length+i) (tot (cK p o D false 4) z.aT.step.toNat)with h1|h1
    ·exact h1
    ·have:=(aRZ (p:=p) (o:=o) (D:=D) (e:=false) (K:=4) (n:=n false) (k:=k false) (T:=z.aT.step.toNat)).2 h1 hsi.2;omega
   have h0:=(aRZ (p:=p) (o:=o) (D:=D) (e:=false) (K:=4) (n:=n false) (k:=k false) (T:=z.aT.step.toNat) (i:=z.writes.length+0)).1 (by omega) hs0.2;refine can hne (nn _ ?_) (.inr (by omega));rcases hE with h1|h1
   ·have h2:=putH h1;omega
   ·have h2:=(xX h1).2;have h3:=gE 8;have h4:=mono true 8 (show z.aT.step.toNat<=n true by omega);rw[e4]at hlt;omega
end
structure Tim (x:Stt) (w:Int):Prop where
 a:∀ r:Nat,1<=r->r<=15->x.a.ready r<=x.aE+w
 e:∀ r:Nat,1<=r->r<=15->x.e.ready r<=x.aE+w
 wa:x.a.wait<=x.aE+w
 we:x.e.wait<=x.aE+w
theorem aUH {d:cE} {K:Cell} {n:Int} (h:∀ r:Nat,1<=r->r<=15->0<=d.ready r/\d.ready r<=n):pX d K n=true:=by unfold pX;rw[List.all_eq_true];intro r hr;have h1:pA r=true:=(List.mem_filter.1 (show r∈tQ K from hr)).2;simp only[pA,zaK]at h1;have h2:=h r.toNat (by omega) (by omega);rw[decide_eq_false (by omega),decide_eq_false (by omega)];rfl
theorem p8 {x:Stt} {kd st pc:Int} (h:(cF x kd st pc).aT=x.aT) (hk:¬kd=0):aZ x st=true/\cF x kd st pc=x:=by
 unfold cF at h ⊢;split at h
 ·rename_i g;have h2:x.aT.kind=kd/\x.aT.step=st:=by rw[<-h];exact⟨rfl,rfl⟩
  omega
 ·rename_i g;rw[if_neg g];refine⟨?_,rfl⟩;unfold aZ;rw[zaG,zaK,zaK];omega
theorem n0 {t:List Int} {z:Int} {m k:Nat} (h:t=[z]) (hm:k<m+t.length) (hk:¬k<m):ix t (k-m)=z:=by
 subst h;have e:k-m=0:=by simp at hm;omega
 rw[e];rfl
section
variable {c:Cfg} {p:Prog} {o:Nat->Int} {s:Split} (hs:Spl p o s) {D:Nat->Bool} {n k:Bool->Nat} {x:Stt}
include hs
theorem aMT {i:Nat} (hi:i<p.code.length) {m:Nat} (hm:m<(kin p o true i).length):ix (kin p o true i) m=6\/ix (kin p o true i) m=1\/(7<=ix (kin p o true i) m/\ix (kin p o true i) m<=12):=by
 obtain⟨t,tA,tE,s1,s2,s3⟩:=shape (o:=o) hs.rp hi;rw[s2,List.length_append,List.length_replicate]at hm;rw[s2,aH7];split
 ·exact .inl rfl
 ·rename_i hg;rcases s3 with s3|s3|s3|s3|s3|s3|s3|s3|s3
  ·rw[s3.2.2.1]at hm;simp at hm;omega
  ·rw[n0 s3.2.2 hm hg];omega
  ·rw[n0 s3.2.2.1 hm hg];omega
  ·rw[s3.2.2.1]at hm;simp at hm;omega
  ·rw[n0 s3.2.2 hm hg];omega
  ·rw[n0 s3.2.2.1 hm hg];omega
  ·rw[n0 s3.2.2 hm hg];omega
  ·rw[n0 s3.2.2.1 hm hg];omega
  ·rw[n0 s3.2.2.1 hm hg];omega
theorem aMU {i:Nat} (hi:i<p.code.length) {m:Nat} (hm:m<(kin p o false i).length):(1<=ix (kin p o false i) m/\ix (kin p o false i) m<=5)\/(9<=ix (kin p o false i) m/\ix (kin p o false i) m<=12):=by
 obtain⟨t,tA,tE,s1,s2,s3⟩:=shape (o:=o) hs.rp hi;rw[s1,List.length_append,List.length_replicate]at hm;rw[s1,aH7];split
 ·exact .inl (by omega)
 ·rename_i hg;rcases s3 with s3|s3|s3|s3|s3|s3|s3|s3|s3
  ·rw[n0 s3.2.1 hm hg];omega
  ·rw[s3.2.1]at hm;simp at hm;omega
  all_goals
   rw[n0 s3.2.1 hm hg];omega
theorem a1L {m i B j:Nat} (hr:aU c s x=true) (h:Stl p o D true (aQ s true x.e.pos) m i B j) (hm:m<=1099511627776):aU c s (atE s x)=true:=by
 have hb:=h.1.hb;have hnb:=hs.nb;have hl:=hs.yY hb true;have hidx:(aQ s true x.e.pos).1.index<=((lF s true (B:Int)).length:Int)/\0<=(aQ s true x.e.pos).1.index:=by
  rw[h.1.idx];rcases h.2 with⟨_,hk,hj⟩|⟨_,_,hk,hj,_⟩
  ·rw[h.1.pc]at hk;have:=(hs.aH0 hb true hj hk).1;omega
  ·rw[hl,hk,show dM p B-cW p B=j by omega];omega
 have hcel:u0 s true (B:Int)=lF s true (B:Int):=by unfold u0 lF;rw[if_neg (show ¬((B:Int)<0\/(B:Int)>=(s.blocks.length:Int))by omega)]
 have hbase:=h.1.base;have hb0:=h.1.aH3;have key:j5 s true (atE s x).e=true:=by
  have h1:j5 s true x.e=true:=by simp only[aU,zaG]at hr;exact hr.2.2.1
  simp only[j5,cD,List.all_cons,List.all_nil,zaT,zaG,zaK]at h1 ⊢;refine⟨?_, ?_,⟨?_,h1.2.2.1.2⟩,h1.2.2.2⟩
  ·show 0<=(aQ s true x.e.pos).1.block/\(aQ s true x.e.pos).1.block<_;rw[h.1.blk];omega
  ·show 0<=(aQ s true x.e.pos).1.index/\(aQ s true x.e.pos).1.index<=((u0 s true (aQ s true x.e.pos).1.block).length:Int);rw[h.1.blk,hcel];omega
  ·show 0<=(aQ s true x.e.pos).1.base/\(aQ s true x.e.pos).1.base<=1099511627776;omega
 unfold aU at hr ⊢;rw[zaG,zaG,zaG]at hr ⊢;exact⟨hr.1,hr.2.1,key,hr.2.2.2⟩
end
theorem sB (y:Stt) (k st pc:Int):(cF y k st pc).a=y.a/\(cF y k st pc).e=y.e/\(cF y k st pc).writes=y.writes/\(cF y k st pc).aE=y.aE:=by unfold cF;split<;>exact⟨rfl,rfl,rfl,rfl⟩
theorem aMV (c:Cfg) (s:Split) (x:Stt):(eX c s x).a=x.a/\(eX c s x).writes=x.writes/\(eX c s x).aE=x.aE:=by
 have nf:=fun(y:Stt) (k st pc:Int)=>sB y k st pc
 unfold eX;split
 ·exact⟨rfl,rfl,rfl⟩
 split
 ·exact⟨(nf _ _ _ _).1,(nf _ _ _ _).2.2.1,(nf _ _ _ _).2.2.2⟩
 split
 ·exact⟨rfl,rfl,rfl⟩
 unfold dW
 repeat' split
 all_goals first
  |exact⟨rfl,rfl,rfl⟩
  |exact⟨(nf _ _ _ _).1,(nf _ _ _ _).2.2.1,(nf _ _ _ _).2.2.2⟩
theorem aUI (c:Cfg) (s:Split) (x:Stt):(fL c s x).e=x.e/\(fL c s x).writes=x.writes/\(fL c s x).aE=x.aE:=by
 have nf:=fun(y:Stt) (k st pc:Int)=>sB y k st pc
 unfold fL;split
 ·exact⟨rfl,rfl,rfl⟩
 split
 ·exact⟨(nf _ _ _ _).2.1,(nf _ _ _ _).2.2.1,(nf _ _ _ _).2.2.2⟩
 split
 ·exact⟨rfl,rfl,rfl⟩
 unfold dN;split
 ·split
  ·exact⟨rfl,rfl,rfl⟩
  ·exact⟨(nf _ _ _ _).2.1,(nf _ _ _ _).2.2.1,(nf _ _ _ _).2.2.2⟩
 split
 ·split<;>exact⟨rfl,rfl,rfl⟩
 split
 ·rw[jC c _ _ _ _ rfl];split
  ·exact⟨(nf _ _ _ _).2.1,(nf _ _ _ _).2.2.1,(nf _ _ _ _).2.2.2⟩
  repeat' split
  all_goals exact⟨rfl,rfl,rfl⟩
 split
 ·split
  ·exact⟨(nf _ _ _ _).2.1,(nf _ _ _ _).2.2.1,(nf _ _ _ _).2.2.2⟩
  split<;>exact⟨rfl,rfl,rfl⟩
 repeat' split
 all_goals exact⟨rfl,rfl,rfl⟩
def Rdy (d:cE) (v:Int):Prop:=(∀ r:Nat,1<=r->r<=15->d.ready r<=v)/\d.wait<=v
theorem aC8 {d:cE} {v:Int} (h:Rdy d v) {a w r:Int} (hr:r<=v):Rdy (onF (cV d a w r)) v:=by
 refine⟨fun i h1 h2 => ?_, ?_⟩
 ·show(cV d a w r).ready i<=v;rcases xW (d:=d) (n:=a) (w:=w) (r:=r) i with h3|h3
  ·rw[h3];exact h.1 i h1 h2
  ·rw[h3];exact hr
 ·show(cV d a w r).wait<=v;rw[(fU d a w r).2.2.1];exact h.2
theorem tW {s:Split} {d:cE} {v:Int} (h:Rdy d v) {t:Bool} {n:Int} (hr:IntKind.i64.wrap (n+2)<=v):Rdy (oD s d t n) v:=by
 refine⟨h.1, ?_⟩;show(if t=true then IntKind.i64.wrap (n+2)else d.wait)<=v;split
 ·exact hr
 ·exact h.2
theorem a1M {c:Cfg} (hc:cX c=true) (op:Int):u9 c op<=c.mul+c.div:=by
 have hg:=iG hc;unfold u9
 repeat' split
 all_goals omega
theorem a1N {c:Cfg} {s:Split} {x:Stt} {v:Int} (hc:cX c=true) (hcy:0<=x.aE/\x.aE<=2000000000000) (hv:x.aE+c.mul+c.div<=v) (h:Rdy x.e v):Rdy (eX c s x).e v:=by
 have hg:=iG hc;have w1:∀ n:Int,0<=n->n<=200->IntKind.i64.wrap (x.aE+n)=x.aE+n:=fun n h1 h2=>wrap_i64 (by omega) (by omega)
 have hl:∀ op,IntKind.i64.wrap (x.aE+u9 c op)<=v:=fun op=>by have h1:=vF c op;have h2:=a1M hc op;rw[w1 _ (by omega) (by omega)];omega
 have h1:IntKind.i64.wrap (x.aE+1)<=v:=by rw[w1 1 (by omega) (by omega)];omega
 have h2:IntKind.i64.wrap (x.aE+2)<=v:=by rw[w1 2 (by omega) (by omega)];omega
 have ha:Rdy (atE s x).e v:=h;unfold eX;split
 ·exact h
 split
 ·rw[(sB _ _ _ _).2.1];exact ha
 split
 ·exact ha
 unfold dW;split
 ·split
  ·exact aC8 ha (hl _)
  ·rw[(sB _ _ _ _).2.1];exact ha
 split
 ·split
  ·exact ha
  ·exact aC8 ha h1
 split
 ·split
  ·exact aC8 ha h1
  ·exact ha
 split
 ·split<;>exact ha
 split
 ·split
  ·exact tW ha h2
  ·exact ha
 split
 ·split
  ·exact ha
  ·exact tW ha h2
 split
 ·exact tW ha h2
 split<;>exact ha
theorem a1O {c:Cfg} {s:Split} {x:Stt} {v:Int} (hc:cX c=true) (hcy:0<=x.aE/\x.aE<=2000000000000) (hv:x.aE+c.mul+c.div<=v) (h:Rdy x.a v):Rdy (fL c s x).a v:=by
 have hg:=iG hc;have w1:∀ n:Int,0<=n->n<=200->IntKind.i64.wrap (x.aE+n)=x.aE+n:=fun n h1 h2=>wrap_i64 (by omega) (by omega)
 have hl:∀ op,IntKind.i64.wrap (x.aE+u9 c op)<=v:=fun op=>by have h1:=vF c op;have h2:=a1M hc op;rw[w1 _ (by omega) (by omega)];omega
 have h1:IntKind.i64.wrap (x.aE+1)<=v:=by rw[w1 1 (by omega) (by omega)];omega
 have h2:IntKind.i64.wrap (x.aE+2)<=v:=by rw[w1 2 (by omega) (by omega)];omega
 have ha:Rdy (atA s x).a v:=h;unfold fL;split
 ·exact h
 split
 ·rw[(sB _ _ _ _).1];exact ha
 split
 ·exact ha
 unfold dN;split
 ·split
  ·exact aC8 ha (hl _)
  ·rw[(sB _ _ _ _).1];exact ha
 split
 ·split<;>exact ha
 split
 ·rw[jC c _ _ _ _ rfl];split
  ·rw[(sB _ _ _ _).1];exact ha
  split
  ·exact ha
  split
  ·split
   ·exact ha
   split<;>exact ha
  split
  ·exact aC8 ha h1
  ·refine⟨fun i i1 i2 => ?_, ?_⟩
   ·show cE.ready (if _ then _ else _) i<=v;split
    ·exact ha.1 i i1 i2
    ·show(cond (Nat.beq i _) (-1:Int) ((atA s x).a.ready i))<=v;cases Nat.beq i (aW s false (atA s x).a.pos).1.ins.d.toNat
     ·exact ha.1 i i1 i2
     ·show(-1:Int)<=v;omega
   ·show cE.wait (if _ then _ else _)<=v;split<;>exact ha.2
 split
 ·split
  ·rw[(sB _ _ _ _).1];exact ha
  split<;>exact ha
 split
 ·split
  ·exact tW ha h2
  ·exact ha
 split
 ·split
  ·exact ha
  ·exact tW ha h2
 split
 ·exact tW ha h2
 split<;>exact ha
def p4 (s:Split) (x:Stt) (e:Bool):Bool:=fO x e||aZ x (aW s e (dX x e)).2.1
def tP (s:Split) (x:Stt):Int:=(if p4 s x false then 0 else 1)+(if p4 s x true then 0 else 1)
def sP (c:Cfg) (x:Stt):Int:=if x.saq=[]\/knS x.saq=1 then 0 else c.lat+2
theorem aD2 (s:Split) (x:Stt):0<=tP s x/\tP s x<=2:=by unfold tP;split<;>split<;>omega
theorem bG1:∀ {a b a' b':Bool},(a=true->a'=true)->(b=true->b'=true)->((if a' then(0:Int)else 1)+(if b' then 0 else 1))<=(if a then 0 else 1)+(if b then 0 else 1)/\(((a=false/\a'=true)\/(b=false/\b'=true))->((if a' then(0:Int)else 1)+(if b' then 0 else 1))<(if a then 0 else 1)+(if b then 0 else 1)):=by decide
theorem Still.rst {s:Split} {x y:Stt} (h:Still s x y):tP s y<=tP s x/\(¬y.aT=x.aT->tP s y<tP s x):=by
 have hh:∀ e,fO y e=fO x e:=fun e=>by cases e;exact h.a.2.2.1;exact h.e.2.2.1
 have mon:∀ e,p4 s x e=true->p4 s y e=true:=fun e h1=>by
  unfold p4 at h1 ⊢;rw[hh,h.nx];rw[zaV]at h1 ⊢;rcases h1 with h1|h1
  ·exact .inl h1
  ·refine .inr ?_;rcases h.tr with h2|⟨h2,e0,h3,h4,_⟩
   ·unfold aZ at h1 ⊢;rw[h2];exact h1
   ·unfold aZ at h1 h4 ⊢;simp only[zaG,zaK,zaW,zaP]at h1 h4 ⊢;refine⟨h2, ?_⟩;rcases h4 with h4|h4
    ·exact absurd h1.1 h4
    ·omega
 have key:=bG1 (mon false) (mon true);refine⟨key.1,fun hne=>key.2 ?_⟩;rcases h.tr with h2|⟨h2,e0,h3,h4,h5⟩
 ·exact absurd h2 hne
 ·have r1:p4 s x e0=false:=by unfold p4;rw[h5,h4];rfl
  have r2:p4 s y e0=true:=by unfold p4;rw[h.nx,zaV];refine .inr ?_;unfold aZ;rw[zaG,zaK,zaK];omega
  cases e0
  ·exact .inl ⟨r1,r2⟩
  ·exact .inr ⟨r1,r2⟩
theorem a8G {s:Split} {x y:Stt} (h1:fO y=fO x) (h2:dX y=dX x) (h3:y.aT=x.aT):tP s y=tP s x:=by
 have h:∀ e,p4 s y e=p4 s x e:=fun e=>by unfold p4 aZ;rw[h1,h2,h3]
 unfold tP;rw[h,h]
theorem aUJ (c:Cfg) (x:Stt):(fV c x).a=x.a/\(fV c x).e=x.e/\(fV c x).aE=x.aE/\(fV c x).aT=x.aT/\(fV c x).writes=x.writes:=by unfold fV;split<;>exact⟨rfl,rfl,rfl,rfl,rfl⟩
def Pot (c:Cfg) (s:Split) (x:Stt) (m:Int):Prop:=∃ w:Int,0<=w/\Tim x w/\w+eD (wgI c.lat) x.table+sP c x+tP s x<=m
theorem aUK {M:Int} (hM:0<=M) (l:List Req):0<=eD (wgI M) l:=a6G fun r=>by unfold wgI;split<;>omega
theorem bG2 {c:Cfg} (hc:0<=c.lat) (x:Stt):0<=sP c x/\sP c x<=c.lat+2:=by unfold sP;split<;>omega
theorem Pot.nn {c:Cfg} {s:Split} {x:Stt} {m:Int} (hc:0<=c.lat) (h:Pot c s x m):0<=m:=by obtain⟨w,h1,_,h2⟩:=h;have:=aUK hc x.table;have:=bG2 hc x;have:=aD2 s x;omega
theorem bCN (l:List Entry):knS l<=1:=by unfold knS;split<;>omega
section
variable {c:Cfg} {p:Prog} {o:Nat->Int} {s:Split} (hs:Spl p o s) {D:Nat->Bool} {n k:Bool->Nat} {x:Stt}
include hs
end
theorem a8H {M:Int}:∀ {l:List Req},(∀ q∈l,0<=q.left/\q.left<=M)->eD (wgI M) l<=l.length*(M+1)
 |[],_=>by simp[eD]
 |q::l,h=>by
  have h1:=a8H (l:=l) fun r hr=>h r (List.mem_cons_of_mem _ hr)
  have h2:=h q (List.mem_cons_self ..);have h3:wgI M q<=M+1:=by unfold wgI;split<;>omega
  show wgI M q+eD (wgI M) l<=((l.length+1:Nat):Int)*(M+1);have h4:((l.length+1:Nat):Int)*(M+1)=(l.length:Int)*(M+1)+(M+1):=by rw[Int.natCast_add,Int.add_mul];simp
  omega
def cZ (c:Cfg):Int:=if cX c=false then 0 else 8+c.mul+c.div+4*((c.bN+2)*(c.lat+2))
theorem aWL {c:Cfg} {p:Prog} {o:Nat->Int} {s:Split} (D:Nat->Bool) (hs:Spl p o s):Inv c p o D (fun _=>0) (fun _=>0) (jZ p)/\Tim (jZ p) 0:=by
 have hr:=hs.rp;have e:jZ p=aDY p:=by unfold jZ;rw[if_pos hr]
 rw[e];have hd:∀ e',Dn p o D e' 0 0=[]:=fun e'=>by unfold Dn;simp
 refine⟨⟨⟨fun e'=>⟨0,0, ?_⟩,fun e' m hm=>(by omega),fun e'=>(by rw[hd,hd];cases e'<;>rfl)⟩,fun e' h=>(by cases e'<;>cases h), ?_⟩,⟨fun r _ _=>Int.le_refl _,fun r _ _=>Int.le_refl _,Int.le_refl _,Int.le_refl _⟩⟩
 ·have h0:=a03 hr;have h1:=a04 hr;have h2:=eO h0;refine⟨by cases e'<;>rfl,h0,h1.symm,by cases e'<;>rfl,by cases e'<;>exact Int.le_refl _,by cases e'<;>rfl,.inl ⟨by omega,Nat.zero_le _,fun h3=>.inl ?_⟩⟩;show gG (ix p.code 0)=false;cases h4:gG (ix p.code 0)with
  |false=>rfl
  |true => have:=aFP (o:=o) hr (by omega) h4 e';have h5:0=(cel p o e' 0).length:=h3;omega
 ·rw[hd,hd];exact⟨rfl,rfl,⟨[],rfl,rfl⟩,rfl,fun t=>zaF _,fun r _ _ h=>(by cases h),fun r _ _=>Int.le_refl _,fun q hq=>(by cases hq)⟩
theorem a1P {l:List Int} {x:Int}:findF l x<0↔x∉l:=by
 unfold findF lR;by_cases h:l.any (fun y=>decide (y=x))=true
 ·rw[if_pos h];obtain⟨y,hy,h2⟩:=List.any_eq_true.1 h;have:y=x:=by simpa using h2
  subst this;exact⟨fun h3=>by omega,fun h3=>absurd hy h3⟩
 ·rw[if_neg h];exact⟨fun _ hx=>h (List.any_eq_true.2 ⟨x,hx,by simp⟩),fun _=>by omega⟩
theorem aKP {o:Nat->Int} {r:Int}:∀ {l out:List Int},r∈l.foldl (fun out x=>if fC o x=1/\findF out x<0 then out++[x]else out) out↔r∈out\/(r∈l/\fC o r=1)
 |[],out=>by simp
 |x::l,out=>by
  rw[List.foldl_cons,aKP];by_cases h:fC o x=1/\findF out x<0
  ·rw[if_pos h,List.mem_append,List.mem_singleton,List.mem_cons];constructor
   ·rintro ((h1|rfl)|⟨h1,h2⟩)
    ·exact .inl h1
    ·exact .inr ⟨.inl rfl,h.1⟩
    ·exact .inr ⟨.inr h1,h2⟩
   ·rintro (h1|⟨rfl|h1,h2⟩)
    ·exact .inl (.inl h1)
    ·exact .inl (.inr rfl)
    ·exact .inr ⟨h1,h2⟩
  ·rw[if_neg h,List.mem_cons];constructor
   ·rintro (h1|⟨h1,h2⟩)
    ·exact .inl h1
    ·exact .inr ⟨.inr h1,h2⟩
   ·rintro (h1|⟨rfl|h1,h2⟩)
    ·exact .inl h1
    ·refine .inl ?_;by_cases h3:r∈out
     ·exact h3
     ·exact absurd ⟨h2,a1P.2 h3⟩ h
    ·exact .inr ⟨h1,h2⟩
theorem aPV {o:Nat->Int} {i:Ins} {r:Int}:r∈gX i o↔r∈aY i/\fC o r=1:=by unfold gX rS;rw[aKP];simp
theorem aPW {i:Ins} (h:bY i=true):(i.a=0\/i.a∈aY i)/\(i.b=0\/i.b∈aY i):=by
 have h':=h;simp only[bY,uU,zaG,zaV,zaK]at h';obtain⟨_,_,h2,h3,_⟩:=h';unfold aY;rw[if_pos h];refine⟨?_, ?_⟩
 ·rcases h2 with h2|⟨h2,h4⟩
  ·exact .inl h2
  ·refine .inr (List.mem_append_left _ ?_);rw[h2,decide_eq_true (by omega)];simp
 ·rcases h3 with h3|⟨h3,h4⟩
  ·exact .inl h3
  ·refine .inr (List.mem_append_right _ ?_);rw[h3,decide_eq_true (by omega)];simp
def ow (o:Nat->Int) (v r:Int):Prop:=r=0\/o r.toNat=v
def ShC (o:Nat->Int) (I:Ins) (i:Nat) (S:List Int) (tA tE:List Cell):Prop :=
 ((1<=aC I.op/\aC I.op<=3)/\tA=[cI 1 I i 0]/\tE=[]/\S=[]/\ow o 1 I.a/\ow o 1 I.b/\ow o 1 I.d) \/
 ((1<=aC I.op/\aC I.op<=3)/\tA=[]/\tE=[cI 1 I i 0]/\(ow o 2 I.a\/I.a∈S)/\(ow o 2 I.b\/I.b∈S)/\ow o 2 I.d) \/
 (aC I.op=4/\tA=[cI 3 I i 0]/\tE=[cI 7 I i 0]/\S=[]/\ow o 1 I.a/\1<=I.d/\o I.d.toNat=2) \/
 (aC I.op=4/\tA=[cI 2 I i 0]/\tE=[]/\S=[]/\ow o 1 I.a/\ow o 1 I.d) \/
 (aC I.op=5/\tA=[cI 4 I i 0]/\tE=[cR 8 i 0 I.b]/\ow o 1 I.a/\(ow o 2 I.b\/I.b∈S)) \/
 (aC I.op=6/\tA=[cI 9 I i 0]/\tE=[cP 10 i 0]/\S=[]/\ow o 1 I.a/\ow o 1 I.b) \/
 (aC I.op=6/\tA=[cP 10 i 0]/\tE=[cI 9 I i 0]/\(ow o 2 I.a\/I.a∈S)/\(ow o 2 I.b\/I.b∈S)) \/
 (aC I.op=7/\tA=[cP 11 i 0]/\tE=[cP 11 i 0]/\S=[]) \/
 (aC I.op=8/\tA=[cP 12 i 0]/\tE=[cP 12 i 0]/\S=[])
theorem aD3 {p:Prog} {o:Nat->Int} (h:eJ p o=true) {r:Int} (h1:1<=r) (h2:r<=15):o r.toNat=1\/o r.toNat=2:=by simp only[eJ,zaG]at h;have h3:=dH.1 h.2.2.1 r.toNat (by omega);rw[zaV,zaK,zaK]at h3;omega
theorem xY {p:Prog} {o:Nat->Int} (hc:eJ p o=true) {i:Nat} (hi:i<p.code.length):∃ S tA tE,cel p o false i=S.map (cR 5 i 0)++tA/\cel p o true i=S.map (cR 6 i 0)++tE/\(∀ r∈S,1<=r/\r<=15/\o r.toNat=1)/\S.length<=2/\ShC o (ix p.code i) i S tA tE:=by
 have hr:aL p=true:=by simp only[eJ,zaG]at hc;exact hc.1
 have h1:=mN hr hi;obtain⟨⟨d0,d1⟩,⟨a0,a1⟩,⟨b0,b1⟩⟩:=mI h1;have hin:=aPW h1;have hcl:qP o (ix p.code i)=true:=by simp only[eJ,zaG]at hc;exact dH.1 hc.2.2.2 i hi
 have h3:=aC0 (ix p.code i).op;have h2:¬aC (ix p.code i).op=0:=by have h1:=h1;simp only[bY,zaG,zaK]at h1;exact h1.1
 have hS:∀ r∈gX (ix p.code i) o,1<=r/\r<=15/\o r.toNat=1:=fun r hr=>by
  have h5:=(aPV.1 hr).2;unfold fC at h5;split at h5
  ·omega
  ·omega
 have hown:∀ r:Int,1<=r->r<=15->fC o r=o r.toNat:=fun r h5 h6=>by unfold fC;rw[if_neg (by omega)]
 have hsnt:∀ r:Int,0<=r->r<=15->(r=0\/r∈aY (ix p.code i))->ow o 2 r\/r∈gX (ix p.code i) o:=fun r h5 h6 h7=>by
  rcases h7 with h7|h7
  ·exact .inl (.inl h7)
  ·by_cases hz:r=0
   ·exact .inl (.inl hz)
   rcases aD3 hc (show 1<=r by omega) h6 with h8|h8
   ·exact .inr (aPV.2 ⟨h7,by rw[hown r (by omega) h6];exact h8⟩)
   ·exact .inl (.inr h8)
 have hnoE:∀ r:Int,0<=r->r<=15->(r=0\/r∈aY (ix p.code i))->lI o (aY (ix p.code i))=false->ow o 1 r:=fun r h5 h6 h7 h8=>by
  rcases h7 with h7|h7
  ·exact .inl h7
  ·by_cases hz:r=0
   ·exact .inl hz
   rcases aD3 hc (show 1<=r by omega) h6 with h9|h9
   ·exact .inr h9
   ·exfalso;have:lI o (aY (ix p.code i))=true:=List.any_eq_true.2 ⟨r,h7,by unfold sL;rw[decide_eq_true (by omega),decide_eq_true h9];rfl⟩;rw[this]at h8;cases h8
 have hbase:(aC (ix p.code i).op=4\/aC (ix p.code i).op=5)->ow o 1 (ix p.code i).a:=fun hf=>by
  by_cases hz:(ix p.code i).a=0
  ·exact .inl hz
  rcases aD3 hc (show 1<=(ix p.code i).a by omega) a1 with h9|h9
  ·exact .inr h9
  ·exfalso;unfold qP sL at hcl;simp only[zaG,Bool.not_eq_true',zaW,Bool.or_eq_false_iff,zaP]at hcl;omega
 unfold cel;simp only[zaU,if_false,if_true];unfold jD;rw[if_neg (by rw[h1];simp)];by_cases f1:aC (ix p.code i).op=1\/aC (ix p.code i).op=2\/aC (ix p.code i).op=3
 ·rw[if_pos f1];by_cases hs:xB (ix p.code i) o=1
  ·rw[if_pos hs];have hs':=hs;unfold xB at hs';rw[if_neg (by omega)]at hs';by_cases hd:fC o (ix p.code i).d=1\/((ix p.code i).d=0/\lI o (aY (ix p.code i))=false)
   case neg=>rw[if_neg hd]at hs';cases hs'
   have hdz:ow o 1 (ix p.code i).d/\lI o (aY (ix p.code i))=false:=by
    rcases hd with hd|hd
    ·have hd1:1<=(ix p.code i).d:=by
      unfold fC at hd;split at hd
      ·cases hd
      ·omega
     rw[hown _ hd1 d1]at hd;refine⟨.inr hd, ?_⟩;unfold qP at hcl;rw[zaG,Bool.not_eq_true',Bool.not_eq_true']at hcl;have h9:=hcl.2;rw[decide_eq_true (by omega),decide_eq_true (by omega),decide_eq_true (by omega),decide_eq_true hd]at h9;simpa using h9
    ·exact⟨.inl hd.1,hd.2⟩
   exact⟨[],_,_,rfl,rfl,fun r hr=>(by cases hr),by simp,.inl ⟨by omega,rfl,rfl,rfl,hnoE _ a0 a1 hin.1 hdz.2,hnoE _ b0 b1 hin.2 hdz.2,hdz.1⟩⟩
  ·rw[if_neg hs];refine⟨gX (ix p.code i) o,[],_,by simp,rfl,hS,aLZ,.inr (.inl ⟨by omega,rfl,rfl,hsnt _ a0 a1 hin.1,hsnt _ b0 b1 hin.2, ?_⟩)⟩;unfold xB at hs;rw[if_neg (by omega)]at hs;by_cases hz:(ix p.code i).d=0
   ·exact .inl hz
   ·rcases aD3 hc (show 1<=(ix p.code i).d by omega) d1 with h9|h9
    ·exfalso;apply hs;rw[if_pos (.inl (by rw[hown _ (by omega) d1];exact h9))]
    ·exact .inr h9
 rw[if_neg f1];by_cases f4:aC (ix p.code i).op=4
 ·rw[if_pos f4];by_cases hs:sL o (ix p.code i).d=true
  ·rw[if_pos hs];have hs':=hs;simp only[sL,zaG,zaK]at hs';exact⟨[],_,_,rfl,rfl,fun r hr=>(by cases hr),by simp,.inr (.inr (.inl ⟨f4,rfl,rfl,rfl,hbase (.inl f4),by omega,hs'.2⟩))⟩
  ·rw[if_neg hs];refine⟨[],_,_,rfl,rfl,fun r hr=>(by cases hr),by simp,.inr (.inr (.inr (.inl ⟨f4,rfl,rfl,rfl,hbase (.inl f4), ?_⟩)))⟩;by_cases hz:(ix p.code i).d=0
   ·exact .inl hz
   ·rcases aD3 hc (show 1<=(ix p.code i).d by omega) d1 with h9|h9
    ·exact .inr h9
    ·exfalso;apply hs;unfold sL;rw[decide_eq_true (by omega),decide_eq_true h9];rfl
 rw[if_neg f4];by_cases f5:aC (ix p.code i).op=5
 ·rw[if_pos f5];by_cases hs:fC o (ix p.code i).b=1
  ·rw[if_pos hs];have hb1:1<=(ix p.code i).b:=by
    unfold fC at hs;split at hs
    ·cases hs
    ·omega
   rw[hown _ hb1 b1]at hs;exact⟨[(ix p.code i).b],_,_,rfl,rfl,fun r hr=>by rw[List.mem_singleton.1 hr];exact⟨hb1,b1,hs⟩,by simp,.inr (.inr (.inr (.inr (.inl ⟨f5,rfl,rfl,hbase (.inr f5),.inr (by simp)⟩))))⟩
  ·rw[if_neg hs];refine⟨[],_,_,rfl,rfl,fun r hr=>(by cases hr),by simp,.inr (.inr (.inr (.inr (.inl ⟨f5,rfl,rfl,hbase (.inr f5),.inl ?_⟩))))⟩;by_cases hz:(ix p.code i).b=0
   ·exact .inl hz
   ·rcases aD3 hc (show 1<=(ix p.code i).b by omega) b1 with h9|h9
    ·exfalso;apply hs;rw[hown _ (by omega) b1];exact h9
    ·exact .inr h9
 rw[if_neg f5];by_cases f6:aC (ix p.code i).op=6
 ·rw[if_pos f6];by_cases hs:lI o (aY (ix p.code i))=false
  ·rw[if_pos hs];exact⟨[],_,_,rfl,rfl,fun r hr=>(by cases hr),by simp,.inr (.inr (.inr (.inr (.inr (.inl ⟨f6,rfl,rfl,rfl,hnoE _ a0 a1 hin.1 hs,hnoE _ b0 b1 hin.2 hs⟩)))))⟩
  ·rw[if_neg hs];exact⟨gX (ix p.code i) o,_,_,rfl,rfl,hS,aLZ,.inr (.inr (.inr (.inr (.inr (.inr (.inl ⟨f6,rfl,rfl,hsnt _ a0 a1 hin.1,hsnt _ b0 b1 hin.2⟩))))))⟩
 rw[if_neg f6];by_cases f7:aC (ix p.code i).op=7
 ·rw[if_pos f7];exact⟨[],_,_,rfl,rfl,fun r hr=>(by cases hr),by simp,.inr (.inr (.inr (.inr (.inr (.inr (.inr (.inl ⟨f7,rfl,rfl,rfl⟩)))))))⟩
 rw[if_neg f7];have f8:aC (ix p.code i).op=8:=by omega
 rw[if_pos f8];exact⟨[],_,_,rfl,rfl,fun r hr=>(by cases hr),by simp,.inr (.inr (.inr (.inr (.inr (.inr (.inr (.inr ⟨f8,rfl,rfl,rfl⟩)))))))⟩
def gV (g:Nat->Int) (n:Int):Int:=if n<1\/n>15 then 0 else g n.toNat
def gU (g:Nat->Int) (d v:Int):Nat->Int:=if 1<=d/\d<=15 then fun i=>cond (Nat.beq i d.toNat) v (g i) else g
structure GS where
 bC:Nat->Int
 mem:List Int
 wr:List Wr
 pc:Nat
def gAd (I:Ins) (g:GS):Int:=IntKind.u32.wrap (gV g.bC I.a+IntKind.u32.wrap I.imm)
def gOk (I:Ins) (g:GS):Bool:=if aC I.op=4\/aC I.op=5 then decide (dV (szI I.op) (gAd I g) g.mem.length=0)else Alu.dkB I.op I.d I.a I.b I.imm (gV g.bC I.b)
def gWr (I:Ins) (g:GS):Wr:=⟨gAd I g,szI I.op,n6 (gV g.bC I.b) (szI I.op)⟩
def gVl (I:Ins) (g:GS):Int:=if aC I.op=4 then kO g.mem I.op (gAd I g)else Alu.doI I.op I.d I.a I.b I.imm (gV g.bC I.a) (gV g.bC I.b)
def gTk (I:Ins) (g:GS):Bool:=Alu.tkB I.op (gV g.bC I.a) (gV g.bC I.b)
def gSt (p:Prog) (g:GS):GS := { bC:=if aC (ix p.code g.pc).op<=4/\gOk (ix p.code g.pc) g=true then gU g.bC (ix p.code g.pc).d (gVl (ix p.code g.pc) g)else g.bC,mem:=if aC (ix p.code g.pc).op=5/\gOk (ix p.code g.pc) g=true then eM g.mem (gWr (ix p.code g.pc) g)else g.mem,wr:=if aC (ix p.code g.pc).op=5/\gOk (ix p.code g.pc) g=true then g.wr++[gWr (ix p.code g.pc) g]else g.wr,pc:=zH p g.pc (gTk (ix p.code g.pc) g) }
def gh (p:Prog):Nat->GS
 |0=>⟨fun _=>0,wB p,[],0⟩
 |n+1=>gSt p (gh p n)
def gI (p:Prog) (n:Nat):Ins:=ix p.code (gh p n).pc
def gD (p:Prog) (n:Nat):Bool:=gTk (gI p n) (gh p n)
theorem mP {p:Prog}:∀ {n:Nat},rho p (gD p) n=(gh p n).pc
 |0=>rfl
 |n+1=>by show zH p (rho p (gD p) n) (gD p n)=zH p (gh p n).pc (gTk (ix p.code (gh p n).pc) (gh p n));rw[mP];rfl
theorem pC {g:Nat->Int} {d v:Int} {i:Nat}:gU g d v i=if(1<=d/\d<=15)/\i=d.toNat then v else g i:=by
 unfold gU;by_cases h:1<=d/\d<=15
 ·rw[if_pos h];by_cases h2:i=d.toNat
  ·rw[if_pos ⟨h,h2⟩,h2];simp
  ·rw[if_neg (fun h3=>h2 h3.2)];show(cond (Nat.beq i d.toNat) v (g i))=g i;rw[dB h2];rfl
 ·rw[if_neg h,if_neg (fun h3=>h h3.1)]
theorem sC {p:Prog} {n i:Nat}:(gh p (n+1)).bC i=if aC (gI p n).op<=4/\gOk (gI p n) (gh p n)=true/\(1<=(gI p n).d/\(gI p n).d<=15)/\i=(gI p n).d.toNat then gVl (gI p n) (gh p n)else(gh p n).bC i:=by
 show(if aC (gI p n).op<=4/\gOk (gI p n) (gh p n)=true then gU (gh p n).bC (gI p n).d (gVl (gI p n) (gh p n))else(gh p n).bC) i=_;by_cases h:aC (gI p n).op<=4/\gOk (gI p n) (gh p n)=true
 ·rw[if_pos h,pC];by_cases h2:(1<=(gI p n).d/\(gI p n).d<=15)/\i=(gI p n).d.toNat
  ·rw[if_pos h2,if_pos ⟨h.1,h.2,h2⟩]
  ·rw[if_neg h2,if_neg (fun h3=>h2 h3.2.2)]
 ·rw[if_neg h,if_neg (fun h3=>h ⟨h3.1,h3.2.1⟩)]
theorem aUL {p:Prog} {n i:Nat} (h:¬i=(gI p n).d.toNat\/(gI p n).d=0\/5<=aC (gI p n).op):(gh p (n+1)).bC i=(gh p n).bC i:=by
 rw[sC,if_neg];rintro ⟨h1,_,h2,h3⟩;rcases h with h|h|h
 ·exact h h3
 ·omega
 ·omega
theorem aD4 {p:Prog}:∀ {n:Nat},(gh p n).mem=(gh p n).wr.foldl eM (wB p)
 |0=>rfl
 |n+1=>by
  show(if aC (gI p n).op=5/\gOk (gI p n) (gh p n)=true then eM (gh p n).mem (gWr (gI p n) (gh p n))else(gh p n).mem)=(if aC (gI p n).op=5/\gOk (gI p n) (gh p n)=true then(gh p n).wr++[gWr (gI p n) (gh p n)]else(gh p n).wr).foldl eM (wB p);split
  ·rw[List.foldl_append,<-aD4];rfl
  ·exact aD4
def rgZ (p:Prog) (g:Nat->Int) (z:Nat×Cell):Nat->Int :=
 if z.2.kind=1\/z.2.kind=2\/z.2.kind=7 then gU g z.2.ins.d ((gh p (z.1+1)).bC z.2.ins.d.toNat)
 else if z.2.kind=6 then gU g z.2.reg ((gh p z.1).bC z.2.reg.toNat)else g
def rg (p:Prog) (l:List (Nat×Cell)):Nat->Int:=l.foldl (rgZ p) (fun _=>0)
theorem aMW {p:Prog} {l r:List (Nat×Cell)}:rg p (l++r)=r.foldl (rgZ p) (rg p l):=List.foldl_append
theorem aR0 {p:Prog} {l:List (Nat×Cell)} {z:Nat×Cell}:rg p (l++[z])=rgZ p (rg p l) z:=by rw[aMW];rfl
theorem a1Q {p:Prog} {n i:Nat} {g:Nat->Int}:∀ {S:List Int},((S.map (cR 5 i 0)).map (Prod.mk n)).foldl (rgZ p) g=g
 |[]=>rfl
 |s::S=>by show((S.map (cR 5 i 0)).map (Prod.mk n)).foldl (rgZ p) (rgZ p g (n,cR 5 i 0 s))=g;rw[a1Q];rfl
theorem aUM {p:Prog} {n i r:Nat}:∀ {S:List Int} {g:Nat->Int},(∀ s∈S,1<=s/\s<=15)->((r:Int)∈S->((S.map (cR 6 i 0)).map (Prod.mk n)).foldl (rgZ p) g r=(gh p n).bC r)/\((r:Int)∉S->((S.map (cR 6 i 0)).map (Prod.mk n)).foldl (rgZ p) g r=g r)
 |[],g,_=>⟨fun h=>(by cases h),fun _=>rfl⟩
 |s::S,g,hS=>by
  obtain⟨h1,h2⟩:=aUM (S:=S) (g:=rgZ p g (n,cR 6 i 0 s)) fun x hx=>hS x (List.mem_cons_of_mem _ hx)
  have hs:=hS s (List.mem_cons_self ..);have e:rgZ p g (n,cR 6 i 0 s) r=if r=s.toNat then(gh p n).bC s.toNat else g r:=by
   show gU g s ((gh p n).bC s.toNat) r=_;rw[pC];by_cases h3:r=s.toNat
   ·rw[if_pos ⟨hs,h3⟩,if_pos h3]
   ·rw[if_neg (fun h4=>h3 h4.2),if_neg h3]
  refine⟨fun h => ?_,fun h => ?_⟩
  ·show((S.map (cR 6 i 0)).map (Prod.mk n)).foldl (rgZ p) (rgZ p g (n,cR 6 i 0 s)) r=_;by_cases h3:(r:Int)∈S
   ·exact h1 h3
   ·rcases List.mem_cons.1 h with h4|h4
    ·rw[h2 h3,e,if_pos (by omega)];congr 1;omega
    ·exact absurd h4 h3
  ·show((S.map (cR 6 i 0)).map (Prod.mk n)).foldl (rgZ p) (rgZ p g (n,cR 6 i 0 s)) r=_;have h5:¬(r:Int)=s:=fun h4=>h (by rw[h4];exact List.mem_cons_self ..)
   rw[h2 (fun h4=>h (List.mem_cons_of_mem _ h4)),e,if_neg (by omega)]
def ov (e:Bool):Int:=if e then 2 else 1
section
variable {p:Prog} {o:Nat->Int} (hc:eJ p o=true)
theorem p5 {D:Nat->Bool} {e:Bool} {n k:Nat}:Dn p o D e n k=Dn p o D e n 0++((cel p o e (rho p D n)).take k).map (Prod.mk n):=by unfold Dn;simp
include hc
theorem a1R (e:Bool) (n:Nat) {r:Nat} (h1:1<=r) (h2:r<=15) (ho:o r=ov e) {g:Nat->Int} (hg:g r=(gh p n).bC r):((cel p o e (gh p n).pc).map (Prod.mk n)).foldl (rgZ p) g r=(gh p (n+1)).bC r:=by
 by_cases hi:(gh p n).pc<p.code.length
 case neg => rw[oO (by omega)];have hI:gI p n=default:=aEW (by omega);rw[aUL (.inr (.inl (by rw[hI];rfl)))];exact hg
 obtain⟨S,tA,tE,c1,c2,hS,hl,hs⟩:=xY hc hi;have kp:∀ {g:Nat->Int},g r=(gh p n).bC r->(¬r=(gI p n).d.toNat\/(gI p n).d=0\/5<=aC (gI p n).op)->g r=(gh p (n+1)).bC r:=fun h3 h4=>by rw[aUL h4];exact h3
 have wr:∀ {g:Nat->Int},g r=(gh p n).bC r->gU g (gI p n).d ((gh p (n+1)).bC (gI p n).d.toNat) r=(gh p (n+1)).bC r:=fun {g} h3=>by
  rw[pC];by_cases h4:(1<=(gI p n).d/\(gI p n).d<=15)/\r=(gI p n).d.toNat
  ·rw[if_pos h4,<-h4.2]
  ·rw[if_neg h4];refine kp h3 ?_;by_cases h5:r=(gI p n).d.toNat
   ·omega
   ·exact .inl h5
 have no:∀ {v:Int},¬v=ov e->ow o v (gI p n).d->¬r=(gI p n).d.toNat\/(gI p n).d=0\/5<=aC (gI p n).op:=fun h3 h4=>by
  rcases h4 with h4|h4
  ·exact .inr (.inl h4)
  ·refine .inl fun h5 => ?_
   rw[<-h5,ho]at h4;exact h3 h4.symm
 have hI:ix p.code (gh p n).pc=gI p n:=rfl;rw[hI]at hs;cases e with
 |false =>
  rw[c1,List.map_append,List.foldl_append,a1Q];rcases hs with h|h|h|h|h|h|h|h|h
  ·rw[h.2.1];exact wr hg
  ·rw[h.2.1];exact kp hg (no (v:=2) (by decide) h.2.2.2.2.2)
  ·rw[h.2.1];exact kp hg (no (v:=2) (by decide) (.inr h.2.2.2.2.2.2))
  ·rw[h.2.1];exact wr hg
  ·rw[h.2.1];exact kp hg (.inr (.inr (by omega)))
  ·rw[h.2.1];exact kp hg (.inr (.inr (by omega)))
  ·rw[h.2.1];exact kp hg (.inr (.inr (by omega)))
  ·rw[h.2.1];exact kp hg (.inr (.inr (by omega)))
  ·rw[h.2.1];exact kp hg (.inr (.inr (by omega)))
 |true =>
  rw[c2,List.map_append,List.foldl_append];have hg2:((S.map (cR 6 ((gh p n).pc:Int) 0)).map (Prod.mk n)).foldl (rgZ p) g r=(gh p n).bC r:=by
   rw[(aUM (p:=p) (r:=r) fun s hs=>⟨(hS s hs).1,(hS s hs).2.1⟩).2 fun h3 => ?_]
   ·exact hg
   ·have:=(hS _ h3).2.2;rw[zaO,ho]at this;cases this
  generalize ((S.map (cR 6 ((gh p n).pc:Int) 0)).map (Prod.mk n)).foldl (rgZ p) g=g2 at hg2 ⊢;rcases hs with h|h|h|h|h|h|h|h|h
  ·rw[h.2.2.1];exact kp hg2 (no (v:=1) (by decide) h.2.2.2.2.2.2)
  ·rw[h.2.2.1];exact wr hg2
  ·rw[h.2.2.1];exact wr hg2
  ·rw[h.2.2.1];exact kp hg2 (no (v:=1) (by decide) h.2.2.2.2.2)
  ·rw[h.2.2.1];exact kp hg2 (.inr (.inr (by omega)))
  ·rw[h.2.2.1];exact kp hg2 (.inr (.inr (by omega)))
  ·rw[h.2.2.1];exact kp hg2 (.inr (.inr (by omega)))
  ·rw[h.2.2.1];exact kp hg2 (.inr (.inr (by omega)))
  ·rw[h.2.2.1];exact kp hg2 (.inr (.inr (by omega)))
theorem aUN (e:Bool) {r:Nat} (h1:1<=r) (h2:r<=15) (ho:o r=ov e):∀ n:Nat,rg p (Dn p o (gD p) e n 0) r=(gh p n).bC r
 |0=>by
  have:Dn p o (gD p) e 0 0=[]:=by unfold Dn;simp
  rw[this];rfl
 |n+1=>by rw[<-r7,p5,List.take_length,aMW,mP];exact a1R hc e n h1 h2 ho (aUN e h1 h2 ho n)
theorem a1S {α:Type} {l t:List α} {k:Nat} (ht:t.length<=1) (hk:k<(l++t).length):k<=l.length/\(l++t).take k=l.take k:=by have _:=hc;rw[List.length_append]at hk;exact⟨by omega,List.take_append_of_le_length (by omega)⟩
theorem aUO {I:Ins} {i:Nat} {S:List Int} {tA tE:List Cell} (h:ShC o I i S tA tE):tA.length<=1/\tE.length<=1:=by
 have _:=hc;rcases h with h|h|h|h|h|h|h|h|h
 all_goals
  rw[h.2.1,h.2.2.1];simp
theorem a8I (e:Bool) {n k r:Nat} (h1:1<=r) (h2:r<=15) (hk:k<(cel p o e (gh p n).pc).length) (ho:o r=ov e):rg p (Dn p o (gD p) e n k) r=(gh p n).bC r:=by
 have h0:=aUN hc e h1 h2 ho n;rw[p5,aMW,mP];by_cases hi:(gh p n).pc<p.code.length
 case neg=>rw[oO (by omega)]at hk;cases hk
 obtain⟨S,tA,tE,c1,c2,hS,hl,hs⟩:=xY hc hi;have ht:=aUO hc hs;cases e with
 |false => rw[c1]at hk ⊢;rw[(a1S hc ht.1 hk).2,<-List.map_take,a1Q];exact h0
 |true =>
  rw[c2]at hk ⊢;rw[(a1S hc ht.2 hk).2,<-List.map_take,(aUM (p:=p) (r:=r) fun s hs=>⟨(hS s (List.mem_of_mem_take hs)).1,(hS s (List.mem_of_mem_take hs)).2.1⟩).2 fun h3 => ?_]
  ·exact h0
  ·have:=(hS _ (List.mem_of_mem_take h3)).2.2;rw[zaO,ho]at this;cases this
theorem bCO {n:Nat} {S:List Int} {tE:List Cell} (hS:∀ s∈S,1<=s/\s<=15) (hcl:cel p o true (gh p n).pc=S.map (cR 6 ((gh p n).pc:Int) 0)++tE) {r:Nat} (hr:(r:Int)∈S):rg p (Dn p o (gD p) true n S.length) r=(gh p n).bC r:=by have _:=hc;rw[p5,aMW,mP,hcl,List.take_left' (by simp)];exact(aUM (p:=p) (r:=r) hS).1 hr
end
def vK {α:Type} (K:Int) (f:Nat×Cell->α) (l:List (Nat×Cell)):List α:=(l.filter fun z=>decide (z.2.kind=K)).map f
theorem iJ {α:Type} {K:Int} {f:Nat×Cell->α} {l r:List (Nat×Cell)}:vK K f (l++r)=vK K f l++vK K f r:=by simp[vK]
theorem pS {α:Type} {K:Int} {f:Nat×Cell->α} {z:Nat×Cell}:vK K f [z]=if z.2.kind=K then [f z]else []:=by unfold vK;by_cases h:z.2.kind=K<;>simp[h]
theorem aMX {α:Type} {K:Int} {f:Nat×Cell->α} {l:List (Nat×Cell)}:(vK K f l).length=kc K l:=by unfold vK kc;rw[List.length_map,List.countP_eq_length_filter]
theorem aUP {α:Type} {K:Int} {f:Nat×Cell->α} {l:List (Nat×Cell)} (h:∀ z∈l,¬z.2.kind=K):vK K f l=[]:=by unfold vK;rw[List.filter_eq_nil_iff.2 fun z hz=>by simpa using h z hz];rfl
theorem a1T {α:Type} {K:Int} {f:Nat×Cell->α} {l:List (Nat×Cell)} (h:∀ z∈l,z.2.kind=K):vK K f l=l.map f:=by unfold vK;rw[List.filter_eq_self.2 fun z hz=>by simpa using h z hz]
def jT {α:Type} (F:Nat->List α) (l:List α):Prop:=∃ N,l <+: (List.range N).flatMap F
theorem aPX {α:Type} {F:Nat->List α} {n m:Nat} (h:n<=m):(List.range n).flatMap F <+: (List.range m).flatMap F:=by
 induction m with
 |zero =>
      obtain rfl:n=0:=by omega
      exact List.prefix_refl _
 |succ m ih =>
  rcases Nat.lt_or_ge n (m+1)with h1|h1
  ·rw[fT];exact(ih (by omega)).trans (List.prefix_append _ _)
  ·obtain rfl:n=m+1:=by omega
   exact List.prefix_refl _
theorem aMY {α:Type} {F:Nat->List α} {l r:List α} (h1:jT F l) (h2:jT F r) (h:l.length<=r.length):l <+: r:=by obtain⟨n,h1⟩:=h1;obtain⟨m,h2⟩:=h2;exact List.prefix_of_prefix_length_le (h1.trans (aPX (Nat.le_max_left n m))) (h2.trans (aPX (Nat.le_max_right n m))) h
theorem aH8 {α:Type} {F:Nat->List α} {q t:List α} {a v:α} (h1:jT F (q++a::t)) (h2:jT F (q++[v])):a=v:=by have h:=aMY h2 h1 (by simp);rw[List.prefix_append_right_inj]at h;obtain⟨r,hr⟩:=h;simp only[List.singleton_append,List.cons.injEq]at hr;exact hr.1.symm
section
variable {p:Prog} {o:Nat->Int}
theorem aKQ {α:Type} {D:Nat->Bool} {e:Bool} {n k:Nat} {K:Int} {f:Nat×Cell->α}:jT (fun m=>vK K f ((cel p o e (rho p D m)).map (Prod.mk m))) (vK K f (Dn p o D e n k)):=by
 refine⟨n+1, ?_⟩;have e1:vK K f ((List.range n).flatMap fun m=>(cel p o e (rho p D m)).map (Prod.mk m))=(List.range n).flatMap fun m=>vK K f ((cel p o e (rho p D m)).map (Prod.mk m)):=by
  induction n with
  |zero=>rfl
  |succ n ih=>rw[fT,iJ,ih,fT]
 unfold Dn;rw[iJ,e1,fT,List.prefix_append_right_inj];unfold vK;exact((List.take_prefix k _).map _).filter _ |>.map f
def fv (p:Prog) (z:Nat×Cell):Int:=(gh p z.1).bC z.2.reg.toNat
def lv (p:Prog) (z:Nat×Cell):Int:=(gh p (z.1+1)).bC (gI p z.1).d.toNat
def pv (p:Prog) (z:Nat×Cell):Int:=gV (gh p z.1).bC (gI p z.1).b
def sv (p:Prog) (z:Nat×Cell):Wr:=gWr (gI p z.1) (gh p z.1)
variable (hc:eJ p o=true)
include hc
theorem aMZ (m:Nat):vK 5 (fv p) ((cel p o false (gh p m).pc).map (Prod.mk m))=vK 6 (fv p) ((cel p o true (gh p m).pc).map (Prod.mk m))/\(∀ {α:Type} (f:Nat->α),vK 3 (fun z=>f z.1) ((cel p o false (gh p m).pc).map (Prod.mk m))=vK 7 (fun z=>f z.1) ((cel p o true (gh p m).pc).map (Prod.mk m)))/\(∀ {α:Type} (f:Nat->α),vK 4 (fun z=>f z.1) ((cel p o false (gh p m).pc).map (Prod.mk m))=vK 8 (fun z=>f z.1) ((cel p o true (gh p m).pc).map (Prod.mk m))):=by
 by_cases hi:(gh p m).pc<p.code.length
 case neg => rw[oO (by omega),oO (by omega)];exact⟨rfl,fun f=>rfl,fun f=>rfl⟩
 obtain⟨S,tA,tE,c1,c2,hS,hl,hs⟩:=xY hc hi;rw[c1,c2];generalize hi2:(gh p m).pc=i at hs ⊢;have k5:∀ {α:Type} (K:Int) (f:Nat×Cell->α),¬K=5->vK K f ((S.map (cR 5 (i:Int) 0)).map (Prod.mk m))=[]:=fun K f h=>aUP fun z hz=>by obtain⟨c,hc,rfl⟩:=List.mem_map.1 hz;obtain⟨s,_,rfl⟩:=List.mem_map.1 hc;exact fun h2=>h h2.symm
 have k6:∀ {α:Type} (K:Int) (f:Nat×Cell->α),¬K=6->vK K f ((S.map (cR 6 (i:Int) 0)).map (Prod.mk m))=[]:=fun K f h=>aUP fun z hz=>by obtain⟨c,hc,rfl⟩:=List.mem_map.1 hz;obtain⟨s,_,rfl⟩:=List.mem_map.1 hc;exact fun h2=>h h2.symm
 have s5:vK 5 (fv p) ((S.map (cR 5 (i:Int) 0)).map (Prod.mk m))=S.map fun s=>(gh p m).bC s.toNat:=by
  rw[a1T fun z hz => ?_]
  ·simp[fv,cR,Function.comp_def]
  ·obtain⟨c,hc,rfl⟩:=List.mem_map.1 hz;obtain⟨s,_,rfl⟩:=List.mem_map.1 hc;rfl
 have s6:vK 6 (fv p) ((S.map (cR 6 (i:Int) 0)).map (Prod.mk m))=S.map fun s=>(gh p m).bC s.toNat:=by
  rw[a1T fun z hz => ?_]
  ·simp[fv,cR,Function.comp_def]
  ·obtain⟨c,hc,rfl⟩:=List.mem_map.1 hz;obtain⟨s,_,rfl⟩:=List.mem_map.1 hc;rfl
 have tl:∀ {α:Type} (K:Int) (f:Nat×Cell->α) (t:List Cell),(∀ c∈t,¬c.kind=K)->vK K f (t.map (Prod.mk m))=[]:=fun K f t h=>aUP fun z hz=>by obtain⟨c,hc,rfl⟩:=List.mem_map.1 hz;exact h c hc
 have a5:(∀ c∈tA,¬c.kind=5)/\(∀ c∈tE,¬c.kind=6):=by
  rcases hs with h|h|h|h|h|h|h|h|h
  all_goals
   rw[h.2.1,h.2.2.1];simp[cI,cR,cP]
 refine⟨?_,fun f => ?_,fun f => ?_⟩
 ·rw[List.map_append,List.map_append,iJ,iJ,s5,s6,tl 5 _ tA a5.1,tl 6 _ tE a5.2]
 ·rw[List.map_append,List.map_append,iJ,iJ,k5 3 _ (by decide),k6 7 _ (by decide)];rcases hs with h|h|h|h|h|h|h|h|h
  all_goals
   rw[h.2.1,h.2.2.1];simp[vK,cI,cR,cP]
 ·rw[List.map_append,List.map_append,iJ,iJ,k5 4 _ (by decide),k6 8 _ (by decide)];rcases hs with h|h|h|h|h|h|h|h|h
  all_goals
   rw[h.2.1,h.2.2.1];simp[vK,cI,cR,cP]
variable {n k n' k':Nat}
theorem bIC:jT (fun m=>vK 6 (fv p) ((cel p o true (gh p m).pc).map (Prod.mk m))) (vK 5 (fv p) (Dn p o (gD p) false n k)):=by
 have h:=aKQ (p:=p) (o:=o) (D:=gD p) (e:=false) (n:=n) (k:=k) (K:=5) (f:=fv p);have e:(fun m=>vK 5 (fv p) ((cel p o false (rho p (gD p) m)).map (Prod.mk m)))=fun m=>vK 6 (fv p) ((cel p o true (gh p m).pc).map (Prod.mk m)):=by funext m;rw[mP];exact(aMZ hc m).1
 rw[<-e];exact h
theorem pre6:jT (fun m=>vK 6 (fv p) ((cel p o true (gh p m).pc).map (Prod.mk m))) (vK 6 (fv p) (Dn p o (gD p) true n k)):=by
 have _:=hc;have h:=aKQ (p:=p) (o:=o) (D:=gD p) (e:=true) (n:=n) (k:=k) (K:=6) (f:=fv p);have e:(fun m=>vK 6 (fv p) ((cel p o true (rho p (gD p) m)).map (Prod.mk m)))=fun m=>vK 6 (fv p) ((cel p o true (gh p m).pc).map (Prod.mk m)):=by funext m;rw[mP]
 rw[<-e];exact h
theorem a8J {α:Type} (f:Nat->α):jT (fun m=>vK 7 (fun z=>f z.1) ((cel p o true (gh p m).pc).map (Prod.mk m))) (vK 3 (fun z=>f z.1) (Dn p o (gD p) false n k))/\jT (fun m=>vK 7 (fun z=>f z.1) ((cel p o true (gh p m).pc).map (Prod.mk m))) (vK 7 (fun z=>f z.1) (Dn p o (gD p) true n' k')):=by
 have h:=aKQ (p:=p) (o:=o) (D:=gD p) (e:=false) (n:=n) (k:=k) (K:=3) (f:=fun z=>f z.1);have h':=aKQ (p:=p) (o:=o) (D:=gD p) (e:=true) (n:=n') (k:=k') (K:=7) (f:=fun z=>f z.1);have e:(fun m=>vK 3 (fun z:Nat×Cell=>f z.1) ((cel p o false (rho p (gD p) m)).map (Prod.mk m)))=fun m=>vK 7 (fun z=>f z.1) ((cel p o true (gh p m).pc).map (Prod.mk m)):=by funext m;rw[mP];exact(aMZ hc m).2.1 f
 have e':(fun m=>vK 7 (fun z:Nat×Cell=>f z.1) ((cel p o true (rho p (gD p) m)).map (Prod.mk m)))=fun m=>vK 7 (fun z=>f z.1) ((cel p o true (gh p m).pc).map (Prod.mk m)):=by funext m;rw[mP]
 rw[e]at h;rw[e']at h';exact⟨h,h'⟩
theorem a1U {α:Type} (f:Nat->α):jT (fun m=>vK 8 (fun z=>f z.1) ((cel p o true (gh p m).pc).map (Prod.mk m))) (vK 4 (fun z=>f z.1) (Dn p o (gD p) false n k))/\jT (fun m=>vK 8 (fun z=>f z.1) ((cel p o true (gh p m).pc).map (Prod.mk m))) (vK 8 (fun z=>f z.1) (Dn p o (gD p) true n' k')):=by
 have h:=aKQ (p:=p) (o:=o) (D:=gD p) (e:=false) (n:=n) (k:=k) (K:=4) (f:=fun z=>f z.1);have h':=aKQ (p:=p) (o:=o) (D:=gD p) (e:=true) (n:=n') (k:=k') (K:=8) (f:=fun z=>f z.1);have e:(fun m=>vK 4 (fun z:Nat×Cell=>f z.1) ((cel p o false (rho p (gD p) m)).map (Prod.mk m)))=fun m=>vK 8 (fun z=>f z.1) ((cel p o true (gh p m).pc).map (Prod.mk m)):=by funext m;rw[mP];exact(aMZ hc m).2.2 f
 have e':(fun m=>vK 8 (fun z:Nat×Cell=>f z.1) ((cel p o true (rho p (gD p) m)).map (Prod.mk m)))=fun m=>vK 8 (fun z=>f z.1) ((cel p o true (gh p m).pc).map (Prod.mk m)):=by funext m;rw[mP]
 rw[e]at h;rw[e']at h';exact⟨h,h'⟩
def okC (p:Prog) (z:Nat×Cell):Prop:=(1<=z.2.kind/\z.2.kind<=4)->gOk (gI p z.1) (gh p z.1)=true
theorem a8K:∀ n:Nat,(∀ z∈Dn p o (gD p) false n 0,okC p z)->(gh p n).wr=vK 4 (sv p) (Dn p o (gD p) false n 0)
 |0,_=>by
  have:Dn p o (gD p) false 0 0=[]:=by unfold Dn;simp
  rw[this];rfl
 |n+1,h=>by
  have e1:Dn p o (gD p) false (n+1) 0=Dn p o (gD p) false n 0++(cel p o false (gh p n).pc).map (Prod.mk n):=by rw[<-r7,p5,List.take_length,mP]
  rw[e1]at h ⊢;rw[iJ,<-a8K n fun z hz=>h z (List.mem_append_left _ hz)];show(if aC (gI p n).op=5/\gOk (gI p n) (gh p n)=true then(gh p n).wr++[gWr (gI p n) (gh p n)]else(gh p n).wr)=_;by_cases hi:(gh p n).pc<p.code.length
  case neg => rw[oO (by omega)];have hI:gI p n=default:=aEW (by omega);rw[if_neg (by rw[hI];rintro ⟨h1,_⟩;revert h1;decide)];simp[vK]
  obtain⟨S,tA,tE,c1,c2,hS,hl,hs⟩:=xY hc hi;have hI:ix p.code (gh p n).pc=gI p n:=rfl;rw[hI]at hs;have k5:vK 4 (sv p) ((S.map (cR 5 ((gh p n).pc:Int) 0)).map (Prod.mk n))=[]:=aUP fun z hz=>by obtain⟨c,hc,rfl⟩:=List.mem_map.1 hz;obtain⟨s,_,rfl⟩:=List.mem_map.1 hc;show ¬(5:Int)=4;decide
  rw[c1,List.map_append]at h ⊢;rw[iJ,k5,List.nil_append];rcases hs with g|g|g|g|g|g|g|g|g
  ·rw[if_neg (by omega),g.2.1];simp[vK,cI]
  ·rw[if_neg (by omega),g.2.1];simp[vK]
  ·rw[if_neg (by omega),g.2.1];simp[vK,cI]
  ·rw[if_neg (by omega),g.2.1];simp[vK,cI]
  ·have h5:gOk (gI p n) (gh p n)=true:=h (n,cI 4 (gI p n) (gh p n).pc 0) (by rw[g.2.1];simp) (by show(1:Int)<=4/\(4:Int)<=4;decide);rw[if_pos ⟨g.1,h5⟩,g.2.1];simp[vK,cI,sv]
  ·rw[if_neg (by omega),g.2.1];simp[vK,cI]
  ·rw[if_neg (by omega),g.2.1];simp[vK,cP]
  ·rw[if_neg (by omega),g.2.1];simp[vK,cP]
  ·rw[if_neg (by omega),g.2.1];simp[vK,cP]
end
theorem aD5 {f g:Nat->XV} {a:Nat}:∀ {k:Nat},(∀ j,j<k->asN (f (a+j))=asN (g (a+j)))->wrd f a k=wrd g a k
 |0,_=>rfl
 |k+1,h=>by show wrd f a k+asN (f (a+k))*2^(8*k)=wrd g a k+asN (g (a+k))*2^(8*k);rw[aD5 fun j hj=>h j (by omega),h k (by omega)]
theorem aR1 {m m':List Int} {op a:Int} (hl:m'.length=m.length) (h:∀ j,j<(szI op).toNat->ix m' (a.toNat+j)=ix m (a.toNat+j)):kO m' op a=kO m op a:=by
 unfold kO xJ;rw[hl];split
 ·congr 1;exact aD5 fun j hj=>h j hj
 ·rfl
theorem a1V {m:List Int} {w:Wr} {i:Nat} (hi:i<m.length):ix (eM m w) i=asN (jR (okW m.length w.addr w.size) (fun i=>eP (ix m i)) w.addr.toNat w.size.toNat w.val i):=by unfold eM;rw[kB hi]
theorem a6N {m:List Int} {w:Wr} {i:Nat} (h:0<=w.addr->i<w.addr.toNat\/w.addr.toNat+w.size.toNat<=i):ix (eM m w) i=ix m i:=by
 by_cases hi:i<m.length
 case neg => rw[aEW (show(eM m w).length<=i by rw[oN];omega),aEW (show m.length<=i by omega)]
 rw[a1V hi];cases hk:okW m.length w.addr w.size with
 |false=>rw[tJ];rfl
 |true=>rw[uX (h (nQ.1 hk).2.1)];rfl
theorem aPY {m:List Int} {w:Wr} {op a:Int} (ha:0<=a) (h:qR w.addr w.size a (szI op)=false):kO (eM m w) op a=kO m op a:=by
 refine aR1 oN fun j hj=>a6N fun h0 => ?_
 simp only[qR,zaP]at h;omega
theorem aD6 {op a:Int} (ha:0<=a):∀ {W:List Wr} {m:List Int},(∀ w∈W,qR w.addr w.size a (szI op)=false)->kO (W.foldl eM m) op a=kO m op a
 |[],_,_=>rfl
 |w::W,m,h=>by show kO (W.foldl eM (eM m w)) op a=_;rw[aD6 ha fun z hz=>h z (List.mem_cons_of_mem _ hz)];exact aPY ha (h w (List.mem_cons_self ..))
theorem aC9:∀ {W:List Wr} {m:List Int},(W.foldl eM m).length=m.length
 |[],_=>rfl
 |w::W,m=>by show(W.foldl eM (eM m w)).length=_;rw[aC9,oN]
theorem a1W {f:Nat->XV} {A:Nat} {v:Int}:wrd (jR true f A 1 v) A 1=v%256:=by simp only[wrd,iT (f:=f) (a:=A) (v:=v) (show 0<1 by omega) rfl,asN];omega
theorem a1X {f:Nat->XV} {A:Nat} {v:Int}:wrd (jR true f A 2 v) A 2=v%65536:=by simp only[wrd,iT (f:=f) (a:=A) (v:=v) (show 0<2 by omega) rfl,iT (f:=f) (a:=A) (v:=v) (show 1<2 by omega) rfl,asN];omega
theorem a1Y {f:Nat->XV} {A:Nat} {v:Int} (h0:0<=v) (h1:v<=4294967295):wrd (jR true f A 4 v) A 4=v:=by simp only[wrd,iT (f:=f) (a:=A) (v:=v) (show 0<4 by omega) rfl,iT (f:=f) (a:=A) (v:=v) (show 1<4 by omega) rfl,iT (f:=f) (a:=A) (v:=v) (show 2<4 by omega) rfl,iT (f:=f) (a:=A) (v:=v) (show 3<4 by omega) rfl,asN];omega
theorem a6O {v:Int}:(0<=n6 v 1/\n6 v 1<256)/\(0<=n6 v 2/\n6 v 2<65536):=by
 have key:∀ k:Nat,k<4294967296->0<=eR .and .u32 v (k:Int)/\eR .and .u32 v (k:Int)<=k:=fun k hk=>by
  show 0<=IntKind.u32.wrap (((BitVec.ofInt 32 v) &&& (BitVec.ofInt 32 (k:Int))).toNat:Int)/\IntKind.u32.wrap (((BitVec.ofInt 32 v) &&& (BitVec.ofInt 32 (k:Int))).toNat:Int)<=k;have e2:(BitVec.ofInt 32 (k:Int)).toNat=k:=by rw[BitVec.toNat_ofInt];omega
  rw[BitVec.toNat_and,e2];have h3:(BitVec.ofInt 32 v).toNat &&& k<=k:=Nat.and_le_right;rw[wA];omega
 have h1:0<=eR .and .u32 v 255/\eR .and .u32 v 255<=(255:Nat):=key 255 (by omega);have h2:0<=eR .and .u32 v 65535/\eR .and .u32 v 65535<=(65535:Nat):=key 65535 (by omega);unfold n6;exact⟨by rw[if_pos rfl];exact⟨h1.1,by have:=h1.2;omega⟩,by rw[if_neg (by decide),if_pos rfl];exact⟨h2.1,by have:=h2.2;omega⟩⟩
theorem aWM {m:List Int} {op a v:Int} (ho:26<=op/\op<=30) (ha:0<=a/\a<=4294967295) (hk:dV (szI op) a m.length=0) (hv:(szI op=1->0<=v/\v<256)/\(szI op=2->0<=v/\v<65536)/\(szI op=4->0<=v/\v<=4294967295)):kO (eM m ⟨a,szI op,v⟩) op a=aDV op v:=by
 have hs:=aL0 ho.1 ho.2;have hl:(eM m ⟨a,szI op,v⟩).length=m.length:=oN;unfold kO xJ;rw[hl,if_pos ⟨ho.1,ho.2,hk⟩];have hok:okW m.length a (szI op)=true:=nQ.2 ⟨hs,ha.1,ha.2,hk⟩;have e:wrd (fun i=>eP (ix (eM m ⟨a,szI op,v⟩) i)) a.toNat (szI op).toNat=wrd (jR true (fun i=>eP (ix m i)) a.toNat (szI op).toNat (v)) a.toNat (szI op).toNat:=by
  refine aD5 fun j hj => ?_
  show ix (eM m _) (a.toNat+j)=_;by_cases hi:a.toNat+j<m.length
  ·rw[a1V hi];show asN (jR (okW m.length a (szI op)) _ _ _ _ _)=_;rw[hok]
  ·exfalso;have hn:m.length<=1099511627776\/1099511627776<m.length:=by omega
   rcases hn with hn|hn
   ·have:=uW hs ha.1 ha.2 hn hk;omega
   ·omega
 rw[e];rcases hs with h1|h1|h1
 ·have r:=hv.1 h1;rw[h1];show aDV op (wrd (jR true _ _ 1 _) _ 1)=_;rw[a1W,Int.emod_eq_of_lt r.1 r.2]
 ·have r:=hv.2.1 h1;rw[h1];show aDV op (wrd (jR true _ _ 2 _) _ 2)=_;rw[a1X,Int.emod_eq_of_lt r.1 r.2]
 ·have r:=hv.2.2 h1;rw[h1];show aDV op (wrd (jR true _ _ 4 _) _ 4)=_;rw[a1Y r.1 r.2]
theorem aUQ {l:List Entry} {a s:Int}:∀ {k:Nat},(r6 l a s k).2=false->∀ j,j<k->aI6 a s (ix l j)=false
 |0,_,j,hj=>by omega
 |k+1,h,j,hj=>by
  have e:r6 l a s (k+1)=if aI6 a s (ix l k)then(ix l k,true)else r6 l a s k:=rfl;rw[e]at h;cases hh:aI6 a s (ix l k)with
  |true=>rw[hh]at h;cases h
  |false =>
   rw[hh]at h;rcases Nat.lt_or_ge j k with h1|h1
   ·exact aUQ h j h1
   ·obtain rfl:j=k:=by omega
    exact hh
theorem aPZ {l:List Entry} {a s:Int}:∀ {k:Nat},(r6 l a s k).2=true->∃ j,j<k/\(r6 l a s k).1=ix l j/\aI6 a s (ix l j)=true/\∀ i,j<i->i<k->aI6 a s (ix l i)=false
 |0,h=>by cases h
 |k+1,h=>by
  have e:r6 l a s (k+1)=if aI6 a s (ix l k)then(ix l k,true)else r6 l a s k:=rfl;rw[e]at h ⊢;cases hh:aI6 a s (ix l k)with
  |true=>exact⟨k,by omega,rfl,hh,fun i h1 h2=>by omega⟩
  |false =>
   rw[hh]at h;obtain⟨j,h1,h2,h3,h4⟩:=aPZ (k:=k) h;refine⟨j,by omega,h2,h3,fun i h5 h6 => ?_⟩;rcases Nat.lt_or_ge i k with h7|h7
   ·exact h4 i h5 h7
   ·obtain rfl:i=k:=by omega
    exact hh
def qZ (r:Nat) (l:List Req):Nat:=l.countP fun q => !q.store&&decide (q.reg=(r:Int))
theorem q0 {r:Nat} {l m:List Req}:qZ r (l++m)=qZ r l+qZ r m:=List.countP_append
theorem tX {r:Nat} {q:Req} {l:List Req}:qZ r (q::l)=qZ r l+if(!q.store&&decide (q.reg=(r:Int)))=true then 1 else 0:=List.countP_cons
theorem a1Z {a n b m:Int}:qR a n b m=qR b m a n:=by rw[Bool.eq_iff_iff];simp only[qR,zaK];omega
structure Val (p:Prog) (hA hE:List (Nat×Cell)) (x:Stt) (tb:List Req):Prop where
 oa:∀ z∈hA,okC p z
 oe:∀ z∈hE,okC p z
 ra:∀ r:Nat,1<=r->r<=15->0<=x.a.ready r->x.a.bC r=rg p hA r
 re:∀ r:Nat,1<=r->r<=15->x.e.bC r=rg p hE r
 aq:vK 5 (fv p) hA=vK 6 (fv p) hE++x.aeq
 lq:∃ E:List Int,vK 3 (lv p) hA=vK 7 (lv p) hE++E/\E.length=x.ldq.length/\(∀ i,i<E.length->(ix x.ldq i).full=true->(ix x.ldq i).val=ix E i)/\(∀ i,i<E.length->(ix x.ldq i).tag+(E.length:Int)=x.tags+(i:Int))/\(∀ q∈tb,q.store=false->q.reg<0->q.tag<x.tags/\∀ i,i<E.length->(ix x.ldq i).tag=q.tag->ldF x q=ix E i)
 tg:x.tags=(kc 3 hA:Int)
 sq:∃ W:List Wr,vK 4 (sv p) hA=x.writes++W/\W.length=x.saq.length/\∀ i,i<W.length->(ix x.saq i).addr=(ix W i).addr/\(ix x.saq i).size=(ix W i).size/\((ix x.saq i).known=true->(ix x.saq i).val=(ix W i).val)
 dq:∃ P:List Int,vK 8 (pv p) hE=P++x.sdq/\P.length=x.writes.length+knS x.saq
 me:x.mem=x.writes.foldl eM (wB p)
 lr:∀ r:Nat,1<=r->r<=15->qZ r tb<=if x.a.ready r<0 then 1 else 0
 ll:∀ q∈tb,q.store=false->0<=q.addr/\q.size=szI q.op/\(1<=q.reg->q.reg<=15->ldF x q=rg p hA q.reg.toNat)/\(knS x.saq=1->qR (ix x.saq 0).addr (ix x.saq 0).size q.addr q.size=false)
 ss:∀ q∈tb,q.store=true->knS x.saq=1/\q.addr=(ix x.saq 0).addr/\q.size=(ix x.saq 0).size/\q.val=(ix x.saq 0).val
 cs:eG tb=knS x.saq
 kn:∀ i,0<i->i<x.saq.length->(ix x.saq i).known=false
section
variable {p:Prog} {hA hE:List (Nat×Cell)} {x:Stt} {tb tb':List Req}
theorem Val.tbl (h:Val p hA hE x tb) (h1:∀ q'∈tb',∃ q∈tb,∃ v,q' = { q with left:=v }) (h2:∀ r,qZ r tb'<=qZ r tb) (h3:eG tb'=eG tb):Val p hA hE x tb':=by
 refine⟨h.oa,h.oe,h.ra,h.re,h.aq, ?_,h.tg,h.sq,h.dq,h.me,fun r a b=>Nat.le_trans (h2 r) (h.lr r a b), ?_, ?_,h3.trans h.cs,h.kn⟩
 ·obtain⟨E,e1,e2,e3,e4,e5⟩:=h.lq;refine⟨E,e1,e2,e3,e4,fun q' hq' hs hr => ?_⟩;obtain⟨q,hq,v,rfl⟩:=h1 q' hq';exact e5 q hq hs hr
 ·intro q' hq' hs;obtain⟨q,hq,v,rfl⟩:=h1 q' hq';exact h.ll q hq hs
 ·intro q' hq' hs;obtain⟨q,hq,v,rfl⟩:=h1 q' hq';exact h.ss q hq hs
theorem aM0 {l:List Slot} {t w:Int} {i:Nat}:ix (fG l t w).1 i=ix l i\/(i<l.length/\(ix l i).tag=t/\ix (fG l t w).1 i=⟨(ix l i).tag,true,w⟩):=by
 unfold fG;split
 ·exact .inl rfl
 ·rename_i h;obtain⟨b1,b2,b3⟩:=aCR h;have hp:rF t (ix l (lR (rF t) l).toNat)=true:=by
   unfold lR at h ⊢;split
   ·rename_i h3;rw[if_pos h3]at h;rw[zaO];have h4:=List.findIdx_lt_length.2 (List.any_eq_true.1 h3);rw[gW h4];exact List.findIdx_getElem
   ·rename_i h3;rw[if_neg h3]at h;omega
  generalize (lR (rF t) l).toNat=j at b3 hp ⊢;show ix (l.set j _) i=_\/_;rw[sK];by_cases hj:i=j/\j<l.length
  ·rw[if_pos hj];obtain⟨rfl,hj⟩:=hj;simp only[rF,zaG,zaK]at hp;exact .inr ⟨hj,hp.1,rfl⟩
  ·rw[if_neg hj];exact .inl rfl
theorem a6P {x y:Stt} {w:Wr} (hm:y.mem=eM x.mem w) {q:Req} (h1:0<=q.addr/\q.size=szI q.op) (h2:qR w.addr w.size q.addr q.size=false):ldF y q=ldF x q:=by unfold ldF;rw[hm,h1.2]at *;rw[aPY h1.1 h2]
theorem a17 (hcy:0<=x.aE/\x.aE<=2000000000000) {acc rest:List Req} {r:Req} (h:Val p hA hE x (acc++r::rest)):Val p hA hE (pP (x,acc) r).1 ((pP (x,acc) r).2++rest):=by
 have hpr:∀ i,qZ i (acc++r::rest)=qZ i (acc++rest)+if(!r.store&&decide (r.reg=(i:Int)))=true then 1 else 0:=fun i=>by rw[q0,q0,tX];omega
 have hcs:eG (acc++r::rest)=eG (acc++rest)+if r.store then 1 else 0:=by rw[lG,lG,qY];omega
 have hsub:∀ q,q∈acc++rest->q∈acc++r::rest:=fun q hq=>by
  rcases List.mem_append.1 hq with hq|hq
  ·exact List.mem_append_left _ hq
  ·exact List.mem_append_right _ (List.mem_cons_of_mem _ hq)
 have hin:r∈acc++r::rest:=List.mem_append_right _ (List.mem_cons_self ..);have lefts:∀ v:Int,Val p hA hE x (acc++[{ r with left:=v }]++rest):=fun v=>by
  rw[List.append_assoc,List.singleton_append];refine h.tbl (fun q hq => ?_) (fun i => ?_) ?_
  ·rcases List.mem_append.1 hq with hq|hq
   ·exact⟨q,List.mem_append_left _ hq,q.left,rfl⟩
   ·rcases List.mem_cons.1 hq with rfl|hq
    ·exact⟨r,hin,v,rfl⟩
    ·exact⟨q,hsub q (List.mem_append_right _ hq),q.left,rfl⟩
  ·rw[hpr,q0,tX,q0];show qZ i acc+(qZ i rest+if(!r.store&&decide (r.reg=(i:Int)))=true then 1 else 0)<=_;omega
  ·rw[lG,qY,lG,qY]
 unfold pP;by_cases hl:r.left>0
 case neg => rw[if_neg hl];exact lefts r.left
 rw[if_pos hl];by_cases hl1:r.left=1
 case neg => rw[if_neg hl1];exact lefts _
 rw[if_pos hl1];show Val p hA hE (kP x r) (acc++rest);have hlr:∀ i:Nat,1<=i->i<=15->qZ i (acc++rest)<=if x.a.ready i<0 then 1 else 0:=fun i a b=>by have:=h.lr i a b;rw[hpr]at this;omega
 obtain⟨E,e1,e2,e3,e4,e5⟩:=h.lq;by_cases hs:r.store=true
 ·
  obtain⟨k1,k2,k3,k4⟩:=h.ss r hin hs;have hl0:0<x.saq.length/\(ix x.saq 0).known=true:=by
   unfold knS at k1;split at k1
   ·rename_i h2;exact h2
   ·cases k1
  have hcs0:eG (acc++rest)=0:=by have:=h.cs;rw[hcs,if_pos hs,k1]at this;omega
  have hno:∀ q∈acc++rest,q.store=false:=fun q hq=>by unfold eG at hcs0;rw[List.countP_eq_zero]at hcs0;have:=hcs0 q hq;simpa using this
  rw[yW hs];have hld:∀ q∈acc++rest,ldF { x with mem:=eM x.mem ⟨r.addr,r.size,r.val⟩,writes:=x.writes++[⟨r.addr,r.size,r.val⟩],saq:=x.saq.tail } q=ldF x q:=fun q hq=>by obtain⟨l1,l2,_,l4⟩:=h.ll q (hsub q hq) (hno q hq);refine a6P (w:=⟨r.addr,r.size,r.val⟩) rfl ⟨l1,l2⟩ ?_;show qR r.addr r.size q.addr q.size=false;rw[k2,k3];exact l4 k1
  have hkt:knS x.saq.tail=0:=aPT h.kn;refine⟨h.oa,h.oe,h.ra,h.re,h.aq,⟨E,e1,e2,e3,e4,fun q hq a b => ?_⟩,h.tg, ?_, ?_, ?_,hlr,fun q hq a => ?_,fun q hq a => ?_, ?_,fun i hi hi2 => ?_⟩
  ·rw[hld q hq];exact e5 q (hsub q hq) a b
  ·obtain⟨W,w1,w2,w3⟩:=h.sq;cases W with
   |nil=>simp at w2;omega
   |cons w W =>
    have h0:=w3 0 (by simp);have hw:w=⟨r.addr,r.size,r.val⟩:=by have a1:=h0.1;have a2:=h0.2.1;have a3:=h0.2.2 hl0.2;rw[aK]at a1 a2 a3;obtain⟨wa,ws,wv⟩:=w;rw[k2,k3,k4,a1,a2,a3]
    refine⟨W, ?_, ?_,fun i hi => ?_⟩
    ·show _=x.writes++[⟨r.addr,r.size,r.val⟩]++W;rw[w1,hw];simp
    ·show _=x.saq.tail.length;rw[List.length_tail];simp at w2;omega
    ·have:=w3 (i+1) (by simp;omega);rw[jJ]at this;show(ix x.saq.tail i).addr=_/\(ix x.saq.tail i).size=_/\((ix x.saq.tail i).known=true->(ix x.saq.tail i).val=_);rw[yQ];exact this
  ·obtain⟨P,p1,p2⟩:=h.dq;refine⟨P,p1, ?_⟩;show P.length=(x.writes++[_]).length+knS x.saq.tail;rw[bD,hkt,p2,k1]
  ·show eM x.mem _=(x.writes++[_]).foldl eM (wB p);rw[List.foldl_append,<-h.me];rfl
  ·obtain⟨l1,l2,l3,l4⟩:=h.ll q (hsub q hq) a;refine⟨l1,l2,fun b c=>by rw[hld q hq];exact l3 b c,fun b => ?_⟩;have b:knS x.saq.tail=1:=b;rw[hkt]at b;cases b
  ·rw[hno q hq]at a;cases a
  ·show _=knS x.saq.tail;rw[hcs0,hkt]
  ·show(ix x.saq.tail i).known=false;have hi2:i<x.saq.tail.length:=hi2;rw[List.length_tail]at hi2;rw[yQ];exact h.kn (i+1) (by omega) (by omega)
 ·have hs:r.store=false:=by simpa using hs
  rw[hs]at hcs;simp only[zaU,if_false,Nat.add_zero]at hcs;have hcs':eG (acc++rest)=knS x.saq:=by rw[<-hcs];exact h.cs
  have hll:=fun q hq=>h.ll q (hsub q hq)
  have hss:=fun q hq=>h.ss q (hsub q hq)
  by_cases g1:r.reg<0
  ·rw[tK hs g1];refine⟨h.oa,h.oe,h.ra,h.re,h.aq,⟨E,e1,e2.trans tM.symm,fun i hi hf => ?_,fun i hi => ?_,fun q hq a b => ?_⟩,h.tg,h.sq,h.dq,h.me,hlr,hll,hss,hcs',h.kn⟩
   ·replace hf:(ix (fG x.ldq r.tag (ldF x r)).1 i).full=true:=hf;show(ix (fG x.ldq r.tag (ldF x r)).1 i).val=_;rcases aM0 (l:=x.ldq) (t:=r.tag) (w:=ldF x r) (i:=i)with h1|⟨h1,h2,h3⟩
    ·rw[h1]at hf ⊢;exact e3 i hi hf
    ·rw[h3];exact(e5 r hin hs g1).2 i hi h2
   ·show(ix (fG x.ldq r.tag (ldF x r)).1 i).tag+_=_;rcases aM0 (l:=x.ldq) (t:=r.tag) (w:=ldF x r) (i:=i)with h1|⟨h1,h2,h3⟩
    ·rw[h1];exact e4 i hi
    ·rw[h3];exact e4 i hi
   ·obtain⟨a1,a2⟩:=e5 q (hsub q hq) a b;refine⟨a1,fun i hi ht => ?_⟩;replace ht:(ix (fG x.ldq r.tag (ldF x r)).1 i).tag=q.tag:=ht;refine a2 i hi ?_;rcases aM0 (l:=x.ldq) (t:=r.tag) (w:=ldF x r) (i:=i)with h1|⟨h1,h2,h3⟩
    ·rw[h1]at ht;exact ht
    ·rw[h3]at ht;exact ht
  ·by_cases g2:1<=r.reg/\r.reg<=15
   ·rw[tL hs g2];have hcyw:0<=IntKind.i64.wrap (x.aE+1):=by rw[wrap_i64 (by omega) (by omega)];omega
    refine⟨h.oa,h.oe,fun i a b hi => ?_,h.re,h.aq,⟨E,e1,e2,e3,e4,fun q hq a b=>e5 q (hsub q hq) a b⟩,h.tg,h.sq,h.dq,h.me,fun i a b => ?_,hll,hss,hcs',h.kn⟩
    ·show(cond (Nat.beq i r.reg.toNat) (ldF x r) (x.a.bC i))=_;by_cases hi4:i=r.reg.toNat
     ·rw[hi4,zaQ,zaB];exact(h.ll r hin hs).2.2.1 g2.1 g2.2
     ·replace hi:0<=(cond (Nat.beq i r.reg.toNat) (IntKind.i64.wrap (x.aE+1)) (x.a.ready i)):=hi;rw[dB hi4,zaD]at hi ⊢;exact h.ra i a b hi
    ·show qZ i (acc++rest)<=if(cond (Nat.beq i r.reg.toNat) (IntKind.i64.wrap (x.aE+1)) (x.a.ready i))<0 then 1 else 0;by_cases hi4:i=r.reg.toNat
     ·have h5:=h.lr i a b;rw[hpr,hs,if_pos (by simp;omega)]at h5;split at h5
      ·omega
      ·omega
     ·rw[dB hi4,zaD];exact hlr i a b
   ·rw[yX hs g1 g2];exact⟨h.oa,h.oe,h.ra,h.re,h.aq,⟨E,e1,e2,e3,e4,fun q hq a b=>e5 q (hsub q hq) a b⟩,h.tg,h.sq,h.dq,h.me,hlr,hll,hss,hcs',h.kn⟩
theorem a18 {x:Stt} {r:Req}:(kP x r).aE=x.aE:=by
 unfold kP
 repeat' split
 all_goals rfl
theorem a19 {x:Stt} {acc:List Req} {r:Req}:(pP (x,acc) r).1.aE=x.aE:=by
 unfold pP;split
 ·split
  ·exact a18
  ·rfl
 ·rfl
theorem aUR:∀ {rest acc:List Req} {x:Stt},(0<=x.aE/\x.aE<=2000000000000)->Val p hA hE x (acc++rest)->Val p hA hE (o8 rest (x,acc)).1 (o8 rest (x,acc)).2
 |[],acc,x,_,h=>by rw[List.append_nil]at h;exact h
 |r::rest,acc,x,hcy,h=>by have e:o8 (r::rest) (x,acc)=o8 rest ((pP (x,acc) r).1,(pP (x,acc) r).2):=rfl;rw[e];exact aUR (by rw[a19];exact hcy) (a17 hcy h)
theorem a6Q {k:Nat} (h:Val p hA hE x x.table) (hk:k<x.table.length) (v:Int):Val p hA hE x (x.table.set k { ix x.table k with left:=v }):=by
 refine h.tbl (fun q hq => ?_) (fun i => ?_) ?_
 ·rcases List.mem_or_eq_of_mem_set hq with hq|rfl
  ·exact⟨q,hq,q.left,rfl⟩
  ·exact⟨ix x.table k,cA hk,v,rfl⟩
 ·unfold qZ;rw[List.countP_set hk,<-gW hk];have h1:(if(!(ix x.table k).store&&decide ((ix x.table k).reg=(i:Int)))=true then 1 else 0)<=List.countP (fun q => !q.store&&decide (q.reg=(i:Int))) x.table:=by
   split
   ·rename_i h2;exact List.countP_pos_iff.2 ⟨_,cA hk,h2⟩
   ·exact Nat.zero_le _
  show _-(if(!(ix x.table k).store&&decide ((ix x.table k).reg=(i:Int)))=true then 1 else 0)+(if(!(ix x.table k).store&&decide ((ix x.table k).reg=(i:Int)))=true then 1 else 0)<=_;omega
 ·exact(aUE (aUF hk v)).2.1
theorem bCP {c:Cfg} {t:bF} {b:Int} (h:Val p hA hE x x.table):Val p hA hE (tN c t x b) (tN c t x b).table:=by
 rcases aD0 (c:=c) (s:=t) (x:=x) (b:=b)with⟨h1,_⟩|⟨_,k,pi,hk,_,h1⟩
 ·rw[h1];exact h
 ·rw[h1];have h2:=a6Q h hk (uY t x.dR c.lat);exact⟨h2.oa,h2.oe,h2.ra,h2.re,h2.aq,h2.lq,h2.tg,h2.sq,h2.dq,h2.me,h2.lr,h2.ll,h2.ss,h2.cs,h2.kn⟩
theorem aUS {c:Cfg} {t:bF} (h:Val p hA hE x x.table):∀ k:Nat,Val p hA hE (bgK c t x k) (bgK c t x k).table
 |0=>h
 |k+1=>bCP (aUS h k)
theorem a6R {c:Cfg} {t:bF} (hcy:0<=x.aE/\x.aE<=2000000000000) (h:Val p hA hE x x.table):Val p hA hE (jY c t x) (jY c t x).table:=by
 unfold jY;split
 ·refine aUS ?_ _;have h2:=aUR (rest:=x.table) (acc:=[]) hcy h;exact⟨h2.oa,h2.oe,h2.ra,h2.re,h2.aq,h2.lq,h2.tg,h2.sq,h2.dq,h2.me,h2.lr,h2.ll,h2.ss,h2.cs,h2.kn⟩
 ·exact h
theorem a2A {α:Type} [Inhabited α] {F:Nat->List α} {l r:List α} (h1:jT F l) (h2:jT F r) {i:Nat} (hl:i<l.length) (hr:i<r.length):ix l i=ix r i:=by
 rcases Nat.le_total l.length r.length with h|h
 ·obtain⟨t,rfl⟩:=aMY h1 h2 h;rw[dJ,if_pos hl]
 ·obtain⟨t,rfl⟩:=aMY h2 h1 h;rw[dJ,if_pos hr]
theorem a2B {α:Type} {K:Int} {f:Nat->α} {l:List (Nat×Cell)}:vK K (fun z=>f z.1) l=(vK K Prod.fst l).map f:=by unfold vK;rw[List.map_map];rfl
theorem a2C {c:Cfg} (hpre:∃ F,jT F (vK 4 Prod.fst hA)/\jT F (vK 8 Prod.fst hE)) (h:Val p hA hE x x.table):Val p hA hE (fV c x) (fV c x).table:=by
 unfold fV;split
 case isFalse=>exact h
 rename_i hu;simp only[oK,zaG,zaK,Bool.not_eq_true']at hu;obtain⟨u1,u2,u3,u4,u5,u6⟩:=hu;have l8:0<x.saq.length:=List.length_pos_iff.2 u1;have l4:0<x.sdq.length:=List.length_pos_iff.2 u3;have k0:knS x.saq=0:=by unfold knS;rw[if_neg];rintro ⟨_,h1⟩;rw[h1]at u2;cases u2
 have i0:ix (iO x).saq 0 = { ix x.saq 0 with known:=true,val:=n6 (ix x.sdq 0) (ix x.saq 0).size }:=by show ix (x.saq.set 0 _) 0=_;rw[sK,if_pos ⟨rfl,l8⟩]
 have iS:∀ i,¬i=0->ix (iO x).saq i=ix x.saq i:=fun i hi=>by show ix (x.saq.set 0 _) i=_;rw[sK,if_neg (fun h=>hi h.1)]
 have hlen:(iO x).saq.length=x.saq.length:=List.length_set;have k1:knS (iO x).saq=1:=by unfold knS;rw[if_pos ⟨by rw[hlen];exact l8,by rw[i0]⟩]
 have hc0:eG x.table=0:=by rw[h.cs,k0]
 have hno:∀ q∈x.table,q.store=false:=fun q hq=>by unfold eG at hc0;rw[List.countP_eq_zero]at hc0;have:=hc0 q hq;simpa using this
 have hmem:∀ q∈(iO x).table,q∈x.table\/q=⟨true,opI (ix x.saq 0).size,(ix x.saq 0).addr,(ix x.saq 0).size,n6 (ix x.sdq 0) (ix x.saq 0).size,0,0,0⟩:=fun q hq=>by
  rcases List.mem_append.1 hq with hq|hq
  ·exact .inl hq
  ·exact .inr (List.mem_singleton.1 hq)
 have hq0:∀ q∈(iO x).table,q.store=false->q∈x.table:=fun q hq hs=>by
  rcases hmem q hq with h1|h1
  ·exact h1
  ·rw[h1]at hs;cases hs
 obtain⟨W,w1,w2,w3⟩:=h.sq;obtain⟨P,p1,p2⟩:=h.dq;rw[k0,Nat.add_zero]at p2;have hval:(ix W 0).val=n6 (ix x.sdq 0) (ix x.saq 0).size:=by
  obtain⟨F,f1,f2⟩:=hpre;have s1:(vK 4 Prod.fst hA).length=x.writes.length+W.length:=by rw[aMX,<-aMX (f:=sv p),w1,List.length_append]
  have s2:(vK 8 Prod.fst hE).length=x.writes.length+x.sdq.length:=by rw[aMX,<-aMX (f:=pv p),p1,List.length_append,p2]
  have h1:=a2A f1 f2 (i:=x.writes.length) (by omega) (by omega);have h2:ix W 0=gWr (gI p (ix (vK 4 Prod.fst hA) x.writes.length)) (gh p (ix (vK 4 Prod.fst hA) x.writes.length)):=by
   have e:vK 4 (sv p) hA=(vK 4 Prod.fst hA).map fun m=>gWr (gI p m) (gh p m):=a2B (f:=fun m=>gWr (gI p m) (gh p m))
   have e2:ix (vK 4 (sv p) hA) x.writes.length=ix W 0:=by rw[w1,dJ,if_neg (Nat.lt_irrefl _),Nat.sub_self]
   rw[<-e2,e,nI (by omega)]
  have h3:ix x.sdq 0=gV (gh p (ix (vK 8 Prod.fst hE) x.writes.length)).bC (gI p (ix (vK 8 Prod.fst hE) x.writes.length)).b:=by
   have e:vK 8 (pv p) hE=(vK 8 Prod.fst hE).map fun m=>gV (gh p m).bC (gI p m).b:=a2B (f:=fun m=>gV (gh p m).bC (gI p m).b)
   have e2:ix (vK 8 (pv p) hE) x.writes.length=ix x.sdq 0:=by rw[p1,dJ,p2,if_neg (Nat.lt_irrefl _),Nat.sub_self]
   rw[<-e2,e,nI (by omega)]
  have h4:=(w3 0 (by omega)).2.1;rw[h4,h2,h3,<-h1];rfl
 refine⟨h.oa,h.oe,h.ra,h.re,h.aq, ?_,h.tg,⟨W,w1,w2.trans hlen.symm,fun i hi => ?_⟩, ?_,h.me,fun r a b => ?_,fun q hq hs => ?_,fun q hq hs => ?_, ?_,fun i hi hi2 => ?_⟩
 ·obtain⟨E,e1,e2,e3,e4,e5⟩:=h.lq;exact⟨E,e1,e2,e3,e4,fun q hq a b=>e5 q (hq0 q hq a) a b⟩
 ·by_cases hz:i=0
  ·subst hz;rw[i0];exact⟨(w3 0 hi).1,(w3 0 hi).2.1,fun _=>hval.symm⟩
  ·rw[iS i hz];exact w3 i hi
 ·cases hd:x.sdq with
  |nil=>exact absurd hd u3
  |cons d l =>
   rw[hd]at p1;refine⟨P++[d], ?_, ?_⟩
   ·show _=P++[d]++x.sdq.tail;rw[p1,hd];simp
   ·rw[k1,bD,p2];rfl
 ·show qZ r (x.table++[_])<=_;rw[q0,tX];have:=h.lr r a b;simp only[zaI,Bool.false_and,zaU,if_false];exact this
 ·obtain⟨l1,l2,l3,l4⟩:=h.ll q (hq0 q hq hs) hs;refine⟨l1,l2,l3,fun _ => ?_⟩;rw[i0];show qR (ix x.saq 0).addr (ix x.saq 0).size q.addr q.size=false;cases ho:qR (ix x.saq 0).addr (ix x.saq 0).size q.addr q.size with
  |false=>rfl
  |true => exfalso;have:x.table.any (aMG (ix x.saq 0))=true:=List.any_eq_true.2 ⟨q,hq0 q hq hs,by unfold aMG;rw[hs,a1Z,ho];rfl⟩;rw[this]at u6;cases u6
 ·rcases hmem q hq with h1|h1
  ·rw[hno q h1]at hs;cases hs
  ·rw[h1,i0];exact⟨k1,rfl,rfl,rfl⟩
 ·rw[k1];show eG (x.table++[_])=1;rw[lG,hc0];rfl
 ·rw[iS i (by omega)];rw[hlen]at hi2;exact h.kn i hi hi2
end
theorem aDA (d:cE) (n w r:Int):(cV d n w r).bC=gU d.bC n w:=by unfold cV gU;split<;>rfl
section
variable {p:Prog} {hA hE:List (Nat×Cell)} {x y:Stt}
theorem a6S (h:Val p hA hE x x.table) {z:Nat×Cell} (hz:z.2.kind=6) (hp:∃ F,jT F (vK 5 (fv p) hA)/\jT F (vK 6 (fv p) (hE++[z]))) {a:Int} {t:List Int} (he:x.aeq=a::t):a=fv p z:=by obtain⟨F,f1,f2⟩:=hp;rw[h.aq,he]at f1;rw[iJ,pS,if_pos hz]at f2;exact aH8 f1 f2
theorem a6T (h:Val p hA hE x x.table) {z:Nat×Cell} (hz:z.2.kind=7) (hp:∃ F,jT F (vK 3 (lv p) hA)/\jT F (vK 7 (lv p) (hE++[z]))) {a:Slot} {t:List Slot} (he:x.ldq=a::t) (hf:a.full=true):a.val=lv p z:=by
 obtain⟨F,f1,f2⟩:=hp;obtain⟨E,e1,e2,e3,_⟩:=h.lq;rw[he]at e2;cases E with
 |nil=>cases e2
 |cons e E => rw[e1]at f1;rw[iJ,pS,if_pos hz]at f2;have h1:=aH8 f1 f2;have h2:=e3 0 (by simp) (by rw[he];exact hf);rw[he]at h2;rw[<-h1];exact h2
theorem Val.aMP (h:Val p hA hE x x.table) {z:Nat×Cell} (a0:okC p z) (a1:∀ r:Nat,1<=r->r<=15->y.e.bC r=rgZ p (rg p hE) z r) (a2:(¬z.2.kind=6/\y.aeq=x.aeq)\/(z.2.kind=6/\x.aeq=fv p z::y.aeq)) (a3:(¬z.2.kind=7/\y.ldq=x.ldq)\/(z.2.kind=7/\∃ a,x.ldq=a::y.ldq/\∃ F,jT F (vK 3 (lv p) hA)/\jT F (vK 7 (lv p) (hE++[z]))))
  (a4:y.sdq=x.sdq++if z.2.kind=8 then [pv p z]else []) (a5:y.a=x.a/\y.saq=x.saq/\y.writes=x.writes/\y.mem=x.mem/\y.table=x.table/\y.tags=x.tags):Val p hA (hE++[z]) y y.table:=by
 obtain⟨b1,b2,b3,b4,b5,b6⟩:=a5;have hld:∀ q,ldF y q=ldF x q:=fun q=>by unfold ldF;rw[b4]
 obtain⟨E,e1,e2,e3,e4,e5⟩:=h.lq;obtain⟨P,p1,p2⟩:=h.dq;refine⟨h.oa,fun w hw => ?_,by rw[b1];exact h.ra,fun r r1 r2=>by rw[aR0];exact a1 r r1 r2, ?_, ?_,by rw[b6];exact h.tg,by rw[b2,b3];exact h.sq,⟨P, ?_,by rw[b2,b3];exact p2⟩,by rw[b3,b4];exact h.me,by rw[b1,b5];exact h.lr,by rw[b2,b5];exact fun q hq hs=>by rw[hld];exact h.ll q hq hs,by rw[b2,b5];exact h.ss,by rw[b2,b5];exact h.cs,by rw[b2];exact h.kn⟩
 ·rcases List.mem_append.1 hw with hw|hw
  ·exact h.oe w hw
  ·rw[List.mem_singleton.1 hw];exact a0
 ·rw[h.aq,iJ,pS];rcases a2 with⟨g1,g2⟩|⟨g1,g2⟩
  ·rw[if_neg g1,g2];simp
  ·rw[if_pos g1,g2];simp
 ·rw[b5];rcases a3 with⟨g1,g2⟩|⟨g1,a,g2,F,f1,f2⟩
  ·refine⟨E,by rw[iJ,pS,if_neg g1,e1];simp,by rw[g2];exact e2,by rw[g2];exact e3,by rw[g2,b6];exact e4,fun q hq u v => ?_⟩;rw[hld,g2,b6];exact e5 q hq u v
  ·rw[g2]at e2;cases E with
   |nil=>cases e2
   |cons e E =>
    have f2':=f2;rw[e1]at f1;rw[iJ,pS,if_pos g1]at f2;have h1:=aH8 f1 f2;refine⟨E,by rw[iJ,pS,if_pos g1,e1,h1];simp,by simpa using e2,fun i hi hf => ?_,fun i hi => ?_,fun q hq u v => ?_⟩
    ·have:=e3 (i+1) (by simp;omega);rw[g2,jJ,jJ]at this;exact this hf
    ·have:=e4 (i+1) (by simp;omega);rw[g2,jJ]at this;rw[b6];simp only[List.length_cons,Int.natCast_add]at this;omega
    ·obtain⟨c1,c2⟩:=e5 q hq u v;rw[b6];refine⟨c1,fun i hi ht => ?_⟩;have:=c2 (i+1) (by simp;omega);rw[g2,jJ,jJ]at this;rw[hld];exact this ht
 ·rw[iJ,pS,p1,a4];split<;>simp
theorem Val.same (h:Val p hA hE x x.table) (b:y.a.ready=x.a.ready/\y.a.bC=x.a.bC/\y.e.bC=x.e.bC/\y.aeq=x.aeq/\y.ldq=x.ldq/\y.tags=x.tags/\y.saq=x.saq/\y.sdq=x.sdq/\y.writes=x.writes/\y.mem=x.mem/\y.table=x.table):Val p hA hE y y.table:=by
 obtain⟨b1,b2,b3,b4,b5,b6,b7,b8,b9,b10,b11⟩:=b;have hld:∀ q,ldF y q=ldF x q:=fun q=>by unfold ldF;rw[b10]
 obtain⟨E,e1,e2,e3,e4,e5⟩:=h.lq;refine⟨h.oa,h.oe,by rw[b1,b2];exact h.ra,by rw[b3];exact h.re,by rw[b4];exact h.aq, ?_,by rw[b6];exact h.tg,by rw[b7,b9];exact h.sq,by rw[b7,b8,b9];exact h.dq,by rw[b9,b10];exact h.me,by rw[b1,b11];exact h.lr, ?_,by rw[b7,b11];exact h.ss,by rw[b7,b11];exact h.cs,by rw[b7];exact h.kn⟩
 ·rw[b5,b6,b11];exact⟨E,e1,e2,e3,e4,fun q hq u v=>by rw[hld];exact e5 q hq u v⟩
 ·rw[b7,b11];exact fun q hq hs=>by rw[hld];exact h.ll q hq hs
end
def lJ (c:Cfg) (x:Stt) (k:Cell):Bool :=
 if k.kind=1 then doK x.e k.ins else if k.kind=6 then decide (¬x.aeq=[])else if k.kind=7 then(qU x.ldq).2.2 else if k.kind=8 then decide ((x.sdq.length:Int)<c.sdq)
 else if k.kind=9 then decide ((x.ebq.length:Int)<c.ebq)else if k.kind=10 then decide (¬x.abq=[])else decide (k.kind=11)
section
variable {c:Cfg} {s:Split} {x:Stt} {k:Cell} {st:Int}
theorem cE1 (h:k.kind=1):dW c s x k st=(if doK x.e k.ins then { x with e:=onF (cV x.e k.ins.d (doV x.e k.ins) (IntKind.i64.wrap (x.aE+u9 c k.ins.op))) } else cF x 3 st k.pc)/\lJ c x k=doK x.e k.ins:=by exact⟨by unfold dW;rw[if_pos h],by unfold lJ;rw[if_pos h]⟩
theorem cE6 (h:k.kind=6):dW c s x k st=(if x.aeq=[]then x else { x with e:=onF (cV x.e k.reg (ix x.aeq 0) (IntKind.i64.wrap (x.aE+1))),aeq:=x.aeq.tail })/\lJ c x k=decide (¬x.aeq=[]):=by exact⟨by unfold dW;rw[if_neg (by omega),if_pos h],by unfold lJ;rw[if_neg (by omega),if_pos h]⟩
theorem cE7 (h:k.kind=7):dW c s x k st=(if(qU x.ldq).2.2 then { x with e:=onF (cV x.e k.ins.d (qU x.ldq).2.1 (IntKind.i64.wrap (x.aE+1))),ldq:=(qU x.ldq).1 } else x)/\lJ c x k=(qU x.ldq).2.2:=by exact⟨by unfold dW;rw[if_neg (by omega),if_neg (by omega),if_pos h],by unfold lJ;rw[if_neg (by omega),if_neg (by omega),if_pos h]⟩
theorem cE8 (h:k.kind=8):dW c s x k st=(if(x.sdq.length:Int)<c.sdq then { x with e:=onF x.e,sdq:=x.sdq++[iU x.e k.reg] } else x)/\lJ c x k=decide ((x.sdq.length:Int)<c.sdq):=by exact⟨by unfold dW;rw[if_neg (by omega),if_neg (by omega),if_neg (by omega),if_pos h],by unfold lJ;rw[if_neg (by omega),if_neg (by omega),if_neg (by omega),if_pos h]⟩
theorem cE9 (h:k.kind=9):dW c s x k st=(if(x.ebq.length:Int)<c.ebq then { x with e:=oD s x.e (tR x.e k.ins) x.aE,ebq:=x.ebq++[tR x.e k.ins] } else x)/\lJ c x k=decide ((x.ebq.length:Int)<c.ebq):=by exact⟨by unfold dW;rw[if_neg (by omega),if_neg (by omega),if_neg (by omega),if_neg (by omega),if_pos h],by unfold lJ;rw[if_neg (by omega),if_neg (by omega),if_neg (by omega),if_neg (by omega),if_pos h]⟩
theorem a6U (h:k.kind=10):dW c s x k st=(if x.abq=[]then x else { x with e:=oD s x.e (ix x.abq 0) x.aE,abq:=x.abq.tail })/\lJ c x k=decide (¬x.abq=[]):=by exact⟨by unfold dW;rw[if_neg (by omega),if_neg (by omega),if_neg (by omega),if_neg (by omega),if_neg (by omega),if_pos h],by unfold lJ;rw[if_neg (by omega),if_neg (by omega),if_neg (by omega),if_neg (by omega),if_neg (by omega),if_pos h]⟩
theorem a6V (h:k.kind=11):dW c s x k st = { x with e:=oD s x.e true x.aE }/\lJ c x k=true:=by exact⟨by unfold dW;rw[if_neg (by omega),if_neg (by omega),if_neg (by omega),if_neg (by omega),if_neg (by omega),if_neg (by omega),if_pos h],by unfold lJ;rw[if_neg (by omega),if_neg (by omega),if_neg (by omega),if_neg (by omega),if_neg (by omega),if_neg (by omega)];exact decide_eq_true h⟩
theorem a6W (h:k.kind=12):dW c s x k st = { x with e:=aC4 x.e }/\lJ c x k=false:=by exact⟨by unfold dW;rw[if_neg (by omega),if_neg (by omega),if_neg (by omega),if_neg (by omega),if_neg (by omega),if_neg (by omega),if_neg (by omega),if_pos h],by unfold lJ;rw[if_neg (by omega),if_neg (by omega),if_neg (by omega),if_neg (by omega),if_neg (by omega),if_neg (by omega)];exact decide_eq_false (by omega)⟩
end
theorem a8L (op:Int):Alu.fmI op=aC op:=rfl
theorem aR2 {I:Ins} {g:GS} (h:aC I.op<=3):gOk I g=Alu.dkB I.op I.d I.a I.b I.imm (gV g.bC I.b):=by unfold gOk;rw[if_neg (by omega)]
section
variable {p:Prog} {o:Nat->Int} {s:Split} (hs:Spl p o s) {n k nA kA:Nat} {x:Stt} {c:Cfg}
include hs
theorem aWN (h:Val p (Dn p o (gD p) false nA kA) (Dn p o (gD p) true n k) x x.table) (hk:k<(cel p o true (rho p (gD p) n)).length) {j st:Int} {cell:Cell} (hcell:cell=jN j (ix (cel p o true (rho p (gD p) n)) k)) :
  ((lJ c x cell=true->Val p (Dn p o (gD p) false nA kA) (Dn p o (gD p) true n k++[(n,ix (cel p o true (rho p (gD p) n)) k)]) (dW c s x cell st) (dW c s x cell st).table) /\
   (lJ c x cell=false->Val p (Dn p o (gD p) false nA kA) (Dn p o (gD p) true n k) (dW c s x cell st) (dW c s x cell st).table)) /\
  (cell.kind=9->tR x.e cell.ins=gD p n)/\(cell.kind=1->doK x.e cell.ins=gOk (gI p n) (gh p n)):=by
 have hc:=hs.cl;have hd:=aKL (p:=p) (o:=o) (D:=gD p) (e:=true) (n:=n) hk;have p56:∃ F,jT F (vK 5 (fv p) (Dn p o (gD p) false nA kA))/\jT F (vK 6 (fv p) (Dn p o (gD p) true n k++[(n,ix (cel p o true (rho p (gD p) n)) k)])):=⟨_,bIC hc,by rw[<-hd];exact pre6 hc⟩;have p37:∃ F,jT F (vK 3 (lv p) (Dn p o (gD p) false nA kA))/\jT F (vK 7 (lv p) (Dn p o (gD p) true n k++[(n,ix (cel p o true (rho p (gD p) n)) k)])):=⟨_,(a8J hc (n':=n) (k':=k) fun m=>(gh p (m+1)).bC (gI p m).d.toNat).1,by rw[<-hd];exact(a8J hc (n:=nA) (k:=kA) fun m=>(gh p (m+1)).bC (gI p m).d.toNat).2⟩;rw[mP]at hk hcell p56 p37 ⊢;by_cases hi:(gh p n).pc<p.code.length
 case neg=>rw[oO (by omega)]at hk;cases hk
 obtain⟨S,tA,tE,c1,c2,hS,hl,hsh⟩:=xY hc hi;have ht:=(aUO hc hsh).2;have hI:ix p.code (gh p n).pc=gI p n:=rfl;rw[hI]at hsh;have hri:=mN hs.rp hi;rw[hI]at hri;obtain⟨⟨d0,d1⟩,⟨ra0,ra1⟩,⟨rb0,rb1⟩⟩:=mI hri;have hkin:=hk;rw[c2]at hk hcell p56 p37 ⊢;have noN:∀ kd pc,Val p (Dn p o (gD p) false nA kA) (Dn p o (gD p) true n k) (cF x kd st pc) (cF x kd st pc).table:=fun kd pc=>by
  unfold cF;split
  ·exact h.same ⟨rfl,rfl,rfl,rfl,rfl,rfl,rfl,rfl,rfl,rfl,rfl⟩
  ·exact h
 by_cases hkS:k<S.length
 ·
  have hc0:ix (S.map (cR 6 ((gh p n).pc:Int) 0)++tE) k=cR 6 ((gh p n).pc:Int) 0 (ix S k):=by rw[dJ,if_pos (by simpa using hkS),nI hkS]
  rw[hc0]at hcell p56 p37 ⊢;have h6:cell.kind=6:=by rw[hcell];rfl
  have hreg:=hS _ (cA hkS);obtain⟨q1,q2⟩:=cE6 (c:=c) (s:=s) (x:=x) (st:=st) h6;rw[q1,q2];refine⟨⟨fun g => ?_,fun g => ?_⟩,fun g=>by omega,fun g=>by omega⟩
  ·have g:¬x.aeq=[]:=by simpa using g
   rw[if_neg g];cases ha:x.aeq with
   |nil=>exact absurd ha g
   |cons a t => have h1:=a6S h (z:=(n,cR 6 ((gh p n).pc:Int) 0 (ix S k))) rfl p56 ha;refine h.aMP (fun g=>by have:(1:Int)<=6/\(6:Int)<=4:=g;omega) (fun r r1 r2 => ?_) (.inr ⟨rfl,by rw[ha,h1];rfl⟩) (.inl ⟨by show ¬(6:Int)=7;decide,rfl⟩) (by show x.sdq=x.sdq++if(6:Int)=8 then _ else [];rw[if_neg (by decide)];simp) ⟨rfl,rfl,rfl,rfl,rfl,rfl⟩;show(cV x.e cell.reg (ix (a::t) 0) _).bC r=gU (rg p (Dn p o (gD p) true n k)) (ix S k) ((gh p n).bC (ix S k).toNat) r;rw[aDA,hcell];show gU x.e.bC (ix S k) a r=_;rw[pC,pC,h.re r r1 r2,h1];rfl
  ·have g:x.aeq=[]:=by simpa using g
   rw[if_pos g];exact h
 have hke:k=S.length/\tE.length=1:=by rw[List.length_append,List.length_map]at hk;omega
 obtain⟨hke,hte⟩:=hke;have hc0:ix (S.map (cR 6 ((gh p n).pc:Int) 0)++tE) k=ix tE 0:=by rw[dJ,if_neg (by simp;omega),hke];simp
 rw[hc0]at hcell p56 p37 ⊢;have rd:∀ r:Int,0<=r->r<=15->(ow o 2 r\/r∈S)->iU x.e r=gV (gh p n).bC r:=fun r r1 r2 r3=>by
  unfold iU gV;by_cases hz:r<1\/r>15
  ·rw[if_pos hz,if_pos hz]
  ·rw[if_neg hz,if_neg hz,h.re r.toNat (by omega) (by omega)];rcases r3 with(r3|r3)|r3
   ·omega
   ·exact a8I hc true (by omega) (by omega) hkin r3
   ·rw[hke];exact bCO hc (fun s hs=>⟨(hS s hs).1,(hS s hs).2.1⟩) c2 (by rw[show((r.toNat:Nat):Int)=r by omega];exact r3)
 have sm:∀ z:Nat×Cell,(¬z.2.kind=1/\¬z.2.kind=2/\¬z.2.kind=7/\¬z.2.kind=6)->rgZ p (rg p (Dn p o (gD p) true n k)) z=rg p (Dn p o (gD p) true n k):=fun z hz=>by unfold rgZ;rw[if_neg (by omega),if_neg (by omega)]
 rcases hsh with g|g|g|g|g|g|g|g|g
 ·rw[g.2.2.1]at hte;cases hte
 ·
  obtain⟨gf,_,gt,ga,gb,gd⟩:=g;rw[gt,aK]at hcell ⊢;have h1:cell.kind=1:=by rw[hcell];rfl
  have hins:cell.ins=gI p n:=by rw[hcell];rfl
  obtain⟨q1,q2⟩:=cE1 (c:=c) (s:=s) (x:=x) (st:=st) h1;have va:=rd _ ra0 ra1 ga;have vb:=rd _ rb0 rb1 gb;have hok:doK x.e cell.ins=gOk (gI p n) (gh p n):=by rw[aR2 gf.2,hins];unfold doK;rw[vb]
  rw[q1,q2];refine⟨⟨fun g => ?_,fun g => ?_⟩,fun g=>by omega,fun _=>hok⟩
  ·rw[if_pos g];refine h.aMP (fun _=>by rw[<-hok];exact g) (fun r r1 r2 => ?_) (.inl ⟨by show ¬(1:Int)=6;decide,rfl⟩) (.inl ⟨by show ¬(1:Int)=7;decide,rfl⟩) (by show x.sdq=x.sdq++if(1:Int)=8 then _ else [];rw[if_neg (by decide)];simp) ⟨rfl,rfl,rfl,rfl,rfl,rfl⟩;show(cV x.e cell.ins.d (doV x.e cell.ins) _).bC r=gU (rg p (Dn p o (gD p) true n k)) (gI p n).d ((gh p (n+1)).bC (gI p n).d.toNat) r;rw[aDA,hins,pC,pC,h.re r r1 r2];by_cases hd1:(1<=(gI p n).d/\(gI p n).d<=15)/\r=(gI p n).d.toNat
   ·rw[if_pos hd1,if_pos hd1,sC,if_pos ⟨by omega,by rw[<-hok];exact g,hd1.1,rfl⟩];unfold doV gVl;rw[if_neg (by omega),va,vb]
   ·rw[if_neg hd1,if_neg hd1]
  ·rw[g];exact noN _ _
 ·
  obtain⟨gf,_,gt,gS,ga,gd,gd2⟩:=g;rw[gt,aK]at hcell p37 ⊢;have h1:cell.kind=7:=by rw[hcell];rfl
  have hins:cell.ins=gI p n:=by rw[hcell];rfl
  obtain⟨q1,q2⟩:=cE7 (c:=c) (s:=s) (x:=x) (st:=st) h1;rw[q1,q2];refine⟨⟨fun g => ?_,fun g => ?_⟩,fun g=>by omega,fun g=>by omega⟩
  ·rw[if_pos g];by_cases hpq:x.ldq=[]\/(ix x.ldq 0).full=false
   ·unfold qU at g;rw[if_pos hpq]at g;cases g
   cases ha:x.ldq with
   |nil=>exact absurd (.inl ha) hpq
   |cons a t =>
    have hf:a.full=true:=by rw[ha,aK]at hpq;simpa using hpq
    have hpop:qU (a::t)=(t,a.val,true):=by unfold qU;rw[if_neg (by rw[aK,hf];simp)];rfl
    have h2:=a6T h (z:=(n,cI 7 (gI p n) (gh p n).pc 0)) rfl p37 ha hf;rw[hpop];refine h.aMP (fun g=>by have:(1:Int)<=7/\(7:Int)<=4:=g;omega) (fun r r1 r2 => ?_) (.inl ⟨by show ¬(7:Int)=6;decide,rfl⟩) (.inr ⟨rfl,a,ha,p37⟩) (by show x.sdq=x.sdq++if(7:Int)=8 then _ else [];rw[if_neg (by decide)];simp) ⟨rfl,rfl,rfl,rfl,rfl,rfl⟩;show(cV x.e cell.ins.d a.val _).bC r=gU (rg p (Dn p o (gD p) true n k)) (gI p n).d ((gh p (n+1)).bC (gI p n).d.toNat) r;rw[aDA,hins,pC,pC,h.re r r1 r2,h2];rfl
  ·rw[g];exact h
 ·rw[g.2.2.1]at hte;cases hte
 ·
  obtain⟨gf,_,gt,ga,gb⟩:=g;rw[gt,aK]at hcell ⊢;have h1:cell.kind=8:=by rw[hcell];rfl
  have hreg:cell.reg=(gI p n).b:=by rw[hcell];rfl
  obtain⟨q1,q2⟩:=cE8 (c:=c) (s:=s) (x:=x) (st:=st) h1;rw[q1,q2];refine⟨⟨fun g => ?_,fun g => ?_⟩,fun g=>by omega,fun g=>by omega⟩
  ·rw[if_pos (by simpa using g)];refine h.aMP (fun g=>by have:(1:Int)<=8/\(8:Int)<=4:=g;omega) (fun r r1 r2 => ?_) (.inl ⟨by show ¬(8:Int)=6;decide,rfl⟩) (.inl ⟨by show ¬(8:Int)=7;decide,rfl⟩) ?_ ⟨rfl,rfl,rfl,rfl,rfl,rfl⟩
   ·rw[sm _ ⟨by show ¬(8:Int)=1;decide,by show ¬(8:Int)=2;decide,by show ¬(8:Int)=7;decide,by show ¬(8:Int)=6;decide⟩];exact h.re r r1 r2
   ·show x.sdq++[iU x.e cell.reg]=x.sdq++if(8:Int)=8 then [gV (gh p n).bC (gI p n).b]else [];rw[if_pos rfl,hreg,rd _ rb0 rb1 gb]
  ·rw[if_neg (by simpa using g)];exact h
 ·
  obtain⟨gf,_,gt,_⟩:=g;rw[gt,aK]at hcell ⊢;have h1:cell.kind=10:=by rw[hcell];rfl
  obtain⟨q1,q2⟩:=a6U (c:=c) (s:=s) (x:=x) (st:=st) h1;rw[q1,q2];refine⟨⟨fun g => ?_,fun g => ?_⟩,fun g=>by omega,fun g=>by omega⟩
  ·rw[if_neg (by simpa using g)];refine h.aMP (fun g=>by have:(1:Int)<=10/\(10:Int)<=4:=g;omega) (fun r r1 r2 => ?_) (.inl ⟨by show ¬(10:Int)=6;decide,rfl⟩) (.inl ⟨by show ¬(10:Int)=7;decide,rfl⟩) (by show x.sdq=x.sdq++if(10:Int)=8 then _ else [];rw[if_neg (by decide)];simp) ⟨rfl,rfl,rfl,rfl,rfl,rfl⟩;rw[sm _ ⟨by show ¬(10:Int)=1;decide,by show ¬(10:Int)=2;decide,by show ¬(10:Int)=7;decide,by show ¬(10:Int)=6;decide⟩];exact h.re r r1 r2
  ·rw[if_pos (by simpa using g)];exact h
 ·
  obtain⟨gf,_,gt,ga,gb⟩:=g;rw[gt,aK]at hcell ⊢;have h1:cell.kind=9:=by rw[hcell];rfl
  have hins:cell.ins=gI p n:=by rw[hcell];rfl
  obtain⟨q1,q2⟩:=cE9 (c:=c) (s:=s) (x:=x) (st:=st) h1;rw[q1,q2];refine⟨⟨fun g => ?_,fun g => ?_⟩,fun _ => ?_,fun g=>by omega⟩
  ·rw[if_pos (by simpa using g)];refine h.aMP (fun g=>by have:(1:Int)<=9/\(9:Int)<=4:=g;omega) (fun r r1 r2 => ?_) (.inl ⟨by show ¬(9:Int)=6;decide,rfl⟩) (.inl ⟨by show ¬(9:Int)=7;decide,rfl⟩) (by show x.sdq=x.sdq++if(9:Int)=8 then _ else [];rw[if_neg (by decide)];simp) ⟨rfl,rfl,rfl,rfl,rfl,rfl⟩;rw[sm _ ⟨by show ¬(9:Int)=1;decide,by show ¬(9:Int)=2;decide,by show ¬(9:Int)=7;decide,by show ¬(9:Int)=6;decide⟩];exact h.re r r1 r2
  ·rw[if_neg (by simpa using g)];exact h
  ·unfold tR;rw[hins,rd _ ra0 ra1 ga,rd _ rb0 rb1 gb];rfl
 ·
  obtain⟨gf,_,gt,_⟩:=g;rw[gt,aK]at hcell ⊢;have h1:cell.kind=11:=by rw[hcell];rfl
  obtain⟨q1,q2⟩:=a6V (c:=c) (s:=s) (x:=x) (st:=st) h1;rw[q1,q2];refine⟨⟨fun g => ?_,fun g=>by cases g⟩,fun g=>by omega,fun g=>by omega⟩;refine h.aMP (fun g=>by have:(1:Int)<=11/\(11:Int)<=4:=g;omega) (fun r r1 r2 => ?_) (.inl ⟨by show ¬(11:Int)=6;decide,rfl⟩) (.inl ⟨by show ¬(11:Int)=7;decide,rfl⟩) (by show x.sdq=x.sdq++if(11:Int)=8 then _ else [];rw[if_neg (by decide)];simp) ⟨rfl,rfl,rfl,rfl,rfl,rfl⟩;rw[sm _ ⟨by show ¬(11:Int)=1;decide,by show ¬(11:Int)=2;decide,by show ¬(11:Int)=7;decide,by show ¬(11:Int)=6;decide⟩];exact h.re r r1 r2
 ·
  obtain⟨gf,_,gt,_⟩:=g;rw[gt,aK]at hcell ⊢;have h1:cell.kind=12:=by rw[hcell];rfl
  obtain⟨q1,q2⟩:=a6W (c:=c) (s:=s) (x:=x) (st:=st) h1;rw[q1,q2];exact⟨⟨fun g=>(by cases g),fun _=>h.same ⟨rfl,rfl,rfl,rfl,rfl,rfl,rfl,rfl,rfl,rfl,rfl⟩⟩,fun g=>by omega,fun g=>by omega⟩
end
theorem aP0 {d:cE} {c:Cell} {n r:Int} (h:pX d c n=true) (hr:r∈tQ c):0<=d.ready r.toNat:=by unfold pX at h;rw[List.all_eq_true]at h;have:=h r hr;simp only[Bool.not_eq_true',Bool.or_eq_false_iff,zaP]at this;omega
section
variable {p:Prog} {hA hE:List (Nat×Cell)} {x y:Stt}
theorem Val.aPU (h:Val p hA hE x x.table) {z:Nat×Cell} {nq:List Req} {ns:List Slot} {ne:List Entry} (a0:okC p z) (a1:∀ r:Nat,1<=r->r<=15->0<=y.a.ready r->y.a.bC r=rgZ p (rg p hA) z r) (a2:y.aeq=x.aeq++if z.2.kind=5 then [fv p z]else [])
  (a3:(¬z.2.kind=3/\y.ldq=x.ldq/\y.tags=x.tags)\/(z.2.kind=3/\y.tags=x.tags+1/\∃ b:Slot,y.ldq=x.ldq++[b]/\b.tag=x.tags/\(b.full=true->b.val=lv p z)))
  (a4:(¬z.2.kind=4/\y.saq=x.saq)\/(z.2.kind=4/\∃ b:Entry,y.saq=x.saq++[b]/\b.addr=(sv p z).addr/\b.size=(sv p z).size/\b.known=false))
  (a5:y.e=x.e/\y.sdq=x.sdq/\y.writes=x.writes/\y.mem=x.mem)
  (a6:∀ q∈x.table,q.store=false->1<=q.reg->q.reg<=15->rgZ p (rg p hA) z q.reg.toNat=rg p hA q.reg.toNat)
  (a7:y.table=x.table++nq) (a8:∀ q∈nq,q.store=false/\0<=q.addr/\q.size=szI q.op/\(1<=q.reg->q.reg<=15->ldF x q=rgZ p (rg p hA) z q.reg.toNat)/\(q.reg<0->z.2.kind=3/\q.tag=x.tags/\ldF x q=lv p z)/\(knS x.saq=1->qR (ix x.saq 0).addr (ix x.saq 0).size q.addr q.size=false))
  (a9:∀ r:Nat,1<=r->r<=15->qZ r (x.table++nq)<=if y.a.ready r<0 then 1 else 0):Val p (hA++[z]) hE y y.table:=by
 obtain⟨b1,b2,b3,b4⟩:=a5;have hld:∀ q,ldF y q=ldF x q:=fun q=>by unfold ldF;rw[b4]
 obtain⟨E,e1,e2,e3,e4,e5⟩:=h.lq;obtain⟨W,w1,w2,w3⟩:=h.sq;have hkn:knS y.saq=knS x.saq:=by
  rcases a4 with⟨_,g⟩|⟨_,b,g,_,_,g4⟩
  ·rw[g]
  ·rw[g];unfold knS;cases hs:x.saq with
   |nil=>simp[ix,g4]
   |cons a t=>simp[ix]
 have hi0:knS x.saq=1->ix y.saq 0=ix x.saq 0:=fun hk=>by
  have hl:0<x.saq.length:=by
   unfold knS at hk;split at hk
   ·rename_i g;exact g.1
   ·cases hk
  rcases a4 with⟨_,g⟩|⟨_,b,g,_⟩
  ·rw[g]
  ·rw[g,dJ,if_pos hl]
 have hc0:eG nq=0:=by unfold eG;rw[List.countP_eq_zero];intro q hq;rw[(a8 q hq).1];simp
 rw[a7];refine⟨fun w hw => ?_,h.oe,fun r r1 r2 r3=>by rw[aR0];exact a1 r r1 r2 r3,by rw[b1];exact h.re, ?_, ?_, ?_, ?_,by rw[b2,b3,hkn];exact h.dq,by rw[b3,b4];exact h.me,a9,fun q hq hs => ?_,fun q hq hs => ?_,by rw[lG,hc0,hkn];exact h.cs,fun i hi hi2 => ?_⟩
 ·rcases List.mem_append.1 hw with hw|hw
  ·exact h.oa w hw
  ·rw[List.mem_singleton.1 hw];exact a0
 ·rw[iJ,pS,h.aq,a2,List.append_assoc]
 ·rcases a3 with⟨g1,g2,g3⟩|⟨g1,g2,b,g3,g4,g5⟩
  ·refine⟨E,by rw[iJ,pS,if_neg g1,e1];simp,by rw[g2];exact e2,by rw[g2];exact e3,by rw[g2,g3];exact e4,fun q hq u v => ?_⟩;rcases List.mem_append.1 hq with hq|hq
   ·rw[hld,g2,g3];exact e5 q hq u v
   ·exact absurd ((a8 q hq).2.2.2.2.1 v).1 g1
  ·refine⟨E++[lv p z],by rw[iJ,pS,if_pos g1,e1,List.append_assoc],by rw[g3,bD,bD,e2],fun i hi hf => ?_,fun i hi => ?_,fun q hq u v => ?_⟩
   ·rw[g3]at hf ⊢;rw[bD]at hi;rcases Nat.lt_or_ge i E.length with h1|h1
    ·rw[fM (by omega)]at hf ⊢;rw[fM h1];exact e3 i h1 hf
    ·obtain rfl:i=E.length:=by omega
     rw[fN,e2,fN];rw[e2,fN]at hf;exact g5 hf
   ·rw[g3,g2];rw[bD]at hi ⊢;rcases Nat.lt_or_ge i E.length with h1|h1
    ·rw[fM (by omega)];have:=e4 i h1;omega
    ·obtain rfl:i=E.length:=by omega
     rw[e2,fN,g4];omega
   ·rw[g2];rcases List.mem_append.1 hq with hq|hq
    ·obtain⟨c1,c2⟩:=e5 q hq u v;refine⟨by omega,fun i hi ht => ?_⟩;rw[g3]at ht;rw[bD]at hi;rw[hld];rcases Nat.lt_or_ge i E.length with h1|h1
     ·rw[fM (by omega)]at ht;rw[fM h1];exact c2 i h1 ht
     ·obtain rfl:i=E.length:=by omega
      rw[e2,fN,g4]at ht;omega
    ·obtain⟨_,c1,c2⟩:=(a8 q hq).2.2.2.2.1 v;refine⟨by omega,fun i hi ht => ?_⟩;rw[g3]at ht;rw[bD]at hi;rw[hld];rcases Nat.lt_or_ge i E.length with h1|h1
     ·rw[fM (by omega),c1]at ht;have:=e4 i h1;omega
     ·obtain rfl:i=E.length:=by omega
      rw[fN,c2]
 ·have ht:=h.tg;rw[aRV,aRW];rcases a3 with⟨g1,_,g3⟩|⟨g1,g2,_⟩
  ·rw[g3,if_neg g1];exact ht
  ·rw[g2,if_pos g1,ht];rfl
 ·rcases a4 with⟨g1,g2⟩|⟨g1,b,g2,g3,g4,g5⟩
  ·exact⟨W,by rw[iJ,pS,if_neg g1,w1,b3];simp,by rw[g2];exact w2,by rw[g2];exact w3⟩
  ·refine⟨W++[sv p z],by rw[iJ,pS,if_pos g1,w1,b3,List.append_assoc],by rw[g2,bD,bD,w2],fun i hi => ?_⟩;rw[g2];rw[bD]at hi;rcases Nat.lt_or_ge i W.length with h1|h1
   ·rw[fM (by omega),fM h1];exact w3 i h1
   ·obtain rfl:i=W.length:=by omega
    rw[fN,w2,fN];exact⟨g3,g4,fun h=>by rw[g5]at h;cases h⟩
 ·rw[aR0,hld];rcases List.mem_append.1 hq with hq|hq
  ·obtain⟨l1,l2,l3,l4⟩:=h.ll q hq hs;exact⟨l1,l2,fun u v=>by rw[a6 q hq hs u v];exact l3 u v,fun hk=>by rw[hkn]at hk;rw[hi0 hk];exact l4 hk⟩
  ·obtain⟨_,l1,l2,l3,_,l4⟩:=a8 q hq;exact⟨l1,l2,l3,fun hk=>by rw[hkn]at hk;rw[hi0 hk];exact l4 hk⟩
 ·rcases List.mem_append.1 hq with hq|hq
  ·obtain⟨l1,l2,l3,l4⟩:=h.ss q hq hs;rw[hi0 l1,hkn];exact⟨l1,l2,l3,l4⟩
  ·rw[(a8 q hq).1]at hs;cases hs
 ·rcases a4 with⟨_,g⟩|⟨_,b,g,_,_,g4⟩
  ·rw[g]at hi2 ⊢;exact h.kn i hi hi2
  ·rw[g]at hi2 ⊢;rw[bD]at hi2;rcases Nat.lt_or_ge i x.saq.length with h1|h1
   ·rw[fM h1];exact h.kn i hi h1
   ·obtain rfl:i=x.saq.length:=by omega
    rw[fN];exact g4
theorem aP1 (h:Val p hA hE x x.table) {g:GS} (hg:g.wr=vK 4 (sv p) hA) (hgm:g.mem=g.wr.foldl eM (wB p)) {op a:Int} (ha:0<=a/\a<=4294967295) (ho:26<=op/\op<=30) (hk:dV (szI op) a x.mem.length=0) (hw:∀ e∈x.saq,e.wf) :
  ((fK x.saq a (szI op)).2=false->kO x.mem op a=kO g.mem op a/\(knS x.saq=1->qR (ix x.saq 0).addr (ix x.saq 0).size a (szI op)=false)) /\
  ((fK x.saq a (szI op)).2=true->(o9 (fK x.saq a (szI op)).1 op a).2=true->(o9 (fK x.saq a (szI op)).1 op a).1=kO g.mem op a):=by
 obtain⟨W,w1,w2,w3⟩:=h.sq;have hm:g.mem=W.foldl eM x.mem:=by rw[hgm,hg,w1,List.foldl_append,<-h.me]
 have hW:∀ w∈W,∃ i,i<W.length/\w=ix W i:=fun w hw=>by obtain⟨i,hi,e⟩:=vB hw;exact⟨i,hi,e.symm⟩
 refine⟨fun hn => ?_,fun hy hb => ?_⟩
 ·have hno:=aUQ (k:=x.saq.length) hn;refine⟨?_,fun hk1 => ?_⟩
  ·rw[hm,aD6 ha.1 fun w hw => ?_];obtain⟨i,hi,rfl⟩:=hW w hw;have h1:=hno i (by omega);unfold aI6 at h1;rw[(w3 i hi).1,(w3 i hi).2.1]at h1;exact h1
  ·have hl:0<x.saq.length:=by
    unfold knS at hk1;split at hk1
    ·rename_i g;exact g.1
    ·cases hk1
   exact hno 0 hl
 ·obtain⟨j,j1,j2,j3,j4⟩:=aPZ (k:=x.saq.length) hy;have e0:(fK x.saq a (szI op)).1=ix x.saq j:=j2;rw[e0]at hb ⊢;unfold o9 at hb ⊢;by_cases hc:aC op=4/\(ix x.saq j).known=true/\(ix x.saq j).addr=a/\(ix x.saq j).size=szI op
  case neg=>rw[if_neg hc]at hb;cases hb
  rw[if_pos hc];obtain⟨_,c2,c3,c4⟩:=hc;have hj:j=0:=by
   rcases Nat.eq_zero_or_pos j with h1|h1
   ·exact h1
   ·rw[h.kn j h1 j1]at c2;cases c2
  subst hj;cases W with
  |nil=>simp at w2;omega
  |cons w W =>
   have h0:=w3 0 (by simp);have a1:=h0.1;have a2:=h0.2.1;have a3:=h0.2.2 c2;rw[aK]at a1 a2 a3;have hwv:w=⟨a,szI op,(ix x.saq 0).val⟩:=by obtain⟨u1,u2,u3⟩:=w;rw[<-c3,<-c4,a1,a2,a3]
   have hin:w∈vK 4 (sv p) hA:=by rw[w1];exact List.mem_append_right _ (List.mem_cons_self ..)
   have hmk:∃ v,w.val=n6 v w.size:=by obtain⟨z,_,rfl⟩:=List.mem_map.1 hin;exact⟨_,rfl⟩
   obtain⟨v,hv⟩:=hmk;rw[hwv]at hv;have hv:(ix x.saq 0).val=n6 v (szI op):=hv;obtain⟨r1,r2⟩:=a6O (v:=v);have hu:=(hw _ (cA j1)).2.2.2;show aDV op (ix x.saq 0).val=_;rw[hm];show _=kO (W.foldl eM (eM x.mem w)) op a;rw[aD6 ha.1 fun w' hw' => ?_,hwv]
   ·refine(aWM ho ha hk ?_).symm;rw[hv];refine⟨fun e=>by rw[e];exact r1,fun e=>by rw[e];exact r2,fun e => ?_⟩;rw[<-hv];exact hu
   ·obtain⟨i,hi,e⟩:=vB hw';have h1:=j4 (i+1) (by omega) (by simp at w2;omega);unfold aI6 at h1;rw[(w3 (i+1) (by simp;omega)).1,(w3 (i+1) (by simp;omega)).2.1,jJ,e]at h1;exact h1
end
def lK (c:Cfg) (x:Stt) (k:Cell):Bool :=
 if k.kind=1 then doK x.a k.ins else if k.kind=5 then decide ((x.aeq.length:Int)<c.aeq)
 else if k.kind=2\/k.kind=3 then decide (dV (szI k.ins.op) (gY x.a k.ins) x.mem.length=0/\¬(((fK x.saq (IntKind.i64.wrap (gY x.a k.ins)) (szI k.ins.op)).2=true/\(o9 (fK x.saq (IntKind.i64.wrap (gY x.a k.ins)) (szI k.ins.op)).1 k.ins.op (IntKind.i64.wrap (gY x.a k.ins))).2=false)\/((fK x.saq (IntKind.i64.wrap (gY x.a k.ins)) (szI k.ins.op)).2=false/\(x.table.length:Int)>=c.bN))/\¬(k.kind=3/\(x.ldq.length:Int)>=c.ldq))
 else if k.kind=4 then decide (dV (szI k.ins.op) (gY x.a k.ins) x.mem.length=0/\(x.saq.length:Int)<c.saq)
 else if k.kind=9 then decide ((x.abq.length:Int)<c.abq)else if k.kind=10 then decide (¬x.ebq=[])else decide (k.kind=11)
section
variable {c:Cfg} {s:Split} {x:Stt} {k:Cell} {st:Int}
theorem cA1 (h:k.kind=1):dN c s x k st=(if doK x.a k.ins then { x with a:=onF (cV x.a k.ins.d (doV x.a k.ins) (IntKind.i64.wrap (x.aE+u9 c k.ins.op))) } else cF x 3 st k.pc)/\lK c x k=doK x.a k.ins:=by exact⟨by unfold dN;rw[if_pos h],by unfold lK;rw[if_pos h]⟩
theorem cA5 (h:k.kind=5):dN c s x k st=(if(x.aeq.length:Int)<c.aeq then { x with a:=onF x.a,aeq:=x.aeq++[iU x.a k.reg] } else x)/\lK c x k=decide ((x.aeq.length:Int)<c.aeq):=by exact⟨by unfold dN;rw[if_neg (by omega),if_pos h],by unfold lK;rw[if_neg (by omega),if_pos h]⟩
theorem a2D (h:k.kind=2\/k.kind=3):dN c s x k st=aDZ c x k st:=by unfold dN;rw[if_neg (by omega),if_neg (by omega),if_pos h]
theorem cA4 (h:k.kind=4):dN c s x k st=(if ¬dV (szI k.ins.op) (gY x.a k.ins) x.mem.length=0 then cF x (dV (szI k.ins.op) (gY x.a k.ins) x.mem.length) st k.pc else if(x.saq.length:Int)>=c.saq then x else { x with a:=onF x.a,saq:=x.saq++[⟨IntKind.i64.wrap (gY x.a k.ins),szI k.ins.op,st,false,0⟩] })/\lK c x k=decide (dV (szI k.ins.op) (gY x.a k.ins) x.mem.length=0/\(x.saq.length:Int)<c.saq):=by exact⟨by unfold dN;rw[if_neg (by omega),if_neg (by omega),if_neg (by omega),if_pos h],by unfold lK;rw[if_neg (by omega),if_neg (by omega),if_neg (by omega),if_pos h]⟩
theorem cA9 (h:k.kind=9):dN c s x k st=(if(x.abq.length:Int)<c.abq then { x with a:=oD s x.a (tR x.a k.ins) x.aE,abq:=x.abq++[tR x.a k.ins] } else x)/\lK c x k=decide ((x.abq.length:Int)<c.abq):=by exact⟨by unfold dN;rw[if_neg (by omega),if_neg (by omega),if_neg (by omega),if_neg (by omega),if_pos h],by unfold lK;rw[if_neg (by omega),if_neg (by omega),if_neg (by omega),if_neg (by omega),if_pos h]⟩
theorem a6X (h:k.kind=10):dN c s x k st=(if x.ebq=[]then x else { x with a:=oD s x.a (ix x.ebq 0) x.aE,ebq:=x.ebq.tail })/\lK c x k=decide (¬x.ebq=[]):=by exact⟨by unfold dN;rw[if_neg (by omega),if_neg (by omega),if_neg (by omega),if_neg (by omega),if_neg (by omega),if_pos h],by unfold lK;rw[if_neg (by omega),if_neg (by omega),if_neg (by omega),if_neg (by omega),if_neg (by omega),if_pos h]⟩
theorem a6Y (h:k.kind=11):dN c s x k st = { x with a:=oD s x.a true x.aE }/\lK c x k=true:=by exact⟨by unfold dN;rw[if_neg (by omega),if_neg (by omega),if_neg (by omega),if_neg (by omega),if_neg (by omega),if_neg (by omega),if_pos h],by unfold lK;rw[if_neg (by omega),if_neg (by omega),if_neg (by omega),if_neg (by omega),if_neg (by omega),if_neg (by omega)];exact decide_eq_true h⟩
theorem a6Z (h:k.kind=12):dN c s x k st = { x with a:=aC4 x.a }/\lK c x k=false:=by exact⟨by unfold dN;rw[if_neg (by omega),if_neg (by omega),if_neg (by omega),if_neg (by omega),if_neg (by omega),if_neg (by omega),if_neg (by omega),if_pos h],by unfold lK;rw[if_neg (by omega),if_neg (by omega),if_neg (by omega),if_neg (by omega),if_neg (by omega),if_neg (by omega)];exact decide_eq_false (by omega)⟩
end
theorem a2E {c:Cfg} {x:Stt} {k:Cell} (h:k.kind=2\/k.kind=3):lK c x k=decide (dV (szI k.ins.op) (gY x.a k.ins) x.mem.length=0/\¬(((fK x.saq (IntKind.i64.wrap (gY x.a k.ins)) (szI k.ins.op)).2=true/\(o9 (fK x.saq (IntKind.i64.wrap (gY x.a k.ins)) (szI k.ins.op)).1 k.ins.op (IntKind.i64.wrap (gY x.a k.ins))).2=false)\/((fK x.saq (IntKind.i64.wrap (gY x.a k.ins)) (szI k.ins.op)).2=false/\(x.table.length:Int)>=c.bN))/\¬(k.kind=3/\(x.ldq.length:Int)>=c.ldq)):=by unfold lK;rw[if_neg (by omega),if_neg (by omega),if_pos h]
theorem a2F {l:List Slot} {t w:Int} (h:∀ i,i<l.length->¬(ix l i).tag=t):(fG (l++[⟨t,false,0⟩]) t w).1=l++[⟨t,true,w⟩]:=by
 have e:lR (rF t) (l++[⟨t,false,0⟩])=(l.length:Int):=by
  refine tC (by simp) ?_ fun j hj => ?_
  ·rw[fN];unfold rF;simp
  ·rw[fM hj];unfold rF;rw[decide_eq_false (h j hj)];rfl
 unfold fG;rw[e,if_neg (by omega),zaO,fN];refine aY0 (by simp) fun i hi => ?_
 have hi:i<((l++[(⟨t,false,0⟩:Slot)]).set l.length ⟨t,true,w⟩).length:=hi;rw[List.length_set,bD]at hi;show ix ((l++[(⟨t,false,0⟩:Slot)]).set l.length ⟨t,true,w⟩) i=_;rw[sK,bD];by_cases h1:i=l.length
 ·rw[if_pos ⟨h1,by omega⟩,h1,fN]
 ·rw[if_neg (fun h2=>h1 h2.1),fM (by omega),fM (by omega)]
theorem a8M {op:Int} (h:aC op=4):26<=op/\op<=30:=by
 unfold aC at h
 repeat' split at h
 all_goals omega
section
variable {p:Prog} {o:Nat->Int} {s:Split} (hs:Spl p o s) {n k nE kE:Nat} {x:Stt} {c:Cfg}
include hs
theorem aWO (h:Val p (Dn p o (gD p) false n k) (Dn p o (gD p) true nE kE) x x.table) (hk:k<(cel p o false (rho p (gD p) n)).length) {j st:Int} {cell:Cell} (hcell:cell=jN j (ix (cel p o false (rho p (gD p) n)) k)) {cy:Int} (hfree:pX x.a cell cy=true) (hw:∀ e∈x.saq,e.wf) (htg:0<=x.tags/\x.tags<=2000000000000) (hcy:0<=x.aE/\x.aE<=2000000000000) :
  ((lK c x cell=true->Val p (Dn p o (gD p) false n k++[(n,ix (cel p o false (rho p (gD p) n)) k)]) (Dn p o (gD p) true nE kE) (dN c s x cell st) (dN c s x cell st).table) /\
   (lK c x cell=false->Val p (Dn p o (gD p) false n k) (Dn p o (gD p) true nE kE) (dN c s x cell st) (dN c s x cell st).table)) /\
  (cell.kind=9->tR x.a cell.ins=gD p n)/\(cell.kind=1->doK x.a cell.ins=gOk (gI p n) (gh p n))/\(2<=cell.kind->cell.kind<=4->decide (dV (szI cell.ins.op) (gY x.a cell.ins) x.mem.length=0)=gOk (gI p n) (gh p n)):=by
 have hc:=hs.cl;rw[mP]at hk hcell ⊢;by_cases hi:(gh p n).pc<p.code.length
 case neg=>rw[oO (by omega)]at hk;cases hk
 obtain⟨S,tA,tE,c1,c2,hS,hl,hsh⟩:=xY hc hi;have ht:=(aUO hc hsh).1;have hI:ix p.code (gh p n).pc=gI p n:=rfl;rw[hI]at hsh;have hri:=mN hs.rp hi;rw[hI]at hri;obtain⟨⟨d0,d1⟩,⟨ra0,ra1⟩,⟨rb0,rb1⟩⟩:=mI hri;obtain⟨ina,inb⟩:=aPW hri;have hkin:=hk;rw[c1]at hk hcell ⊢;have noN:∀ kd pc,Val p (Dn p o (gD p) false n k) (Dn p o (gD p) true nE kE) (cF x kd st pc) (cF x kd st pc).table:=fun kd pc=>by
  unfold cF;split
  ·exact h.same ⟨rfl,rfl,rfl,rfl,rfl,rfl,rfl,rfl,rfl,rfl,rfl⟩
  ·exact h
 have isr:∀ r:Int,1<=r->r<=15->pA r=true:=fun r h1 h2=>by unfold pA;exact decide_eq_true ⟨h1,h2⟩
 have rd0:∀ r:Int,1<=r->r<=15->o r.toNat=1->r∈tQ cell->x.a.bC r.toNat=(gh p n).bC r.toNat:=fun r r1 r2 r3 r4=>by rw[h.ra r.toNat (by omega) (by omega) (aP0 hfree r4)];exact a8I hc false (by omega) (by omega) hkin r3
 have rd:∀ r:Int,0<=r->r<=15->ow o 1 r->(r=0\/r∈tQ cell)->iU x.a r=gV (gh p n).bC r:=fun r r1 r2 r3 r4=>by
  unfold iU gV;by_cases hz:r<1\/r>15
  ·rw[if_pos hz,if_pos hz]
  ·rw[if_neg hz,if_neg hz];rcases r3 with r3|r3
   ·omega
   ·exact rd0 r (by omega) r2 r3 (r4.resolve_left (by omega))
 have sm:∀ z:Nat×Cell,(¬z.2.kind=1/\¬z.2.kind=2/\¬z.2.kind=7/\¬z.2.kind=6)->rgZ p (rg p (Dn p o (gD p) false n k)) z=rg p (Dn p o (gD p) false n k):=fun z hz=>by unfold rgZ;rw[if_neg (by omega),if_neg (by omega)]
 have lr0:∀ r:Nat,1<=r->r<=15->qZ r (x.table++[])<=if x.a.ready r<0 then 1 else 0:=fun r a b=>by rw[List.append_nil];exact h.lr r a b
 have wrt:(cell.kind=1\/cell.kind=2)->cell.ins=gI p n->(gI p n).d>=1->0<=x.a.ready (gI p n).d.toNat:=fun h1 h2 h3=>by refine aP0 hfree ?_;unfold tQ;rw[if_pos h1,h2,List.mem_filter];refine⟨List.mem_append_right _ ?_,isr _ h3 d1⟩;unfold aWI;rw[if_pos hri];simp
 have nopnd:∀ q∈x.table,q.store=false->1<=q.reg->q.reg<=15->x.a.ready q.reg.toNat<0:=fun q hq a b d=>by
  have h1:=h.lr q.reg.toNat (by omega) (by omega);have h2:0<qZ q.reg.toNat x.table:=List.countP_pos_iff.2 ⟨q,hq,by rw[a];simp;omega⟩;split at h1
  ·assumption
  ·omega
 have keepW:∀(v:Int),0<=x.a.ready (gI p n).d.toNat\/¬(gI p n).d>=1->∀ q∈x.table,q.store=false->1<=q.reg->q.reg<=15->gU (rg p (Dn p o (gD p) false n k)) (gI p n).d v q.reg.toNat=rg p (Dn p o (gD p) false n k) q.reg.toNat:=fun v hv q hq a b d=>by have h1:=nopnd q hq a b d;rw[pC,if_neg];rintro ⟨h2,h3⟩;rw[h3]at h1;omega
 have setR:∀(v r:Int),0<=r->(∀ i:Nat,1<=i->i<=15->0<=(cV x.a (gI p n).d v r).ready i->i=(gI p n).d.toNat\/0<=x.a.ready i):=fun v r hr i i1 i2 i3=>by
  by_cases h1:i=(gI p n).d.toNat
  ·exact .inl h1
  ·refine .inr ?_;unfold cV at i3;split at i3
   ·replace i3:0<=(cond (Nat.beq i (gI p n).d.toNat) r (x.a.ready i)):=i3;rw[dB h1,zaD]at i3;exact i3
   ·exact i3
 have own:∀(K v r:Int) (y:Stt),(K=1\/K=2)->v=(gh p (n+1)).bC (gI p n).d.toNat\/¬(gI p n).d>=1->0<=r->gOk (gI p n) (gh p n)=true->((gI p n).d>=1->0<=x.a.ready (gI p n).d.toNat)->y = { x with a:=onF (cV x.a (gI p n).d v r) }->Val p (Dn p o (gD p) false n k++[(n,cI K (gI p n) (gh p n).pc 0)]) (Dn p o (gD p) true nE kE) y y.table:=fun K v r y hK hv hr hok hw2 hy=>by
  subst hy;have e1:rgZ p (rg p (Dn p o (gD p) false n k)) (n,cI K (gI p n) (gh p n).pc 0)=gU (rg p (Dn p o (gD p) false n k)) (gI p n).d ((gh p (n+1)).bC (gI p n).d.toNat):=by show(if K=1\/K=2\/K=7 then _ else _)=_;rw[if_pos (by omega)];rfl
  have hKn:(n,cI K (gI p n) ((gh p n).pc:Int) 0).2.kind=K:=rfl;refine h.aPU (nq:=[]) (ns:=[]) (ne:=[]) (fun _=>hok) (fun i i1 i2 i3 => ?_) ?_ (.inl ⟨by rw[hKn];omega,rfl,rfl⟩) (.inl ⟨by rw[hKn];omega,rfl⟩) ⟨rfl,rfl,rfl,rfl⟩ (fun q hq a b d => ?_) (by simp) (fun q hq=>by cases hq) (fun i i1 i2 => ?_)
  ·show(cV x.a (gI p n).d v r).bC i=_;have i3:0<=(cV x.a (gI p n).d v r).ready i:=i3;rw[e1,aDA,pC,pC];by_cases h1:(1<=(gI p n).d/\(gI p n).d<=15)/\i=(gI p n).d.toNat
   ·rw[if_pos h1,if_pos h1];exact hv.resolve_right (by omega)
   ·rw[if_neg h1,if_neg h1];refine h.ra i i1 i2 ?_;rcases setR v r hr i i1 i2 i3 with h2|h2
    ·exfalso;omega
    ·exact h2
  ·rw[hKn,if_neg (by omega)];simp
  ·rw[e1];refine keepW _ ?_ q hq a b d;by_cases hz:(gI p n).d>=1
   ·exact .inl (hw2 hz)
   ·exact .inr hz
  ·show qZ i (x.table++[])<=if(cV x.a (gI p n).d v r).ready i<0 then 1 else 0;have h1:=lr0 i i1 i2;unfold cV;split
   ·rename_i g;show _<=if(cond (Nat.beq i (gI p n).d.toNat) r (x.a.ready i))<0 then 1 else 0;by_cases h2:i=(gI p n).d.toNat
    ·rw[h2]at h1 ⊢;rw[if_neg (by have:=hw2 (by omega);omega)]at h1;omega
    ·rw[dB h2,zaD];exact h1
   ·exact h1
 have plain:∀(z:Nat×Cell) (y:Stt),(z.2.kind=5\/8<=z.2.kind)->y.a.bC=x.a.bC/\y.a.ready=x.a.ready->y.aeq=x.aeq++(if z.2.kind=5 then [fv p z]else [])->y.ldq=x.ldq/\y.tags=x.tags/\y.saq=x.saq/\y.e=x.e/\y.sdq=x.sdq/\y.writes=x.writes/\y.mem=x.mem/\y.table=x.table->Val p (Dn p o (gD p) false n k++[z]) (Dn p o (gD p) true nE kE) y y.table:=fun z y hz ⟨ya,yr⟩ yq ⟨y1,y2,y3,y4,y5,y6,y7,y8⟩=>by have e1:=sm z ⟨by omega,by omega,by omega,by omega⟩;refine h.aPU (nq:=[]) (ns:=[]) (ne:=[]) (fun g=>by exfalso;omega) (fun i i1 i2 i3 => ?_) yq (.inl ⟨by omega,y1,y2⟩) (.inl ⟨by omega,y3⟩) ⟨y4,y5,y6,y7⟩ (fun q hq a b d=>by rw[e1]) (by rw[y8];simp) (fun q hq=>by cases hq) (fun i i1 i2=>by rw[yr];exact lr0 i i1 i2);rw[e1,ya];rw[yr]at i3;exact h.ra i i1 i2 i3
 by_cases hkS:k<S.length
 ·
  have hc0:ix (S.map (cR 5 ((gh p n).pc:Int) 0)++tA) k=cR 5 ((gh p n).pc:Int) 0 (ix S k):=by rw[dJ,if_pos (by simpa using hkS),nI hkS]
  rw[hc0]at hcell ⊢;have h5:cell.kind=5:=by rw[hcell];rfl
  have hreg:cell.reg=ix S k:=by rw[hcell];rfl
  obtain⟨s1,s2,s3⟩:=hS _ (cA hkS);obtain⟨q1,q2⟩:=cA5 (c:=c) (s:=s) (x:=x) (st:=st) h5;rw[q1,q2];refine⟨⟨fun g => ?_,fun g => ?_⟩,fun g=>by omega,fun g=>by omega,fun g1 g2=>by omega⟩
  ·rw[if_pos (by simpa using g)];refine plain _ _ (.inl rfl) ⟨rfl,rfl⟩ ?_ ⟨rfl,rfl,rfl,rfl,rfl,rfl,rfl,rfl⟩;show x.aeq++[iU x.a cell.reg]=x.aeq++if(5:Int)=5 then [(gh p n).bC (ix S k).toNat]else [];rw[if_pos rfl,hreg];unfold iU;rw[if_neg (by omega),rd0 (ix S k) s1 s2 s3];unfold tQ;rw[if_neg (by omega),if_neg (by omega),if_neg (by omega),if_pos (by omega),hreg,List.mem_filter];exact⟨by simp,isr _ s1 s2⟩
  ·rw[if_neg (by simpa using g)];exact h
 have hke:k=S.length/\tA.length=1:=by rw[List.length_append,List.length_map]at hk;omega
 obtain⟨hke,hte⟩:=hke;have hc0:ix (S.map (cR 5 ((gh p n).pc:Int) 0)++tA) k=ix tA 0:=by rw[dJ,if_neg (by simp;omega),hke];simp
 rw[hc0]at hcell ⊢;have lens:x.mem.length=(gh p n).mem.length:=by rw[h.me,aC9,aD4,aC9]
 have baseIn:(cell.kind=3\/cell.kind=4\/cell.kind=2)->cell.ins=gI p n->(gI p n).a=0\/(gI p n).a∈tQ cell:=fun h1 h2=>by
  by_cases hz:(gI p n).a=0
  ·exact .inl hz
  ·refine .inr ?_;unfold tQ;by_cases h3:cell.kind=1\/cell.kind=2
   ·rw[if_pos h3,h2,List.mem_filter];exact⟨List.mem_append_left _ (ina.resolve_left hz),isr _ (by omega) ra1⟩
   ·rw[if_neg h3,if_pos (by omega),h2,List.mem_filter];exact⟨by simp,isr _ (by omega) ra1⟩
 have adr:(cell.kind=3\/cell.kind=4\/cell.kind=2)->cell.ins=gI p n->ow o 1 (gI p n).a->gY x.a cell.ins=gAd (gI p n) (gh p n):=fun h1 h2 h3=>by unfold gY gAd;rw[h2,rd _ ra0 ra1 h3 (baseIn h1 h2)]
 have adrR:0<=gAd (gI p n) (gh p n)/\gAd (gI p n) (gh p n)<=4294967295:=by unfold gAd;rw[wA];omega
 have w64:IntKind.i64.wrap (gAd (gI p n) (gh p n))=gAd (gI p n) (gh p n):=wrap_i64 (by omega) (by omega);have okL:(aC (gI p n).op=4\/aC (gI p n).op=5)->decide (dV (szI (gI p n).op) (gAd (gI p n) (gh p n)) x.mem.length=0)=gOk (gI p n) (gh p n):=fun h1=>by unfold gOk;rw[if_pos h1,lens]
 have wrq:k=0->(gh p n).wr=vK 4 (sv p) (Dn p o (gD p) false n k):=fun h1=>by subst h1;exact a8K hc n h.oa
 rcases hsh with g|g|g|g|g|g|g|g|g
 ·
  obtain⟨gf,gt,_,_,ga,gb,gd⟩:=g;rw[gt,aK]at hcell ⊢;have h1:cell.kind=1:=by rw[hcell];rfl
  have hins:cell.ins=gI p n:=by rw[hcell];rfl
  obtain⟨q1,q2⟩:=cA1 (c:=c) (s:=s) (x:=x) (st:=st) h1;have inN:∀ r:Int,r=0\/r∈aY (gI p n)->0<=r->r<=15->r=0\/r∈tQ cell:=fun r h2 h3 h4=>by
   by_cases hz:r=0
   ·exact .inl hz
   ·refine .inr ?_;unfold tQ;rw[if_pos (.inl h1),hins,List.mem_filter];exact⟨List.mem_append_left _ (h2.resolve_left hz),isr _ (by omega) h4⟩
  have va:=rd _ ra0 ra1 ga (inN _ ina ra0 ra1);have vb:=rd _ rb0 rb1 gb (inN _ inb rb0 rb1);have hok:doK x.a cell.ins=gOk (gI p n) (gh p n):=by rw[aR2 gf.2,hins];unfold doK;rw[vb]
  rw[q1,q2];refine⟨⟨fun g => ?_,fun g => ?_⟩,fun g=>by omega,fun _=>hok,fun g1 g2=>by omega⟩
  ·rw[if_pos g];have hlt:=vF c cell.ins.op;refine own 1 (doV x.a cell.ins) (IntKind.i64.wrap (x.aE+u9 c cell.ins.op)) _ (.inl rfl) ?_ (by rw[wrap_i64 (by omega) (by omega)];omega) (by rw[<-hok];exact g) (wrt (.inl h1) hins) (by rw[hins]);by_cases hz:(gI p n).d>=1
   ·refine .inl ?_;rw[sC,if_pos ⟨by omega,by rw[<-hok];exact g,⟨hz,d1⟩,rfl⟩,hins];unfold doV gVl;rw[if_neg (by omega),va,vb]
   ·exact .inr hz
  ·rw[g];exact noN _ _
 ·rw[g.2.1]at hte;cases hte
 ·
  obtain⟨gf,gt,_,gS,ga,gd,gd2⟩:=g;rw[gt,aK]at hcell ⊢;have h1:cell.kind=3:=by rw[hcell];rfl
  have hins:cell.ins=gI p n:=by rw[hcell];rfl
  have had:=adr (.inl h1) hins ga;have hok:=okL (.inl gf);have hk0:k=0:=by rw[hke,gS];rfl
  have hlv:gOk (gI p n) (gh p n)=true->lv p (n,cI 3 (gI p n) (gh p n).pc 0)=kO (gh p n).mem (gI p n).op (gAd (gI p n) (gh p n)):=fun h2=>by show(gh p (n+1)).bC (gI p n).d.toNat=_;rw[sC,if_pos ⟨by omega,h2,⟨by omega,d1⟩,rfl⟩];unfold gVl;rw[if_pos gf]
  rw[a2D (.inr h1),a2E (.inr h1),jC c x cell st _ rfl,had,hins,w64];refine⟨⟨fun g => ?_,fun g => ?_⟩,fun g=>by omega,fun g=>by omega,fun _ _=>hok⟩
  ·simp only[zaK]at g;obtain⟨g1,g2,g3⟩:=g;rw[if_neg (fun h=>h g1),if_neg g2,if_pos h1,if_neg (fun h=>g3 ⟨h1,h⟩)];have hok1:gOk (gI p n) (gh p n)=true:=by rw[<-hok];exact decide_eq_true g1
   obtain⟨r1,r2⟩:=aP1 h (wrq hk0) aD4 adrR (a8M gf) g1 hw;have wt:IntKind.i64.wrap (x.tags+1)=x.tags+1:=wrap_i64 (by omega) (by omega);have e1:=sm (n,cI 3 (gI p n) (gh p n).pc 0) ⟨by show ¬(3:Int)=1;decide,by show ¬(3:Int)=2;decide,by show ¬(3:Int)=7;decide,by show ¬(3:Int)=6;decide⟩;have htag:∀ i,i<x.ldq.length->¬(ix x.ldq i).tag=x.tags:=fun i hi=>by obtain⟨E,_,u2,_,u4,_⟩:=h.lq;have:=u4 i (by omega);omega
   cases hy:(fK x.saq (gAd (gI p n) (gh p n)) (szI (gI p n).op)).2 with
   |true =>
    have hb:(o9 (fK x.saq (gAd (gI p n) (gh p n)) (szI (gI p n).op)).1 (gI p n).op (gAd (gI p n) (gh p n))).2=true:=by
     cases hb:(o9 (fK x.saq (gAd (gI p n) (gh p n)) (szI (gI p n).op)).1 (gI p n).op (gAd (gI p n) (gh p n))).2 with
     |true=>rfl
     |false=>exact absurd (.inl ⟨hy,hb⟩) g2
    rw[if_pos rfl,a2F htag,wt];refine h.aPU (nq:=[]) (ns:=[]) (ne:=[]) (fun _=>hok1) (fun i i1 i2 i3=>by rw[e1];exact h.ra i i1 i2 i3) (by show x.aeq=x.aeq++if(3:Int)=5 then _ else [];rw[if_neg (by decide)];simp) (.inr ⟨rfl,rfl,_,rfl,rfl,fun _ => ?_⟩) (.inl ⟨by show ¬(3:Int)=4;decide,rfl⟩) ⟨rfl,rfl,rfl,rfl⟩ (fun q hq a b d=>by rw[e1]) (by simp) (fun q hq=>by cases hq) lr0;rw[hlv hok1];exact r2 hy hb
   |false =>
    rw[if_neg (by simp),wt];obtain⟨r3,r4⟩:=r1 hy;refine h.aPU (nq:=[⟨false,(gI p n).op,gAd (gI p n) (gh p n),szI (gI p n).op,0,0,-1,x.tags⟩]) (ns:=[]) (ne:=[]) (fun _=>hok1) (fun i i1 i2 i3=>by rw[e1];exact h.ra i i1 i2 i3) (by show x.aeq=x.aeq++if(3:Int)=5 then _ else [];rw[if_neg (by decide)];simp) (.inr ⟨rfl,rfl,_,rfl,rfl,fun h=>by cases h⟩) (.inl ⟨by show ¬(3:Int)=4;decide,rfl⟩) ⟨rfl,rfl,rfl,rfl⟩ (fun q hq a b d=>by rw[e1]) rfl (fun q hq => ?_) (fun i i1 i2 => ?_)
    ·obtain rfl:=List.mem_singleton.1 hq;refine⟨rfl,adrR.1,rfl,fun a b=>by have:(1:Int) <= -1:=a;omega,fun _=>⟨rfl,rfl, ?_⟩,r4⟩;rw[hlv hok1,<-r3];unfold ldF;rw[if_pos adrR]
    ·rw[q0,tX];have h2:(!false&&decide ((-1:Int)=(i:Int)))=false:=by rw[decide_eq_false (by omega)];rfl
     show qZ i x.table+(0+if(!false&&decide ((-1:Int)=(i:Int)))=true then 1 else 0)<=_;rw[h2];exact h.lr i i1 i2
  ·simp only[zaP]at g;by_cases g1:dV (szI (gI p n).op) (gAd (gI p n) (gh p n)) x.mem.length=0
   case neg=>rw[if_pos g1];exact noN _ _
   rw[if_neg (fun h=>h g1)];split
   ·exact h
   rename_i g2;split
   ·exact h
   rename_i g3;exact absurd ⟨g1,g2,fun h=>g3 h.2⟩ g
 ·
  obtain⟨gf,gt,_,gS,ga,gd⟩:=g;rw[gt,aK]at hcell ⊢;have h1:cell.kind=2:=by rw[hcell];rfl
  have hins:cell.ins=gI p n:=by rw[hcell];rfl
  have had:=adr (.inr (.inr h1)) hins ga;have hok:=okL (.inl gf);have hk0:k=0:=by rw[hke,gS];rfl
  have hlv:gOk (gI p n) (gh p n)=true->(gI p n).d>=1->(gh p (n+1)).bC (gI p n).d.toNat=kO (gh p n).mem (gI p n).op (gAd (gI p n) (gh p n)):=fun h2 h3=>by rw[sC,if_pos ⟨by omega,h2,⟨h3,d1⟩,rfl⟩];unfold gVl;rw[if_pos gf]
  rw[a2D (.inl h1),a2E (.inl h1),jC c x cell st _ rfl,had,hins,w64];have h13:¬cell.kind=3:=by omega
  refine⟨⟨fun g => ?_,fun g => ?_⟩,fun g=>by omega,fun g=>by omega,fun _ _=>hok⟩
  ·simp only[zaK]at g;obtain⟨g1,g2,g3⟩:=g;rw[if_neg (fun h=>h g1),if_neg g2,if_neg h13];have hok1:gOk (gI p n) (gh p n)=true:=by rw[<-hok];exact decide_eq_true g1
   obtain⟨r1,r2⟩:=aP1 h (wrq hk0) aD4 adrR (a8M gf) g1 hw;have hrdy:=wrt (.inr h1) hins;cases hy:(fK x.saq (gAd (gI p n) (gh p n)) (szI (gI p n).op)).2 with
   |true =>
    have hb:(o9 (fK x.saq (gAd (gI p n) (gh p n)) (szI (gI p n).op)).1 (gI p n).op (gAd (gI p n) (gh p n))).2=true:=by
     cases hb:(o9 (fK x.saq (gAd (gI p n) (gh p n)) (szI (gI p n).op)).1 (gI p n).op (gAd (gI p n) (gh p n))).2 with
     |true=>rfl
     |false=>exact absurd (.inl ⟨hy,hb⟩) g2
    rw[if_pos rfl];refine own 2 _ (IntKind.i64.wrap (x.aE+1)) _ (.inr rfl) ?_ (by rw[wrap_i64 (by omega) (by omega)];omega) hok1 hrdy rfl;by_cases hz:(gI p n).d>=1
    ·rw[hlv hok1 hz];exact .inl (r2 hy hb)
    ·exact .inr hz
   |false =>
    rw[if_neg (by simp)];obtain⟨r3,r4⟩:=r1 hy;have e1:rgZ p (rg p (Dn p o (gD p) false n k)) (n,cI 2 (gI p n) (gh p n).pc 0)=gU (rg p (Dn p o (gD p) false n k)) (gI p n).d ((gh p (n+1)).bC (gI p n).d.toNat):=rfl;have hya:∀ i:Nat,1<=i->(cE.ready (onF (if(gI p n).d=0 then x.a else { x.a with ready:=fun i=>cond (Nat.beq i (gI p n).d.toNat) (-1) (x.a.ready i) })) i=if i=(gI p n).d.toNat then -1 else x.a.ready i)/\cE.bC (onF (if(gI p n).d=0 then x.a else { x.a with ready:=fun i=>cond (Nat.beq i (gI p n).d.toNat) (-1) (x.a.ready i) })) i=x.a.bC i:=fun i hi=>by
     by_cases hz:(gI p n).d=0
     ·rw[if_pos hz,if_neg (by omega)];exact⟨rfl,rfl⟩
     ·rw[if_neg hz];refine⟨?_,rfl⟩;show(cond (Nat.beq i (gI p n).d.toNat) (-1) (x.a.ready i))=_;by_cases h2:i=(gI p n).d.toNat
      ·rw[if_pos h2,h2,zaQ];rfl
      ·rw[if_neg h2,dB h2];rfl
    refine h.aPU (nq:=[⟨false,(gI p n).op,gAd (gI p n) (gh p n),szI (gI p n).op,0,0,(gI p n).d,0⟩]) (ns:=[]) (ne:=[]) (fun _=>hok1) (fun i i1 i2 i3 => ?_) (by show x.aeq=x.aeq++if(2:Int)=5 then _ else [];rw[if_neg (by decide)];simp) (.inl ⟨by show ¬(2:Int)=3;decide,rfl,rfl⟩) (.inl ⟨by show ¬(2:Int)=4;decide,rfl⟩) ⟨rfl,rfl,rfl,rfl⟩ (fun q hq a b d => ?_) rfl (fun q hq => ?_) (fun i i1 i2 => ?_)
    ·have i3:0<=cE.ready (onF _) i:=i3;rw[(hya i i1).1]at i3;show cE.bC (onF _) i=_;rw[(hya i i1).2,e1,pC];split at i3
     ·omega
     ·rename_i h2;rw[if_neg (fun h3=>h2 h3.2)];exact h.ra i i1 i2 i3
    ·rw[e1];refine keepW _ ?_ q hq a b d;by_cases hz:(gI p n).d>=1
     ·exact .inl (hrdy hz)
     ·exact .inr hz
    ·obtain rfl:=List.mem_singleton.1 hq;refine⟨rfl,adrR.1,rfl,fun a b => ?_,fun a=>by have:(gI p n).d<0:=a;omega,r4⟩;have a:1<=(gI p n).d:=a;rw[e1,pC];show _=if(1<=(gI p n).d/\(gI p n).d<=15)/\(gI p n).d.toNat=(gI p n).d.toNat then _ else _;rw[if_pos ⟨⟨a,d1⟩,rfl⟩,hlv hok1 a,<-r3];unfold ldF;rw[if_pos adrR]
    ·show qZ i _<=if cE.ready (onF _) i<0 then 1 else 0;rw[(hya i i1).1,q0,tX];have h4:=h.lr i i1 i2;show qZ i x.table+(0+if(!false&&decide ((gI p n).d=(i:Int)))=true then 1 else 0)<=_;by_cases h2:i=(gI p n).d.toNat
     ·have h5:¬x.a.ready i<0:=by have:=hrdy (by omega);rw[<-h2]at this;omega
      rw[if_neg h5]at h4;rw[if_pos h2,if_pos (show(-1:Int)<0 by omega)];split<;>omega
     ·rw[if_neg h2,decide_eq_false (by omega)];simpa using h4
  ·simp only[zaP]at g;by_cases g1:dV (szI (gI p n).op) (gAd (gI p n) (gh p n)) x.mem.length=0
   case neg=>rw[if_pos g1];exact noN _ _
   rw[if_neg (fun h=>h g1)];split
   ·exact h
   rename_i g2;exact absurd ⟨g1,g2,fun h=>h13 h.1⟩ g
 ·
  obtain⟨gf,gt,_,ga,gb⟩:=g;rw[gt,aK]at hcell ⊢;have h1:cell.kind=4:=by rw[hcell];rfl
  have hins:cell.ins=gI p n:=by rw[hcell];rfl
  obtain⟨q1,q2⟩:=cA4 (c:=c) (s:=s) (x:=x) (st:=st) h1;have had:=adr (.inr (.inl h1)) hins ga;have hok:=okL (.inr gf);rw[q1,q2,had,hins,w64];refine⟨⟨fun g => ?_,fun g => ?_⟩,fun g=>by omega,fun g=>by omega,fun _ _=>hok⟩
  ·simp only[zaK]at g;rw[if_neg (fun h=>h g.1),if_neg (by omega)];have e1:=sm (n,cI 4 (gI p n) (gh p n).pc 0) ⟨by show ¬(4:Int)=1;decide,by show ¬(4:Int)=2;decide,by show ¬(4:Int)=7;decide,by show ¬(4:Int)=6;decide⟩;refine h.aPU (nq:=[]) (ns:=[]) (ne:=[]) (fun _=>by rw[<-hok];exact decide_eq_true g.1) (fun i i1 i2 i3=>by rw[e1];exact h.ra i i1 i2 i3) (by show x.aeq=x.aeq++if(4:Int)=5 then _ else [];rw[if_neg (by decide)];simp) (.inl ⟨by show ¬(4:Int)=3;decide,rfl,rfl⟩) (.inr ⟨rfl,_,rfl,rfl,rfl,rfl⟩) ⟨rfl,rfl,rfl,rfl⟩ (fun q hq a b d=>by rw[e1]) (by simp) (fun q hq=>by cases hq) lr0
  ·simp only[zaP]at g;by_cases h2:dV (szI (gI p n).op) (gAd (gI p n) (gh p n)) x.mem.length=0
   ·rw[if_neg (fun h=>h h2),if_pos (by omega)];exact h
   ·rw[if_pos h2];exact noN _ _
 ·
  obtain⟨gf,gt,_,_,ga,gb⟩:=g;rw[gt,aK]at hcell ⊢;have h1:cell.kind=9:=by rw[hcell];rfl
  have hins:cell.ins=gI p n:=by rw[hcell];rfl
  obtain⟨q1,q2⟩:=cA9 (c:=c) (s:=s) (x:=x) (st:=st) h1;have inN:∀ r:Int,r=0\/r∈aY (gI p n)->0<=r->r<=15->r=0\/r∈tQ cell:=fun r h2 h3 h4=>by
   by_cases hz:r=0
   ·exact .inl hz
   ·refine .inr ?_;unfold tQ;rw[if_neg (by omega),if_neg (by omega),if_neg (by omega),if_neg (by omega),if_pos h1,hins,List.mem_filter];exact⟨h2.resolve_left hz,isr _ (by omega) h4⟩
  rw[q1,q2];refine⟨⟨fun g => ?_,fun g => ?_⟩,fun _ => ?_,fun g=>by omega,fun g1 g2=>by omega⟩
  ·rw[if_pos (by simpa using g)];exact plain _ _ (.inr (by show(8:Int)<=9;decide)) ⟨rfl,rfl⟩ (by show x.aeq=x.aeq++if(9:Int)=5 then _ else [];rw[if_neg (by decide)];simp) ⟨rfl,rfl,rfl,rfl,rfl,rfl,rfl,rfl⟩
  ·rw[if_neg (by simpa using g)];exact h
  ·unfold tR;rw[hins,rd _ ra0 ra1 ga (inN _ ina ra0 ra1),rd _ rb0 rb1 gb (inN _ inb rb0 rb1)];rfl
 ·
  obtain⟨gf,gt,_⟩:=g;rw[gt,aK]at hcell ⊢;have h1:cell.kind=10:=by rw[hcell];rfl
  obtain⟨q1,q2⟩:=a6X (c:=c) (s:=s) (x:=x) (st:=st) h1;rw[q1,q2];refine⟨⟨fun g => ?_,fun g => ?_⟩,fun g=>by omega,fun g=>by omega,fun g1 g2=>by omega⟩
  ·rw[if_neg (by simpa using g)];exact plain _ _ (.inr (by show(8:Int)<=10;decide)) ⟨rfl,rfl⟩ (by show x.aeq=x.aeq++if(10:Int)=5 then _ else [];rw[if_neg (by decide)];simp) ⟨rfl,rfl,rfl,rfl,rfl,rfl,rfl,rfl⟩
  ·rw[if_pos (by simpa using g)];exact h
 ·
  obtain⟨gf,gt,_⟩:=g;rw[gt,aK]at hcell ⊢;have h1:cell.kind=11:=by rw[hcell];rfl
  obtain⟨q1,q2⟩:=a6Y (c:=c) (s:=s) (x:=x) (st:=st) h1;rw[q1,q2];refine⟨⟨fun g => ?_,fun g=>by cases g⟩,fun g=>by omega,fun g=>by omega,fun g1 g2=>by omega⟩;exact plain _ _ (.inr (by show(8:Int)<=11;decide)) ⟨rfl,rfl⟩ (by show x.aeq=x.aeq++if(11:Int)=5 then _ else [];rw[if_neg (by decide)];simp) ⟨rfl,rfl,rfl,rfl,rfl,rfl,rfl,rfl⟩
 ·
  obtain⟨gf,gt,_⟩:=g;rw[gt,aK]at hcell ⊢;have h1:cell.kind=12:=by rw[hcell];rfl
  obtain⟨q1,q2⟩:=a6Z (c:=c) (s:=s) (x:=x) (st:=st) h1;rw[q1,q2];exact⟨⟨fun g=>(by cases g),fun _=>h.same ⟨rfl,rfl,rfl,rfl,rfl,rfl,rfl,rfl,rfl,rfl,rfl⟩⟩,fun g=>by omega,fun g=>by omega,fun g1 g2=>by omega⟩
end
def Res (c:Cfg) (p:Prog) (o:Nat->Int) (D:Nat->Bool) (n k:Bool->Nat) (e:Bool) (y:Stt) (dn:Bool):Prop := ∃ m i,m<=n e+1/\Inv c p o D (cS n e m) (cS k e i) y/\(dn=true->Dn p o D e m i=Dn p o D e (n e) (k e)++[(n e,ix (cel p o e (rho p D (n e))) (k e))])/\(dn=false->m=n e/\i=k e)
section
variable {c:Cfg} {p:Prog} {o:Nat->Int} {s:Split} (hs:Spl p o s) {D:Nat->Bool} {n k:Bool->Nat} {x y:Stt}
theorem aD7 {α:Type} (f:Bool->α) (e:Bool):cS f e (f e)=f:=by funext e';cases e<;>cases e'<;>rfl
theorem Inv.stay (h:Inv c p o D n k y) (e:Bool):Res c p o D n k e y false:=⟨n e,k e,by omega,by rw[aD7,aD7];exact h,fun h=>(by cases h),fun _=>⟨rfl,rfl⟩⟩
include hs
theorem Inv.on2 (h:Inv c p o D n k x) (e:Bool) {B j:Nat} (hp:PR p o D e (dX x e) (n e) (k e) B j) (hk:k e<(cel p o e (rho p D (n e))).length) (hj:cW p B+j<dM p B) (hc:(ix (cel p o e (rho p D (n e))) (k e)).kind<=8)
  (h1:dX y=cS (dX x) e { dX x e with index:=IntKind.i64.wrap ((dX x e).index+1) }) (h2:bqB y=bqB x) (h3:fO y=fO x) (h4:Cnt c (more p o D n k e false) (more p o D n k e true) y):Res c p o D n k e y true :=
 ⟨n e,k e+1,by omega,by rw[aD7];exact h.on hs e hp hk hj hc h1 h2 h3 h4,fun _=>aKL hk,fun h=>(by cases h)⟩
theorem Inv.a8N (h:Inv c p o D n k x) (e:Bool) {B j:Nat} (hp:PR p o D e (dX x e) (n e) (k e) B j) (hk:k e<(cel p o e (rho p D (n e))).length) (hj:cW p B+j<dM p B) (hn:n e<=1152921504606846976) (hc:(ix (cel p o e (rho p D (n e))) (k e)).kind=11)
  (h1:dX y=cS (dX x) e (goF s (dX x e) true)) (h2:bqB y=bqB x) (h3:fO y=fO x) (h5:fO x e=false) (h4:Cnt c (more p o D n k e false) (more p o D n k e true) y):Res c p o D n k e y true:=by
 obtain⟨m,i,a1,a2,_,a3⟩:=h.ctl.jump hs e hp hk hj hn hc;exact⟨m,i,a3,h.con hs e (by rw[h1,h2];exact a1) a2 rfl rfl h3 h5 h4,fun _=>a2,fun h=>(by cases h)⟩
theorem Inv.aUT (h:Inv c p o D n k x) (e:Bool) {B j:Nat} (hp:PR p o D e (dX x e) (n e) (k e) B j) (hk:k e<(cel p o e (rho p D (n e))).length) (hj:cW p B+j<dM p B) (hn:n e<=1152921504606846976) (hc:(ix (cel p o e (rho p D (n e))) (k e)).kind=10) {t:Bool} {r:List Bool} (hb:bqB x (!e)=t::r)
  (h1:dX y=cS (dX x) e (goF s (dX x e) t)) (h2:bqB y=cS (bqB x) (!e) r) (h3:fO y=fO x) (h5:fO x e=false) (h4:Cnt c (more p o D n k e false) (more p o D n k e true) y):Res c p o D n k e y true:=by
 obtain⟨_,m,i,a1,a2,_,a3⟩:=h.ctl.follow hs e hp hk hj hn hc hb;exact⟨m,i,a3,h.con hs e (by rw[h1,h2];exact a1) a2 rfl rfl h3 h5 h4,fun _=>a2,fun h=>(by cases h)⟩
theorem Inv.aUU (h:Inv c p o D n k x) (e:Bool) {B j:Nat} (hp:PR p o D e (dX x e) (n e) (k e) B j) (hk:k e<(cel p o e (rho p D (n e))).length) (hj:cW p B+j<dM p B) (hn:n e<=1152921504606846976) (hc:(ix (cel p o e (rho p D (n e))) (k e)).kind=9) (t:Bool) (ht:t=D (n e))
  (h1:dX y=cS (dX x) e (goF s (dX x e) t)) (h2:bqB y=cS (bqB x) e (bqB x e++[t])) (h3:fO y=fO x) (h5:fO x e=false) (h4:Cnt c (more p o D n k e false) (more p o D n k e true) y):Res c p o D n k e y true:=by
 have hD:D=fun m=>cond (m == n e) t (D m):=by
  funext m;by_cases hm:m=n e
  ·rw[hm,ht];simp
  ·rw[show(m == n e)=false by simp;omega];rfl
 obtain⟨m,i,a1,a2,a3,_,a4,_,a5⟩:=h.ctl.branch hs e hp hk hj hn hc t hD;exact⟨m,i,a4,h.con hs e (by rw[h1,h2];exact a1) a2 a3 rfl h3 h5 h4,fun _=>a2,fun h=>(by cases h)⟩
theorem bCQ (h:Inv c p o D n k x) {B j:Nat} (hp:PR p o D true x.e.pos (n true) (k true) B j) (hk:k true<(cel p o true (rho p D (n true))).length) (hj:cW p B+j<dM p B) (hn:n true<=1152921504606846976) (hh:x.e.halted=false) (hcy:0<=x.aE/\x.aE<=2000000000000) (st:Int) {cell:Cell} (hce:cell=jN (j:Int) (ix (cel p o true (rho p D (n true))) (k true))) (hD:cell.kind=9->tR x.e cell.ins=D (n true)) :
  Res c p o D n k true (dW c s x cell st) (lJ c x cell):=by
 have hi:rho p D (n true)<p.code.length:=by have:=eO hp.hb;have:=hp.pc;omega
 have hkd:=aMT hs hi (by rw[eW];exact hk);rw[<-pQ hk]at hkd;have hce':cell.kind=(ix (cel p o true (rho p D (n true))) (k true)).kind:=by rw[hce];rfl
 rw[<-hce']at hkd;have hrd:=h.cnt.rde;have rdy:∀(d:cE) (a w r:Int),d=x.e->0<=r->∀ i:Nat,1<=i->i<=15->0<=(onF (cV d a w r)).ready i:=fun d a w r hd hr i h1 h2=>by
  show 0<=(cV d a w r).ready i;rcases xW (d:=d) (n:=a) (w:=w) (r:=r) i with h3|h3
  ·rw[h3,hd];exact hrd i h1 h2
  ·rw[h3];exact hr
 have hw:∀ v:Int,0<=v->v<=50->0<=IntKind.i64.wrap (x.aE+v):=fun v h1 h2=>by rw[wrap_i64 (by omega) (by omega)];omega
 have cnt:∀(y:Stt) (K6 K7 K8:Nat),K6=(if cell.kind=6 then 1 else 0)->K7=(if cell.kind=7 then 1 else 0)->K8=(if cell.kind=8 then 1 else 0)->x.aeq.length=K6+y.aeq.length->x.ldq.length=K7+y.ldq.length->y.sdq.length=x.sdq.length+K8->(y.saq=x.saq/\y.writes=x.writes)->(∀ t,opn t y.ldq<=opn t x.ldq)->(y.a=x.a/\y.table=x.table)->(∀ r:Nat,1<=r->r<=15->0<=y.e.ready r)->Cnt c (more p o D n k true false) (more p o D n k true true) y:=fun y K6 K7 K8 g6 g7 g8 b1 b2 b3 b4 b5 b6 b7=>by rw[hce']at g6 g7 g8;exact h.cnt.aMP rfl (by rw[g6]at b1;exact b1) (by rw[g7]at b2;exact b2) b4 (by rw[g8]at b3;exact b3) b5 b6 b7
 have same:∀ dn,dn=false->Res c p o D n k true x dn:=fun dn hd=>by rw[hd];exact h.stay true
 rcases hkd with g|g|g
 ·obtain⟨q1,q2⟩:=cE6 (c:=c) (s:=s) (x:=x) (st:=st) g;rw[q1,q2];by_cases hq:x.aeq=[]
  ·rw[if_pos hq];exact same _ (decide_eq_false fun h=>h hq)
  ·rw[if_neg hq,decide_eq_true hq];have l5:0<x.aeq.length:=List.length_pos_iff.2 hq;refine h.on2 hs true hp hk hj (by omega) ?_ (by funext e;cases e<;>rfl) ?_ (cnt _ 1 0 0 (by rw[if_pos g]) (by rw[if_neg (by omega)]) (by rw[if_neg (by omega)]) (by show _=1+x.aeq.tail.length;rw[List.length_tail];omega) (by simp) rfl ⟨rfl,rfl⟩ (fun t=>zaF _) ⟨rfl,rfl⟩ (rdy _ _ _ _ rfl (hw 1 (by omega) (by omega))))
   ·funext e;cases e
    ·rfl
    ·show(onF (cV _ _ _ _)).pos=_;unfold onF;rw[(fU _ _ _ _).1];rfl
   ·funext e;cases e
    ·rfl
    ·exact(fU _ _ _ _).2.1
 ·obtain⟨q1,q2⟩:=cE1 (c:=c) (s:=s) (x:=x) (st:=st) g;rw[q1,q2];by_cases hq:doK x.e cell.ins=true
  ·rw[if_pos hq,hq];refine h.on2 hs true hp hk hj (by omega) ?_ (by funext e;cases e<;>rfl) ?_ (cnt _ 0 0 0 (by rw[if_neg (by omega)]) (by rw[if_neg (by omega)]) (by rw[if_neg (by omega)]) (by simp) (by simp) rfl ⟨rfl,rfl⟩ (fun t=>zaF _) ⟨rfl,rfl⟩ (rdy _ _ _ _ rfl (hw _ (Int.le_trans (by decide) (vF c _).1) (vF c _).2)))
   ·funext e;cases e
    ·rfl
    ·show(onF (cV _ _ _ _)).pos=_;unfold onF;rw[(fU _ _ _ _).1];rfl
   ·funext e;cases e
    ·rfl
    ·exact(fU _ _ _ _).2.1
  ·rw[if_neg hq,show doK x.e cell.ins=false by simpa using hq];exact(h.note _ _ _).stay true
 ·have hk5:cell.kind=7\/cell.kind=8\/cell.kind=9\/cell.kind=10\/cell.kind=11\/cell.kind=12:=by omega
  rcases hk5 with g|g|g|g|g|g
  ·obtain⟨q1,q2⟩:=cE7 (c:=c) (s:=s) (x:=x) (st:=st) g;rw[q1,q2];by_cases hpq:x.ldq=[]\/(ix x.ldq 0).full=false
   ·have e:qU x.ldq=(x.ldq,0,false):=by unfold qU;rw[if_pos hpq]
    rw[e];exact same _ rfl
   ·have e:qU x.ldq=(x.ldq.tail,(ix x.ldq 0).val,true):=by unfold qU;rw[if_neg hpq]
    have hq:¬x.ldq=[]:=fun e=>hpq (.inl e)
    have l3:0<x.ldq.length:=List.length_pos_iff.2 hq;rw[e];simp only[if_true];refine h.on2 hs true hp hk hj (by omega) ?_ (by funext e;cases e<;>rfl) ?_ (cnt _ 0 1 0 (by rw[if_neg (by omega)]) (by rw[if_pos g]) (by rw[if_neg (by omega)]) (by simp) (by show _=1+x.ldq.tail.length;rw[List.length_tail];omega) rfl ⟨rfl,rfl⟩ (fun t=>(List.tail_sublist _).countP_le) ⟨rfl,rfl⟩ (rdy _ _ _ _ rfl (hw 1 (by omega) (by omega))))
    ·funext e;cases e
     ·rfl
     ·show(onF (cV _ _ _ _)).pos=_;unfold onF;rw[(fU _ _ _ _).1];rfl
    ·funext e;cases e
     ·rfl
     ·exact(fU _ _ _ _).2.1
  ·obtain⟨q1,q2⟩:=cE8 (c:=c) (s:=s) (x:=x) (st:=st) g;rw[q1,q2];by_cases hq:(x.sdq.length:Int)<c.sdq
   ·rw[if_pos hq,decide_eq_true hq];exact h.on2 hs true hp hk hj (by omega) (by funext e;cases e<;>rfl) (by funext e;cases e<;>rfl) (by funext e;cases e<;>rfl) (cnt _ 0 0 1 (by rw[if_neg (by omega)]) (by rw[if_neg (by omega)]) (by rw[if_pos g]) (by simp) (by simp) (bD _ _) ⟨rfl,rfl⟩ (fun t=>zaF _) ⟨rfl,rfl⟩ hrd)
   ·rw[if_neg hq];exact same _ (decide_eq_false hq)
  ·obtain⟨q1,q2⟩:=cE9 (c:=c) (s:=s) (x:=x) (st:=st) g;rw[q1,q2];by_cases hq:(x.ebq.length:Int)<c.ebq
   ·rw[if_pos hq,decide_eq_true hq];exact h.aUU hs true hp hk hj hn (by omega) (tR x.e cell.ins) (hD g) (by funext e;cases e<;>rfl) (by funext e;cases e<;>rfl) (by funext e;cases e<;>rfl) hh (cnt _ 0 0 0 (by rw[if_neg (by omega)]) (by rw[if_neg (by omega)]) (by rw[if_neg (by omega)]) (by simp) (by simp) rfl ⟨rfl,rfl⟩ (fun t=>zaF _) ⟨rfl,rfl⟩ hrd)
   ·rw[if_neg hq];exact same _ (decide_eq_false hq)
  ·obtain⟨q1,q2⟩:=a6U (c:=c) (s:=s) (x:=x) (st:=st) g;rw[q1,q2];by_cases hq:x.abq=[]
   ·rw[if_pos hq];exact same _ (decide_eq_false fun h=>h hq)
   ·rw[if_neg hq,decide_eq_true hq];cases hab:x.abq with
    |nil=>exact absurd hab hq
    |cons t r => exact h.aUT hs true hp hk hj hn (by omega) (t:=t) (r:=r) hab (by funext e;cases e<;>rfl) (by funext e;cases e<;>rfl) (by funext e;cases e<;>rfl) hh (cnt _ 0 0 0 (by rw[if_neg (by omega)]) (by rw[if_neg (by omega)]) (by rw[if_neg (by omega)]) (by simp) (by simp) rfl ⟨rfl,rfl⟩ (fun t=>zaF _) ⟨rfl,rfl⟩ hrd)
  ·obtain⟨q1,q2⟩:=a6V (c:=c) (s:=s) (x:=x) (st:=st) g;rw[q1,q2];exact h.a8N hs true hp hk hj hn (by omega) (by funext e;cases e<;>rfl) (by funext e;cases e<;>rfl) (by funext e;cases e<;>rfl) hh (cnt _ 0 0 0 (by rw[if_neg (by omega)]) (by rw[if_neg (by omega)]) (by rw[if_neg (by omega)]) (by simp) (by simp) rfl ⟨rfl,rfl⟩ (fun t=>zaF _) ⟨rfl,rfl⟩ hrd)
  ·obtain⟨q1,q2⟩:=a6W (c:=c) (s:=s) (x:=x) (st:=st) g;rw[q1,q2];obtain⟨c1,c2,c3,c4,c5,c6,c7,c8⟩:=h.cnt;exact(h.halt (y:={ x with e:=aC4 x.e }) hs true hk hi (by omega) (by funext e;cases e<;>rfl) (by funext e;cases e<;>rfl) (by funext e;cases e<;>rfl) ⟨c1,c2,c3,c4,c5,c6,c7,c8⟩).stay true
theorem bCR (h:Inv c p o D n k x) {B j:Nat} (hp:PR p o D false x.a.pos (n false) (k false) B j) (hk:k false<(cel p o false (rho p D (n false))).length) (hj:cW p B+j<dM p B) (hn:n false<=1152921504606846976) (hh:x.a.halted=false) (hcy:0<=x.aE/\x.aE<=2000000000000) (hlat:1<=c.lat) {cell:Cell} (hce:cell=jN (j:Int) (ix (cel p o false (rho p D (n false))) (k false))) (hD:cell.kind=9->tR x.a cell.ins=D (n false)) :
  Res c p o D n k false (dN c s x cell (n false:Int)) (lK c x cell):=by
 have hi:rho p D (n false)<p.code.length:=by have:=eO hp.hb;have:=hp.pc;omega
 have hkd:=aMU hs hi (by rw[eW];exact hk);rw[<-pQ hk]at hkd;have hce':cell.kind=(ix (cel p o false (rho p D (n false))) (k false)).kind:=by rw[hce];rfl
 rw[<-hce']at hkd;obtain⟨_,_,_,_,hop,hpe,_,hlf⟩:=h.cnt;have rdy:∀(a w r:Int),0<=r->∀ i:Nat,1<=i->i<=15->(onF (cV x.a a w r)).ready i<0->∃ q∈x.table,q.store=false/\q.reg=(i:Int):=fun a w r hr i h1 h2 h3=>by
  replace h3:(cV x.a a w r).ready i<0:=h3;rcases xW (d:=x.a) (n:=a) (w:=w) (r:=r) i with h4|h4
  ·rw[h4]at h3;exact hpe i h1 h2 h3
  ·omega
 have hw:∀ v:Int,0<=v->v<=50->0<=IntKind.i64.wrap (x.aE+v):=fun v h1 h2=>by rw[wrap_i64 (by omega) (by omega)];omega
 have nil0:∀ l:List Int,l=l++[]:=fun l=>(List.append_nil l).symm
 have cnt:∀(y:Stt) (K5 K3:Nat) (L4:List Int),K5=(if cell.kind=5 then 1 else 0)->K3=(if cell.kind=3 then 1 else 0)->L4=(if cell.kind=4 then [(n false:Int)]else [])->y.aeq.length=x.aeq.length+K5->y.ldq.length=x.ldq.length+K3->y.saq.map Entry.step=x.saq.map Entry.step++L4->(knS y.saq=knS x.saq/\y.writes=x.writes/\y.sdq=x.sdq/\y.e=x.e)->(∀ t,opn t y.ldq<=pnd t y.table)->(∀ r:Nat,1<=r->r<=15->y.a.ready r<0->∃ q∈y.table,q.store=false/\q.reg=(r:Int))->(∀ q∈y.table,0<=q.left/\q.left<=c.lat)->Cnt c (more p o D n k false false) (more p o D n k false true) y:=fun y K5 K3 L4 g5 g3 g4 b1 b2 b3 b4 b5 b6 b7=>by rw[hce']at g5 g3 g4;exact h.cnt.aPU (by rw[g5]at b1;exact b1) (by rw[g3]at b2;exact b2) (by rw[g4]at b3;exact b3) b4 b5 b6 b7
 have plus:∀(y:Stt),(y.aeq=x.aeq/\y.ldq=x.ldq/\y.saq=x.saq/\y.writes=x.writes/\y.sdq=x.sdq/\y.e=x.e/\y.table=x.table)->¬cell.kind=5->¬cell.kind=3->¬cell.kind=4->(∀ r:Nat,1<=r->r<=15->y.a.ready r<0->∃ q∈x.table,q.store=false/\q.reg=(r:Int))->Cnt c (more p o D n k false false) (more p o D n k false true) y:=fun y hy g5 g3 g4 hr=>by obtain⟨y1,y2,y3,y4,y5,y6,y7⟩:=hy;exact cnt y 0 0 [] (by rw[if_neg g5]) (by rw[if_neg g3]) (by rw[if_neg g4]) (by rw[y1];rfl) (by rw[y2];rfl) (by rw[y3];exact nil0 _) ⟨by rw[y3],y4,y5,y6⟩ (by rw[y2,y7];exact hop) (by rw[y7];exact hr) (by rw[y7];exact hlf)
 have same:∀ dn,dn=false->Res c p o D n k false x dn:=fun dn hd=>by rw[hd];exact h.stay false
 have noted:∀ kd pc dn,dn=false->Res c p o D n k false (cF x kd (n false:Int) pc) dn:=fun kd pc dn hd=>by rw[hd];exact(h.note _ _ _).stay false
 have posR:∀(a w r:Int) (y:Stt),y.a=onF (cV x.a a w r)->y.e=x.e->dX y=cS (dX x) false { dX x false with index:=IntKind.i64.wrap ((dX x false).index+1) }/\fO y=fO x:=fun a w r y h1 h2=>by
  refine⟨?_, ?_⟩
  ·funext e;cases e
   ·show y.a.pos=_;rw[h1];unfold onF;rw[(fU _ _ _ _).1];rfl
   ·show y.e.pos=_;rw[h2];rfl
  ·funext e;cases e
   ·show y.a.halted=_;rw[h1];exact(fU _ _ _ _).2.1
   ·show y.e.halted=_;rw[h2];rfl
 have hk9:cell.kind=1\/(cell.kind=2\/cell.kind=3)\/cell.kind=4\/cell.kind=5\/cell.kind=9\/cell.kind=10\/cell.kind=11\/cell.kind=12:=by omega
 rcases hk9 with g|g|g|g|g|g|g|g
 ·obtain⟨q1,q2⟩:=cA1 (c:=c) (s:=s) (x:=x) (st:=(n false:Int)) g;rw[q1,q2];by_cases hq:doK x.a cell.ins=true
  ·rw[if_pos hq,hq];obtain⟨u1,u2⟩:=posR cell.ins.d (doV x.a cell.ins) (IntKind.i64.wrap (x.aE+u9 c cell.ins.op)) { x with a:=onF (cV x.a cell.ins.d (doV x.a cell.ins) (IntKind.i64.wrap (x.aE+u9 c cell.ins.op))) } rfl rfl;exact h.on2 hs false hp hk hj (by omega) u1 (by funext e;cases e<;>rfl) u2 (plus _ ⟨rfl,rfl,rfl,rfl,rfl,rfl,rfl⟩ (by omega) (by omega) (by omega) (rdy _ _ _ (hw _ (Int.le_trans (by decide) (vF c _).1) (vF c _).2)))
  ·rw[if_neg hq,show doK x.a cell.ins=false by simpa using hq];exact noted _ _ _ rfl
 ·rw[a2D g,a2E g,jC c x cell _ _ rfl];by_cases g1:dV (szI cell.ins.op) (gY x.a cell.ins) x.mem.length=0
  case neg=>rw[if_pos g1];exact noted _ _ _ (decide_eq_false fun h=>g1 h.1)
  rw[if_neg (fun h=>h g1)];generalize hu:fK x.saq (IntKind.i64.wrap (gY x.a cell.ins)) (szI cell.ins.op)=u;generalize hv:o9 u.1 cell.ins.op (IntKind.i64.wrap (gY x.a cell.ins))=v;by_cases g2:(u.2=true/\v.2=false)\/(u.2=false/\(x.table.length:Int)>=c.bN)
  ·rw[if_pos g2];exact same _ (decide_eq_false fun h=>h.2.1 g2)
  rw[if_neg g2];by_cases g3:cell.kind=3
  ·rw[if_pos g3];by_cases g4:(x.ldq.length:Int)>=c.ldq
   ·rw[if_pos g4];exact same _ (decide_eq_false fun h=>h.2.2 ⟨g3,g4⟩)
   rw[if_neg g4,decide_eq_true (show dV (szI cell.ins.op) (gY x.a cell.ins) x.mem.length=0/\¬((u.2=true/\v.2=false)\/(u.2=false/\(x.table.length:Int)>=c.bN))/\¬(cell.kind=3/\(x.ldq.length:Int)>=c.ldq) from⟨g1,g2,fun h=>g4 h.2⟩)];by_cases g5:u.2=true
   ·rw[if_pos g5];refine h.on2 hs false hp hk hj (by omega) (by funext e;cases e<;>rfl) (by funext e;cases e<;>rfl) (by funext e;cases e<;>rfl) (cnt _ 0 1 [] (by rw[if_neg (by omega)]) (by rw[if_pos g3]) (by rw[if_neg (by omega)]) rfl (by show(fG _ _ _).1.length=_;rw[tM,bD]) (nil0 _) ⟨rfl,rfl,rfl,rfl⟩ (fun t => ?_) hpe hlf);show opn t (fG _ _ _).1<=pnd t x.table;have h1:=aPR (l:=x.ldq++[(⟨x.tags,false,0⟩:Slot)]) (t:=x.tags) (w:=v.1) t;rw[aMQ,aMQ,aMR,aMR]at h1;have h2':opn t x.ldq<=pnd t x.table:=hop t;by_cases ht:x.tags=t
    ·rw[if_pos ht,if_pos rfl,ht]at h1;exact Nat.le_trans (by rw[ht];exact h1.2) (by omega)
    ·rw[if_neg ht]at h1;exact Nat.le_trans h1.1 (by omega)
   ·rw[if_neg g5];refine h.on2 hs false hp hk hj (by omega) (by funext e;cases e<;>rfl) (by funext e;cases e<;>rfl) (by funext e;cases e<;>rfl) (cnt _ 0 1 [] (by rw[if_neg (by omega)]) (by rw[if_pos g3]) (by rw[if_neg (by omega)]) rfl (bD _ _) (nil0 _) ⟨rfl,rfl,rfl,rfl⟩ (fun t => ?_) (fun r h1 h2 h3 => ?_) (fun q hq => ?_))
    ·show opn t (x.ldq++[_])<=pnd t (x.table++[_]);rw[aMQ,zA,aMR,a6K];have h2:=hop t;by_cases ht:x.tags=t
     ·rw[if_pos ht,if_pos (by unfold aC5;simp[ht])];omega
     ·rw[if_neg ht];omega
    ·obtain⟨q,hq,h4⟩:=hpe r h1 h2 h3;exact⟨q,List.mem_append_left _ hq,h4⟩
    ·rcases List.mem_append.1 hq with hq|hq
     ·exact hlf q hq
     ·obtain rfl:=List.mem_singleton.1 hq;show 0<=(0:Int)/\(0:Int)<=c.lat;omega
  ·rw[if_neg g3,decide_eq_true (show dV (szI cell.ins.op) (gY x.a cell.ins) x.mem.length=0/\¬((u.2=true/\v.2=false)\/(u.2=false/\(x.table.length:Int)>=c.bN))/\¬(cell.kind=3/\(x.ldq.length:Int)>=c.ldq) from⟨g1,g2,fun h=>g3 h.1⟩)];by_cases g5:u.2=true
   ·rw[if_pos g5];obtain⟨u1,u2⟩:=posR cell.ins.d v.1 (IntKind.i64.wrap (x.aE+1)) { x with a:=onF (cV x.a cell.ins.d v.1 (IntKind.i64.wrap (x.aE+1))) } rfl rfl;exact h.on2 hs false hp hk hj (by omega) u1 (by funext e;cases e<;>rfl) u2 (plus _ ⟨rfl,rfl,rfl,rfl,rfl,rfl,rfl⟩ (by omega) (by omega) (by omega) (rdy _ _ _ (hw 1 (by omega) (by omega))))
   ·rw[if_neg g5];generalize hd:(if cell.ins.d=0 then x.a else { x.a with ready:=fun i=>cond (Nat.beq i cell.ins.d.toNat) (-1) (x.a.ready i) })=d;have d1:d.pos=x.a.pos/\d.halted=x.a.halted/\∀ r:Nat,1<=r->d.ready r=x.a.ready r\/(r:Int)=cell.ins.d:=by
     rw[<-hd];split
     ·exact⟨rfl,rfl,fun r _=>.inl rfl⟩
     ·refine⟨rfl,rfl,fun r hr => ?_⟩;by_cases he:r=cell.ins.d.toNat
      ·exact .inr (by omega)
      ·refine .inl ?_;show(cond (Nat.beq r cell.ins.d.toNat) (-1) (x.a.ready r))=_;rw[dB he];rfl
    refine h.on2 hs false hp hk hj (by omega) ?_ (by funext e;cases e<;>rfl) ?_ (cnt _ 0 0 [] (by rw[if_neg (by omega)]) (by rw[if_neg g3]) (by rw[if_neg (by omega)]) rfl rfl (nil0 _) ⟨rfl,rfl,rfl,rfl⟩ (fun t => ?_) (fun r h1 h2 h3 => ?_) (fun q hq => ?_))
    ·funext e;cases e
     ·show(onF d).pos=_;unfold onF;rw[d1.1];rfl
     ·rfl
    ·funext e;cases e
     ·exact d1.2.1
     ·rfl
    ·show opn t x.ldq<=pnd t (x.table++[_]);rw[zA];have:=hop t;omega
    ·replace h3:d.ready r<0:=h3;rcases d1.2.2 r h1 with h4|h4
     ·rw[h4]at h3;obtain⟨q,hq,h5⟩:=hpe r h1 h2 h3;exact⟨q,List.mem_append_left _ hq,h5⟩
     ·exact⟨_,List.mem_append_right _ (List.mem_singleton.2 rfl),rfl,h4.symm⟩
    ·rcases List.mem_append.1 hq with hq|hq
     ·exact hlf q hq
     ·obtain rfl:=List.mem_singleton.1 hq;show 0<=(0:Int)/\(0:Int)<=c.lat;omega
 ·obtain⟨q1,q2⟩:=cA4 (c:=c) (s:=s) (x:=x) (st:=(n false:Int)) g;rw[q1,q2];by_cases g1:dV (szI cell.ins.op) (gY x.a cell.ins) x.mem.length=0
  case neg=>rw[if_pos g1];exact noted _ _ _ (decide_eq_false fun h=>g1 h.1)
  rw[if_neg (fun h=>h g1)];by_cases g2:(x.saq.length:Int)>=c.saq
  ·rw[if_pos g2];exact same _ (decide_eq_false fun h=>by omega)
  ·rw[if_neg g2,decide_eq_true (show dV (szI cell.ins.op) (gY x.a cell.ins) x.mem.length=0/\(x.saq.length:Int)<c.saq from⟨g1,by omega⟩)];exact h.on2 hs false hp hk hj (by omega) (by funext e;cases e<;>rfl) (by funext e;cases e<;>rfl) (by funext e;cases e<;>rfl) (cnt _ 0 0 [(n false:Int)] (by rw[if_neg (by omega)]) (by rw[if_neg (by omega)]) (by rw[if_pos g]) rfl rfl (by show(x.saq++[_]).map Entry.step=_;rw[List.map_append];rfl) ⟨a6L rfl,rfl,rfl,rfl⟩ hop hpe hlf)
 ·obtain⟨q1,q2⟩:=cA5 (c:=c) (s:=s) (x:=x) (st:=(n false:Int)) g;rw[q1,q2];by_cases hq:(x.aeq.length:Int)<c.aeq
  ·rw[if_pos hq,decide_eq_true hq];exact h.on2 hs false hp hk hj (by omega) (by funext e;cases e<;>rfl) (by funext e;cases e<;>rfl) (by funext e;cases e<;>rfl) (cnt _ 1 0 [] (by rw[if_pos g]) (by rw[if_neg (by omega)]) (by rw[if_neg (by omega)]) (bD _ _) rfl (nil0 _) ⟨rfl,rfl,rfl,rfl⟩ hop hpe hlf)
  ·rw[if_neg hq];exact same _ (decide_eq_false hq)
 ·obtain⟨q1,q2⟩:=cA9 (c:=c) (s:=s) (x:=x) (st:=(n false:Int)) g;rw[q1,q2];by_cases hq:(x.abq.length:Int)<c.abq
  ·rw[if_pos hq,decide_eq_true hq];exact h.aUU hs false hp hk hj hn (by omega) (tR x.a cell.ins) (hD g) (by funext e;cases e<;>rfl) (by funext e;cases e<;>rfl) (by funext e;cases e<;>rfl) hh (plus _ ⟨rfl,rfl,rfl,rfl,rfl,rfl,rfl⟩ (by omega) (by omega) (by omega) hpe)
  ·rw[if_neg hq];exact same _ (decide_eq_false hq)
 ·obtain⟨q1,q2⟩:=a6X (c:=c) (s:=s) (x:=x) (st:=(n false:Int)) g;rw[q1,q2];by_cases hq:x.ebq=[]
  ·rw[if_pos hq];exact same _ (decide_eq_false fun h=>h hq)
  ·rw[if_neg hq,decide_eq_true hq];cases hab:x.ebq with
   |nil=>exact absurd hab hq
   |cons t r => exact h.aUT hs false hp hk hj hn (by omega) (t:=t) (r:=r) hab (by funext e;cases e<;>rfl) (by funext e;cases e<;>rfl) (by funext e;cases e<;>rfl) hh (plus _ ⟨rfl,rfl,rfl,rfl,rfl,rfl,rfl⟩ (by omega) (by omega) (by omega) hpe)
 ·obtain⟨q1,q2⟩:=a6Y (c:=c) (s:=s) (x:=x) (st:=(n false:Int)) g;rw[q1,q2];exact h.a8N hs false hp hk hj hn (by omega) (by funext e;cases e<;>rfl) (by funext e;cases e<;>rfl) (by funext e;cases e<;>rfl) hh (plus _ ⟨rfl,rfl,rfl,rfl,rfl,rfl,rfl⟩ (by omega) (by omega) (by omega) hpe)
 ·obtain⟨q1,q2⟩:=a6Z (c:=c) (s:=s) (x:=x) (st:=(n false:Int)) g;rw[q1,q2];obtain⟨c1,c2,c3,c4,c5,c6,c7,c8⟩:=h.cnt;exact(h.halt (y:={ x with a:=aC4 x.a }) hs false hk hi (by omega) (by funext e;cases e<;>rfl) (by funext e;cases e<;>rfl) (by funext e;cases e<;>rfl) ⟨c1,c2,c3,c4,c5,c6,c7,c8⟩).stay false
end
def a2G (p:Prog) (m:Nat):Prop:=rho p (gD p) m=p.code.length\/gOk (gI p m) (gh p m)=false
def TrS (p:Prog) (x y:Stt):Prop:=y.aT=x.aT\/(¬y.aT.kind=0/\∃ m:Nat,y.aT.step=(m:Int)/\a2G p m)
theorem TrS.note {p:Prog} {x:Stt} {kd pc:Int} {m:Nat} (hk:¬kd=0) (hm:a2G p m):TrS p x (cF x kd (m:Int) pc):=by
 unfold cF;split
 ·exact .inr ⟨hk,m,rfl,hm⟩
 ·exact .inl rfl
section
variable {c:Cfg} {s:Split} {x:Stt} {k:Cell} {st:Int}
theorem a2H (hk:k.kind=6\/k.kind=1\/(7<=k.kind/\k.kind<=12)) (hd:lJ c x k=false):dW c s x k st=x\/(k.kind=1/\doK x.e k.ins=false/\dW c s x k st=cF x 3 st k.pc)\/(k.kind=12/\dW c s x k st = { x with e:=aC4 x.e }):=by
 have hk':k.kind=1\/k.kind=6\/k.kind=7\/k.kind=8\/k.kind=9\/k.kind=10\/k.kind=11\/k.kind=12:=by omega
 rcases hk' with g|g|g|g|g|g|g|g
 ·obtain⟨q1,q2⟩:=cE1 (c:=c) (s:=s) (x:=x) (st:=st) g;rw[q2]at hd;rw[q1,hd];exact .inr (.inl ⟨g,rfl,rfl⟩)
 ·obtain⟨q1,q2⟩:=cE6 (c:=c) (s:=s) (x:=x) (st:=st) g;rw[q2]at hd;rw[q1,if_pos (by simpa using hd)];exact .inl rfl
 ·obtain⟨q1,q2⟩:=cE7 (c:=c) (s:=s) (x:=x) (st:=st) g;rw[q2]at hd;rw[q1,hd];exact .inl rfl
 ·obtain⟨q1,q2⟩:=cE8 (c:=c) (s:=s) (x:=x) (st:=st) g;rw[q2]at hd;rw[q1,if_neg (by simpa using hd)];exact .inl rfl
 ·obtain⟨q1,q2⟩:=cE9 (c:=c) (s:=s) (x:=x) (st:=st) g;rw[q2]at hd;rw[q1,if_neg (by simpa using hd)];exact .inl rfl
 ·obtain⟨q1,q2⟩:=a6U (c:=c) (s:=s) (x:=x) (st:=st) g;rw[q2]at hd;rw[q1,if_pos (by simpa using hd)];exact .inl rfl
 ·obtain⟨q1,q2⟩:=a6V (c:=c) (s:=s) (x:=x) (st:=st) g;rw[q2]at hd;cases hd
 ·obtain⟨q1,q2⟩:=a6W (c:=c) (s:=s) (x:=x) (st:=st) g;exact .inr (.inr ⟨g,q1⟩)
theorem aWP (hk:k.kind=6\/k.kind=1\/(7<=k.kind/\k.kind<=12)) (hd:lJ c x k=true):(dW c s x k st).table=x.table/\(dW c s x k st).saq=x.saq/\(dW c s x k st).aT=x.aT/\(dW c s x k st).e.halted=x.e.halted:=by
 have hk':k.kind=1\/k.kind=6\/k.kind=7\/k.kind=8\/k.kind=9\/k.kind=10\/k.kind=11\/k.kind=12:=by omega
 have hh:∀(d:cE) (a w r:Int),(onF (cV d a w r)).halted=d.halted:=fun d a w r=>(fU d a w r).2.1
 rcases hk' with g|g|g|g|g|g|g|g
 ·obtain⟨q1,q2⟩:=cE1 (c:=c) (s:=s) (x:=x) (st:=st) g;rw[q2]at hd;rw[q1,if_pos hd];exact⟨rfl,rfl,rfl,hh _ _ _ _⟩
 ·obtain⟨q1,q2⟩:=cE6 (c:=c) (s:=s) (x:=x) (st:=st) g;rw[q2]at hd;rw[q1,if_neg (by simpa using hd)];exact⟨rfl,rfl,rfl,hh _ _ _ _⟩
 ·obtain⟨q1,q2⟩:=cE7 (c:=c) (s:=s) (x:=x) (st:=st) g;rw[q2]at hd;rw[q1,if_pos hd];exact⟨rfl,rfl,rfl,hh _ _ _ _⟩
 ·obtain⟨q1,q2⟩:=cE8 (c:=c) (s:=s) (x:=x) (st:=st) g;rw[q2]at hd;rw[q1,if_pos (by simpa using hd)];exact⟨rfl,rfl,rfl,rfl⟩
 ·obtain⟨q1,q2⟩:=cE9 (c:=c) (s:=s) (x:=x) (st:=st) g;rw[q2]at hd;rw[q1,if_pos (by simpa using hd)];exact⟨rfl,rfl,rfl,rfl⟩
 ·obtain⟨q1,q2⟩:=a6U (c:=c) (s:=s) (x:=x) (st:=st) g;rw[q2]at hd;rw[q1,if_neg (by simpa using hd)];exact⟨rfl,rfl,rfl,rfl⟩
 ·obtain⟨q1,q2⟩:=a6V (c:=c) (s:=s) (x:=x) (st:=st) g;rw[q1];exact⟨rfl,rfl,rfl,rfl⟩
 ·obtain⟨q1,q2⟩:=a6W (c:=c) (s:=s) (x:=x) (st:=st) g;rw[q2]at hd;cases hd
theorem a2I (hk:(1<=k.kind/\k.kind<=5)\/(9<=k.kind/\k.kind<=12)) (hd:lK c x k=false):dN c s x k st=x\/(∃ kd,¬kd=0/\((k.kind=1/\doK x.a k.ins=false)\/((2<=k.kind/\k.kind<=4)/\¬dV (szI k.ins.op) (gY x.a k.ins) x.mem.length=0))/\dN c s x k st=cF x kd st k.pc)\/(k.kind=12/\dN c s x k st = { x with a:=aC4 x.a }):=by
 have hk':k.kind=1\/(k.kind=2\/k.kind=3)\/k.kind=4\/k.kind=5\/k.kind=9\/k.kind=10\/k.kind=11\/k.kind=12:=by omega
 rcases hk' with g|g|g|g|g|g|g|g
 ·obtain⟨q1,q2⟩:=cA1 (c:=c) (s:=s) (x:=x) (st:=st) g;rw[q2]at hd;rw[q1,hd];exact .inr (.inl ⟨3,by decide,.inl ⟨g,rfl⟩,rfl⟩)
 ·rw[a2E g,zaP]at hd;rw[a2D g,jC c x k _ _ rfl];by_cases g1:dV (szI k.ins.op) (gY x.a k.ins) x.mem.length=0
  case neg=>rw[if_pos g1];exact .inr (.inl ⟨_,g1,.inr ⟨by omega,g1⟩,rfl⟩)
  rw[if_neg (fun h=>h g1)];generalize hu:fK x.saq (IntKind.i64.wrap (gY x.a k.ins)) (szI k.ins.op)=u at hd ⊢;generalize hv:o9 u.1 k.ins.op (IntKind.i64.wrap (gY x.a k.ins))=v at hd ⊢;by_cases g2:(u.2=true/\v.2=false)\/(u.2=false/\(x.table.length:Int)>=c.bN)
  ·rw[if_pos g2];exact .inl rfl
  rw[if_neg g2];by_cases g3:k.kind=3/\(x.ldq.length:Int)>=c.ldq
  ·rw[if_pos g3.1,if_pos g3.2];exact .inl rfl
  ·exact absurd ⟨g1,g2,g3⟩ hd
 ·obtain⟨q1,q2⟩:=cA4 (c:=c) (s:=s) (x:=x) (st:=st) g;rw[q2,zaP]at hd;rw[q1];by_cases g1:dV (szI k.ins.op) (gY x.a k.ins) x.mem.length=0
  case neg=>rw[if_pos g1];exact .inr (.inl ⟨_,g1,.inr ⟨by omega,g1⟩,rfl⟩)
  rw[if_neg (fun h=>h g1),if_pos (by omega)];exact .inl rfl
 ·obtain⟨q1,q2⟩:=cA5 (c:=c) (s:=s) (x:=x) (st:=st) g;rw[q2]at hd;rw[q1,if_neg (by simpa using hd)];exact .inl rfl
 ·obtain⟨q1,q2⟩:=cA9 (c:=c) (s:=s) (x:=x) (st:=st) g;rw[q2]at hd;rw[q1,if_neg (by simpa using hd)];exact .inl rfl
 ·obtain⟨q1,q2⟩:=a6X (c:=c) (s:=s) (x:=x) (st:=st) g;rw[q2]at hd;rw[q1,if_pos (by simpa using hd)];exact .inl rfl
 ·obtain⟨q1,q2⟩:=a6Y (c:=c) (s:=s) (x:=x) (st:=st) g;rw[q2]at hd;cases hd
 ·obtain⟨q1,q2⟩:=a6Z (c:=c) (s:=s) (x:=x) (st:=st) g;exact .inr (.inr ⟨g,q1⟩)
theorem aWQ (hk:(1<=k.kind/\k.kind<=5)\/(9<=k.kind/\k.kind<=12)) (hd:lK c x k=true):(dN c s x k st).aT=x.aT/\(dN c s x k st).a.halted=x.a.halted/\((dN c s x k st).table=x.table\/((k.kind=2\/k.kind=3)/\∃ q:Req,q.left=0/\(dN c s x k st).table=x.table++[q]))/\((dN c s x k st).saq=x.saq\/∃ b:Entry,b.step=st/\b.known=false/\(dN c s x k st).saq=x.saq++[b]):=by
 have hk':k.kind=1\/(k.kind=2\/k.kind=3)\/k.kind=4\/k.kind=5\/k.kind=9\/k.kind=10\/k.kind=11\/k.kind=12:=by omega
 have hh:∀(d:cE) (a w r:Int),(onF (cV d a w r)).halted=d.halted:=fun d a w r=>(fU d a w r).2.1
 rcases hk' with g|g|g|g|g|g|g|g
 ·obtain⟨q1,q2⟩:=cA1 (c:=c) (s:=s) (x:=x) (st:=st) g;rw[q2]at hd;rw[q1,if_pos hd];exact⟨rfl,hh _ _ _ _,.inl rfl,.inl rfl⟩
 ·rw[a2E g,zaK]at hd;obtain⟨g1,g2,g3⟩:=hd;rw[a2D g,jC c x k _ _ rfl,if_neg (fun h=>h g1),if_neg g2];by_cases g4:k.kind=3
  ·rw[if_pos g4,if_neg (fun h=>g3 ⟨g4,h⟩)];split
   ·exact⟨rfl,rfl,.inl rfl,.inl rfl⟩
   ·exact⟨rfl,rfl,.inr ⟨g,_,rfl,rfl⟩,.inl rfl⟩
  ·rw[if_neg g4];split
   ·exact⟨rfl,hh _ _ _ _,.inl rfl,.inl rfl⟩
   ·refine⟨rfl, ?_,.inr ⟨g,⟨false,k.ins.op,IntKind.i64.wrap (gY x.a k.ins),szI k.ins.op,0,0,k.ins.d,0⟩,rfl,rfl⟩,.inl rfl⟩;show cE.halted (if _ then _ else _)=_;split<;>rfl
 ·obtain⟨q1,q2⟩:=cA4 (c:=c) (s:=s) (x:=x) (st:=st) g;rw[q2,zaK]at hd;rw[q1,if_neg (fun h=>h hd.1),if_neg (by omega)];exact⟨rfl,rfl,.inl rfl,.inr ⟨_,rfl,rfl,rfl⟩⟩
 ·obtain⟨q1,q2⟩:=cA5 (c:=c) (s:=s) (x:=x) (st:=st) g;rw[q2]at hd;rw[q1,if_pos (by simpa using hd)];exact⟨rfl,rfl,.inl rfl,.inl rfl⟩
 ·obtain⟨q1,q2⟩:=cA9 (c:=c) (s:=s) (x:=x) (st:=st) g;rw[q2]at hd;rw[q1,if_pos (by simpa using hd)];exact⟨rfl,rfl,.inl rfl,.inl rfl⟩
 ·obtain⟨q1,q2⟩:=a6X (c:=c) (s:=s) (x:=x) (st:=st) g;rw[q2]at hd;rw[q1,if_neg (by simpa using hd)];exact⟨rfl,rfl,.inl rfl,.inl rfl⟩
 ·obtain⟨q1,q2⟩:=a6Y (c:=c) (s:=s) (x:=x) (st:=st) g;rw[q1];exact⟨rfl,rfl,.inl rfl,.inl rfl⟩
 ·obtain⟨q1,q2⟩:=a6Z (c:=c) (s:=s) (x:=x) (st:=st) g;rw[q2]at hd;cases hd
end
def a60 (p:Prog) (o:Nat->Int) (s:Split) (n n' k k':Nat) (x y:Stt):Prop :=
 (Dn p o (gD p) true n' k'=Dn p o (gD p) true n k/\Still s x y) \/
 (Dn p o (gD p) true n' k'=Dn p o (gD p) true n k/\x.e.halted=false/\y.e.halted=true/\y.aT=x.aT/\y.table=x.table/\y.saq=x.saq) \/
 (∃(m:Nat) (cell:Cell),Dn p o (gD p) true n' k'=Dn p o (gD p) true n k++[(m,cell)]/\(∃ i,Dn p o (gD p) true n k=Dn p o (gD p) true m i)/\n<=m/\m<=n'/\x.e.halted=false/\y.e.halted=false/\(aW s true x.e.pos).2.1=(m:Int)/\aZ x m=false/\y.aT=x.aT/\y.table=x.table/\y.saq=x.saq)
def a61 (p:Prog) (o:Nat->Int) (c:Cfg) (s:Split) (n n' k k':Nat) (x y:Stt):Prop :=
 (Dn p o (gD p) false n' k'=Dn p o (gD p) false n k/\Still s x y) \/
 (Dn p o (gD p) false n' k'=Dn p o (gD p) false n k/\x.a.halted=false/\y.a.halted=true/\y.aT=x.aT/\y.table=x.table/\y.saq=x.saq) \/
 (∃(m:Nat) (cell:Cell),Dn p o (gD p) false n' k'=Dn p o (gD p) false n k++[(m,cell)]/\n<=m/\m<=n'/\x.a.halted=false/\y.a.halted=false/\(aW s false x.a.pos).2.1=(m:Int)/\aZ x m=false/\(x.e.halted=true\/(aW s true x.e.pos).2.2=false\/(m:Int)<IntKind.i64.wrap ((aW s true x.e.pos).2.1+c.jW))/\y.aT=x.aT /\
  (y.table=x.table\/((cell.kind=2\/cell.kind=3)/\∃ q:Req,q.left=0/\y.table=x.table++[q]))/\(y.saq=x.saq\/∃ b:Entry,b.step=(m:Int)/\b.known=false/\y.saq=x.saq++[b]))
section
variable {c:Cfg} {p:Prog} {o:Nat->Int} {s:Split} (hs:Spl p o s) {n k:Bool->Nat} {x:Stt}
include hs
theorem Inv.aH9 {D:Nat->Bool} (h:Inv c p o D n k x) (e:Bool) (hn:n e<=1152921504606846976) {y:Stt} (h1:dX y=cS (dX x) e (aQ s e (dX x e)).1) (h2:bqB y=bqB x) (h3:fO y=fO x) (h5:fO x e=false) (h4:∀ hA hE,Cnt c hA hE x->Cnt c hA hE y) :
  ∃ m i B j,Inv c p o D (cS n e m) (cS k e i) y/\Stl p o D e (aQ s e (dX x e)) m i B j/\n e<=m/\m<=n e+p.code.length/\Dn p o D e m i=Dn p o D e (n e) (k e):=by
 obtain⟨m,i,B,j,a1,a2,a3,a4,a5⟩:=h.ctl.settle hs e hn;refine⟨m,i,B,j,⟨by rw[h1,h2];exact a1, ?_,h4 _ _ ?_⟩,a2,a4,a5,a3⟩
 ·rw[h3];refine two _ e ?_ ?_
  ·intro h6;rw[h5]at h6;cases h6
  ·intro h6;rw[bP];exact h.hal _ h6
 ·have hc:=h.cnt;cases e
  ·show Cnt c (Dn p o D false m i) (Dn p o D true (n true) (k true)) x;rw[a3];exact hc
  ·show Cnt c (Dn p o D false (n false) (k false)) (Dn p o D true m i) x;rw[a3];exact hc
theorem bG3 (h:Inv c p o (gD p) n k x) (hv:Val p (Dn p o (gD p) false (n false) (k false)) (Dn p o (gD p) true (n true) (k true)) x x.table) (hn:n true<=1152921504606840000) (hcy:0<=x.aE/\x.aE<=2000000000000) :
  ∃ n' k',n' false=n false/\k' false=k false/\n true<=n' true/\n' true<=n true+(p.code.length+1)/\Inv c p o (gD p) n' k' (eX c s x) /\
   Val p (Dn p o (gD p) false (n' false) (k' false)) (Dn p o (gD p) true (n' true) (k' true)) (eX c s x) (eX c s x).table/\TrS p x (eX c s x)/\a60 p o s (n true) (n' true) (k true) (k' true) x (eX c s x):=by
 unfold eX;split
 ·exact⟨n,k,rfl,rfl,zaF _,by omega,h,hv,.inl rfl,.inl ⟨rfl,.none⟩⟩
 rename_i hn0;have hhal:x.e.halted=false:=by
  cases hz:x.e.halted with
  |false=>rfl
  |true=>exact(hn0 (.inr (.inl hz))).elim
 have hN:=(lN hs.rp).2;obtain⟨m,i,B,j,a1,a2,a3,a4,a5⟩:=h.aH9 hs true (by omega) (y:=atE s x) (by funext e;cases e<;>rfl) (by funext e;cases e<;>rfl) (by funext e;cases e<;>rfl) hhal (fun hA hE hc=>by obtain⟨q1,q2,q3,q4,q5,q6,q7,q8⟩:=hc;exact⟨q1,q2,q3,q4,q5,q6,q7,q8⟩);have a2:Stl p o (gD p) true (aQ s true x.e.pos) m i B j:=a2;have hv1:Val p (Dn p o (gD p) false (n false) (k false)) (Dn p o (gD p) true m i) (atE s x) (atE s x).table:=by rw[a5];exact hv.same ⟨rfl,rfl,rfl,rfl,rfl,rfl,rfl,rfl,rfl,rfl,rfl⟩
 obtain⟨b1,b2⟩:=vG hs a2 (by omega);have e1:aW s true (atE s x).e.pos=aW s true x.e.pos:=b1;have hm:(aW s true x.e.pos).2.1=(m:Int):=by rw[b2]
 have hst:Still s x (atE s x):=⟨⟨rfl,rfl,rfl,rfl,rfl,rfl,rfl,rfl,rfl⟩,⟨rfl,rfl,rfl,rfl⟩,⟨rfl,rfl,rfl,rfl⟩,fun e=>by cases e;exact rfl;exact b1,.inl rfl⟩;rw[e1];have noteV:∀ kd pc,Val p (Dn p o (gD p) false (n false) (k false)) (Dn p o (gD p) true m i) (cF (atE s x) kd (m:Int) pc) (cF (atE s x) kd (m:Int) pc).table:=fun kd pc=>by
  unfold cF;split
  ·exact hv1.same ⟨rfl,rfl,rfl,rfl,rfl,rfl,rfl,rfl,rfl,rfl,rfl⟩
  ·exact hv1
 have noted:∀ kd pc,¬kd=0->a2G p m->∃ n' k',n' false=n false/\k' false=k false/\n true<=n' true/\n' true<=n true+(p.code.length+1)/\Inv c p o (gD p) n' k' (cF (atE s x) kd (m:Int) pc)/\Val p (Dn p o (gD p) false (n' false) (k' false)) (Dn p o (gD p) true (n' true) (k' true)) (cF (atE s x) kd (m:Int) pc) (cF (atE s x) kd (m:Int) pc).table/\TrS p x (cF (atE s x) kd (m:Int) pc)/\a60 p o s (n true) (n' true) (k true) (k' true) x (cF (atE s x) kd (m:Int) pc):=fun kd pc hk hg=>by refine⟨cS n true m,cS k true i,rfl,rfl,a3,by show m<=_;omega,a1.note _ _ _,noteV kd pc,TrS.note (x:=atE s x) hk hg,.inl ⟨a5, ?_⟩⟩;have:=hst.note (e:=true) (kd:=kd) (pc:=pc) rfl hk hhal;rw[show(aW s true (dX x true)).2.1=(m:Int) from hm]at this;exact this
 rw[hm];split
 ·rename_i hf;refine noted 4 _ (by decide) (.inl ?_);rcases a2.2 with g|g
  ·rw[g.1]at hf;cases hf
  ·exact g.2.1
 rename_i hf;split
 ·exact⟨cS n true m,cS k true i,rfl,rfl,a3,by show m<=_;omega,a1,hv1,.inl rfl,.inl ⟨a5,hst⟩⟩
 rename_i hst2;have hstop:aZ x m=false:=by
  cases g:aZ x m with
  |false=>rfl
  |true=>exact absurd (.inl g) hst2
 rw[b2];simp only[hf,if_false,zaU];obtain⟨_,hk,hj⟩:=a2.2.resolve_right (fun h=>hf h.1);have hi:rho p (gD p) m<p.code.length:=by have:=eO a2.1.hb;have:=a2.1.pc;omega
 generalize hcell:jN (j:Int) (ix (cel p o true (rho p (gD p) m)) i)=cell;have hkd:=aMT hs hi (by rw[eW];exact hk);rw[<-pQ hk]at hkd;have hkc:cell.kind=6\/cell.kind=1\/(7<=cell.kind/\cell.kind<=12):=by rw[<-hcell];exact hkd
 obtain⟨⟨v1,v2⟩,v3,v4⟩:=aWN hs (c:=c) (st:=(m:Int)) hv1 hk hcell.symm;have hres:=bCQ (cell:=cell) hs a1 (B:=B) (j:=j) a2.1 hk hj (by show m<=_;omega) hhal hcy (m:Int) hcell.symm v3;obtain⟨m',i',r1,r2,r3,r4⟩:=hres;have r1:m'<=m+1:=r1;cases hd:lJ c (atE s x) cell with
 |true =>
  have r3:Dn p o (gD p) true m' i'=Dn p o (gD p) true m i++[(m,ix (cel p o true (rho p (gD p) m)) i)]:=r3 hd;obtain⟨f1,f2,f3,f4⟩:=aWP (s:=s) (st:=(m:Int)) hkc hd;have hle:m<=m':=by
   rcases Nat.lt_or_ge m' m with g|g
   ·exfalso;have h1:=congrArg (fun l=>(m,ix (cel p o true (rho p (gD p) m)) i)∈l) r3;simp only[List.mem_append,List.mem_singleton,or_true,eq_iff_iff,iff_true]at h1;unfold Dn at h1;rcases List.mem_append.1 h1 with h2|h2
    ·obtain⟨q,hq,h3⟩:=List.mem_flatMap.1 h2;obtain⟨z,_,h4⟩:=List.mem_map.1 h3;have h5:=List.mem_range.1 hq;have h6:q=m:=congrArg Prod.fst h4;omega
    ·obtain⟨z,_,h4⟩:=List.mem_map.1 h2;have h6:m'=m:=congrArg Prod.fst h4;omega
   ·exact g
  refine⟨cS (cS n true m) true m',cS (cS k true i) true i',rfl,rfl,by show n true<=m';have:n true<=m:=a3;omega,by show m'<=_;omega,r2, ?_,.inl f3,.inr (.inr ⟨m,ix (cel p o true (rho p (gD p) m)) i, ?_,⟨i,a5.symm⟩,a3,hle,hhal,by rw[f4];exact hhal,hm,hstop,f3,f1,f2⟩)⟩
  ·show Val p (Dn p o (gD p) false (n false) (k false)) (Dn p o (gD p) true m' i') _ _;rw[r3];exact v1 hd
  ·show Dn p o (gD p) true m' i'=_;rw[r3,a5]
 |false =>
  obtain⟨rfl,rfl⟩:m'=m/\i'=i:=r4 hd;have wJ:∀ y:Stt,dW c s (atE s x) cell (m':Int)=y->TrS p x y->a60 p o s (n true) m' (k true) i' x y->∃ n' k',n' false=n false/\k' false=k false/\n true<=n' true/\n' true<=n true+(p.code.length+1)/\Inv c p o (gD p) n' k' y/\Val p (Dn p o (gD p) false (n' false) (k' false)) (Dn p o (gD p) true (n' true) (k' true)) y y.table/\TrS p x y/\a60 p o s (n true) (n' true) (k true) (k' true) x y:=fun y hy ht ho=>by have v2:=v2 hd;rw[hy]at r2 v2;exact⟨cS (cS n true m') true m',cS (cS k true i') true i',rfl,rfl,a3,by show m'<=_;omega,r2,v2,ht,ho⟩
  rcases a2H (s:=s) (st:=(m':Int)) hkc hd with g|⟨g1,g2,g3⟩|⟨g1,g2⟩
  ·rw[g];exact wJ _ g (.inl rfl) (.inl ⟨a5,hst⟩)
  ·rw[g3];have hg:gOk (gI p m') (gh p m')=false:=by rw[<-v4 g1];exact g2
   exact noted 3 _ (by decide) (.inr hg)
  ·rw[g2];exact wJ _ g2 (.inl rfl) (.inr (.inl ⟨a5,hhal,rfl,rfl,rfl,rfl⟩))
theorem bG4 (h:Inv c p o (gD p) n k x) (hv:Val p (Dn p o (gD p) false (n false) (k false)) (Dn p o (gD p) true (n true) (k true)) x x.table) (hn:n false<=1152921504606840000) (hcy:0<=x.aE/\x.aE<=2000000000000) (hlat:1<=c.lat) (hw:∀ e∈x.saq,e.wf) (htg:0<=x.tags/\x.tags<=2000000000000) :
  ∃ n' k',n' true=n true/\k' true=k true/\n false<=n' false/\n' false<=n false+(p.code.length+1)/\Inv c p o (gD p) n' k' (fL c s x) /\
   Val p (Dn p o (gD p) false (n' false) (k' false)) (Dn p o (gD p) true (n' true) (k' true)) (fL c s x) (fL c s x).table/\TrS p x (fL c s x)/\a61 p o c s (n false) (n' false) (k false) (k' false) x (fL c s x):=by
 unfold fL;split
 ·exact⟨n,k,rfl,rfl,zaF _,by omega,h,hv,.inl rfl,.inl ⟨rfl,.none⟩⟩
 rename_i hn0;have hhal:x.a.halted=false:=by
  cases hz:x.a.halted with
  |false=>rfl
  |true=>exact(hn0 (.inr (.inl hz))).elim
 have hN:=(lN hs.rp).2;obtain⟨m,i,B,j,a1,a2,a3,a4,a5⟩:=h.aH9 hs false (by omega) (y:=atA s x) (by funext e;cases e<;>rfl) (by funext e;cases e<;>rfl) (by funext e;cases e<;>rfl) hhal (fun hA hE hc=>by obtain⟨q1,q2,q3,q4,q5,q6,q7,q8⟩:=hc;exact⟨q1,q2,q3,q4,q5,q6,q7,q8⟩);have a2:Stl p o (gD p) false (aQ s false x.a.pos) m i B j:=a2;have hv1:Val p (Dn p o (gD p) false m i) (Dn p o (gD p) true (n true) (k true)) (atA s x) (atA s x).table:=by rw[a5];exact hv.same ⟨rfl,rfl,rfl,rfl,rfl,rfl,rfl,rfl,rfl,rfl,rfl⟩
 obtain⟨b1,b2⟩:=vG hs a2 (by omega);have e1:aW s false (atA s x).a.pos=aW s false x.a.pos:=b1;have hm:(aW s false x.a.pos).2.1=(m:Int):=by rw[b2]
 have hst:Still s x (atA s x):=⟨⟨rfl,rfl,rfl,rfl,rfl,rfl,rfl,rfl,rfl⟩,⟨rfl,rfl,rfl,rfl⟩,⟨rfl,rfl,rfl,rfl⟩,fun e=>by cases e;exact b1;exact rfl,.inl rfl⟩;rw[e1];have noteV:∀ kd pc,Val p (Dn p o (gD p) false m i) (Dn p o (gD p) true (n true) (k true)) (cF (atA s x) kd (m:Int) pc) (cF (atA s x) kd (m:Int) pc).table:=fun kd pc=>by
  unfold cF;split
  ·exact hv1.same ⟨rfl,rfl,rfl,rfl,rfl,rfl,rfl,rfl,rfl,rfl,rfl⟩
  ·exact hv1
 have noted:∀ kd pc,¬kd=0->a2G p m->∃ n' k',n' true=n true/\k' true=k true/\n false<=n' false/\n' false<=n false+(p.code.length+1)/\Inv c p o (gD p) n' k' (cF (atA s x) kd (m:Int) pc)/\Val p (Dn p o (gD p) false (n' false) (k' false)) (Dn p o (gD p) true (n' true) (k' true)) (cF (atA s x) kd (m:Int) pc) (cF (atA s x) kd (m:Int) pc).table/\TrS p x (cF (atA s x) kd (m:Int) pc)/\a61 p o c s (n false) (n' false) (k false) (k' false) x (cF (atA s x) kd (m:Int) pc):=fun kd pc hk hg=>by refine⟨cS n false m,cS k false i,rfl,rfl,a3,by show m<=_;omega,a1.note _ _ _,noteV kd pc,TrS.note (x:=atA s x) hk hg,.inl ⟨a5, ?_⟩⟩;have:=hst.note (e:=false) (kd:=kd) (pc:=pc) rfl hk hhal;rw[show(aW s false (dX x false)).2.1=(m:Int) from hm]at this;exact this
 rw[hm];split
 ·rename_i hf;refine noted 4 _ (by decide) (.inl ?_);rcases a2.2 with g|g
  ·rw[g.1]at hf;cases hf
  ·exact g.2.1
 rename_i hf;split
 ·exact⟨cS n false m,cS k false i,rfl,rfl,a3,by show m<=_;omega,a1,hv1,.inl rfl,.inl ⟨a5,hst⟩⟩
 rename_i hst2;have hstop:aZ x m=false:=by
  cases g:aZ x m with
  |false=>rfl
  |true=>exact absurd (.inl g) hst2
 have hahd:qW c s (atA s x)=false:=by
  cases g:qW c s (atA s x)with
  |false=>rfl
  |true=>exact absurd (.inr (.inl g)) hst2
 have hfree:pX x.a (aW s false x.a.pos).1 x.aE=true:=by
  cases g:pX x.a (aW s false x.a.pos).1 x.aE with
  |true=>rfl
  |false=>exact absurd (.inr (.inr g)) hst2
 have hah2:x.e.halted=true\/(aW s true x.e.pos).2.2=false\/(m:Int)<IntKind.i64.wrap ((aW s true x.e.pos).2.1+c.jW):=by
  unfold qW at hahd;rw[e1,b2]at hahd;simp only[zaW,Bool.not_eq_false',zaP]at hahd;rcases hahd with g|g|g|g
  ·exact .inl g
  ·exact absurd g hf
  ·exact .inr (.inl g)
  ·exact .inr (.inr (Int.not_le.1 g))
 rw[b2]at hfree ⊢;simp only[hf,if_false,zaU]at hfree ⊢;obtain⟨_,hk,hj⟩:=a2.2.resolve_right (fun h=>hf h.1);have hi:rho p (gD p) m<p.code.length:=by have:=eO a2.1.hb;have:=a2.1.pc;omega
 generalize hcell:jN (j:Int) (ix (cel p o false (rho p (gD p) m)) i)=cell at hfree ⊢;have hkd:=aMU hs hi (by rw[eW];exact hk);rw[<-pQ hk]at hkd;have hkd0:cell.kind=(ix (cel p o false (rho p (gD p) m)) i).kind:=by rw[<-hcell];rfl
 rw[<-hkd0]at hkd;obtain⟨⟨v1,v2⟩,v3,v4,v5⟩:=aWO hs (c:=c) (st:=(m:Int)) hv1 hk hcell.symm (cy:=x.aE) hfree hw htg hcy;have hres:=bCR (cell:=cell) hs a1 (B:=B) (j:=j) a2.1 hk hj (by show m<=_;omega) hhal hcy hlat hcell.symm v3;obtain⟨m',i',r1,r2,r3,r4⟩:=hres;have r1:m'<=m+1:=r1;have r2:Inv c p o (gD p) (cS (cS n false m) false m') (cS (cS k false i) false i') (dN c s (atA s x) cell (m:Int)):=r2;cases hd:lK c (atA s x) cell with
 |true =>
  have r3:Dn p o (gD p) false m' i'=Dn p o (gD p) false m i++[(m,ix (cel p o false (rho p (gD p) m)) i)]:=r3 hd;obtain⟨f1,f2,f3,f4⟩:=aWQ (s:=s) (st:=(m:Int)) hkd hd;have hle:m<=m':=by
   rcases Nat.lt_or_ge m' m with g|g
   ·exfalso;have h1:=congrArg (fun l=>(m,ix (cel p o false (rho p (gD p) m)) i)∈l) r3;simp only[List.mem_append,List.mem_singleton,or_true,eq_iff_iff,iff_true]at h1;unfold Dn at h1;rcases List.mem_append.1 h1 with h2|h2
    ·obtain⟨q,hq,h3⟩:=List.mem_flatMap.1 h2;obtain⟨z,_,h4⟩:=List.mem_map.1 h3;have h5:=List.mem_range.1 hq;have h6:q=m:=congrArg Prod.fst h4;omega
    ·obtain⟨z,_,h4⟩:=List.mem_map.1 h2;have h6:m'=m:=congrArg Prod.fst h4;omega
   ·exact g
  rw[hkd0]at f3;refine⟨cS (cS n false m) false m',cS (cS k false i) false i',rfl,rfl,by show n false<=m';have:n false<=m:=a3;omega,by show m'<=_;omega,r2, ?_,.inl f1,.inr (.inr ⟨m,ix (cel p o false (rho p (gD p) m)) i, ?_,a3,hle,hhal,by rw[f2];exact hhal,hm,hstop,hah2,f1,f3,f4⟩)⟩
  ·show Val p (Dn p o (gD p) false m' i') (Dn p o (gD p) true (n true) (k true)) _ _;rw[r3];exact v1 hd
  ·show Dn p o (gD p) false m' i'=_;rw[r3,a5]
 |false =>
  obtain⟨rfl,rfl⟩:m'=m/\i'=i:=r4 hd;have wJ:∀ y:Stt,dN c s (atA s x) cell (m':Int)=y->TrS p x y->a61 p o c s (n false) m' (k false) i' x y->∃ n' k',n' true=n true/\k' true=k true/\n false<=n' false/\n' false<=n false+(p.code.length+1)/\Inv c p o (gD p) n' k' y/\Val p (Dn p o (gD p) false (n' false) (k' false)) (Dn p o (gD p) true (n' true) (k' true)) y y.table/\TrS p x y/\a61 p o c s (n false) (n' false) (k false) (k' false) x y:=fun y hy ht ho=>by have v2:=v2 hd;rw[hy]at r2 v2;exact⟨cS (cS n false m') false m',cS (cS k false i') false i',rfl,rfl,a3,by show m'<=_;omega,r2,v2,ht,ho⟩
  rcases a2I (s:=s) (st:=(m':Int)) hkd hd with g|⟨kd,g1,g2,g3⟩|⟨g1,g2⟩
  ·rw[g];exact wJ _ g (.inl rfl) (.inl ⟨a5,hst⟩)
  ·rw[g3];refine noted kd _ g1 (.inr ?_);rcases g2 with⟨g4,g5⟩|⟨g4,g5⟩
   ·rw[<-v4 g4];exact g5
   ·rw[<-v5 g4.1 g4.2];exact decide_eq_false g5
  ·rw[g2];exact wJ _ g2 (.inl rfl) (.inr (.inl ⟨a5,hhal,rfl,rfl,rfl,rfl⟩))
end
def bG5:List XV->XSt->Option ((XV->XSt->Prop)->Prop):=aYZ (fun q:List Int×Wr=>[aB 1 eP q.1,mQ q.2]) (fun q=>q.1.length<=1000000) (fun q=>eM q.1 q.2) (fun n y=>.sl n [] 0 0 y.length 1) (fun y=>aE1 y)
theorem bCS (m:List Int) (w:Wr) (r t:XV):(aB6 TB3 5 (bL TB3 5 20) 48 [aB 1 eP m,mQ w] ⟨[],[],0⟩ (fun v σ=>eB v ⟨[],σ.hl,σ.n⟩ r t))=(
 let q1:=decide ¬w.size=1;
 let q2:=cond q1 (decide ¬w.size=2) false;
 let q3:=cond q2 (decide ¬w.size=4) false;
 let q4:=cond q3 true (decide (w.addr<0));
 let q5:=cond q4 true (decide (w.addr>4294967295));
 let q6:=dV w.size (IntKind.wrap .u32 w.addr) (↑(m.length):Int);
 let q7:XV:=.sl 1 [] 0 0 m.length 1;
 let q8:List (Nat×Option XV):=[(0,some (mQ w))];
 let q9:=XSt.mk [] ((1,some (.tab m.length 1 fun i=>eP (ix m i)))::q8) 2;
 let q10:=IntKind.wrap .i64 (w.addr+0);
 let q11:=(↑(pl 0 m.length):Int);
 let q12:=Int.toNat q10;
 let q13:=q12*1;
 let q14:=decide (q12<m.length);
 let q15:=IntKind.wrap .i64 ((0:Int)+1);
 let q16:=IntKind.wrap .i64 (w.addr+1);
 let q17:=IntKind.wrap .i64 (w.addr+q15);
 let q18:=Int.toNat q16;
 let q19:=q18*1;
 let q20:=decide (q18<m.length);
 let q21:=IntKind.wrap .i64 (q15+1);
 let q22:=IntKind.wrap .i64 (w.addr+2);
 let q23:=IntKind.wrap .i64 (w.addr+q21);
 let q24:=Int.toNat q22;
 let q25:=q24*1;
 let q26:=decide (q24<m.length);
 let q27:=IntKind.wrap .i64 (q21+1);
 let q28:=IntKind.wrap .i64 (w.addr+3);
 let q29:=IntKind.wrap .i64 (w.addr+q27);
 let q30:=Int.toNat q28;
 let q31:=q30*1;
 let q32:=decide (q30<m.length);
 let q33:=IntKind.wrap .i64 (q27+1);
 let q34:=IntKind.wrap .i64 (w.addr+4);
 let q35:=IntKind.wrap .i64 (w.addr+q33);
 let q36:=Int.toNat q34;
 let q37:=q36*1;
 let q38:=decide (q36<m.length);
 let q39:=fun(j:Nat)=>cond (Nat.beq j q12) (IntKind.wrap .u8 (Int.fdiv w.val (1:Int))) (ix m j);
 let q40:=fun(j:Nat)=>cond (Nat.beq j q18) (IntKind.wrap .u8 (Int.fdiv w.val (256:Int))) (q39 j);
 let q41:=fun(j:Nat)=>cond (Nat.beq j q24) (IntKind.wrap .u8 (Int.fdiv w.val (65536:Int))) (q40 j);cond (decide (m.length*1<=140737488355328)) (cond (cond q1 q1 true) (cond (cond q2 q2 true) (cond (cond q3 true (!q3)) (cond (cond q4 true (!q4)) (cond (cond q5 true (!q5)) (cond (cond q5 true (decide
  ¬q6=0)) (eB q7 q9 r t) (cond (decide (0<w.size)) (cond (decide (0<=q10)) (cond (decide (q10<(↑(m.length):Int))) (cond (Nat.beq q13 q13) (cond q14 (cond q14 (cond (decide (1<w.size)) (cond (decide (0<=q16)) (cond (decide (q16<(↑(m.length):Int))) (cond (Nat.beq q19 q19) (cond q20 (cond q20 (cond (decide (2<w.size)) (cond (decide (0<=q22)) (cond (decide (q22<(↑(m.length):Int))) (cond (Nat.beq q25 q25) (cond q26 (cond q26 (cond (decide (3<w.size)) (cond (decide (0<=q28)) (cond (decide
  (q28<(↑(m.length):Int))) (cond (Nat.beq q31 q31) (cond q32 (cond q32 (cond (decide (4<w.size)) (cond (decide (0<=q34)) (cond (decide (q34<(↑(m.length):Int))) (cond (Nat.beq q37 q37) (cond q38 (cond q38 False False) False) False) False) False) (eB q7 (XSt.mk [] ((1,some (.tab m.length 1 fun j=>.int .u8
  (cond (Nat.beq j q30) (IntKind.wrap .u8 (Int.fdiv w.val (16777216:Int))) (q41 j))))::q8) 2) r t)) False) False) False) False) False) (eB q7 (XSt.mk
  [] ((1,some (.tab m.length 1 fun j=>.int .u8 (q41 j)))::q8) 2) r t)) False) False) False) False) False) (eB q7 (XSt.mk [] ((1,some (.tab m.length 1
  fun j=>.int .u8 (q40 j)))::q8) 2) r t)) False) False) False) False) False) (eB q7 (XSt.mk [] ((1,some (.tab m.length 1 fun j=>.int .u8 (q39 j))) ::
  q8) 2) r t)) False) False) False) False) False) (eB q7 q9 r t))) False) False) False) False) False) False):=by kernel_rfl
theorem bCT (m:List Int) (a d:Int) (r t:XV):(aB6 TB3 5 (bL TB3 5 20) 48 [aB 1 eP m,.agg 3 [.int .i64 a,.int .i64 1,.int .u32 d]] ⟨[],[],0⟩ (fun v σ=>eB v ⟨[],σ.hl,σ.n⟩ r t))=(
 let q1:=decide (a<0);
 let q2:=cond q1 true (decide (a>4294967295));
 let q3:=dV (1:Int) (IntKind.wrap .u32 a) (↑(m.length):Int);
 let q4:XV:=.sl 1 [] 0 0 m.length 1;
 let q5:List (Nat×Option XV):=[(0,some (.agg 3 [.int .i64 a,.int .i64 1,.int .u32 d]))];
 let q6:=IntKind.wrap .i64 (a+0);
 let q7:=Int.toNat q6;
 let q8:=q7*1;
 let q9:=decide (q7<m.length);cond (decide (m.length*1<=140737488355328)) (cond (cond q1 true (!q1)) (cond (cond q2 true (!q2)) (cond (cond q2 true (decide
  ¬q3=0)) (eB q4 (XSt.mk [] ((1,some (.tab m.length 1 fun i=>eP (ix m i)))::q5) 2) r t) (cond (decide (0<=q6)) (cond (decide (q6<(↑(m.length):Int))) (cond (Nat.beq
  q8 q8) (cond q9 (cond q9 (eB q4 (XSt.mk [] ((1,some (.tab m.length 1 fun j=>.int .u8 (cond (Nat.beq j q7) (IntKind.wrap .u8 (Int.fdiv d (1:Int))) (ix m j)))) ::
  q5) 2) r t) False) False) False) False) False)) False) False) False):=by kernel_rfl
theorem bCU (m:List Int) (a d:Int) (r t:XV):(aB6 TB3 5 (bL TB3 5 20) 48 [aB 1 eP m,.agg 3 [.int .i64 a,.int .i64 2,.int .u32 d]] ⟨[],[],0⟩ (fun v σ=>eB v ⟨[],σ.hl,σ.n⟩ r t))=(
 let q1:=decide (a<0);
 let q2:=cond q1 true (decide (a>4294967295));
 let q3:=dV (2:Int) (IntKind.wrap .u32 a) (↑(m.length):Int);
 let q4:XV:=.sl 1 [] 0 0 m.length 1;
 let q5:List (Nat×Option XV):=[(0,some (.agg 3 [.int .i64 a,.int .i64 2,.int .u32 d]))];
 let q6:=IntKind.wrap .i64 (a+0);
 let q7:=(↑(pl 0 m.length):Int);
 let q8:=Int.toNat q6;
 let q9:=q8*1;
 let q10:=decide (q8<m.length);
 let q11:=IntKind.wrap .i64 (a+1);
 let q12:=IntKind.wrap .i64 (a+IntKind.wrap .i64 ((0:Int)+1));
 let q13:=Int.toNat q11;
 let q14:=q13*1;
 let q15:=decide (q13<m.length);cond (decide (m.length*1<=140737488355328)) (cond (cond q1 true (!q1)) (cond (cond q2 true (!q2)) (cond (bif q2 then true else
  decide ¬q3=0) (eB q4 (XSt.mk [] ((1,some (.tab m.length 1 fun i=>eP (ix m i)))::q5) 2) r t) (cond (decide (0<=q6)) (cond (decide (q6<(↑(m.length):Int))) (cond (Nat.beq q9 q9) (cond q10 (cond q10 (cond (decide (0<=q11)) (cond (decide (q11<(↑(m.length):Int))) (cond (Nat.beq q14 q14) (cond q15 (cond q15 (eB q4
  (XSt.mk [] ((1,some (.tab m.length 1 fun j=>.int .u8 (cond (Nat.beq j q13) (IntKind.wrap .u8 (Int.fdiv d (256:Int))) (cond (Nat.beq j q8) (IntKind.wrap .u8 (Int.fdiv d (1
  : Int))) (ix m j)))))::q5) 2) r t) False) False) False) False) False) False) False) False) False) False)) False) False) False)
  := by kernel_rfl
theorem bCV (m:List Int) (a d:Int) (r t:XV):(aB6 TB3 5 (bL TB3 5 20) 48 [aB 1 eP m,.agg 3 [.int .i64 a,.int .i64 4,.int .u32 d]] ⟨[],[],0⟩ (fun v σ=>eB v ⟨[],σ.hl,σ.n⟩ r t))=(
 let q1:=decide (a<0);
 let q2:=cond q1 true (decide (a>4294967295));
 let q3:=dV (4:Int) (IntKind.wrap .u32 a) (↑(m.length):Int);
 let q4:XV:=.sl 1 [] 0 0 m.length 1;
 let q5:List (Nat×Option XV):=[(0,some (.agg 3 [.int .i64 a,.int .i64 4,.int .u32 d]))];
 let q6:=IntKind.wrap .i64 (a+0);
 let q7:=(↑(pl 0 m.length):Int);
 let q8:=Int.toNat q6;
 let q9:=q8*1;
 let q10:=decide (q8<m.length);
 let q11:=IntKind.wrap .i64 (a+1);
 let q12:=IntKind.wrap .i64 ((0:Int)+1);
 let q13:=IntKind.wrap .i64 (a+q12);
 let q14:=Int.toNat q11;
 let q15:=q14*1;
 let q16:=decide (q14<m.length);
 let q17:=IntKind.wrap .i64 (a+2);
 let q18:=IntKind.wrap .i64 (q12+1);
 let q19:=IntKind.wrap .i64 (a+q18);
 let q20:=Int.toNat q17;
 let q21:=q20*1;
 let q22:=decide (q20<m.length);
 let q23:=IntKind.wrap .i64 (a+3);
 let q24:=IntKind.wrap .i64 (a+IntKind.wrap .i64 (q18+1));
 let q25:=Int.toNat q23;
 let q26:=q25*1;
 let q27:=decide (q25<m.length);cond (decide (m.length*1<=140737488355328)) (cond (cond q1 true (!q1)) (cond (cond q2 true (!q2)) (cond (bif q2 then true else
  decide ¬q3=0) (eB q4 (XSt.mk [] ((1,some (.tab m.length 1 fun i=>eP (ix m i)))::q5) 2) r t) (cond (decide (0<=q6)) (cond (decide (q6<(↑(m.length):Int))) (cond (Nat.beq q9 q9) (cond q10 (cond q10 (cond (decide (0<=q11)) (cond (decide (q11<(↑(m.length):Int))) (cond (Nat.beq q15 q15) (cond q16 (cond q16 (cond (decide
  (0<=q17)) (cond (decide (q17<(↑(m.length):Int))) (cond (Nat.beq q21 q21) (cond q22 (cond q22 (cond (decide (0<=q23)) (cond (decide (q23<(↑(m.length):Int))) (cond (Nat.beq q26 q26) (cond q27 (cond q27 (eB q4 (XSt.mk [] ((1,some (.tab m.length 1 fun j=>.int .u8 (cond (Nat.beq j q25) (IntKind.wrap .u8 (Int.fdiv d (16777216:Int))) (cond (Nat.beq j q20) (IntKind.wrap .u8 (Int.fdiv d (65536:Int))) (cond (Nat.beq j q14) (IntKind.wrap .u8 (Int.fdiv d (256:Int))) (cond (Nat.beq j q8) (IntKind.wrap
  .u8 (Int.fdiv d (1:Int))) (ix m j)))))))::q5) 2) r t) False) False) False) False) False) False) False) False) False) False) False) False) False) False) False) False) False) False) False) False)) False) False) False):=by kernel_rfl
theorem vH {m m':List Int} {f:Nat->XV} {c:XV} (hl:m'.length=m.length) (h:∀ i,i<m.length->con (f i)=con (eP (ix m' i))):eB (.sl 1 [] 0 0 m.length 1) ⟨[],[(1,some (.tab m.length 1 f)),(0,some c)],2⟩ (.sl 0 [] 0 0 m'.length 1) (aE1 m') :=
 ⟨.inl ⟨1,by show some (con (.tab m.length 1 f))=some (con (aE1 m'));unfold aE1;rw[hl,qK h],by rw[hl];rfl⟩⟩
theorem bID (m:List Int) (a d:Int) (hn:m.length<=1000000):aB6 TB3 5 (bL TB3 5 20) 48 [aB 1 eP m,.agg 3 [.int .i64 a,.int .i64 1,.int .u32 d]] ⟨[],[],0⟩ (fun v σ=>eB v ⟨[],σ.hl,σ.n⟩ (.sl 0 [] 0 0 (eM m ⟨a,1,d⟩).length 1) (aE1 (eM m ⟨a,1,d⟩))):=by
 refine Eq.mpr (bCT m a d _ _) ?_;have hl:(eM m ⟨a,1,d⟩).length=m.length:=bG;have hb:m.length*1<=140737488355328:=by omega
 have key:∀ i,i<m.length->con (eP (ix (eM m ⟨a,1,d⟩) i))=con (jR (okW m.length a 1) (fun i=>eP (ix m i)) a.toNat 1 d i):=fun i hi=>by unfold eM;rw[kB hi];rfl
 cases hok:okW m.length a 1 with
 |false => have h0:=yV (by omega) hok;rw[hok]at key;simp only[zaC,zaE,zaB,zaD,aD,zaF,zaO,zaQ,aS,bI,zaI,zaH,zaN,zaM,zaT,zaR,zaS,ge_iff_le,Int.le_refl,if_true,if_false,reduceCtorEq,eq_self,BEq.rfl]at h0 ⊢;simp only[hb,h0,zaC,zaE,zaB,zaD,aD,zaF,zaO,zaQ,aS,bI,zaI,zaH,zaN,zaM,zaT,zaR,zaS,ge_iff_le,Int.le_refl,if_true,if_false,reduceCtorEq,eq_self,BEq.rfl];exact vH hl (fun i hi=>(key i hi).symm)
 |true =>
  rw[hok]at key;obtain⟨hs,ha,ha2,hch⟩:=nQ.1 hok;obtain⟨hin,_⟩:=uW hs ha ha2 (by omega) hch;have h1:¬a<0:=by omega
  have h2:¬a>4294967295:=by omega
  have h2':a<4294967296:=by omega
  have h2n:¬a>=4294967296:=by omega
  have h3:IntKind.u32.wrap a=a:=wrap_u32 ha ha2;have e0:(IntKind.i64.wrap (a+0)).toNat=a.toNat+0:=by rw[wrap_i64 (by omega) (by omega)];omega
  have z0:(0:Int)<=IntKind.i64.wrap (a+0):=by rw[wrap_i64 (by omega) (by omega)];omega
  have y0:IntKind.i64.wrap (a+0)<m.length:=by rw[wrap_i64 (by omega) (by omega)];omega
  have x0:a.toNat+0<m.length:=by omega
  simp only[hb,h1,h2,h2',h2n,ha,h3,hch,e0,z0,y0,x0,zaN,zaC,zaE,zaB,zaD,aD,zaF,zaO,zaQ,aS,bI,zaI,zaH,zaN,zaM,zaT,zaR,zaS,ge_iff_le,Int.le_refl,if_true,if_false,reduceCtorEq,eq_self,BEq.rfl];refine vH hl (fun i hi => ?_);rw[key i hi];by_cases h0:i=a.toNat+0
  ·rw[iT (j:=0) (by omega) h0];simp only[h0,zaQ,zaB,zaD,Nat.mul_one];rw[oC (by omega),wU8];rfl
  rw[uX (by omega)];simp only[dB h0,zaD,Nat.mul_one];rfl
theorem bIE (m:List Int) (a d:Int) (hn:m.length<=1000000):aB6 TB3 5 (bL TB3 5 20) 48 [aB 1 eP m,.agg 3 [.int .i64 a,.int .i64 2,.int .u32 d]] ⟨[],[],0⟩ (fun v σ=>eB v ⟨[],σ.hl,σ.n⟩ (.sl 0 [] 0 0 (eM m ⟨a,2,d⟩).length 1) (aE1 (eM m ⟨a,2,d⟩))):=by
 refine Eq.mpr (bCU m a d _ _) ?_;have hl:(eM m ⟨a,2,d⟩).length=m.length:=bG;have hb:m.length*1<=140737488355328:=by omega
 have key:∀ i,i<m.length->con (eP (ix (eM m ⟨a,2,d⟩) i))=con (jR (okW m.length a 2) (fun i=>eP (ix m i)) a.toNat 2 d i):=fun i hi=>by unfold eM;rw[kB hi];rfl
 cases hok:okW m.length a 2 with
 |false => have h0:=yV (by omega) hok;rw[hok]at key;simp only[zaC,zaE,zaB,zaD,aD,zaF,zaO,zaQ,aS,bI,zaI,zaH,zaN,zaM,zaT,zaR,zaS,ge_iff_le,Int.le_refl,if_true,if_false,reduceCtorEq,eq_self,BEq.rfl]at h0 ⊢;simp only[hb,h0,zaC,zaE,zaB,zaD,aD,zaF,zaO,zaQ,aS,bI,zaI,zaH,zaN,zaM,zaT,zaR,zaS,ge_iff_le,Int.le_refl,if_true,if_false,reduceCtorEq,eq_self,BEq.rfl];exact vH hl (fun i hi=>(key i hi).symm)
 |true =>
  rw[hok]at key;obtain⟨hs,ha,ha2,hch⟩:=nQ.1 hok;obtain⟨hin,_⟩:=uW hs ha ha2 (by omega) hch;have h1:¬a<0:=by omega
  have h2:¬a>4294967295:=by omega
  have h2':a<4294967296:=by omega
  have h2n:¬a>=4294967296:=by omega
  have h3:IntKind.u32.wrap a=a:=wrap_u32 ha ha2;have e0:(IntKind.i64.wrap (a+0)).toNat=a.toNat+0:=by rw[wrap_i64 (by omega) (by omega)];omega
  have z0:(0:Int)<=IntKind.i64.wrap (a+0):=by rw[wrap_i64 (by omega) (by omega)];omega
  have y0:IntKind.i64.wrap (a+0)<m.length:=by rw[wrap_i64 (by omega) (by omega)];omega
  have x0:a.toNat+0<m.length:=by omega
  have e1:(IntKind.i64.wrap (a+1)).toNat=a.toNat+1:=by rw[wrap_i64 (by omega) (by omega)];omega
  have z1:(0:Int)<=IntKind.i64.wrap (a+1):=by rw[wrap_i64 (by omega) (by omega)];omega
  have y1:IntKind.i64.wrap (a+1)<m.length:=by rw[wrap_i64 (by omega) (by omega)];omega
  have x1:a.toNat+1<m.length:=by omega
  simp only[hb,h1,h2,h2',h2n,ha,h3,hch,e0,z0,y0,x0,e1,z1,y1,x1,zaN,zaC,zaE,zaB,zaD,aD,zaF,zaO,zaQ,aS,bI,zaI,zaH,zaN,zaM,zaT,zaR,zaS,ge_iff_le,Int.le_refl,if_true,if_false,reduceCtorEq,eq_self,BEq.rfl];refine vH hl (fun i hi => ?_);rw[key i hi];by_cases h0:i=a.toNat+0
  ·rw[iT (j:=0) (by omega) h0];simp only[h0,zaQ,dB (show ¬a.toNat+0=a.toNat+1 by omega),zaB,zaD,Nat.mul_one];rw[oC (by omega),wU8];rfl
  by_cases h1:i=a.toNat+1
  ·rw[iT (j:=1) (by omega) h1];simp only[h1,zaQ,zaB,zaD,Nat.mul_one];rw[oC (by omega),wU8];rfl
  rw[uX (by omega)];simp only[dB h0,dB h1,zaD,Nat.mul_one];rfl
theorem bIF (m:List Int) (a d:Int) (hn:m.length<=1000000):aB6 TB3 5 (bL TB3 5 20) 48 [aB 1 eP m,.agg 3 [.int .i64 a,.int .i64 4,.int .u32 d]] ⟨[],[],0⟩ (fun v σ=>eB v ⟨[],σ.hl,σ.n⟩ (.sl 0 [] 0 0 (eM m ⟨a,4,d⟩).length 1) (aE1 (eM m ⟨a,4,d⟩))):=by
 refine Eq.mpr (bCV m a d _ _) ?_;have hl:(eM m ⟨a,4,d⟩).length=m.length:=bG;have hb:m.length*1<=140737488355328:=by omega
 have key:∀ i,i<m.length->con (eP (ix (eM m ⟨a,4,d⟩) i))=con (jR (okW m.length a 4) (fun i=>eP (ix m i)) a.toNat 4 d i):=fun i hi=>by unfold eM;rw[kB hi];rfl
 cases hok:okW m.length a 4 with
 |false => have h0:=yV (by omega) hok;rw[hok]at key;simp only[zaC,zaE,zaB,zaD,aD,zaF,zaO,zaQ,aS,bI,zaI,zaH,zaN,zaM,zaT,zaR,zaS,ge_iff_le,Int.le_refl,if_true,if_false,reduceCtorEq,eq_self,BEq.rfl]at h0 ⊢;simp only[hb,h0,zaC,zaE,zaB,zaD,aD,zaF,zaO,zaQ,aS,bI,zaI,zaH,zaN,zaM,zaT,zaR,zaS,ge_iff_le,Int.le_refl,if_true,if_false,reduceCtorEq,eq_self,BEq.rfl];exact vH hl (fun i hi=>(key i hi).symm)
 |true =>
  rw[hok]at key;obtain⟨hs,ha,ha2,hch⟩:=nQ.1 hok;obtain⟨hin,_⟩:=uW hs ha ha2 (by omega) hch;have h1:¬a<0:=by omega
  have h2:¬a>4294967295:=by omega
  have h2':a<4294967296:=by omega
  have h2n:¬a>=4294967296:=by omega
  have h3:IntKind.u32.wrap a=a:=wrap_u32 ha ha2;have e0:(IntKind.i64.wrap (a+0)).toNat=a.toNat+0:=by rw[wrap_i64 (by omega) (by omega)];omega
  have z0:(0:Int)<=IntKind.i64.wrap (a+0):=by rw[wrap_i64 (by omega) (by omega)];omega
  have y0:IntKind.i64.wrap (a+0)<m.length:=by rw[wrap_i64 (by omega) (by omega)];omega
  have x0:a.toNat+0<m.length:=by omega
  have e1:(IntKind.i64.wrap (a+1)).toNat=a.toNat+1:=by rw[wrap_i64 (by omega) (by omega)];omega
  have z1:(0:Int)<=IntKind.i64.wrap (a+1):=by rw[wrap_i64 (by omega) (by omega)];omega
  have y1:IntKind.i64.wrap (a+1)<m.length:=by rw[wrap_i64 (by omega) (by omega)];omega
  have x1:a.toNat+1<m.length:=by omega
  have e2:(IntKind.i64.wrap (a+2)).toNat=a.toNat+2:=by rw[wrap_i64 (by omega) (by omega)];omega
  have z2:(0:Int)<=IntKind.i64.wrap (a+2):=by rw[wrap_i64 (by omega) (by omega)];omega
  have y2:IntKind.i64.wrap (a+2)<m.length:=by rw[wrap_i64 (by omega) (by omega)];omega
  have x2:a.toNat+2<m.length:=by omega
  have e3:(IntKind.i64.wrap (a+3)).toNat=a.toNat+3:=by rw[wrap_i64 (by omega) (by omega)];omega
  have z3:(0:Int)<=IntKind.i64.wrap (a+3):=by rw[wrap_i64 (by omega) (by omega)];omega
  have y3:IntKind.i64.wrap (a+3)<m.length:=by rw[wrap_i64 (by omega) (by omega)];omega
  have x3:a.toNat+3<m.length:=by omega
  simp only[hb,h1,h2,h2',h2n,ha,h3,hch,e0,z0,y0,x0,e1,z1,y1,x1,e2,z2,y2,x2,e3,z3,y3,x3,zaN,zaC,zaE,zaB,zaD,aD,zaF,zaO,zaQ,aS,bI,zaI,zaH,zaN,zaM,zaT,zaR,zaS,ge_iff_le,Int.le_refl,if_true,if_false,reduceCtorEq,eq_self,BEq.rfl];refine vH hl (fun i hi => ?_);rw[key i hi];by_cases h0:i=a.toNat+0
  ·rw[iT (j:=0) (by omega) h0];simp only[h0,zaQ,dB (show ¬a.toNat+0=a.toNat+1 by omega),dB (show ¬a.toNat+0=a.toNat+2 by omega),dB (show ¬a.toNat+0=a.toNat+3 by omega),zaB,zaD,Nat.mul_one];rw[oC (by omega),wU8];rfl
  by_cases h1:i=a.toNat+1
  ·rw[iT (j:=1) (by omega) h1];simp only[h1,zaQ,dB (show ¬a.toNat+1=a.toNat+2 by omega),dB (show ¬a.toNat+1=a.toNat+3 by omega),zaB,zaD,Nat.mul_one];rw[oC (by omega),wU8];rfl
  by_cases h2:i=a.toNat+2
  ·rw[iT (j:=2) (by omega) h2];simp only[h2,zaQ,dB (show ¬a.toNat+2=a.toNat+3 by omega),zaB,zaD,Nat.mul_one];rw[oC (by omega),wU8];rfl
  by_cases h3:i=a.toNat+3
  ·rw[iT (j:=3) (by omega) h3];simp only[h3,zaQ,zaB,zaD,Nat.mul_one];rw[oC (by omega),wU8];rfl
  rw[uX (by omega)];simp only[dB h0,dB h1,dB h2,dB h3,zaD,Nat.mul_one];rfl
theorem bCW:aYG zPr qq (48,bG5):=aLS (fun n y=>rfl) fun⟨m,w⟩ h=>by
 have hn:m.length<=1000000:=h;obtain⟨a,s,d⟩:=w;show wK _ _ (cons [aB 1 eP m,.agg 3 [.int .i64 a,.int .i64 s,.int .u32 d]]) (con (.sl 0 [] 0 0 (eM m ⟨a,s,d⟩).length 1)) (con (aE1 (eM m ⟨a,s,d⟩)));refine bEG (u:=5) (k:=20) mix a7X (rJ _ (dH.2 fun i _=>rfl)) rfl ?_;by_cases h1:s=1
 ·subst h1;exact bID m a d hn
 by_cases h2:s=2
 ·subst h2;exact bIE m a d hn
 by_cases h4:s=4
 ·subst h4;exact bIF m a d hn
 have hok:okW m.length a s=false:=by rw[<-Bool.not_eq_true];intro h;have:=(nQ.1 h).1;omega
 have hb:m.length*1<=140737488355328:=by omega
 refine Eq.mpr (bCS m ⟨a,s,d⟩ _ _) ?_;simp only[hb,h1,h2,h4,zaM,zaC,zaE,zaB,zaD,aD,zaF,zaO,zaQ,aS,bI,zaI,zaH,zaN,zaM,zaT,zaR,zaS,ge_iff_le,Int.le_refl,if_true,if_false,reduceCtorEq,eq_self,BEq.rfl];refine vH bG (fun i hi => ?_);unfold eM;rw[kB hi,hok];rfl
def aM1 (s:jP):Prop:=bK s.fin/\s.aT.wf/\bK s.steps/\(∀ i,i<16->gC (s.bC i))/\((∀ x∈s.mem,u8R x)/\s.mem.length*1<=140737488351232)/\((∀ x∈s.writes,x.wf)/\s.writes.length*24<=140737488351232)
def aWR (s:jP):Prop:=aM1 s/\s.mem.length<=1000000/\s.writes.length<=1000000
def sM (g:Nat->Int) (n:Int):Int:=if n=0 then 0 else g n.toNat
def a8O:List XV->Option ((XV->Prop)->Prop):=eZ (fun q:(Nat->Int)×Int=>[.tab 16 1 (fun i=>.int .u32 (q.1 i)),.int .i64 q.2]) (fun q=>0<=q.2/\q.2<=15) (fun q=>sM q.1 q.2) (fun y=>.int .u32 y)
def TS0:Tab:=fW qq fX [] [] [] []
def aP2 (r:jP) (k pc:Int):jP:={ r with fin:=2,aT:=⟨k,r.steps,pc⟩ }
def aWS (r:jP) (d v:Int):jP:={ r with bC:=fun i=>cond (!decide (d=0)&&Nat.beq i d.toNat) v (r.bC i) }
def rA (r:jP):jP:={ r with steps:=IntKind.i64.wrap (r.steps+1) }
def aI7 (r:jP) (i:Ins):Int:=IntKind.u32.wrap (sM r.bC i.a+IntKind.u32.wrap i.imm)
def bIG (r:jP) (a s v:Int):jP:={ r with mem:=eM r.mem ⟨a,s,v⟩,writes:=r.writes++[⟨a,s,v⟩] }
def aR3 (i:Ins) (r:jP) (pc:Int):jP×Int :=
 if(aC i.op=4\/aC i.op=5)/\¬dV (szI i.op) (aI7 r i) r.mem.length=0 then(aP2 r (dV (szI i.op) (aI7 r i) r.mem.length) pc,pc)
 else if aC i.op=4 then(rA (aWS r i.d (kO r.mem i.op (aI7 r i))),IntKind.i64.wrap (pc+1))
 else if aC i.op=5 then(rA (bIG r (aI7 r i) (szI i.op) (n6 (sM r.bC i.b) (szI i.op))),IntKind.i64.wrap (pc+1))
 else if aC i.op=6 then(rA r,if Alu.tkB i.op (sM r.bC i.a) (sM r.bC i.b)then IntKind.i64.wrap (pc+i.imm)else IntKind.i64.wrap (pc+1))
 else if aC i.op=7 then(rA r,IntKind.i64.wrap (pc+i.imm))
 else if aC i.op=8 then({ rA r with fin:=1 },pc)
 else if Alu.dkB i.op i.d i.a i.b i.imm (sM r.bC i.b)=false then(aP2 r 3 pc,pc)
 else(rA (aWS r i.d (Alu.doI i.op i.d i.a i.b i.imm (sM r.bC i.a) (sM r.bC i.b))),IntKind.i64.wrap (pc+1))
def tY (p:Prog) (r:jP) (pc:Int):jP×Int :=
 if ¬r.fin=0\/aL p=false\/¬(r.mem.length:Int)=p.size then(r,pc)
 else if pc<0\/pc>=p.code.length then(aP2 r 4 pc,pc)else aR3 (ix p.code pc.toNat) r pc
def bCX (y:jP×Int):XV:=.tup [nJ y.1,.int .i64 y.2]
def a8P:List XV->Option ((XV->Prop)->Prop):=eZ (fun q:Prog×jP×Int=>[aJ q.1,nJ q.2.1,.int .i64 q.2.2]) (fun q=>q.1.wf/\aWR q.2.1/\q.2.1.writes.length<=999999) (fun q=>tY q.1 q.2.1 q.2.2) bCX
def TS1:Tab:=fW qq fX [(41,lM),(43,aRK),(42,aKC),(47,aTL),(46,aRL),(44,Alu.a0N),(49,Alu.a0Q)] [] [(20,aRD),(40,a8O)] [(48,bG5)]
theorem bG6:bT zPr TS0:=bQ dY trivial trivial trivial trivial
theorem bCY (g:Nat->Int) (n:Int) (r:XV):(aO TS0 80 (bL TS0 80 20) 40 [.tab 16 1 (fun i=>.int .u32 (g i)),.int .i64 n] (fun v=>aA v r))=(
 let q1:=Int.toNat n*1;cond (decide (n=0)) (aA (.int .u32 0) r) (cond (decide (0<=n)) (cond (decide (n<16)) (cond (Nat.beq q1 q1) (cond (decide (Int.toNat n<16)) (aA (.int .u32 (g (Int.toNat n))) r) False) False) False) False)):=by kernel_rfl
theorem bCZ (p:Prog) (s:jP) (pc:Int) (r:XV):(aO TS1 80 (bL TS1 80 20) 23 [aJ p,nJ s,.int .i64 pc] (fun v=>aA v r))=(
 let q1:=decide ¬s.fin=0;
 let q2:=fun(y:Bool)=>cond q1 true (!y);
 let q3:=(↑(pl 0 s.mem.length):Int);
 let q4:=decide (s.mem.length<=s.mem.length);
 let q5:=decide (s.writes.length<=s.writes.length);
 let q6:XV:=.tup [nJ s,.int .i64 pc];
 let q7:=decide (pc<0);
 let q8:List XV:=[.int .i64 s.steps,.int .i64 pc];
 let q9:XV:=.tab 16 1 fun i=>.int .u32 (s.bC i);
 let q10:List XV:=[aB 1 eP s.mem,aB 3 mQ s.writes];
 let q11:List XV:=q9::q10;
 let q12:List XV:=.int .i64 s.steps::q11;
 let q13:(Nat->Int)×Int->List XV:=fun s=>[.tab 16 1 fun i=>.int .u32 (s.1 i),.int .i64 s.2];
 let q14:(Nat->Int)×Int->Int:=fun s=>sM s.1 s.2;
 let q15:=decide (aC (Ins.op (ix p.code (Int.toNat pc)))=4);
 let q16:=decide (aC (Ins.op (ix p.code (Int.toNat pc)))=5);
 let q17:=fun(y:Int)=>IntKind.wrap .u32 (y+IntKind.wrap .u32 (Ins.imm (ix p.code (Int.toNat pc))));
 let q18:=fun(y:Int)=>dV (szI (Ins.op (ix p.code (Int.toNat pc)))) (q17 y) p.size;
 let q19:=decide (aC (Ins.op (ix p.code (Int.toNat pc)))=1);
 let q20:=fun(y:Int)=>decide (0<=y);
 let q21:=fun(y:Int)=>decide (y<=4294967295);
 let q22:=fun(y:Int) => !Alu.dkB (Ins.op (ix p.code (Int.toNat pc))) (Ins.d (ix p.code (Int.toNat pc))) (Ins.a (ix p.code (Int.toNat pc))) (Ins.b (ix p.code (Int.toNat pc))) (Ins.imm
  (ix p.code (Int.toNat pc))) y;
 let q23:XV:=.tup [.agg 23 (.int .i64 2::.agg 3 (.int .i64 3::q8)::q12),.int .i64 pc];
 let q24:=decide ¬Ins.d (ix p.code (Int.toNat pc))=0;
 let q25:=decide (0<=Ins.d (ix p.code (Int.toNat pc)));
 let q26:=decide (Ins.d (ix p.code (Int.toNat pc))<16);
 let q27:=pl 5 (Int.toNat (Ins.d (ix p.code (Int.toNat pc)))*1);
 let q28:=Nat.beq q27 q27;
 let q29:=decide (Int.toNat (Ins.d (ix p.code (Int.toNat pc)))<16);
 let q30:=decide (s.fin=1);
 let q31:XV:=.int .i64 (IntKind.wrap .i64 (s.steps+1));
 let q32:Int->Int->XV:=fun y y_1=>.agg 23 (.int .i64 s.fin::lH s.aT::q31::(.tab 16 1 fun j=>.int .u32 (cond (Nat.beq j (Int.toNat (Ins.d (ix p.code (Int.toNat pc))))) (Alu.doI (Ins.op (ix p.code (Int.toNat pc))) (Ins.d (ix p.code (Int.toNat pc))) (Ins.a (ix p.code (Int.toNat pc))) (Ins.b (ix p.code (Int.toNat pc))) (Ins.imm (ix p.code (Int.toNat
  pc))) y y_1) (s.bC j)))::q10);
 let q33:Int->Int->XV:=fun y y_1=>.tup [q32 y y_1,.int .i64 pc];
 let q34:List XV:=[.int .i64 (IntKind.wrap .i64 (pc+1))];
 let q35:Int->Int->XV:=fun y y_1=>.tup (q32 y y_1::q34);
 let q36:List XV:=lH s.aT::q31::q11;
 let q37:XV:=.agg 23 (.int .i64 s.fin::q36);
 let q38:XV:=.tup [q37,.int .i64 pc];
 let q39:XV:=.tup (q37::q34);
 let q40:=decide (s.mem.length<=1099511627776);
 let q41:=aQ8 s.mem.length fun i=>eP (ix s.mem i);
 let q42:=fun(y:Int)=>decide (0<=q17 y);
 let q43:=fun(y:Int)=>decide (q17 y<=4294967295);
 let q44:Int->XV:=fun y=>.agg 23 (.int .i64 s.fin::lH s.aT::q31::(.tab 16 1 fun j=>.int .u32 (cond (Nat.beq j (Int.toNat (Ins.d (ix p.code (Int.toNat pc))))) (xJ
  s.mem.length (fun i=>eP (ix s.mem i)) (Ins.op (ix p.code (Int.toNat pc))) (q17 y)) (s.bC j)))::q10);
 let q45:Int->XV:=fun y=>.tup [q44 y,.int .i64 pc];
 let q46:Int->XV:=fun y=>.tup (q44 y::q34);
 let q47:=fun(y:Int)=>IntKind.wrap .i64 (q17 y);
 let q48:Int->Int->List XV:=fun y y_1=>[aB 1 eP s.mem,.agg 3 [.int .i64 (q47 y),.int .i64 (szI (Ins.op (ix p.code (Int.toNat pc)))),.int .u32 (n6 y_1 (szI (Ins.op (ix
  p.code (Int.toNat pc)))))]];
 let q49:List Int×Wr->List XV:=fun s=>[aB 1 eP s.1,mQ s.2];
 let q50:=pl (pl 0 s.writes.length) (List.length [AX.t 154]);
 let q51:=decide (pl s.writes.length 1*24<=140737488355328);
 let q52:List Int->Bool:=fun y=>decide (y.length<=y.length);
 let q53:=decide (pl s.writes.length 1<=pl s.writes.length 1);
 let q54:=fun(i:Nat)=>decide (i<s.writes.length);
 let q55:List Int->Int->Int->XV:=fun y y_1 y_2=>.agg 23 [.int .i64 s.fin,lH s.aT,q31,q9,aB 1 eP y,.row false 3 (pl s.writes.length 1) fun i=>.agg 3 [.int .i64
  (cond (q54 i) ((ix s.writes i).addr) (q47 y_1)),.int .i64 (cond (q54 i) ((ix s.writes i).size) (szI (Ins.op (ix p.code (Int.toNat pc))))),.int .u32 (cond (q54 i) ((ix s.writes
  i).val) (n6 y_2 (szI (Ins.op (ix p.code (Int.toNat pc))))))]];
 let q56:List Int->Int->Int->XV:=fun y y_1 y_2=>.tup [q55 y y_1 y_2,.int .i64 pc];
 let q57:List Int->Int->Int->XV:=fun y y_1 y_2=>.tup (q55 y y_1 y_2::q34);
 let q58:=decide (aC (Ins.op (ix p.code (Int.toNat pc)))=6);
 let q59:XV:=.tup [q37,.int .i64 (IntKind.wrap .i64 (pc+Ins.imm (ix p.code (Int.toNat pc))))];
 let q60:=decide (aC (Ins.op (ix p.code (Int.toNat pc)))=7);
 let q61:=decide (aC (Ins.op (ix p.code (Int.toNat pc)))=8);
 let q62:XV:=.tup [.agg 23 (.int .i64 1::q36),.int .i64 pc];
 let q63:=decide (aC (Ins.op (ix p.code (Int.toNat pc)))=2);
 let q64:=decide (aC (Ins.op (ix p.code (Int.toNat pc)))=3);cond (decide (s.mem.length*1<=140737488355328)) (cond (decide (s.writes.length*24<=140737488355328)) (cond (!q1) (∃(s_1:Prog),aI [aJ p] [aJ s_1]/\aN s_1.wf/\∀(y:Bool),y=aL s_1->cond (cond (q2 y) true (!q2 y)) (bif cond (q2 y) true (decide
  ¬(↑(s.mem.length):Int)=p.size) then cond q4 (cond q5 (aA q6 r) False) False else cond (cond q7 true (!q7)) (bif cond q7 true (decide (pc>=(↑(p.code.length)
  : Int)))then cond q4 (cond q5 (aA (.tup [.agg 23 (.int .i64 2::.agg 3 (.int .i64 4::q8)::q12),.int .i64 pc]) r) False) False else cond (decide (0<=pc)) (cond (decide (pc<(↑(p.code.length):Int))) (∃(s_2:(Nat->Int)×Int),aI [q9,.int .i64 (Ins.a (ix p.code (Int.toNat pc)))] (q13 s_2)/\aN (0<=s_2.2/\s_2.2<=15)/\∀(y
  : Int),y=q14 s_2->∃(s_3:(Nat->Int)×Int),aI [q9,.int .i64 (Ins.b (ix p.code (Int.toNat pc)))] (q13 s_3)/\aN (0<=s_3.2/\s_3.2<=15)/\∀(y_1:Int),y_1=q14 s_3
  -> cond (cond q15 true (!q15)) (cond (cond q15 true q16) (cond (decide ¬q18 y=0) (cond q4 (cond q5 (aA (.tup [.agg 23 (.int .i64 2::.agg 3 (.int .i64
  (q18 y)::q8)::q12),.int .i64 pc]) r) False) False) (cond q19 (cond q19 (cond (q20 y) (cond (q21 y) (cond (q20 y_1) (cond (q21 y_1) (cond (q22 y_1) (cond q4 (cond q5 (aA q23 r) False) False) (cond q24 (cond q25 (cond q26 (cond q28 (cond q29 (cond q29 (cond q30 (cond q4 (cond q5 (aA (q33
  y y_1) r) False) False) (cond q4 (cond q5 (aA (q35 y y_1) r) False) False)) False) False) False) False) False) (cond q30 (cond q4 (cond q5 (aA q38 r) False) False) (cond q4 (cond q5 (aA q39 r) False) False)))) False) False) False) False) (cond q15 (cond q4 (cond q40 (cond (gP (fun i=>true) s.mem.length) (cond q41 (cond (q42 y) (cond (q43 y) (cond q24 (cond q25 (cond q26 (cond q28 (cond q29 (cond q29 (cond q30 (cond q4 (cond q5 (aA (q45 y) r) False) False) (cond q4 (cond q5 (aA (q46 y) r) False) False)) False) False) False) False) False) (cond q30 (cond q4 (cond q5 (aA q38 r) False) False) (cond q4 (cond q5 (aA q39 r) False) False))) False) False) False) False) False) False) (cond q16 (cond q4 (∃(s:List Int×Wr),aI (q48 y y_1) (q49 s)/\aN (s.1.length<=1000000)/\∀(y_2:List Int),y_2=eM s.1
  s.2->cond q5 (cond q51 (cond q30 (cond (q52 y_2) (cond q53 (aA (q56 y_2 y y_1) r) False) False) (cond (q52 y_2) (cond q53 (aA (q57 y_2 y y_1) r) False) False)) False) False) False) (cond q58 (cond (q20 y) (cond (q21 y) (cond (q20 y_1) (cond (q21 y_1) (cond (Alu.tkB (Ins.op (ix p.code (Int.toNat pc))) y
  y_1) (cond q30 (cond q4 (cond q5 (aA q38 r) False) False) (cond q4 (cond q5 (aA q59 r) False) False)) (cond q30 (cond q4 (cond q5 (aA q38 r) False) False) (cond q4 (cond q5 (aA q39 r) False) False))) False) False) False) False) (cond q60 (cond q30 (cond q4 (cond q5 (aA q38 r) False) False) (cond q4 (cond q5 (aA q59 r) False) False)) (cond q61 (cond q4 (cond q5 (aA q62 r) False) False) (cond q30 (cond q4 (cond q5 (aA q38 r) False) False) (cond q4 (cond q5 (aA q39 r) False) False)))))))) (cond q63 (cond q63 (cond (q20 y) (cond (q21 y) (cond (q20 y_1) (cond (q21 y_1) (cond (q22 y_1) (cond q4 (cond q5 (aA q23 r) False) False) (cond q24 (cond q25 (cond q26 (cond q28 (cond q29 (cond q29 (cond q30 (cond q4 (cond q5 (aA (q33 y y_1) r) False) False) (cond q4 (cond q5 (aA (q35 y y_1) r) False) False)) False) False) False) False) False) (cond q30 (cond q4 (cond q5 (aA q38 r) False) False) (cond q4 (cond q5 (aA q39 r) False) False)))) False) False) False) False) (cond q15 (cond q4 (cond q40 (cond (gP (fun i=>true) s.mem.length) (cond q41 (cond (q42 y) (cond (q43 y) (cond q24 (cond q25 (cond q26 (cond q28 (cond q29 (cond q29 (cond q30 (cond q4 (cond q5 (aA (q45 y) r) False) False) (cond q4 (cond q5 (aA
  (q46 y) r) False) False)) False) False) False) False) False) (cond q30 (cond q4 (cond q5 (aA q38 r) False) False) (cond q4 (cond q5 (aA q39 r) False) False))) False) False) False) False) False) False) (cond q16 (cond q4 (∃(s:List Int×Wr),aI (q48 y y_1) (q49
  s)/\aN (s.1.length<=1000000)/\∀(y_2:List Int),y_2=eM s.1 s.2->cond q5 (cond q51 (cond q30 (cond (q52 y_2) (cond q53 (aA (q56 y_2 y y_1) r) False) False) (cond (q52 y_2) (cond q53 (aA (q57 y_2 y y_1) r) False) False)) False) False) False) (cond q58 (cond (q20 y) (cond (q21 y) (cond (q20 y_1) (cond (q21 y_1) (cond (Alu.tkB (Ins.op (ix p.code (Int.toNat pc))) y y_1) (cond q30 (cond q4 (cond q5 (aA q38 r) False) False) (cond q4 (cond q5 (aA
  q59 r) False) False)) (cond q30 (cond q4 (cond q5 (aA q38 r) False) False) (cond q4 (cond q5 (aA q39 r) False) False))) False) False) False) False) (cond q60 (cond q30 (cond q4 (cond q5 (aA q38 r) False) False) (cond q4 (cond q5 (aA q59 r) False) False)) (cond q61 (cond q4 (cond q5 (aA q62 r) False) False) (cond q30 (cond q4 (cond q5 (aA q38 r) False) False) (cond q4 (cond q5 (aA
  q39 r) False) False)))))))) (cond q64 (cond (q20 y) (cond (q21 y) (cond (q20 y_1) (cond (q21 y_1) (cond (q22 y_1) (cond q4 (cond q5 (aA q23 r) False) False) (cond q24 (cond q25 (cond q26 (cond q28 (cond q29 (cond q29 (cond q30 (cond q4 (cond q5 (aA (q33 y y_1) r) False) False) (cond q4 (cond q5 (aA (q35 y y_1) r) False) False)) False) False) False) False) False) (cond q30 (cond q4 (cond q5 (aA q38 r) False) False) (cond q4 (cond q5 (aA q39 r) False) False)))) False) False) False) False) (cond q15 (cond q4 (cond q40 (cond (gP (fun i=>true) s.mem.length) (cond q41 (cond (q42 y) (cond (q43 y) (cond q24 (cond q25 (cond q26 (cond q28 (cond q29 (cond q29 (cond q30 (cond q4 (cond q5 (aA (q45 y) r) False) False) (cond q4 (cond q5 (aA (q46 y) r) False) False)) False) False) False) False) False) (cond q30 (cond q4 (cond q5 (aA q38 r) False) False) (cond q4 (cond q5 (aA q39 r) False) False))) False) False) False) False) False) False) (cond q16 (cond q4 (∃(s:List Int×Wr),aI (q48 y y_1) (q49 s)/\aN (s.1.length<=1000000)/\∀(y_2:List Int),y_2=eM s.1 s.2->cond q5 (cond q51 (cond q30 (cond (q52
  y_2) (cond q53 (aA (q56 y_2 y y_1) r) False) False) (cond (q52 y_2) (cond q53 (aA (q57 y_2 y y_1) r) False) False)) False) False) False) (cond q58 (cond (q20 y) (cond (q21 y) (cond (q20 y_1) (cond (q21 y_1) (cond (Alu.tkB (Ins.op (ix p.code (Int.toNat pc))) y y_1) (cond q30 (cond q4 (cond q5 (aA
  q38 r) False) False) (cond q4 (cond q5 (aA q59 r) False) False)) (cond q30 (cond q4 (cond q5 (aA q38 r) False) False) (cond q4 (cond q5 (aA q39 r) False) False))) False) False) False) False) (cond q60 (cond q30 (cond q4 (cond q5 (aA q38 r) False) False) (cond q4 (cond q5 (aA q59 r) False) False)) (cond q61 (cond q4 (cond q5 (aA q62 r) False) False) (cond q30 (cond q4 (cond q5 (aA
  q38 r) False) False) (cond q4 (cond q5 (aA q39 r) False) False))))))))))) (cond q19 (cond q19 (cond (q20 y) (cond (q21 y) (cond (q20 y_1) (cond (q21 y_1) (cond (q22 y_1) (cond q4 (cond q5 (aA q23 r) False) False) (cond q24 (cond q25 (cond q26 (cond q28 (cond q29 (cond q29 (cond q30 (cond q4 (cond q5 (aA (q33 y y_1) r) False) False) (cond q4 (cond q5 (aA (q35 y y_1) r) False) False)) False) False) False) False) False) (cond q30 (cond q4 (cond q5 (aA q38 r) False) False) (cond q4 (cond q5 (aA q39 r) False) False)))) False) False) False) False) (cond q15 (cond q4 (cond q40 (cond (gP (fun i=>true) s.mem.length) (cond q41 (cond (q42 y) (cond (q43 y) (cond q24 (cond q25 (cond q26 (cond q28 (cond q29 (cond q29 (cond q30 (cond q4 (cond q5 (aA (q45 y) r) False) False) (cond q4 (cond q5 (aA (q46 y) r) False) False)) False) False) False) False) False) (cond q30 (cond q4 (cond q5 (aA q38 r) False) False) (cond q4 (cond q5 (aA q39 r) False) False))) False) False) False) False) False) False) (cond q16 (cond q4 (∃(s:List Int×Wr),aI (q48 y y_1) (q49 s)/\aN (s.1.length<=1000000)/\∀(y_2
  : List Int),y_2=eM s.1 s.2->cond q5 (cond q51 (cond q30 (cond (q52 y_2) (cond q53 (aA (q56 y_2 y y_1) r) False) False) (cond (q52 y_2) (cond q53 (aA (q57 y_2 y y_1) r) False) False)) False) False) False) (cond q58 (cond (q20 y) (cond (q21 y) (cond (q20 y_1) (cond (q21 y_1) (cond (Alu.tkB (Ins.op
  (ix p.code (Int.toNat pc))) y y_1) (cond q30 (cond q4 (cond q5 (aA q38 r) False) False) (cond q4 (cond q5 (aA q59 r) False) False)) (cond q30 (cond q4 (cond q5 (aA q38 r) False) False) (cond q4 (cond q5 (aA q39 r) False) False))) False) False) False) False) (cond q60 (cond q30 (cond q4 (cond q5 (aA q38 r) False) False) (cond q4 (cond q5 (aA q59 r) False) False)) (cond q61 (cond q4 (cond q5 (aA q62 r) False) False) (cond q30 (cond q4 (cond q5 (aA q38 r) False) False) (cond q4 (cond q5 (aA q39 r) False) False)))))))) (cond q63 (cond q63 (cond (q20 y) (cond (q21 y) (cond (q20 y_1) (cond (q21 y_1) (cond (q22 y_1) (cond q4 (cond q5 (aA q23 r) False) False) (cond q24 (cond q25 (cond q26 (cond q28 (cond q29 (cond q29 (cond q30 (cond q4 (cond q5 (aA (q33 y y_1) r) False) False) (cond q4 (cond q5 (aA (q35 y
  y_1) r) False) False)) False) False) False) False) False) (cond q30 (cond q4 (cond q5 (aA q38 r) False) False) (cond q4 (cond q5 (aA q39 r) False) False)))) False) False) False) False) (cond q15 (cond q4 (cond q40 (cond (gP (fun i=>true) s.mem.length) (cond q41 (cond (q42 y) (cond (q43 y) (cond q24 (cond q25 (cond q26 (cond q28 (cond q29 (cond q29 (cond q30 (cond q4 (cond q5 (aA (q45 y) r) False) False) (cond q4 (cond q5 (aA (q46 y) r) False) False)) False) False) False) False) False) (cond q30 (cond q4 (cond q5 (aA q38 r) False) False) (cond q4 (cond q5 (aA q39 r) False) False))) False) False) False) False) False) False) (cond q16 (cond q4 (∃(s
  : List Int×Wr),aI (q48 y y_1) (q49 s)/\aN (s.1.length<=1000000)/\∀(y_2:List Int),y_2=eM s.1 s.2->cond q5 (cond q51 (cond q30 (cond (q52 y_2) (cond q53 (aA (q56 y_2 y y_1) r) False) False) (cond (q52 y_2) (cond q53 (aA (q57 y_2 y y_1) r) False) False)) False) False) False) (cond q58 (cond (q20 y) (cond (q21 y) (cond (q20 y_1) (cond (q21 y_1) (cond (Alu.tkB (Ins.op (ix p.code (Int.toNat pc))) y y_1) (cond q30 (cond q4 (cond q5 (aA q38 r) False) False) (cond q4 (cond q5 (aA q59 r) False) False)) (cond q30 (cond q4 (cond q5 (aA q38 r) False) False) (cond q4 (cond q5 (aA
  q39 r) False) False))) False) False) False) False) (cond q60 (cond q30 (cond q4 (cond q5 (aA q38 r) False) False) (cond q4 (cond q5 (aA q59 r) False) False)) (cond q61 (cond q4 (cond q5 (aA q62 r) False) False) (cond q30 (cond q4 (cond q5 (aA q38 r) False) False) (cond q4 (cond q5 (aA q39 r) False) False)))))))) (cond q64 (cond (q20 y) (cond (q21 y) (cond (q20 y_1) (cond (q21 y_1) (cond (q22 y_1) (cond q4 (cond q5 (aA q23 r) False) False) (cond q24 (cond q25 (cond q26 (cond q28 (cond q29 (cond q29 (cond q30 (cond q4 (cond q5 (aA (q33 y y_1)
  r) False) False) (cond q4 (cond q5 (aA (q35 y y_1) r) False) False)) False) False) False) False) False) (cond q30 (cond q4 (cond q5 (aA q38 r) False) False) (cond q4 (cond q5 (aA q39 r) False) False)))) False) False) False) False) (cond q15 (cond q4 (cond q40 (cond (gP (fun i=>true) s.mem.length) (cond q41 (cond (q42 y) (cond (q43 y) (cond q24 (cond q25 (cond q26 (cond q28 (cond q29 (cond q29 (cond q30 (cond q4 (cond q5 (aA (q45 y) r) False) False) (cond q4 (cond q5 (aA (q46 y) r) False) False)) False) False) False) False) False) (cond q30 (cond q4 (cond q5 (aA q38 r) False) False) (cond q4 (cond q5 (aA q39 r) False) False))) False) False) False) False) False) False) (cond q16 (cond q4 (∃(s:List Int×Wr),aI (q48 y y_1) (q49 s)/\aN (s.1.length<=1000000)/\∀(y_2:List Int),y_2=eM s.1 s.2 ->
  cond q5 (cond q51 (cond q30 (cond (q52 y_2) (cond q53 (aA (q56 y_2 y y_1) r) False) False) (cond (q52 y_2) (cond q53 (aA (q57 y_2 y y_1) r) False) False)) False) False) False) (cond q58 (cond (q20 y) (cond (q21 y) (cond (q20 y_1) (cond (q21 y_1) (cond (Alu.tkB (Ins.op (ix p.code (Int.toNat pc))) y y_1) (cond q30 (cond q4 (cond q5 (aA q38 r) False) False) (cond q4 (cond q5 (aA q59 r) False) False)) (cond q30 (cond q4 (cond q5 (aA
  q38 r) False) False) (cond q4 (cond q5 (aA q39 r) False) False))) False) False) False) False) (cond q60 (cond q30 (cond q4 (cond q5 (aA q38 r) False) False) (cond q4 (cond q5 (aA q59 r) False) False)) (cond q61 (cond q4 (cond q5 (aA q62 r) False) False) (cond q30 (cond q4 (cond q5 (aA q38 r) False) False) (cond q4 (cond q5 (aA q39 r) False) False))))))))))) False) False) False) False) False) (cond q1 (cond q4 (cond q5 (aA q6 r) False) False) False)) False) False):=by kernel_rfl
theorem aFR (x:Int):gC (IntKind.u32.wrap x):=by rw[IntKind.wrap_u32];unfold gC;omega
theorem bC0 (op d x y m:Int) {a b:Int} (ha:gC a) (hb:gC b):gC (Alu.doI op d x y m a b):=by
 unfold Alu.doI;split
 ·unfold gC;omega
 ·split
  ·unfold gC;omega
  ·split
   ·exact Alu.aFN _ ha.1 ha.2 (by omega) (by omega)
   ·exact Alu.aFN _ ha.1 ha.2 hb.1 hb.2
theorem a62 {w n:Int} (h:gC w):gC (n6 w n):=by
 unfold n6;split
 ·exact aFR _
 split
 ·exact aFR _
 split
 ·exact h
 ·unfold gC;omega
theorem aIA {n:Int} {t:Bool} (h:uU n t=true):0<=n/\n<=15:=by unfold uU at h;simp only[zaV,zaG,zaK]at h;omega
theorem aKR {i:Ins} (h:bY i=true):(0<=i.d/\i.d<=15)/\(0<=i.a/\i.a<=15)/\(0<=i.b/\i.b<=15)/\¬aC i.op=0:=by simp only[bY,zaG,zaK]at h;exact⟨aIA h.2.1,aIA h.2.2.1,aIA h.2.2.2.1,h.1⟩
theorem aKS {p:Prog} (h:aL p=true) {n:Nat} (hn:n<p.code.length):bY (ix p.code n)=true:=by simp only[aL,zaG]at h;exact dH.1 h.2.1 n hn
theorem aFS {g:Nat->Int} (hg:∀ i,i<16->gC (g i)) {n:Int} (h0:0<=n) (h1:n<=15):gC (sM g n):=by
 unfold sM;split
 ·unfold gC;omega
 ·exact hg _ (by omega)
def bG7 (r s:jP):Prop:=aM1 s/\s.mem.length=r.mem.length/\(s.writes.length=r.writes.length\/s.writes.length=r.writes.length+1)
theorem a2J {r:jP} {d v:Int} (h:aM1 r) (hv:gC v):aM1 (rA (aWS r d v)):=by
 obtain⟨h1,h2,h3,h4,h5,h6⟩:=h;refine⟨h1,h2,cY _,fun i hi => ?_,h5,h6⟩;show gC (cond _ v (r.bC i));cases (!decide (d=0)&&Nat.beq i d.toNat)with
 |true=>exact hv
 |false=>exact h4 i hi
theorem aM2 {r:jP} {k pc:Int} (h:aM1 r) (hk:bK k) (hp:bK pc):aM1 (aP2 r k pc):=by obtain⟨h1,h2,h3,h4,h5,h6⟩:=h;exact⟨by show bK 2;unfold bK;omega,⟨hk,h3,hp⟩,h3,h4,h5,h6⟩
theorem aM3 {r:jP} (h:aM1 r):aM1 (rA r):=by obtain⟨h1,h2,h3,h4,h5,h6⟩:=h;exact⟨h1,h2,cY _,h4,h5,h6⟩
theorem a2K (s a n:Int):bK (dV s a n):=by
 unfold dV bK
 repeat' split
 all_goals omega
theorem a63 {i:Ins} {r:jP} {pc:Int} (hi:bY i=true) (h:aWR r) (hw:r.writes.length<=999999) (hp:bK pc):bG7 r (aR3 i r pc).1/\bK (aR3 i r pc).2:=by
 obtain⟨hwf,hm,_⟩:=h;obtain⟨hd,ha,hb,_⟩:=aKR hi;have va:=aFS hwf.2.2.2.1 ha.1 ha.2;have vb:=aFS hwf.2.2.2.1 hb.1 hb.2;have ad:gC (aI7 r i):=aFR _;have k3:bK 3:=by unfold bK;omega
 unfold aR3
 repeat' split
 ·exact⟨⟨aM2 hwf (a2K _ _ _) hp,rfl,.inl rfl⟩,hp⟩
 ·exact⟨⟨a2J hwf (aO8 hwf.2.2.2.2.1.1 hm ad.1 ad.2),rfl,.inl rfl⟩,cY _⟩
 ·refine⟨⟨?_,oN,.inr (bD _ _)⟩,cY _⟩;obtain⟨h1,h2,h3,h4,h5,h6⟩:=hwf;refine⟨h1,h2,cY _,h4,⟨aZZ h5.1,by show(eM _ _).length*1<=_;rw[oN];exact h5.2⟩,fun x hx => ?_,by show(r.writes++[_]).length*24<=_;rw[bD];omega⟩;rcases List.mem_append.1 hx with hx|hx
  ·exact h6.1 x hx
  ·obtain rfl:=List.mem_singleton.1 hx;refine⟨by unfold gC at ad;show bK (aI7 r i);unfold bK;omega, ?_,a62 vb⟩;show bK (szI i.op);unfold szI bK
   repeat' split
   all_goals omega
 ·exact⟨⟨aM3 hwf,rfl,.inl rfl⟩,cY _⟩
 ·exact⟨⟨aM3 hwf,rfl,.inl rfl⟩,cY _⟩
 ·exact⟨⟨aM3 hwf,rfl,.inl rfl⟩,cY _⟩
 ·obtain⟨h1,h2,h3,h4,h5,h6⟩:=hwf;exact⟨⟨⟨by show bK 1;unfold bK;omega,h2,cY _,h4,h5,h6⟩,rfl,.inl rfl⟩,hp⟩
 ·exact⟨⟨aM2 hwf k3 hp,rfl,.inl rfl⟩,hp⟩
 ·exact⟨⟨a2J hwf (bC0 _ _ _ _ _ va vb),rfl,.inl rfl⟩,cY _⟩
theorem a2L {p:Prog} {r:jP} {pc:Int} (h:aWR r) (hw:r.writes.length<=999999) (hp:bK pc):bG7 r (tY p r pc).1/\bK (tY p r pc).2:=by
 unfold tY;split
 ·exact⟨⟨h.1,rfl,.inl rfl⟩,hp⟩
 ·rename_i h1;split
  ·exact⟨⟨aM2 h.1 (by unfold bK;omega) hp,rfl,.inl rfl⟩,hp⟩
  ·rename_i h2;have hr:aL p=true:=by
    cases hr:aL p with
    |true=>rfl
    |false=>exact absurd (.inr (.inl hr)) h1
   exact a63 (aKS hr (by omega)) h hw hp
theorem a64:eV zPr (40,a8O):=bB fun⟨g,n⟩ h=>by
 obtain⟨h0,h1⟩:0<=n/\n<=15:=h;show Pure _ _ (cons [.tab 16 1 (fun i=>.int .u32 (g i)),.int .i64 n]) (con (.int .u32 (sM g n)));refine fF (u:=80) (k:=20) mix bG6 ?_;refine Eq.mpr (bCY g n _) ?_;unfold sM;by_cases hz:n=0
 ·simp only[hz,zaC,zaB,if_true];exact .rfl
 ·have h2:n<16:=by omega
  have h3:n.toNat<16:=by omega
  simp only[hz,h0,h2,h3,zaQ,zaC,zaE,zaB,zaD,if_false];exact .rfl
theorem bG8:bT zPr TS1:=bQ dY ⟨kC,xI,yU,aTN,aOY,Alu.aRQ,Alu.aRR,trivial⟩ trivial ⟨aDT,a64,trivial⟩ ⟨bCW,trivial⟩
theorem aR4 {y:jP} {pc:Int} (hf:y.fin=0):aA (.tup [.agg 23 [.int .i64 0,lH y.aT,.int .i64 y.steps,.tab 16 1 (fun i=>.int .u32 (y.bC i)),aB 1 eP y.mem,aB 3 mQ y.writes],.int .i64 pc]) (bCX (y,pc)):=by obtain⟨f,t,st,g,m,w⟩:=y;have hf:f=0:=hf;subst hf;exact .rfl
theorem a2M {s:jP} {d v:Int} (h:¬d=0):aWS s d v = { s with bC:=fun i=>cond (Nat.beq i d.toNat) v (s.bC i) }:=by unfold aWS;congr;funext i;rw[decide_eq_false h];rfl
theorem a8Q {s:jP} {d v:Int} (h:d=0):aWS s d v=s:=by subst h;rfl
theorem bC1 {α:Type} [Inhabited α] {x:Bool} {es:Nat} {f:Nat->XV} {en:α->XV} {l:List α} {a:α} (h1:∀ j,j<l.length->con (f j)=con (en (ix l j))) (h2:con (f l.length)=con (en a)):leQ (con (.row x es (l.length+1) f)) (con (aB es en (l++[a]))) :=
 gZ (bD _ _).symm (.inl rfl) fun j hj=>by
  by_cases hlt:j<l.length
  ·rw[fM hlt,h1 j hlt];exact .refl _
  ·obtain rfl:j=l.length:=by omega
   rw[fN,h2];exact .refl _
theorem a65:eV zPr (23,a8P):=bB fun⟨p,s,pc⟩ h=>by
 obtain⟨hp,ho,hl⟩:p.wf/\aWR s/\s.writes.length<=999999:=h;obtain⟨hw,hm,_⟩:=ho;show Pure _ _ (cons [aJ p,nJ s,.int .i64 pc]) (con (bCX (tY p s pc)));refine fF (u:=80) (k:=20) mix bG8 ?_;refine Eq.mpr (bCZ p s pc _) ?_;have b1:s.mem.length*1<=140737488355328:=by omega
 have b2:s.writes.length*24<=140737488355328:=by omega
 have b3:(s.writes.length+1)*24<=140737488355328:=by omega
 have b4:s.mem.length<=1099511627776:=by omega
 have hu:aQ8 s.mem.length (fun i=>eP (ix s.mem i))=true:=aHD.2 fun i hi=>hw.2.2.2.2.1.1 _ (cA hi)
 simp only[b1,b2,b3,b4,hu,cC,zaF,aD,zaC,zaB];have q1:(¬s.fin=0\/aL p=false\/¬(s.mem.length:Int)=p.size)->tY p s pc=(s,pc):=fun h=>by unfold tY;rw[if_pos h]
 have q2:¬(¬s.fin=0\/aL p=false\/¬(s.mem.length:Int)=p.size)->tY p s pc=if pc<0\/pc>=p.code.length then(aP2 s 4 pc,pc)else aR3 (ix p.code pc.toNat) s pc:=fun h=>by unfold tY;rw[if_neg h]
 by_cases hf:s.fin=0
 case neg => rw[q1 (.inl hf)];simp only[hf,zaM,zaC,zaI,zaB,zaD];exact .rfl
 simp only[hf,zaN,zaE,zaH,zaB,zaD];refine⟨p,.rfl,⟨hp⟩, ?_⟩;intro y hy;replace hy:y=aL p:=hy;cases y with
 |false => rw[q1 (.inr (.inl hy.symm))];simp only[zaH,zaB];exact .rfl
 |true =>
 by_cases hsz:(s.mem.length:Int)=p.size
 case neg => rw[q1 (.inr (.inr hsz))];simp only[hsz,zaM,zaC,zaI,zaH,zaB,zaD];exact .rfl
 have q3:=q2 (fun h=>by
  rcases h with h|h|h
  ·exact h hf
  ·rw[h]at hy;cases hy
  ·exact h hsz)
 simp only[hsz,zaN,zaE,zaI,zaH,zaB,zaD];by_cases h1:pc<0
 ·rw[q3,if_pos (.inl h1)];simp only[h1,zaC,zaI,zaB,zaD];exact .rfl
 by_cases h2:pc>=p.code.length
 ·rw[q3,if_pos (.inr h2)];simp only[h1,h2,zaC,zaE,zaH,zaB,zaD];exact .rfl
 rw[q3,if_neg (by omega)];clear q1 q2 q3;have h3:0<=pc:=by omega
 have h4:pc<p.code.length:=by omega
 have hi:=aKS hy.symm (n:=pc.toNat) (by omega);obtain⟨hd,ha,hb,hfz⟩:=aKR hi;simp only[h1,h2,h3,h4,zaC,zaE,zaH,zaB,zaD];refine⟨(s.bC,(ix p.code pc.toNat).a),.rfl,⟨ha⟩, ?_⟩;intro a hav;replace hav:a=sM s.bC (ix p.code pc.toNat).a:=hav;refine⟨(s.bC,(ix p.code pc.toNat).b),.rfl,⟨hb⟩, ?_⟩;intro b hbv;replace hbv:b=sM s.bC (ix p.code pc.toNat).b:=hbv;have va:=aFS hw.2.2.2.1 ha.1 ha.2;have vb:=aFS hw.2.2.2.1 hb.1 hb.2;rw[<-hav]at va;rw[<-hbv]at vb;obtain⟨a0,a1⟩:0<=a/\a<=4294967295:=va;obtain⟨c0,c1⟩:0<=b/\b<=4294967295:=vb;generalize ix p.code pc.toNat=i at hi hd ha hb hfz hav hbv ⊢;have d1:i.d<16:=by omega
 have d2:i.d.toNat<16:=by omega
 have hadr:aI7 s i=IntKind.u32.wrap (a+IntKind.u32.wrap i.imm):=by unfold aI7;rw[<-hav]
 have adr:=aFR (a+IntKind.u32.wrap i.imm);obtain⟨e0,e1⟩:0<=IntKind.u32.wrap (a+IntKind.u32.wrap i.imm)/\IntKind.u32.wrap (a+IntKind.u32.wrap i.imm)<=4294967295:=adr;have ewa:IntKind.u32.wrap (IntKind.u32.wrap (a+IntKind.u32.wrap i.imm))=IntKind.u32.wrap (a+IntKind.u32.wrap i.imm):=wrap_u32 e0 e1;unfold aR3;rw[hadr,<-hav,<-hbv,hsz];have hfr:=aC0 i.op;rcases(by omega:aC i.op=1\/aC i.op=2\/aC i.op=3\/aC i.op=4\/aC i.op=5\/aC i.op=6\/aC i.op=7\/aC i.op=8)with hfm|hfm|hfm|hfm|hfm|hfm|hfm|hfm
 iterate 3
  ·simp only[hfm,Int.reduceEq,hd.1,d1,d2,a0,a1,c0,c1,false_and,false_or,or_false,zaC,zaE,zaB,zaD,if_false,zaQ,zaH,zaI];cases hdk:Alu.dkB i.op i.d i.a i.b i.imm b with
   |false=>simp only[zaH,zaB,if_true];exact .rfl
   |true =>
    simp only[zaI,zaD,Bool.true_eq_false,if_false];by_cases hz:i.d=0
    ·simp only[hz,zaN,zaE,zaD];rw[a8Q rfl];exact aR4 (y:=rA s) hf
    ·simp only[hz,zaM,zaC,zaB];rw[a2M hz];exact aR4 (y:=rA { s with bC:=fun j=>cond (Nat.beq j i.d.toNat) (Alu.doI i.op i.d i.a i.b i.imm a b) (s.bC j) }) hf
 ·simp only[hfm,Int.reduceEq,hd.1,d1,d2,a0,a1,c0,c1,e0,e1,false_and,false_or,or_false,true_or,true_and,zaC,zaE,zaB,zaD,if_false,if_true,zaQ,zaH,zaI];by_cases hk:dV (szI i.op) (IntKind.u32.wrap (a+IntKind.u32.wrap i.imm)) p.size=0
  case neg => simp only[hk,zaM,zaC,zaB,if_true];exact .rfl
  simp only[hk,zaN,zaE,zaD,if_false];by_cases hz:i.d=0
  ·simp only[hz,zaN,zaE,zaD];rw[a8Q rfl];exact aR4 (y:=rA s) hf
  ·simp only[hz,zaM,zaC,zaB];rw[a2M hz];exact aR4 (y:=rA { s with bC:=fun j=>cond (Nat.beq j i.d.toNat) (kO s.mem i.op (IntKind.u32.wrap (a+IntKind.u32.wrap i.imm))) (s.bC j) }) hf
 ·simp only[hfm,Int.reduceEq,hd.1,d1,d2,a0,a1,c0,c1,e0,e1,false_and,false_or,or_false,true_or,or_true,true_and,zaC,zaE,zaB,zaD,if_false,if_true,zaQ,zaH,zaI];by_cases hk:dV (szI i.op) (IntKind.u32.wrap (a+IntKind.u32.wrap i.imm)) p.size=0
  case neg => simp only[hk,zaM,zaC,zaB,if_true];exact .rfl
  simp only[hk,zaN,zaE,zaD,if_false];have w64:IntKind.i64.wrap (IntKind.u32.wrap (a+IntKind.u32.wrap i.imm))=IntKind.u32.wrap (a+IntKind.u32.wrap i.imm):=wrap_i64 (by omega) (by omega);simp only[w64];refine⟨(s.mem,⟨IntKind.u32.wrap (a+IntKind.u32.wrap i.imm),szI i.op,n6 b (szI i.op)⟩),.rfl,⟨hm⟩, ?_⟩;intro y hy;replace hy:y=eM s.mem ⟨IntKind.u32.wrap (a+IntKind.u32.wrap i.imm),szI i.op,n6 b (szI i.op)⟩:=hy;subst hy;refine⟨iZ (aF (gK (aF (a9S hf.symm) (aF (.refl _) (aF (.refl _) (aF (.refl _) (aF (.refl _) (aF (bC1 (fun j hj => ?_) ?_) bM))))))) (aF (.refl _) bM))⟩
  ·simp only[hj,zaC,zaB];rfl
  ·simp;rfl
 ·simp only[hfm,Int.reduceEq,hd.1,d1,d2,a0,a1,c0,c1,e0,e1,false_and,false_or,or_false,true_or,or_true,true_and,zaC,zaE,zaB,zaD,if_false,if_true,zaQ,zaH,zaI];cases htk:Alu.tkB i.op a b with
  |false=>simp only[zaD,zaU,if_false];exact aR4 (y:=rA s) hf
  |true=>simp only[zaB,if_true];exact aR4 (y:=rA s) hf
 ·simp only[hfm,Int.reduceEq,hd.1,d1,d2,a0,a1,c0,c1,e0,e1,false_and,false_or,or_false,true_or,or_true,true_and,zaC,zaE,zaB,zaD,if_false,if_true,zaQ,zaH,zaI];exact aR4 (y:=rA s) hf
 ·simp only[hfm,Int.reduceEq,hd.1,d1,d2,a0,a1,c0,c1,e0,e1,false_and,false_or,or_false,true_or,or_true,true_and,zaC,zaE,zaB,zaD,if_false,if_true,zaQ,zaH,zaI];exact .rfl
end Go.Proofs.YtooojfbfobmkfaaGreat
