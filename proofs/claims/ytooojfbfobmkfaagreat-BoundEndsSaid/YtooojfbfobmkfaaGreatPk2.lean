/- Texts put together. -/
import Derived.Laws.Strings
import Derived.KernelRfl
import GoSem.ClaimJoined
import Derived.ProofKit
import Derived.OpenShut
import Derived.WideShapes
import Derived.Carry
import Derived.ChangeOld
import Derived.SizedLaws
import Derived.Test.YtooojfbfobmkfaaGreatProg
import Derived.Test.YtooojfbfobmkfaaGreatPk1
namespace Go.Ra
set_option linter.unusedVariables false
set_option linter.unusedSimpArgs false
section
variable {P:Program} {z:ZM} {q:Nat->Bool} {C:Orc} {nt:Nat} {ops:Array Oper} {l:List AG} {σ:St} {S:Nat->St} {V:Nat->AV} {T:Nat->St}
def aE9 (listed:Array Bool):Nat->Prop:=fun j=>listed.getD j false=true
theorem aXX {listed:Array Bool} {i:Nat} (hi:i<listed.size):aE9 (listed.setIfInBounds i true)=fun j=>aE9 listed j\/j=i:=by
 funext j;unfold aE9;simp only[Array.getD_eq_getD_getElem?,Array.getElem?_setIfInBounds];by_cases h:i=j
 ·subst h;simp[hi]
 ·rw[if_neg h];simp only[eq_iff_iff];exact⟨.inl,fun h1=>h1.resolve_right (fun e=>h e.symm)⟩
def aK4 (fr:Fr) (G0:Gh) (w0:World) (nt:Nat) (q:Nat->Bool) (ops:Array Oper) (l:List AG) (σ:St) (S:Nat->St) (V:Nat->AV) (f0:Option Nat) (D:Nat->Prop) (a:Act) (w:World):Prop :=
 Mid (fun _=>False) undef (fun _=>False) (fun _=>none) fr G0 w0 nt q ops l σ S V D a w \/
 ∃ k o d zv b o0 ob,f0=some k/\ops[k]? = some o/\l[k]? = some ⟨d,.box (.c zv),none⟩/\zv.flat=true/\fH o=[]/\o.looksAt ops=[]/\Early fr b o0 zv ob/\D k /\
  Mid (fun t=>d=some t) (.pointer (some ⟨b,o0,none⟩)) (fun b'=>b'=b) (fun _=>ob) fr G0 w0 nt q ops l σ S V (fun j=>D j/\j≠k) a w/\∃ j g,j<k/\l[j]? = some g/\g.o.eff q=true/\¬D j
theorem aK4.of {ps:List (Nat×Nat)} {B:Nat->Nat->Prop} {f0:Option Nat} (hq:n8 q C) (hm:ops.toList.mapM (iX z P nt ops)=some l) (hok:OkR q ops l ps B f0) (ht:Trail C l σ S V T) {fr:Fr} {G0:Gh} {w0:World} {D:Nat->Prop} {a:Act} {w:World} {b o0:Nat} {ob:Option Obj} {k:Nat} {o:Oper} {d:Option Nat} {zv:AV}
  (hf:f0=some k) (ho:ops[k]? = some o) (hg:l[k]? = some ⟨d,.box (.c zv),none⟩) (hflat:zv.flat=true) (hedge:fH o=[]) (hlook:o.looksAt ops=[]) (he:Early fr b o0 zv ob) (hD:D k)
  (h:Mid (fun t=>d=some t) (.pointer (some ⟨b,o0,none⟩)) (fun b'=>b'=b) (fun _=>ob) fr G0 w0 nt q ops l σ S V (fun j=>D j/\j≠k) a w):aK4 fr G0 w0 nt q ops l σ S V f0 D a w:=by
 by_cases hex:∃ j g,j<k/\l[j]? = some g/\g.o.eff q=true/\¬D j
 ·exact .inr ⟨k,o,d,zv,b,o0,ob,hf,ho,hg,hflat,hedge,hlook,he,hD,h,hex⟩
 ·have:=h.bHV hq hm hok ht he ho hg hflat hedge (fun h=>h.2 rfl) fun j g hj hgj hej=>by
   refine⟨Classical.byContradiction fun hn=>hex ⟨j,g,hj,hgj,hej,hn⟩,by omega⟩
  refine .inl ?_;have e:(fun j=>(D j/\j≠k)\/j=k)=D:=by
   funext j;by_cases hj:j=k
   ·subst hj;simp[hD]
   ·simp[hj]
  rw[e]at this;exact this
theorem aK4.step {ps:List (Nat×Nat)} {B:Nat->Nat->Prop} {f0:Option Nat} (hC:qD P C) (hq:n8 q C) (hm:ops.toList.mapM (iX z P nt ops)=some l) (hok:OkR q ops l ps B f0) (ht:Trail C l σ S V T) (hsep:uB (S l.length) ps) {fr:Fr} {G0:Gh} {w0:World} {D:Nat->Prop} {a:Act} {w:World}
  (h:aK4 fr G0 w0 nt q ops l σ S V f0 D a w) {k:Nat} {o:Oper} (ho:ops[k]? = some o) (hD:¬D k) (he:∀ e∈fH o,D e) (hD1:∀ j,D j->j<ops.size) {K:Act->World->Prop} {Q:Exit->Act->World->Prop}
  (hK:∀ a' w',aK4 fr G0 w0 nt q ops l σ S V f0 (fun j=>D j\/j=k) a' w'->K a' w') :
  if Region.wanted o (yielded ops a.tmps)=true then o.wp P a w K Q else K (a.put o.dst undef) w:=by
 rcases h with h|⟨k0,oa,d,zv,b,o0,ob,hf,hoa,hg,hflat,hedge,hlook,hear,hDk,h,jx,gx,hx1,hx2,hx3,hx4⟩
 ·by_cases hfl:f0=some k/\∃ j g,j<k/\l[j]? = some g/\g.o.eff q=true/\¬D j
  ·obtain⟨hf,hex⟩:=hfl;obtain⟨o',d,zv,e1,e2,e3,e4,e5,_⟩:=hok.flo k hf;rw[ho]at e1;simp only[zaA]at e1;subst e1;refine h.early hC hm hok ht ho e2 e3 e5 hD fun a' w' b o0 ob hear hmid=>hK _ _ ?_
   refine aK4.of hq hm hok ht hf ho e2 e3 e4 e5 hear (.inr rfl) ?_;have e:(fun j=>(D j\/j=k)/\j≠k)=D:=by
    funext j;by_cases hj:j=k
    ·subst hj;simp[hD]
    ·simp[hj]
   rw[e];exact hmid
  ·refine h.step hC hq hm hok ht hsep ho hD he hD1 (fun _ _ h=>h) (fun _ _ h=>h) (fun j g hf hgj hj hej => ?_) fun a' w' hmid=>hK _ _ (.inl hmid)
   exact Classical.byContradiction fun hn=>hfl ⟨hf,j,g,hj,hgj,hej,hn⟩
 ·have hne:k≠k0:=fun e=>hD (by rw[e];exact hDk)
  obtain⟨oa',d',zv',f1,f2,f3,f4,f5,f6⟩:=hok.flo k0 hf;rw[hoa]at f1;simp only[zaA]at f1;subst f1;rw[hg]at f2;have hclosed:∀ j oj,ops[j]? = some oj->D j->∀ e∈fH oj,D e:=fun j oj hoj hDj e hej=>by
   by_cases hj:j=k0
   ·subst hj;rw[hoa]at hoj;simp only[zaA]at hoj;subst hoj;rw[hedge]at hej;cases hej
   ·exact(h.closed j oj hoj ⟨hDj,hj⟩ e hej).1
  have hno:k0∉fH o:=fun hmem=>by have h1:=f6 k o ho hmem jx gx hx1 hx2 hx3;have h2:=hok.a3J k o ho k0 hmem;exact hx4 (sS hok hclosed k o ho he jx (by omega) h1)
  have he':∀ e∈fH o,D e/\e≠k0:=fun e hm=>⟨he e hm,fun h=>hno (by rw[<-h];exact hm)⟩
  have hnb:∀ m,D m/\m≠k0->k0<m->¬B m k0:=by
   intro m
   induction m using Nat.strongRecOn with
   |_ m ih =>
    intro hDm hlt hB;have hm1:m<ops.size:=hD1 m hDm.1;have hom:=Array.getElem?_eq_getElem hm1;obtain⟨e,h1,h2⟩:=hok.bits m k0 _ hom hlt hB;have h3:=h.closed m _ hom hDm e h1;have h4:=hok.a3J m _ hom e h1;rcases h2 with rfl|⟨h2,h5⟩
    ·exact h3.2 rfl
    ·exact ih e h4 h3 h2 h5
  have hnbk:k0<k->¬B k k0:=fun hlt hB=>by
   obtain⟨e,h1,h2⟩:=hok.bits k k0 o ho hlt hB;have h3:=he' e h1;rcases h2 with rfl|⟨h2,h5⟩
   ·exact h3.2 rfl
   ·exact hnb e h3 h2 h5
  have hnb0:∀ j,j<k0->¬B k0 j:=fun j hj hB=>by obtain⟨e,h1,_⟩:=hok.bits k0 j oa hoa hj hB;rw[hedge]at h1;cases h1
  have hda:oa.dst=d:=by obtain⟨g',h1,h2⟩:=aSM hm hoa;rw[hg]at h1;simp only[zaA]at h1;subst h1;exact(gJ h2).2.2.1.symm
  refine h.step hC hq hm hok ht hsep ho (fun hh=>hD hh.1) he' (fun j hj=>hD1 j hj.1) (fun t ht2 hX => ?_) (fun d2 hd2 hX => ?_) (fun j g hf2 _ _ _ => ?_) fun a' w' hmid=>hK _ _ ?_
  ·have hn:aEF oa.dst (o.looksAt ops)=true:=by
    rw[hda,hX];simpa [aEF]using ht2
   rcases Nat.lt_trichotomy k k0 with hlt|hlt|hlt
   ·exact hnb0 k hlt (hok.lQ k0 k o oa hoa ho hlt (by simp[aF7,hn]))
   ·exact hne hlt
   ·exact hnbk hlt (hok.lQ k k0 oa o ho hoa hlt (by simp[aF7,hn]))
  ·rcases Nat.lt_trichotomy k k0 with hlt|hlt|hlt
   ·have:=hok.apart k0 k o oa hoa ho hlt;rw[hda,hX,hd2]at this;simp[uL]at this
   ·exact hne hlt
   ·have:=hok.apart k k0 oa o ho hoa hlt;rw[hda,hX,hd2]at this;simp[uL]at this
  ·rw[hf]at hf2;simp only[zaA]at hf2;exact absurd hf2.symm hne
  ·refine aK4.of hq hm hok ht hf hoa hg hflat hedge hlook hear (.inl hDk) ?_;have e:(fun j=>(D j\/j=k)/\j≠k0)=fun j=>(D j/\j≠k0)\/j=k:=by
    funext j;by_cases hj:j=k
    ·subst hj;simp[hne]
    ·simp[hj]
   rw[e];exact hmid
theorem aQN {ps:List (Nat×Nat)} {B:Nat->Nat->Prop} (hC:qD P C) (hq:n8 q C) (hm:ops.toList.mapM (iX z P nt ops)=some l) {f0:Option Nat} (hok:OkR q ops l ps B f0) (ht:Trail C l σ S V T) (hsep:uB (S l.length) ps) {fr:Fr} {G0:Gh} {w0:World} {Q:Exit->Act->World->Prop}
  (hQ:∀ a w,Sim fr G0 w0 nt (S l.length) a w->Q .normal a w):∀(fuel:Nat) (listed:Array Bool) (a:Act) (w:World),listed.size=ops.size->listed.count false<=fuel ->
   aK4 fr G0 w0 nt q ops l σ S V f0 (aE9 listed) a w->wpAny P .any ops Q fuel listed a w:=by
 have hend:∀(listed:Array Bool) (a:Act) (w:World),listed.size=ops.size->aK4 fr G0 w0 nt q ops l σ S V f0 (aE9 listed) a w->Region.ready .any ops listed=[]->Q .normal a w:=by
  intro listed a w hsz hmid hr;have hall:∀ k,k<ops.size->aE9 listed k:=?_
  ·rcases hmid with hmid|⟨k0,_,_,_,_,_,_,_,_,_,_,_,_,_,_,_,jx,gx,hx1,hx2,hx3,hx4⟩
   ·exact hQ a w (hmid.done hq hm ht (fun _ h=>h) hall)
   ·refine absurd (hall jx ?_) hx4;have:=(List.getElem?_eq_some_iff.1 hx2).1;rw[wI hm]at this;simpa using this
  intro k
  induction k using Nat.strongRecOn with
  |_ k ih =>
   intro hk;cases hl:listed.getD k true with
   |true => unfold aE9;simp only[Array.getD_eq_getD_getElem?]at hl ⊢;rw[Array.getElem?_eq_getElem (by omega)]at hl ⊢;simpa using hl
   |false =>
    have hmem:k∈Region.ready .any ops listed:=mem_ready.2 ⟨hl,ops[k],Array.getElem?_eq_getElem hk,fun e he hb=>by
     have hee:e.on∈fH ops[k]:=by unfold fH;exact List.mem_map.2 ⟨e,List.mem_filter.2 ⟨by simpa using he,hb⟩,rfl⟩
     have hlt:=hok.a3J k _ (Array.getElem?_eq_getElem hk) e.on hee;exact ih e.on hlt (by omega)⟩
    rw[hr]at hmem;cases hmem
 intro fuel
 induction fuel with
 |zero =>
  intro listed a w hsz hcnt hmid;have hr:Region.ready .any ops listed=[]:=by
   refine List.eq_nil_iff_forall_not_mem.2 fun k hk => ?_
   obtain⟨h1,o,h2,_⟩:=mem_ready.1 hk;have hlt:k<listed.size:=by rw[hsz];exact(Array.getElem?_eq_some_iff.1 h2).1
   have h3:Array.count false listed=0:=by omega
   rw[Array.count_eq_zero]at h3;refine h3 ?_;rw[Array.getD_eq_getD_getElem?,Array.getElem?_eq_getElem hlt]at h1;simp only[Option.getD_some]at h1;rw[<-h1];exact Array.getElem_mem hlt
  exact⟨hr,hend listed a w hsz hmid hr⟩
 |succ fuel ih =>
  intro listed a w hsz hcnt hmid;refine⟨hend listed a w hsz hmid,fun i hi => ?_⟩;obtain⟨h1,o,h2,h3⟩:=mem_ready.1 hi;have hlt:i<listed.size:=by rw[hsz];exact(Array.getElem?_eq_some_iff.1 h2).1
  have hf:listed[i]=false:=by rw[Array.getD_eq_getD_getElem?,Array.getElem?_eq_getElem hlt]at h1;simpa using h1
  have hcnt2:(listed.setIfInBounds i true).count false<=fuel:=by rw[Array.setIfInBounds,dif_pos hlt,Array.count_set hlt,hf];simp;omega
  have hnD:¬aE9 listed i:=by unfold aE9;rw[Array.getD_eq_getD_getElem?,Array.getElem?_eq_getElem hlt,hf];simp
  have:=hmid.step hC hq hm hok ht hsep h2 hnD (fun e he=>by
   unfold fH at he;obtain⟨e',he1,rfl⟩:=List.mem_map.1 he;obtain⟨he2,he3⟩:=List.mem_filter.1 he1;exact h3 e' (by simpa using he2) he3) (fun j hj=>by
    unfold aE9 at hj;rcases Nat.lt_or_ge j listed.size with h|h
    ·omega
    ·rw[Array.getD_eq_getD_getElem?,Array.getElem?_eq_none h]at hj;cases hj) (K:=wpAny P .any ops Q fuel (listed.setIfInBounds i true)) (Q:=Q) (fun a' w' hmid'=>ih _ a' w' (by simpa using hsz) hcnt2 (by rw[aXX hlt];exact hmid'))
  unfold wpOp;rw[h2];simp only;split
  ·rename_i hw;rw[if_pos hw]at this;exact .inl this
  ·rename_i hw;rw[if_neg hw]at this;exact this
theorem mW (hmix:P.follows .mixedOrders=true) (hC:qD P C) (hq:n8 q C) {id:Nat} {draw:Bool} (hm:ops.toList.mapM (iX z P nt ops)=some l) {ps:List (Nat×Nat)} (hok:draw=true->okR q ops l=some ps) {fr:Fr} {G0:Gh} {w0:World} {a:Act} {w:World} {KA:St->Prop}
  {Q:Exit->Act->World->Prop} (hs:Sim fr G0 w0 nt σ a w) (h:wpOps C l σ fun τ=>uB τ ps/\KA τ) (hQ:∀ σ a w,Sim fr G0 w0 nt σ a w->KA σ->Q .normal a w):(Code.region id ops draw).wp P Q a w:=by
 cases draw with
 |false=>exact wp_region_list (aJM hC (fun σ a w hs hk=>hQ σ a w hs hk.2) _ _ hm σ a w hs h)
 |true =>
  obtain⟨B,f0,hB⟩:=aXW (hok rfl);obtain⟨S,V,T,ht,hK⟩:=aNP h;refine wp_region_any hmix (aQN hC hq hm hB ht hK.1 (fun a w hs=>hQ _ a w hs hK.2) ops.size _ a _ (by simp) (by simp[Array.count_replicate]) ?_);obtain⟨G,s1,s2,s3,s4⟩:=hs;have hno:∀ j,¬aE9 (Array.replicate ops.size false) j:=fun j hj=>by unfold aE9 at hj;simp only[Array.getD_eq_getD_getElem?,Array.getElem?_replicate]at hj;split at hj<;>simp at hj
  refine .inl ⟨⟨G,0,Nat.zero_le _,fun j hj i hi=>by { have hj0:j=0:=by { omega };subst hj0;rw[ht.zero]at hi ⊢;exact(s1.wf.free i hi).1 },fun j g _ _=>⟨fun h=>absurd h (hno j),fun h=>by omega⟩, ?_,fun k g t _ hd=>absurd hd (hno k),fun t _ _ => ?_,fun b hb=>hb.elim⟩,fun k o _ hd=>absurd hd (hno k),s3,s4,fun t ht=>ht.elim⟩
  ·rw[ht.zero];exact s1.drew ⟨rfl,rfl,rfl,rfl⟩
  ·exact(Own.goto (fr:=fr) (σ:=σ) s1.own |>.drew (w':={ w with drawn:=w.drawn+1 }) ⟨rfl,rfl,rfl,rfl⟩).mono (s2 t)
end
theorem Wf.aVP {G:Gh} {w:World} {σ τ:St} (h:Wf G w σ.H (fun i=>σ.n<=i)) (hk:pE σ τ):Wf G w τ.H (fun i=>τ.n<=i):=by
 obtain⟨_,h1,h2⟩:=hk;have live:∀ i,τ.H i≠none->τ.H i=σ.H i:=fun i hi=>(h1 i).resolve_left hi
 refine⟨fun i hi => ?_,h.fsz,fun i t hi => ?_,fun i j b o o' hi hj => ?_⟩
 ·have:=h.free i (Nat.le_trans h2 hi);refine⟨?_,this.2⟩;rcases h1 i with h3|h3
  ·exact h3
  ·rw[h3];exact this.1
 ·exact h.blk i t (by rw[<-live i (by rw[hi];simp)];exact hi)
 ·exact h.dis i j b o o' (by rw[<-live i hi];exact hi) (by rw[<-live j hj];exact hj)
theorem wE.aVP {fr:Fr} {G:Gh} {w:World} {σ τ:St} (h:wE fr G w σ.H) (hk:pE σ τ):wE fr G w τ.H :=
 ⟨h.os,h.tape,h.output,h.size,h.same,h.ext,h.f0,h.v9,fun i b o hi=>h.loc i b o (by
  rcases hk.2.1 i with h3|h3
  ·exact absurd h3 hi
  ·rw[<-h3];exact hi)⟩
theorem aSN {w:World} {F:Nat->Prop} {ρ:Nat->Option Loc} {a b:AV} {v:Value} (h:leA a b) (hr:bS w F ρ a v):bS w F ρ b v:=by
 rcases h with rfl|rfl|⟨x,es,es',ts,rfl,rfl,h7⟩
 ·exact .unk
 ·exact hr
 ·cases hr with
  |agg _ h=>simp[AV.isAgg]at h
  |one h8 _ =>
   cases h8 with
   |iV _=>exact .one (.iV (fun h=>by cases h)) rfl
   |fro g1 g2 g3 g4 g5 =>
    rcases h7 with rfl|rfl
    ·exact .one (.fro g1 g2 g3 (fun h=>by cases h) g5) rfl
    ·exact .one (.iV (fun h=>by cases h)) rfl
theorem Sim.aVP {fr:Fr} {G0:Gh} {w0:World} {nt:Nat} {σ τ:St} {a:Act} {w:World} (h:Sim fr G0 w0 nt σ a w) (hk:pE σ τ):Sim fr G0 w0 nt τ a w:=by obtain⟨G,h1,h2,h3,h4⟩:=h;refine⟨G,⟨h1.wf.aVP hk,h1.fr.aVP hk,h1.ext,h1.leF,h1.leR⟩,fun t => ?_,h3,h4⟩;exact aSN (hk.1 t) (h2 t)
theorem aJB.of {m:Nat} {σ τ:St} (h:pE σ τ):aJB m σ τ:=⟨h.1,h.2.1,.inl h.2.2⟩
theorem Sim.low {fr:Fr} {G0:Gh} {w0:World} {nt:Nat} {σ τ:St} {a:Act} {w:World} {m:Nat} (h:Sim fr G0 w0 nt σ a w) (hm:∀ i l,G0.ρ i=some l->i<m) (hk:aJB m σ τ):Sim fr G0 w0 nt τ a w:=by
 obtain⟨he,hH,hn|⟨h1,h2,h3,h4⟩⟩:=hk
 ·exact h.aVP ⟨he,hH,hn⟩
 ·obtain⟨G,g1,g2,g3,g4⟩:=h;have live:∀ i,τ.H i≠none->τ.H i=σ.H i:=fun i hi=>(hH i).resolve_left hi
  have lt:∀ i,τ.H i≠none->i<τ.n:=fun i hi=>Nat.lt_of_not_le fun h=>hi (h3 i h)
  have cut:∀ i,i<τ.n->aDE τ.n G.ρ i=G.ρ i:=fun i hi=>by simp[aDE,hi]
  refine⟨⟨aDE τ.n G.ρ,G.F⟩,⟨⟨fun i hi=>⟨h3 i hi, ?_⟩,g1.wf.fsz,fun i t hi => ?_,fun i j b o o' hi hj hri hrj => ?_⟩, ?_,g1.ext,g1.leF,fun i l hi => ?_⟩,fun t => ?_,g3,g4⟩
  ·have:¬i<τ.n:=by omega
   simp[aDE,this]
  ·have hne:τ.H i≠none:=by rw[hi];simp
   have h5:=cut i (lt i hne);rcases g1.wf.blk i t (by rw[<-live i hne];exact hi)with⟨b,o,cs,cur,e,k1,k2,k3,k4,k5⟩|⟨k1,k2⟩
   ·exact .inl ⟨b,o,cs,cur,e,h5.trans k1,k2.cut (h4 i t hi),k3,k4,k5⟩
   ·exact .inr ⟨h5.trans k1,k2⟩
  ·replace hri:=(cut i (lt i hi)).symm.trans hri;replace hrj:=(cut j (lt j hj)).symm.trans hrj;exact g1.wf.dis i j b o o' (by rw[<-live i hi];exact hi) (by rw[<-live j hj];exact hj) hri hrj
  ·have hf:=g1.fr;refine⟨hf.os,hf.tape,hf.output,hf.size,hf.same,hf.ext,hf.f0,hf.v9,fun i b o hi hri => ?_⟩;replace hri:=(cut i (lt i hi)).symm.trans hri;exact hf.loc i b o (by rw[<-live i hi];exact hi) hri
  ·exact(cut i (Nat.lt_of_lt_of_le (hm i l hi) h1)).trans (g1.leR i l hi)
  ·exact(aSN (he t) (g2 t)).cut (h2 t)
theorem aK5 {κ:Nat->Option Nat} {a b:AV} (h:leK κ a b):b.isAgg=a.isAgg:=by cases h<;>rfl
mutual
theorem bR.leK {w:World} {F:Nat->Prop} {κ:Nat->Option Nat}:∀ {ρ:Nat->Option Loc} {a b:AV} {cs:List Value},leK κ a b->bR w F ρ a cs->bR w F (fun j=>(κ j).bind ρ) b cs
 |_,_,_,_,.same h,hr=>(hr.cut h).mono (Ext.refl F w) (fun _ h=>h) (fun i l hi=>by simp[aDE]at hi)
 |_,_,_,_,.sl h,hr=>by
  cases hr with
  |sl0=>exact .sl0
  |sl h1 h2 h3 h4=>exact .sl (by simp only[h];exact h1) h2 h3 h4
 |_,_,_,_,.ptr h,hr=>by
  cases hr with
  |ptr h1=>exact .ptr (by simp only[h];exact h1)
 |_,_,_,_,.agg h,hr=>by
  cases hr with
  |agg h1 h2=>exact .agg (dU.aDC h h1) h2
 |ρ,_,_,_,.split (es:=es) (pre:=pre) (post:=post) (t:=t) hn h,hr=>by
  cases hr with
  |arr h1 h2 =>
   obtain⟨c1,c2,c3,rfl,e1,e2,e3,e4,e5⟩:=h1.nth (i:=pre.length) (t:=t) (by simp);have e6:=bR.leK h (e2.up (ρ:=ρ));have e4':eH w F es pre c1:=by simpa using e4
   have e5':eH w F es post c3:=by simpa using e5
   refine .agg (.cons (.arr e4' rfl) (.cons e6 (by simpa using dU.cons (.arr e5' rfl) .nil))) ?_;rw[List.length_append,List.length_append,e1,e3,e5'.size,hn,Nat.add_mul,Nat.add_mul,Nat.one_mul]
 |_,_,_,_,.join hi hs h,hr=>by
  cases hr with
  |agg h1 h2 =>
   cases h1 with
   |cons r1 h1 =>
    cases h1 with
    |cons r2 h1 =>
     cases h1 with
     |cons r3 h1 =>
      cases h1;cases r1 with
      |arr q1 q2 =>
       cases r3 with
       |arr q3 q4 => have e6:=bR.leK h r2;have e7:=e6.size;simp only[List.append_nil];exact .arr (q1.append (.cons (e6.free hi) (e7.trans hs) q3)) (by simp[q2,q4];omega)
 |_,_,_,_,.clo h,hr=>by
  cases hr with
  |clo h1=>exact .clo (kU.aDC h h1)
 |_,_,_,_,.fro h7,hr=>by
  cases hr with
  |iV h=>exact .iV (fun h=>by cases h)
  |fro g1 g2 g3 g4 g5 =>
   rcases h7 with rfl|rfl
   ·exact .fro g1 g2 g3 (fun h=>by cases h) g5
   ·exact .iV (fun h=>by cases h)
 |_,_,_,_,.nil,hr=>by
  cases hr with
  |iV h => have:=h rfl;subst this;exact .sl0
  |fro g1 g2 g3 g4 g5 => have:=g4 rfl;subst this;exact .sl0
theorem dU.aDC {w:World} {F:Nat->Prop} {κ:Nat->Option Nat}:∀ {ρ:Nat->Option Loc} {a b:List AV} {cs:List Value},aDC κ a b->dU w F ρ a cs->dU w F (fun j=>(κ j).bind ρ) b cs
 |_,_,_,_,.nil,.nil=>.nil
 |_,_,_,_,.cons h1 h2,.cons h3 h4=>.cons (bR.leK h1 h3) (dU.aDC h2 h4)
theorem kU.aDC {w:World} {F:Nat->Prop} {κ:Nat->Option Nat}:∀ {ρ:Nat->Option Loc} {a b:List AV} {cs:List Value},aDC κ a b->kU w F ρ a cs->kU w F (fun j=>(κ j).bind ρ) b cs
 |_,_,_,_,.nil,.nil=>.nil
 |_,_,_,_,.cons h1 h2,.cons h3 h0 h4=>.cons (bR.leK h1 h3) ((aK5 h1).trans h0) (kU.aDC h2 h4)
end
theorem bS.leK {w:World} {F:Nat->Prop} {κ:Nat->Option Nat} {ρ:Nat->Option Loc} {a b:AV} {v:Value} (h:Ra.leK κ a b) (hr:bS w F ρ a v):bS w F (fun j=>(κ j).bind ρ) b v:=by
 cases hr with
 |one h1 h2=>exact .one (h1.leK h) ((aK5 h).trans h2)
 |agg h1 h2=>exact .agg (h1.leK h) ((aK5 h).trans h2)
 |tup h1 =>
  cases h with
  |same h=>exact((bS.tup h1).cut h).mono (Ext.refl F w) (fun _ h=>h) (fun i l hi=>by simp[aDE]at hi)
 |eQ =>
  cases h with
  |same h=>exact .eQ
 |unk =>
  cases h with
  |same h=>exact .unk
theorem Sim.bDJ {fr:Fr} {G0:Gh} {w0:World} {nt:Nat} {σ τ:St} {a:Act} {w:World} {m:Nat} (h:Sim fr G0 w0 nt σ a w) (hm:∀ i l,G0.ρ i=some l->i<m) (hk:a7B m σ τ):Sim fr G0 w0 nt τ a w:=by
 obtain⟨κ,k1,k2,k3,k4,k5,k6⟩:=hk
 ·obtain⟨G,g1,g2,g3,g4⟩:=h;have old:∀ j,τ.H j≠none->∀ b o,(κ j).bind G.ρ=some (b,o)->∃ i,κ j=some i/\σ.H i≠none/\G.ρ i=some (b,o):=by
   intro j hj b o hb;cases ht:τ.H j with
   |none=>exact absurd ht hj
   |some t' =>
    rcases k6 j t' ht with⟨i,t,h1,h2,h3⟩|⟨h1,_⟩
    ·rw[h1]at hb;exact⟨i,h1,by rw[h2];simp,hb⟩
    ·rw[h1]at hb;cases hb
  refine⟨⟨fun j=>(κ j).bind G.ρ,G.F⟩,⟨⟨fun j hj=>⟨(k2 j hj).1,by simp only[(k2 j hj).2];rfl⟩,g1.wf.fsz,fun j t' hj => ?_,fun i j b o o' hi hj hri hrj => ?_⟩, ?_,g1.ext,g1.leF,fun i l hi => ?_⟩,fun t => ?_,g3,g4⟩
  ·rcases k6 j t' hj with⟨i,t,h1,h2,h3⟩|⟨h1,es,rfl⟩
   ·rcases g1.wf.blk i t h2 with⟨b,o,cs,cur,e,c1,c2,c3,c4,c5⟩|⟨c1,es,rfl⟩
    ·exact .inl ⟨b,o,cs,cur,e,by simp only[h1];exact c1,c2.leK h3,c3,c4,c5⟩
    ·refine .inr ⟨by simp only[h1];exact c1, ?_⟩;generalize hA:(AV.arr 0 es [])=A at h3;cases h3 with
     |same _=>exact⟨es,hA.symm⟩
     |split _ _=>simp at hA
     |_=>cases hA
   ·exact .inr ⟨by simp only[h1];rfl,es,rfl⟩
  ·obtain⟨i0,a1,a2,a3⟩:=old i hi b o hri;obtain⟨j0,b1,b2,b3⟩:=old j hj b o' hrj;have:=g1.wf.dis i0 j0 b o o' a2 b2 a3 b3;subst this;exact k4 _ _ _ hi hj a1 b1
  ·have hf:=g1.fr;refine⟨hf.os,hf.tape,hf.output,hf.size,hf.same,hf.ext,hf.f0,hf.v9,fun j b o hj hrj => ?_⟩;obtain⟨i,a1,a2,a3⟩:=old j hj b o hrj;exact hf.loc i b o a2 a3
  ·show(κ i).bind G.ρ=some l;rw[k1 i (hm i l hi)];exact g1.leR i l hi
  ·rcases k5 t with h|h
   ·rw[h];exact .unk
   ·exact(g2 t).leK h
def FI (G:Gh) (σ:St) (L:List Nat):Nat->Prop:=fun b=>G.F b\/∃ i o,i∈L/\σ.H i≠none/\G.ρ i=some (b,o)
mutual
theorem bR.leF {fr:Fr} {G:Gh} {w:World} {σ:St} {L:List Nat} (hown:Own fr G w σ):∀ {a b:AV} {cs:List Value},leF L σ a b->bR w G.F G.ρ a cs->bR w (FI G σ L) G.ρ b cs
 |_,_,_,.same,hr=>hr.mono (Ext.refl _ w) (fun _ h=>.inl h) (fun _ _ h=>h)
 |_,_,_,.agg h,hr=>by
  cases hr with
  |agg h1 h2=>exact .agg (dU.aKW hown h h1) h2
 |_,_,_,.fz (id:=id) (path:=path) (off:=off) (k:=kk) (len:=len) (es:=es) (ts:=ts) hin hrow,hr=>by
  obtain⟨u,rfl⟩:=hr.single rfl;have hv:bS w G.F G.ρ (.sl id path off kk len es) u:=.one hr rfl;obtain⟨ad,cap,h1,h2,h3⟩:=uI hown.1 (fun k t h=>h) hrow hv;obtain⟨ad',cap',h4,h5,h6⟩:=hv.qB;rw[h1]at h4;simp only[Value.slice.injEq]at h4;obtain⟨rfl,h7,rfl⟩:=h4;rw[h1];rcases h3 with rfl|⟨b,o,cs,rfl,h8,h9⟩
  ·exact .iV (fun h=>by cases h)
  ·rcases h6 with⟨h10,h11⟩|⟨b',o',cur,e,h10,h11,_⟩
   ·have:ts=[]:=List.eq_nil_of_length_eq_zero (by omega);subst this;exact .iV (fun h=>by cases h)
   ·simp only[zaA,Addr.mk.injEq]at h10;obtain⟨rfl,_⟩:=h10;by_cases hl0:len=0
    ·have hts:ts=[]:=by
      simp only[St.row,hl0,if_true,zaA]at hrow;exact hrow.symm
     subst hts;exact .iV (fun h=>by cases h)
    refine .fro (h8.mono (Ext.refl _ w) (fun _ h=>.inl h)) h9 (.inr ⟨id,o',hin, ?_,h11⟩) (fun h=>by cases h) h2;intro hn;simp only[St.row,if_neg hl0,hn]at hrow;cases hrow
theorem dU.aKW {fr:Fr} {G:Gh} {w:World} {σ:St} {L:List Nat} (hown:Own fr G w σ):∀ {a b:List AV} {cs:List Value},aKW L σ a b->dU w G.F G.ρ a cs->dU w (FI G σ L) G.ρ b cs
 |_,_,_,.nil,.nil=>.nil
 |_,_,_,.cons h1 h2,.cons h3 h4=>.cons (bR.leF hown h1 h3) (dU.aKW hown h2 h4)
end
theorem aSO {L:List Nat} {σ:St} {a b:AV} (h:leF L σ a b):b.isAgg=a.isAgg:=by cases h<;>rfl
theorem bS.leF {fr:Fr} {G:Gh} {w:World} {σ:St} {L:List Nat} (hown:Own fr G w σ) {a b:AV} {v:Value} (h:Ra.leF L σ a b) (hr:bS w G.F G.ρ a v):bS w (FI G σ L) G.ρ b v:=by
 cases hr with
 |one h1 h2=>exact .one (h1.leF hown h) ((aSO h).trans h2)
 |agg h1 h2=>exact .agg (h1.leF hown h) ((aSO h).trans h2)
 |tup h1 =>
  cases h with
  |same=>exact(bS.tup h1).mono (Ext.refl _ w) (fun _ h=>.inl h) (fun _ _ h=>h)
 |eQ =>
  cases h with
  |same=>exact .eQ
 |unk =>
  cases h with
  |same=>exact .unk
theorem Sim.freeze {fr:Fr} {G0:Gh} {w0:World} {nt:Nat} {σ τ:St} {a:Act} {w:World} (h:Sim fr G0 w0 nt σ a w) (hf:aVC σ τ):Sim fr G0 w0 nt τ a w:=by
 obtain⟨G,g1,g2,g3,g4⟩:=h;obtain⟨L,f1,f2,f3⟩:=hf;have hown:Own fr G w σ:=⟨g1.wf,g1.fr⟩;have old:∀ j,τ.H j≠none->j∉L/\σ.H j≠none:=fun j hj=>by
  rcases f3 j with h|⟨h,t,t',h1,h2,h3⟩
  ·exact absurd h hj
  ·exact⟨h,by rw[h1];simp⟩
 refine⟨⟨G.ρ,FI G σ L⟩,⟨⟨fun i hi => ?_,fun b hb => ?_,fun j t' hj => ?_,fun i j b o o' hi hj => ?_⟩, ?_,g1.ext,fun b hb=>.inl (g1.leF b hb),g1.leR⟩,fun t => ?_,g3,g4⟩
 ·have:=g1.wf.free i (by rw[<-f1];exact hi);refine⟨?_,this.2⟩;rcases f3 i with h|⟨_,t,t',h1,_⟩
  ·exact h
  ·rw[this.1]at h1;cases h1
 ·rcases hb with hb|⟨i,o,_,hi,hr⟩
  ·exact g1.wf.fsz b hb
  ·cases ht:σ.H i with
   |none=>exact absurd ht hi
   |some t =>
    rcases g1.wf.blk i t ht with⟨b',o',cs,cur,e,k1,k2,k3,_⟩|⟨k1,_⟩
    ·rw[hr]at k1;simp only[zaA,zaJ]at k1;rw[k1.1];exact lt_of_block k3
    ·rw[hr]at k1;cases k1
 ·rcases f3 j with h|⟨hL,t,t2,h1,h2,h3⟩
  ·rw[h]at hj;cases hj
  ·rw[h2]at hj;simp only[zaA]at hj;subst hj;rcases g1.wf.blk j t h1 with⟨b,o,cs,cur,e,k1,k2,k3,k4,k5⟩|⟨k1,es,rfl⟩
   ·refine .inl ⟨b,o,cs,cur,e,k1,k2.leF hown h3,k3,k4, ?_⟩;rintro (hb|⟨i,o',hi,hH,hr⟩)
    ·exact k5 hb
    ·have:=g1.wf.dis i j b o' o hH (by rw[h1];simp) hr k1;subst this;exact hL hi
   ·refine .inr ⟨k1, ?_⟩;cases h3 with
    |same=>exact⟨es,rfl⟩
 ·exact g1.wf.dis i j b o o' (old i hi).2 (old j hj).2
 ·have hf:=g1.fr;refine⟨hf.os,hf.tape,hf.output,hf.size,hf.same,hf.ext,fun b hb=>.inl (hf.f0 b hb),fun b hb => ?_,fun i b o hi hr=>hf.loc i b o (old i hi).2 hr⟩;rcases hb with hb|⟨i,o,_,hi,hr⟩
  ·exact hf.v9 b hb
  ·exact .inr (hf.loc i b o hi hr)
 ·exact(g2 t).leF hown (f2 t)
def cJ (m:Nat) (σ τ:St):Prop:=∀ fr G0 w0 nt a w,(∀ i l,G0.ρ i=some l->i<m)->Sim fr G0 w0 nt σ a w->Sim fr G0 w0 nt τ a w
theorem Sim.wJ {fr:Fr} {G0:Gh} {w0:World} {nt:Nat} {σ τ:St} {a:Act} {w:World} {m:Nat} (h:Sim fr G0 w0 nt σ a w) (hm:∀ i l,G0.ρ i=some l->i<m) (hk:cJ m σ τ):Sim fr G0 w0 nt τ a w:=hk _ _ _ _ _ _ hm h
theorem cJ.ofL {m:Nat} {σ τ:St} (h:aJB m σ τ):cJ m σ τ:=fun _ _ _ _ _ _ hm hs=>hs.low hm h
theorem cJ.of {m:Nat} {σ τ:St} (h:pE σ τ):cJ m σ τ:=fun _ _ _ _ _ _ _ hs=>hs.aVP h
theorem cJ.frz {m:Nat} {σ τ:St} (h:aVC σ τ):cJ m σ τ:=fun _ _ _ _ _ _ _ hs=>hs.freeze h
theorem cJ.trans {m:Nat} {σ τ υ:St} (h:cJ m σ τ) (k:cJ m τ υ):cJ m σ υ:=fun fr G0 w0 nt a w hm hs=>k fr G0 w0 nt a w hm (h fr G0 w0 nt a w hm hs)
theorem cJ.ofK {m:Nat} {σ τ:St} (h:a7B m σ τ):cJ m σ τ:=fun _ _ _ _ _ _ hm hs=>hs.bDJ hm h
def wpC (C:Orc):AC->St->(AE->St->Prop)->Prop
 |.skip,σ,Φ=>Φ .normal σ
 |.ops l,σ,Φ=>wpOps C l σ (Φ .normal)
 |.aIJ l ps,σ,Φ=>wpOps C l σ fun τ=>uB τ ps/\Φ .normal τ
 |.seq a b,σ,Φ=>wpC C a σ (AE.then (fun σ'=>wpC C b σ' Φ) Φ)
 |.cond c x y,σ,Φ =>
  match σ.ev c with
  |.sc (.bool b)=>(b=true->wpC C x σ Φ)/\(b=false->wpC C y σ Φ)
  |.eQ=>wpC C x σ Φ/\wpC C y σ Φ
  |_=>False
 |.block id c,σ,Φ=>wpC C c σ (AE.inBlock id Φ)
 |.loop c,σ,Φ=>∃(Inv:St->Prop) (μ:St->Nat),(∃ τ,cJ σ.n σ τ/\Inv τ) /\
   ∀ τ,Inv τ->wpC C c τ (AE.then (fun τ'=>∃ τ'',cJ σ.n τ' τ''/\Inv τ''/\μ τ''<μ τ) Φ)
 |.exit id,σ,Φ=>Φ (.exit id) σ
 |.ret,σ,Φ=>Φ .ret σ
 |.frz,σ,Φ=>∃ τ,aVC σ τ/\Φ .normal τ
def bDK (C:Orc) (v:AV) (x y:AC) (σ:St) (Φ:AE->St->Prop):Prop:=cnd v (wpC C x σ Φ) (wpC C y σ Φ)
section
variable {C:Orc} {σ:St} {Φ:AE->St->Prop}
theorem a3L {x y:AC} (hp:wpC C x σ Φ) (hq:wpC C y σ Φ):bDK C .eQ x y σ Φ:=⟨hp,hq⟩
theorem aVQ {b:Bool} {x y:AC} (hp:b=true->wpC C x σ Φ) (hq:b=false->wpC C y σ Φ):bDK C (.sc (.bool b)) x y σ Φ:=⟨hp,hq⟩
theorem aXY (h:Φ .normal σ):wpC C .skip σ Φ:=h
theorem a3M {l:List AG} (h:wpOps C l σ (Φ .normal)):wpC C (.ops l) σ Φ:=h
theorem a3N (h:Φ .ret σ):wpC C .ret σ Φ:=h
theorem aXZ {i:Nat} (h:Φ (.exit i) σ):wpC C (.exit i) σ Φ:=h
theorem aVR {i:Nat} {c:AC} (h:wpC C c σ (AE.inBlock i Φ)):wpC C (.block i c) σ Φ:=h
theorem a3O {a b:AC} (h:∀ K:St->Prop,KK K (fun σ=>wpC C b σ Φ)->wpC C a σ (AE.then K Φ)):wpC C (.seq a b) σ Φ:=h _ ⟨fun _ h=>h⟩
theorem aNQ {K:St->Prop} (h:K σ):AE.then K Φ .normal σ:=h
theorem aX0 {K:St->Prop} (h:Φ .ret σ):AE.then K Φ .ret σ:=h
theorem aVS {K:St->Prop} {i:Nat} (h:Φ (.exit i) σ):AE.then K Φ (.exit i) σ:=h
theorem aGE {i:Nat} (h:Φ .normal σ):AE.inBlock i Φ .normal σ:=h
theorem aNR {i:Nat} (h:Φ .ret σ):AE.inBlock i Φ .ret σ:=h
theorem aK6 {i:Nat} (h:Φ .normal σ):AE.inBlock i Φ (.exit i) σ:=by simp[AE.inBlock];exact h
theorem aIM {i j:Nat} (hj:¬j=i) (h:Φ (.exit j) σ):AE.inBlock i Φ (.exit j) σ:=by simp[AE.inBlock,hj];exact h
end
def post (fr:Fr) (G0:Gh) (w0:World) (nt:Nat) (Φ:AE->St->Prop):Exit->Act->World->Prop
 |.normal,a,w=>∃ σ,Sim fr G0 w0 nt σ a w/\Φ .normal σ
 |.exit id,a,w=>∃ σ,Sim fr G0 w0 nt σ a w/\Φ (.exit id) σ
 |.ret,a,w=>∃ σ,Sim fr G0 w0 nt σ a w/\Φ .ret σ
 |_,_,_=>False
theorem least (p:Nat->Prop) (h:∃ n,p n):∃ n,p n/\∀ m,p m->n<=m:=by
 obtain⟨n,hn⟩:=h
 induction n using Nat.strongRecOn with
 |_ n ih =>
  by_cases hm:∃ m,m<n/\p m
  ·obtain⟨m,hm,hp⟩:=hm;exact ih m hm hp
  ·exact⟨n,hn,fun m hp=>Nat.le_of_not_lt fun hlt=>hm ⟨m,hlt,hp⟩⟩
section
variable {P:Program} {q:Nat->Bool} {C:Orc} {nt:Nat}
theorem aJN (hmix:P.follows .mixedOrders=true) (hC:qD P C) (hq:n8 q C) {z0:ZM} {id:Nat} {ops:Array Oper} {draw:Bool} {ac:AC} (htr:a81 P nt (okR q) z0 ops draw=some ac) {fr:Fr} {G0:Gh} {w0:World} {σ:St} {a:Act} {w:World} {Φ:AE->St->Prop}
  (hs:Sim fr G0 w0 nt σ a w) (h:wpC C ac σ Φ):(Code.region id ops draw).wp P (post fr G0 w0 nt Φ) a w:=by
 unfold a81 at htr;have hno:∀ {l:List AG} {K:St->Prop},wpOps C l σ K->wpOps C l σ fun τ=>uB τ []/\K τ:=fun h=>uK (fun τ hk=>⟨trivial,hk⟩) _ _ h
 split at htr
 ·rename_i l hl;split at htr
  ·rename_i hdr;split at htr
   ·rename_i hok;simp only[zaA]at htr;subst htr;exact mW hmix hC hq hl (fun _=>hok) hs (hno h) fun σ a w hs hk=>⟨σ,hs,hk⟩
   ·split at htr
    ·rename_i l2 hl2;split at htr
     ·rename_i hok;simp only[zaA]at htr;subst htr;exact mW hmix hC hq hl2 (fun _=>hok) hs (hno h) fun σ a w hs hk=>⟨σ,hs,hk⟩
     ·split at htr
      ·rename_i hok;simp only[zaA]at htr;subst htr;exact mW hmix hC hq hl (fun _=>hok) hs h fun σ a w hs hk=>⟨σ,hs,hk⟩
      ·rename_i hok _ _;simp only[zaA]at htr;subst htr;exact mW hmix hC hq hl2 (fun _=>by assumption) hs h fun σ a w hs hk=>⟨σ,hs,hk⟩
      ·cases htr
    ·cases htr
  ·rename_i hd;simp only[zaA]at htr;subst htr;refine mW (ps:=[]) hmix hC hq hl (fun hdr=>absurd hdr (by simpa using hd)) hs (hno h) fun σ a w hs hk=>⟨σ,hs,hk⟩
 ·simp only[zaA]at htr;subst htr;exact absurd h (by simp[bDG,wpC,wpOps,aX,St.ev])
theorem kV (hmix:P.follows .mixedOrders=true) (hC:qD P C) (hq:n8 q C) {fz:Nat->Bool} {z0:ZM} {fr:Fr} {G0:Gh} {w0:World}:∀(c:Code) (ac:AC) (σ:St) (a:Act) (w:World) (Φ:AE->St->Prop),
  trC P nt (okR q) fz z0 c=some ac->Sim fr G0 w0 nt σ a w->wpC C ac σ Φ->c.wp P (post fr G0 w0 nt Φ) a w
 |.skip,ac,σ,a,w,Φ,htr,hs,h=>by simp only[trC,zaA]at htr;subst htr;exact wp_skip ⟨σ,hs,h⟩
 |.region id ops draw,ac,σ,a,w,Φ,htr,hs,h=>by
  simp only[trC]at htr;split at htr
  ·rename_i ac0 hreg;simp only[zaA]at htr;subst htr;split at h
   ·obtain⟨τ,h1,h2⟩:=h;exact aJN hmix hC hq hreg (hs.freeze h1) h2
   ·exact aJN hmix hC hq hreg hs h
  ·cases htr
 |.seq x y,ac,σ,a,w,Φ,htr,hs,h=>by
  simp only[trC]at htr;split at htr
  ·rename_i ax ay hx hy;simp only[zaA]at htr;subst htr;refine wp_seq (wp_mono (kV hmix hC hq x ax σ a w _ hx hs h) fun e a w he => ?_);cases e<;>simp only[post]at he
   case normal => obtain⟨τ,hs,hk⟩:=he;exact kV hmix hC hq y ay τ a w _ hy hs hk
   case exit id=>exact he
   case ret=>exact he
  ·cases htr
 |.cond c x y,ac,σ,a,w,Φ,htr,hs,h=>by
  simp only[trC]at htr;split at htr
  ·rename_i c' ax ay hc hx hy;simp only[zaA]at htr;subst htr;obtain⟨G,s1,s2,s3,s4⟩:=hs;have hr:=aSI (w:=w) (G:=G) (σ:=σ) (a:=a) hc fun t _=>s2 t
   unfold wpC at h;split at h
   ·rename_i b hb;rw[hb]at hr;obtain⟨h1,_⟩:=hr.mT;refine wp_cond h1 ?_;cases b with
    |true=>exact kV hmix hC hq x ax σ a w _ hx ⟨G,s1,s2,s3,s4⟩ (h.1 rfl)
    |false=>exact kV hmix hC hq y ay σ a w _ hy ⟨G,s1,s2,s3,s4⟩ (h.2 rfl)
   ·rename_i hb;rw[hb]at hr;obtain⟨b,h1⟩:=hr.aNA;refine wp_cond h1 ?_;cases b with
    |true=>exact kV hmix hC hq x ax σ a w _ hx ⟨G,s1,s2,s3,s4⟩ h.1
    |false=>exact kV hmix hC hq y ay σ a w _ hy ⟨G,s1,s2,s3,s4⟩ h.2
   ·cases h
  ·cases htr
 |.block id c,ac,σ,a,w,Φ,htr,hs,h=>by
  simp only[trC]at htr;obtain⟨ax,hx,rfl⟩:=hO htr;refine wp_block (wp_mono (kV hmix hC hq c ax σ a w _ hx hs h) fun e a w he => ?_);cases e<;>simp only[post]at he
  case normal=>exact he
  case exit i =>
   obtain⟨τ,hs,hk⟩:=he;simp only[AE.inBlock]at hk;simp only[Exit.inBlock];split at hk
   ·rename_i hid;rw[if_pos hid];exact⟨τ,hs,hk⟩
   ·rename_i hid;rw[if_neg hid];exact⟨τ,hs,hk⟩
  case ret=>exact he
 |.loop c,ac,σ,a,w,Φ,htr,hs,h=>by
  simp only[trC]at htr;obtain⟨ax,hx,rfl⟩:=hO htr;unfold wpC at h;obtain⟨Inv,μ,⟨τ0,hk0,hI0⟩,hround⟩:=h;have hm0:∀ i l,G0.ρ i=some l->i<σ.n:=fun i l hi=>by
   obtain⟨G,g1,_⟩:=hs;refine Nat.lt_of_not_le fun hge => ?_
   have:=(g1.wf.free i hge).2;rw[g1.leR i l hi]at this;cases this
  let p:Act->World->Nat->Prop:=fun a w n=>∃ τ,Sim fr G0 w0 nt τ a w/\Inv τ/\μ τ=n
  have hmin:∀ a w,∃ m:Nat,(∃ n,p a w n)->p a w m/\∀ n,p a w n->m<=n:=fun a w=>by
   by_cases hex:∃ n,p a w n
   ·obtain⟨m,h1,h2⟩:=least _ hex;exact⟨m,fun _=>⟨h1,h2⟩⟩
   ·exact⟨0,fun h=>absurd h hex⟩
  have hch:∃ M:Act->World->Nat,∀ a w,(∃ n,p a w n)->p a w (M a w)/\∀ n,p a w n->M a w<=n := ⟨fun a w=>Classical.choose (hmin a w),fun a w=>Classical.choose_spec (hmin a w)⟩;obtain⟨M,hM⟩:=hch;refine wp_loop (fun a w=>∃ n,p a w n) M ⟨_,τ0,hs.wJ hm0 hk0,hI0,rfl⟩ fun a w hI => ?_
  obtain⟨⟨τ,hsτ,hIτ,hμ⟩,_⟩:=hM a w hI;refine wp_mono (kV hmix hC hq c ax τ a w _ hx hsτ (hround τ hIτ)) fun e a' w' he => ?_
  cases e<;>simp only[post]at he
  case normal => obtain⟨τ',hs',τ'',hk,hI',hlt⟩:=he;have hp:p a' w' (μ τ''):=⟨τ'',hs'.wJ hm0 hk,hI',rfl⟩;refine⟨⟨_,hp⟩, ?_⟩;have:=(hM a' w' ⟨_,hp⟩).2 _ hp;omega
  case exit i=>exact he
  case ret=>exact he
 |.exit id,ac,σ,a,w,Φ,htr,hs,h=>by simp only[trC,zaA]at htr;subst htr;exact wp_exit ⟨σ,hs,h⟩
 |.ret,ac,σ,a,w,Φ,htr,hs,h=>by simp only[trC,zaA]at htr;subst htr;exact wp_ret ⟨σ,hs,h⟩
 |.rangeFunc ..,ac,σ,a,w,Φ,htr,hs,h=>by simp[trC]at htr
 |.scope _,ac,σ,a,w,Φ,htr,hs,h=>by simp[trC]at htr
 |.label _,ac,σ,a,w,Φ,htr,hs,h=>by simp[trC]at htr
 |.goto _,ac,σ,a,w,Φ,htr,hs,h=>by simp[trC]at htr
end
end Go.Ra
namespace Go.Ra
set_option linter.unusedVariables false
set_option linter.unusedSimpArgs false
def qs (l:List Nat) (n:Nat):Bool:=l.contains n
inductive AR where
 |tmp (t:Nat)
 |cell (t:Nat) (ag:Bool) (n:Nat)
 deriving Inhabited
def trR (P:Program):ResultVar->Option AR
 |.tmp t=>some (.tmp t)
 |.cell a t =>
  match uC P t,szT P t with
  |some ag,some n=>some (.cell a ag n)
  |_,_=>none
def lL {α β:Type} (f:α->Option β):List α->Option (List β)
 |[]=>some []
 |x::xs =>
  match f x,lL f xs with
  |some y,some ys=>some (y::ys)
  |_,_=>none
def trF (P:Program) (q:Nat->Bool) (f:Nat):Option (Nat×List AR×AC) :=
 match P.funcs[f]? with
 |some fn =>
  if fn.name == "runtime.NumGoroutine" then none else
  match fn.body with
  |some c =>
   match trC P fn.ntmps (okR q) (fun id=>q (4000000000+f*1000+id)) ⟨q (f+2000000),fun g=>q (5000000000+f*100000+g)⟩ c,lL (trR P) fn.results.toList with
   |some ac,some rs=>some (fn.ntmps,rs,ac)
   |_,_=>none
  |none=>none
 |none=>none
def aQO (σ:St):AR->Option AV
 |.tmp t=>some (get σ.env t)
 |.cell t ag n =>
  match σ.oQ (get σ.env t)with
  |some u=>if u.isAgg=ag/\u.size=n then some u else none
  |none=>none
def aIN (σ:St):List AR->Option (List AV)
 |[]=>some []
 |r::rs =>
  match aQO σ r,aIN σ rs with
  |some v,some vs=>some (v::vs)
  |_,_=>none
def aNS:List AV->AV
 |[v]=>v
 |vs=>.tup vs
def aIO (rs:List AR) (K:AV->St->Prop):AE->St->Prop
 |.exit _,_=>False
 |_,σ =>
  match aIN σ rs with
  |some vs=>K (aNS vs) σ
  |none=>False
def n9:Nat->List AV->List (Nat×AV)
 |_,[]=>[]
 |k,v::r=>(k,v)::n9 (k+1) r
theorem aJO:∀(args:List AV) (k t:Nat),get (n9 k args) (k+t)=args.getD t .unk
 |[],k,t=>by simp[n9,get]
 |v::r,k,0=>by simp[n9,get]
 |v::r,k,t+1=>by simp only[n9,get];rw[if_neg (by omega)];have:=aJO r (k+1) t;rw[show k+(t+1)=k+1+t by omega,this];simp
section
variable {P:Program} {q:Nat->Bool} {C:Orc}
theorem bW.len {w:World} {F:Nat->Prop} {ρ:Nat->Option Loc}:∀ {ts:List AV} {vs:List Value},bW w F ρ ts vs->vs.length=ts.length
 |_,_,.nil=>rfl
 |_,_,.cons _ h=>by simp[bW.len h]
def aVT (tmps:Array Value) (x:ResultVar):Sem Value :=
 match x with
 |.tmp t=>pure (tmps.getD t undef)
 |.cell a t=>do loadVar t (<-asAddr (tmps.getD a undef))
theorem aEH {fr:Fr} {G:Gh} {w:World} {σ:St} {a:Act} (hown:Own fr G w σ) (henv:Env G w σ a):∀(l:List ResultVar) (rs:List AR) (vs:List AV),lL (trR P) l=some rs->aIN σ rs=some vs ->
  ∃ us:List Value,(l.mapM (aVT a.tmps)).run P w=.ok us w/\bW w G.F G.ρ vs us
 |[],rs,vs,h1,h2=>by simp only[lL,zaA]at h1;subst h1;simp only[aIN,zaA]at h2;subst h2;exact⟨[],by simp,.nil⟩
 |x::l,rs,vs,h1,h2=>by
  simp only[lL]at h1;split at h1
  ·rename_i r rs' hr hrs;simp only[zaA]at h1;subst h1;simp only[aIN]at h2;split at h2
   ·rename_i v vs' hv hvs;simp only[zaA]at h2;subst h2;obtain⟨us,h3,h4⟩:=aEH hown henv l rs' vs' hrs hvs;rw[List.mapM_cons];cases x with
    |tmp t => simp only[trR,zaA]at hr;subst hr;simp only[aQO,zaA]at hv;subst hv;exact⟨a.tmps.getD t undef::us,by simp only[aVT,Sem.run_bind,Sem.run_pure,Result.andThen,h3],.cons (henv t) h4⟩
    |cell b t =>
     simp only[trR]at hr;split at hr
     ·rename_i ag n hag hn;simp only[zaA]at hr;subst hr;simp only[aQO]at hv;split at hv
      ·rename_i u hu;split at hv
       ·rename_i hc;simp only[zaA]at hv;subst hv;obtain⟨b',o',cs,hv2,hrel,hrd⟩:=yF hown.1 (fun k t h=>h) hu (henv b);have hlen:cs.length=n:=by rw[hrel.size,hc.2]
        have hrun:=aEE (P:=P) hag hn hlen hrd (fun hf=>hrel.single (by rw[hc.1,hf]));refine⟨(if ag=true then Value.agg cs.toArray else cs.headD undef)::us, ?_,.cons ?_ h4⟩
        ·have hadr:(asAddr (a.tmps.getD b undef)).run P w=.ok ⟨b',o',none⟩ w:=by rw[hv2];rfl
         have hone:(aVT a.tmps (.cell b t)).run P w=.ok (if ag=true then Value.agg cs.toArray else cs.headD undef) w:=by simp only[aVT,Sem.run_bind,hadr,Result.andThen,hrun]
         simp only[Sem.run_bind,hone,Sem.run_pure,Result.andThen,h3]
        ·cases ag with
         |true=>simpa using bS.agg hrel hc.1
         |false => obtain⟨v,rfl⟩:=hrel.single hc.1;simpa using bS.one hrel hc.1
       ·cases hv
      ·cases hv
     ·cases hr
   ·cases h2
  ·cases h1
theorem aSP {f nt : Nat} {rs : List AR} {ac : AC} (h : trF P q f = some (nt, rs, ac)) : ∃ fn c, P.funcs[f]? = some fn ∧ (fn.name == "runtime.NumGoroutine") = false ∧ fn.body = some c ∧ fn.ntmps = nt ∧ trC P nt (okR q) (fun id => q (4000000000 + f * 1000 + id)) ⟨q (f + 2000000), fun g => q (5000000000 + f * 100000 + g)⟩ c = some ac ∧ lL (trR P) fn.results.toList = some rs := by
 unfold trF at h;split at h
 ·rename_i fn hf;split at h
  ·cases h
  ·rename_i hn;split at h
   ·rename_i c hb;split at h
    ·rename_i ac' rs' h1 h2;simp only[zaA,zaJ]at h;obtain⟨rfl,rfl,rfl⟩:=h;exact⟨fn,c,hf,by simpa using hn,hb,rfl,h1,h2⟩
    ·cases h
   ·cases h
 ·cases h
theorem yJ {f nt:Nat} {rs:List AR} {ac:AC} (h:trF P q f=some (nt,rs,ac)):aJK P f:=by obtain⟨fn,c,h1,h2,h3,_⟩:=aSP h;exact⟨fn,h1,h2,by rw[h3];rfl⟩
theorem enter (hmix:P.follows .mixedOrders=true) (hC:qD P C) (hq:n8 q C) {f nt:Nat} {rs:List AR} {ac:AC} (hF:trF P q f=some (nt,rs,ac)) {fr:Fr} {G:Gh} {w:World} {args:List AV} {vs:List Value}
  {hl:List (Nat×Option AV)} {hb:Nat->Option AV} {n:Nat} {K:AV->St->Prop} (hlen:args.length<=nt) (hown:Own fr G w ⟨n9 0 args,hl,hb,n⟩) (hr:bW w G.F G.ρ args vs) (h:wpC C ac ⟨n9 0 args,hl,hb,n⟩ (aIO rs K)) :
  Calls P f vs.toArray w fun e w'=>∃ u G' v τ,e=.returned u/\jO fr G w G' w' τ/\bS w' G'.F G'.ρ v u/\K v τ:=by
 obtain⟨fn,c,h1,h2,h3,h4,h5,h6⟩:=aSP hF;refine calls_of_wp h1 h3 ?_;have hvl:=hr.len;have hs:Sim fr G w nt ⟨n9 0 args,hl,hb,n⟩ { tmps:=vs.toArray++Array.replicate (fn.ntmps-vs.toArray.size) undef,defers:=[] } w:=by
  refine⟨G,hown.goto,fun t => ?_,rfl, ?_⟩
  ·have hg:=aJO args 0 t;rw[Nat.zero_add]at hg;rw[hg];by_cases ht:t<args.length
   ·rw[List.getD_eq_getElem?_getD,List.getElem?_eq_getElem ht,Option.getD_some];obtain⟨v,hv,hrel⟩:=hr.nth (List.getElem?_eq_getElem ht);rw[Array.getD_eq_getD_getElem?,Array.getElem?_append_left (by simp;omega)];simp only[List.getElem?_toArray,hv,Option.getD_some];exact hrel
   ·rw[List.getD_eq_getElem?_getD,List.getElem?_eq_none (by omega),Option.getD_none];exact .unk
  ·simp;omega
 refine wp_mono (kV hmix hC hq c ac _ _ w _ h5 hs h) fun e a w' he => ?_
 have key:∀ σ,Sim fr G w nt σ a w'->(match aIN σ rs with|some vs=>K (aNS vs) σ|none=>False)->a.defers=[]/\∃ v,(results fn a.tmps).run P w'=.ok v w'/\∃ u G' v' τ,Ending.returned v=.returned u/\jO fr G w G' w' τ/\bS w' G'.F G'.ρ v' u/\K v' τ:=by
  intro σ hs hk;obtain⟨G',s1,s2,s3,s4⟩:=hs;split at hk
  ·rename_i rvs hrv;obtain⟨us,hrun,hrel⟩:=aEH (P:=P) s1.own s2 fn.results.toList rs rvs h6 hrv;have hul:=hrel.len;have hrun2:(results fn a.tmps).run P w'=.ok (if h:us.toArray.size=1 then us.toArray[0]else .tuple us.toArray) w':=by
    have e:results fn a.tmps=(do
      let vs <-fn.results.mapM (aVT a.tmps)
      pure (if h:vs.size=1 then vs[0]else .tuple vs)):=rfl
    rw[e,Array.mapM_eq_mapM_toList];simp only[Sem.run_bind,map_eq_pure_bind,hrun,Result.andThen,Sem.run_pure]
   refine⟨s3,_,hrun2,_,G',aNS rvs,σ,rfl,s1, ?_,hk⟩;cases hrel with
   |nil=>simpa [aNS]using bS.tup (.nil)
   |cons r1 r2 =>
    cases r2 with
    |nil=>simpa [aNS]using r1
    |cons r3 r4 => rw[dif_neg (by simp)];exact .tup (.cons r1 (.cons r3 r4))
  ·cases hk
 cases e<;>simp only[post]at he
 case normal => obtain⟨σ,hs,hk⟩:=he;exact key σ hs hk
 case exit i => obtain⟨σ,hs,hk⟩:=he;cases hk
 case ret => obtain⟨σ,hs,hk⟩:=he;exact key σ hs hk
end
end Go.Ra
namespace Go.Ra
open Go.RowKit (Below)
set_option linter.unusedVariables false
set_option linter.unusedSimpArgs false
def frz (σ:St):Nat->AV->Option AV
 |0,v=>if v.fB then some v else none
 |k+1,v =>
  match v with
  |.sl id path off kk len es =>
   match σ.row es (.sl id path off kk len es)with
   |some ts=>some (.fro false es ts)
   |none=>none
  |.ptr id path off =>
   match σ.oQ (.ptr id path off)with
   |some u =>
    match frz σ k u with
    |some u'=>some (.cH u')
    |none=>none
   |none=>none
  |.agg n ts =>
   match lL (frz σ k) ts with
   |some us=>some (.agg n us)
   |none=>none
  |.tup ts =>
   match lL (frz σ k) ts with
   |some us=>some (.tup us)
   |none=>none
  |.clo f ts =>
   match lL (frz σ k) ts with
   |some us=>some (.clo f us)
   |none=>none
  |v=>if v.fB then some v else none
def FF (G:Gh) (σ:St):Nat->Prop:=fun b=>G.F b\/∃ i o,σ.H i≠none/\G.ρ i=some (b,o)
section
variable {P:Program} {w:World} {G:Gh} {σ:St} {fr:Fr}
theorem bR.up' {F F':Nat->Prop} (hF:∀ b,F b->F' b) {ρ ρ':Nat->Option Loc} (hr:∀ i l,ρ i=some l->ρ' i=some l) {t:AV} {cs:List Value} (h:bR w F ρ t cs):bR w F' ρ' t cs:=h.mono (Ext.refl F w) hF hr
theorem aGF {ρ:Nat->Option Loc}:∀ i l,gF i=some l->ρ i=some l:=fun i l h=>by simp[gF]at h
theorem bDL {F F':Nat->Prop} {ρ ρ':Nat->Option Loc} {f:AV->Option AV} (hf:∀ v v' cs,bR w F ρ v cs->f v=some v'->bR w F' ρ' v' cs):∀ {ts us:List AV} {cs:List Value},dU w F ρ ts cs->lL f ts=some us->dU w F' ρ' us cs
 |_,us,_,.nil,h=>by simp only[lL,zaA]at h;subst h;exact .nil
 |_,us,_,.cons h1 h2,h=>by
  simp only[lL]at h;split at h
  ·rename_i y ys hy hys;simp only[zaA]at h;subst h;exact .cons (hf _ _ _ h1 hy) (bDL hf h2 hys)
  ·cases h
theorem bDM {F F':Nat->Prop} {ρ ρ':Nat->Option Loc} {f:AV->Option AV} (hf:∀ v v' cs,bR w F ρ v cs->f v=some v'->bR w F' ρ' v' cs/\v'.isAgg=v.isAgg):∀ {ts us:List AV} {cs:List Value},kU w F ρ ts cs->lL f ts=some us->kU w F' ρ' us cs
 |_,us,_,.nil,h=>by simp only[lL,zaA]at h;subst h;exact .nil
 |_,us,_,.cons h1 h0 h2,h=>by
  simp only[lL]at h;split at h
  ·rename_i y ys hy hys;simp only[zaA]at h;subst h;obtain⟨h3,h4⟩:=hf _ _ _ h1 hy;exact .cons h3 (h4.trans h0) (bDM hf h2 hys)
  ·cases h
theorem aX1 (hown:Own fr G w σ):∀(k:Nat) (v v':AV) (cs:List Value),bR w G.F G.ρ v cs->frz σ k v=some v'->bR w (FF G σ) gF v' cs/\v'.isAgg=v.isAgg
 |0,v,v',cs,hr,h=>by
  simp only[frz]at h;split at h
  ·rename_i hi;simp only[zaA]at h;subst h;exact⟨(hr.free hi).up' (fun _ h=>.inl h) aGF,rfl⟩
  ·cases h
 |k+1,v,v',cs,hr,h=>by
  unfold frz at h;split at h
  ·rename_i id path off kk len es;split at h
   ·rename_i ts hrow;simp only[zaA]at h;subst h;refine⟨?_,rfl⟩;obtain⟨u,rfl⟩:=hr.single rfl;have hv:bS w G.F G.ρ (.sl id path off kk len es) u:=.one hr rfl;obtain⟨ad,cap,h1,h2,h3⟩:=uI hown.1 (fun k t h=>h) hrow hv;obtain⟨ad',cap',h4,h5,h6⟩:=hv.qB;rw[h1]at h4;simp only[Value.slice.injEq]at h4;obtain⟨rfl,h7,rfl⟩:=h4;rw[h1];rcases h3 with rfl|⟨b,o,cs,rfl,h8,h9⟩
    ·exact .iV (fun h=>by cases h)
    ·rcases h6 with⟨h10,h11⟩|⟨b',o',cur,e,h10,h11,_⟩
     ·have:ts=[]:=List.eq_nil_of_length_eq_zero (by omega);subst this;exact .iV (fun h=>by cases h)
     ·simp only[zaA,Addr.mk.injEq]at h10;obtain⟨rfl,_⟩:=h10;by_cases hl0:len=0
      ·have hts:ts=[]:=by
        simp only[St.row,hl0,if_true,zaA]at hrow;exact hrow.symm
       subst hts;exact .iV (fun h=>by cases h)
      refine .fro (h8.mono (Ext.refl _ w) (fun _ h=>.inl h)) h9 (.inr ⟨id,o', ?_,h11⟩) (fun h=>by cases h) h2;intro hn;simp only[St.row,if_neg hl0,hn]at hrow;cases hrow
   ·cases h
  ·rename_i id path off;split at h
   ·rename_i u hu;split at h
    ·rename_i u' hu';simp only[zaA]at h;subst h;refine⟨?_,rfl⟩;obtain⟨x,rfl⟩:=hr.single rfl;have hv:bS w G.F G.ρ (.ptr id path off) x:=.one hr rfl;obtain⟨b,o,cs,h1,h2,h3⟩:=yF hown.1 (fun k t h=>h) hu hv;obtain⟨b',o',h4,h5⟩:=hv.oL;rw[h1]at h5;simp only[Value.pointer.injEq,zaA,Addr.mk.injEq]at h5;obtain⟨rfl,_⟩:=h5;rw[h1];refine .cH (aX1 hown k u u' cs h2 hu').1 h3 (.inr ⟨id,o', ?_,h4⟩);intro hn;simp only[St.oQ,hn]at hu;cases hu
    ·cases h
   ·cases h
  ·rename_i n ts;split at h
   ·rename_i us hus;simp only[zaA]at h;subst h;cases hr with
    |agg hl hn=>exact⟨.agg (bDL (fun v v' cs h1 h2=>(aX1 hown k v v' cs h1 h2).1) hl hus) hn,rfl⟩
   ·cases h
  ·cases hr
  ·rename_i g ts;split at h
   ·rename_i us hus;simp only[zaA]at h;subst h;cases hr with
    |clo hl=>exact⟨.clo (bDM (fun v v' cs h1 h2=>aX1 hown k v v' cs h1 h2) hl hus),rfl⟩
   ·cases h
  ·split at h
   ·rename_i hi;simp only[zaA]at h;subst h;exact⟨(hr.free hi).up' (fun _ h=>.inl h) aGF,rfl⟩
   ·cases h
mutual
theorem a9G (hown:Own fr G w σ):∀(k:Nat) (v v':AV) (u:Value),bS w G.F G.ρ v u->frz σ k v=some v'->bS w (FF G σ) gF v' u
 |k,v,v',u,.one h ha,hf=>by obtain⟨h1,h2⟩:=aX1 hown k v v' [u] h hf;exact .one h1 (h2.trans ha)
 |k,v,v',_,.agg h ha,hf=>by obtain⟨h1,h2⟩:=aX1 hown k v v' _ h hf;exact .agg h1 (h2.trans ha)
 |0,_,v',_,.tup h,hf=>by simp[frz,AV.fB]at hf
 |k+1,_,v',_,.tup h,hf=>by
  simp only[frz]at hf;split at hf
  ·rename_i us hus;simp only[zaA]at hf;subst hf;exact .tup (aSQ hown k _ _ _ h hus)
  ·cases hf
 |0,_,v',_,.eQ,hf=>by simp only[frz,AV.fB,if_true,zaA]at hf;subst hf;exact .eQ
 |k+1,_,v',_,.eQ,hf=>by simp only[frz,AV.fB,if_true,zaA]at hf;subst hf;exact .eQ
 |0,_,v',_,.unk,hf=>by simp only[frz,AV.fB,if_true,zaA]at hf;subst hf;exact .unk
 |k+1,_,v',_,.unk,hf=>by simp only[frz,AV.fB,if_true,zaA]at hf;subst hf;exact .unk
theorem aSQ (hown:Own fr G w σ):∀(k:Nat) (vs vs':List AV) (us:List Value),bW w G.F G.ρ vs us->lL (frz σ k) vs=some vs'->bW w (FF G σ) gF vs' us
 |k,_,vs',_,.nil,hf=>by simp only[lL,zaA]at hf;subst hf;exact .nil
 |k,_,vs',_,.cons h1 h2,hf=>by
  simp only[lL]at hf;split at hf
  ·rename_i y ys hy hys;simp only[zaA]at hf;subst hf;exact .cons (a9G hown k _ _ _ h1 hy) (aSQ hown k _ _ _ h2 hys)
  ·cases hf
end
theorem aSR (hown:Own fr G w σ) {b:Nat} (h:FF G σ b):b<w.heap.size:=by
 rcases h with h|⟨i,o,h1,h2⟩
 ·exact hown.1.fsz b h
 ·cases hi:σ.H i with
  |none=>exact absurd hi h1
  |some t =>
   rcases hown.1.blk i t hi with⟨b',o',cs,cur,e,h3,h4,h5,_⟩|⟨h3,_⟩
   ·rw[h2]at h3;simp only[zaA,zaJ]at h3;rw[h3.1];exact lt_of_block h5
   ·rw[h2]at h3;cases h3
def Pure (P:Program) (f:Nat) (args:List AV) (r:AV):Prop :=
 aJK P f/\∀(w:World) (F:Nat->Prop) (vs:List Value),(∀ b,F b->b<w.heap.size)->bW w F gF args vs ->
  Calls P f vs.toArray w fun e w'=>∃ u F',e=.returned u/\Below w.heap.size w w'/\(∀ b,F b->F' b)/\(∀ b,F' b->(F b\/w.heap.size<=b)/\b<w'.heap.size)/\bS w' F' gF r u
theorem aSS {q:Nat->Bool} {C:Orc} (hmix:P.follows .mixedOrders=true) (hC:qD P C) (hq:n8 q C) {f nt:Nat} {rs:List AR} {ac:AC} (hF:trF P q f=some (nt,rs,ac)) {args:List AV} {r:AV} {k:Nat} (hlen:args.length<=nt)
  (h:wpC C ac ⟨n9 0 args,[],fun _=>none,0⟩ (aIO rs fun v τ=>frz τ k v=some r)):Pure P f args r:=by
 refine⟨yJ hF,fun w F vs hFs hr => ?_⟩;have hown:Own ⟨w,fun _=>False,F,0⟩ ⟨gF,F⟩ w ⟨n9 0 args,[],fun _=>none,0⟩ := ⟨⟨fun i _=>⟨rfl,rfl⟩,hFs,fun i t hi=>(by cases hi),fun i j b o o' hi=>absurd rfl hi⟩,⟨rfl,rfl,rfl,zaF _,fun _ _ _=>rfl,Ext.refl _ _,fun _ h=>h,fun _ h=>.inl h,fun i b o hi=>absurd rfl hi⟩⟩;refine(enter hmix hC hq hF hlen hown hr h).mono fun e w' ⟨u,G',v,τ,he,hgo,hrel,hk⟩ => ?_
 refine⟨u,FF G' τ,he,⟨hgo.fr.os,hgo.fr.tape,hgo.fr.output,hgo.fr.size,fun b hb=>hgo.fr.same b hb (fun h=>h)⟩,fun b hb=>.inl (hgo.leF b hb),fun b hb=>⟨?_,aSR hgo.own hb⟩,a9G hgo.own k v r u hrel hk⟩;rcases hb with hb|⟨i,o,h1,h2⟩
 ·rcases hgo.fr.v9 b hb with h|h|h
  ·exact .inl h
  ·cases h
  ·exact .inr h
 ·rcases hgo.fr.loc i b o h1 h2 with h|h
  ·cases h
  ·exact .inr h
mutual
def AV.eL:AV->Bool
 |.sc _=>true
 |.agg _ ts=>AV.kG ts
 |.arr _ _ ts=>AV.kG ts
 |.tup ts=>AV.kG ts
 |.eQ=>true
 |.unk=>true
 |.fro _ _ []=>true
 |_=>false
def AV.kG:List AV->Bool
 |[]=>true
 |t::ts=>t.eL&&AV.kG ts
end
mutual
theorem bR.eL {F F':Nat->Prop} {ρ ρ':Nat->Option Loc}:∀ {t:AV} {cs:List Value},t.eL=true->bR w F ρ t cs->bR w F' ρ' t cs
 |_,_,hs,.sc h=>.sc h
 |_,_,hs,.agg h hn=>.agg (dU.eL (by simpa [AV.eL]using hs) h) hn
 |_,_,hs,.arr h hn=>.arr (eH.eL (by simpa [AV.eL]using hs) h) hn
 |_,_,hs,.iV h=>.iV h
 |.fro x es [],_,hs,.fro h1 h2 h3 h4 h5=>.iV h4
 |.fro x es (t::ts),_,hs,.fro h1 h2 h3 h4 h5=>by simp[AV.eL]at hs
 |_,_,hs,.cH h1 h2 h3=>by simp[AV.eL]at hs
 |_,_,hs,.sl0=>by simp[AV.eL]at hs
 |_,_,hs,.sl h1 h2 h3 h4=>by simp[AV.eL]at hs
 |_,_,hs,.ptr h=>by simp[AV.eL]at hs
 |_,_,hs,.clo h=>by simp[AV.eL]at hs
theorem dU.eL {F F':Nat->Prop} {ρ ρ':Nat->Option Loc}:∀ {ts:List AV} {cs:List Value},AV.kG ts=true->dU w F ρ ts cs->dU w F' ρ' ts cs
 |_,_,hs,.nil=>.nil
 |_,_,hs,.cons h1 h2=>by simp only[AV.kG,zaG]at hs;exact .cons (bR.eL hs.1 h1) (dU.eL hs.2 h2)
theorem eH.eL {F F':Nat->Prop} {es:Nat}:∀ {ts:List AV} {cs:List Value},AV.kG ts=true->eH w F es ts cs->eH w F' es ts cs
 |_,_,hs,.nil=>.nil
 |_,_,hs,.cons h1 h0 h2=>by simp only[AV.kG,zaG]at hs;exact .cons (bR.eL hs.1 h1) h0 (eH.eL hs.2 h2)
end
mutual
theorem bS.eL {F F':Nat->Prop} {ρ ρ':Nat->Option Loc}:∀ {t:AV} {u:Value},t.eL=true->bS w F ρ t u->bS w F' ρ' t u
 |_,_,hs,.one h ha=>.one (h.eL hs) ha
 |_,_,hs,.agg h ha=>.agg (h.eL hs) ha
 |_,_,hs,.tup h=>.tup (bW.eL (by simpa [AV.eL]using hs) h)
 |_,_,hs,.eQ=>.eQ
 |_,_,hs,.unk=>.unk
theorem bW.eL {F F':Nat->Prop} {ρ ρ':Nat->Option Loc}:∀ {ts:List AV} {us:List Value},AV.kG ts=true->bW w F ρ ts us->bW w F' ρ' ts us
 |_,_,hs,.nil=>.nil
 |_,_,hs,.cons h1 h2=>by simp only[AV.kG,zaG]at hs;exact .cons (bS.eL hs.1 h1) (bW.eL hs.2 h2)
end
def Gen (P:Program) (f:Nat) (args:List AV) (σ:St) (v:AV) (τ:St):Prop := aJK P f/\∀ fr G w vs,Own fr G w σ->bW w G.F G.ρ args vs->Calls P f vs.toArray w fun e w'=>∃ u G',e=.returned u/\jO fr G w G' w' τ/\bS w' G'.F G'.ρ v u
theorem bS.free' {F:Nat->Prop} {ρ ρ':Nat->Option Loc} {t:AV} {u:Value} (hi:t.fB=true) (h:bS w F ρ t u):bS w F ρ' t u:=by
 cases h with
 |one h ha=>exact .one (h.free hi) ha
 |agg h ha=>exact .agg (h.free hi) ha
 |tup h=>simp[AV.fB]at hi
 |eQ=>exact .eQ
 |unk=>exact .unk
theorem bW.free' {F:Nat->Prop} {ρ ρ':Nat->Option Loc}:∀ {ts:List AV} {us:List Value},AV.j7 ts=true->bW w F ρ ts us->bW w F ρ' ts us
 |_,_,_,.nil=>.nil
 |_,_,hi,.cons h1 h2=>by simp only[AV.j7,zaG]at hi;exact .cons (h1.free' hi.1) (bW.free' hi.2 h2)
def ren (id n:Nat):AV->Option AV
 |.sl i p off k len es=>if i=id then some (.sl n p off k len es)else none
 |v=>if v.fB&&v.eL then some v else none
def aIP (id n:Nat):AV->Option AV
 |.tup ts =>
  match lL (ren id n) ts with
  |some us=>some (.tup us)
  |none=>none
 |v=>ren id n v
theorem aST {F F':Nat->Prop} {ρ ρ':Nat->Option Loc} {id n:Nat} (hρ:∀ l,ρ id=some l->ρ' n=some l):∀ {v v':AV} {u:Value},ren id n v=some v'->bS w F ρ v u->bS w F' ρ' v' u:=by
 intro v v' u h hr;unfold ren at h;split at h
 ·split at h
  ·rename_i hi;subst hi;simp only[zaA]at h;subst h;cases hr with
   |one h1 h2 =>
    cases h1 with
    |sl0=>exact .one .sl0 rfl
    |sl g1 g2 g3 g4=>exact .one (.sl (hρ _ g1) g2 g3 g4) rfl
   |agg h1 h2=>simp[AV.isAgg]at h2
  ·cases h
 ·split at h
  ·rename_i hi;simp only[zaA]at h;subst h;simp only[zaG]at hi;exact hr.eL hi.2
  ·cases h
theorem aNT {F F':Nat->Prop} {ρ ρ':Nat->Option Loc} {id n:Nat} (hρ:∀ l,ρ id=some l->ρ' n=some l):∀ {vs vs':List AV} {us:List Value},lL (ren id n) vs=some vs'->bW w F ρ vs us->bW w F' ρ' vs' us
 |_,vs',_,h,.nil=>by simp only[lL,zaA]at h;subst h;exact .nil
 |_,vs',_,h,.cons h1 h2=>by
  simp only[lL]at h;split at h
  ·rename_i y ys hy hys;simp only[zaA]at h;subst h;exact .cons (aST hρ hy h1) (aNT hρ hys h2)
  ·cases h
theorem aNU {F F':Nat->Prop} {ρ ρ':Nat->Option Loc} {id n:Nat} (hρ:∀ l,ρ id=some l->ρ' n=some l) {v v':AV} {u:Value} (h:aIP id n v=some v') (hr:bS w F ρ v u):bS w F' ρ' v' u:=by
 unfold aIP at h;split at h
 ·split at h
  ·rename_i us hus;simp only[zaA]at h;subst h;obtain⟨vs,rfl,h2⟩:=hr.aFK;exact .tup (aNT hρ hus h2)
  ·cases h
 ·exact aST hρ h hr
def aQP (t:AV):Nat->Option AV:=fun i=>if i=0 then some t else none
def wK (P:Program) (f:Nat) (args:List AV) (r t:AV):Prop :=
 aJK P f/\t.eL=true/\t.fB=true/\∀(w:World) (F:Nat->Prop) (vs:List Value),(∀ b,F b->b<w.heap.size)->bW w F gF args vs ->
  Calls P f vs.toArray w fun e w'=>∃ u G',e=.returned u/\Below w.heap.size w w'/\Wf G' w' (aQP t) (fun i=>1<=i)/\(∀ b o,G'.ρ 0=some (b,o)->w.heap.size<=b)/\(∀ b,F b->G'.F b)/\bS w' G'.F G'.ρ r u
theorem aK7 {q:Nat->Bool} {C:Orc} (hmix:P.follows .mixedOrders=true) (hC:qD P C) (hq:n8 q C) {f nt:Nat} {rs:List AR} {ac:AC} (hF:trF P q f=some (nt,rs,ac)) {args:List AV} {r t:AV} (hlen:args.length<=nt) (hs:t.eL=true) (hi:t.fB=true)
  (h:wpC C ac ⟨n9 0 args,[],fun _=>none,0⟩ (aIO rs fun v τ=>(∃ id,τ.H id=some t/\aIP id 0 v=some r)\/∃ es' es,v=.fro true es' []/\t=.arr 0 es []/\r=.sl 0 [] 0 0 0 es)):wK P f args r t:=by
 refine⟨yJ hF,hs,hi,fun w F vs hFs hr => ?_⟩;have hown:Own ⟨w,fun _=>False,F,0⟩ ⟨gF,F⟩ w ⟨n9 0 args,[],fun _=>none,0⟩ := ⟨⟨fun i _=>⟨rfl,rfl⟩,hFs,fun i t hi=>(by cases hi),fun i j b o o' hi=>absurd rfl hi⟩,⟨rfl,rfl,rfl,zaF _,fun _ _ _=>rfl,Ext.refl _ _,fun _ h=>h,fun _ h=>.inl h,fun i b o hi=>absurd rfl hi⟩⟩;refine(enter hmix hC hq hF hlen hown hr h).mono fun e w' ⟨u,G',v,τ,he,hgo,hrel,hk⟩ => ?_
 rcases hk with⟨id,hid,hk⟩|⟨es',es,rfl,rfl,rfl⟩
 case inr =>
  obtain⟨a,cap,rfl,_,hcap,_⟩:=hrel.rH;obtain rfl:=hcap rfl;refine⟨_,⟨fun _=>none,G'.F⟩,he,⟨hgo.fr.os,hgo.fr.tape,hgo.fr.output,hgo.fr.size,fun b hb=>hgo.fr.same b hb (fun h=>h)⟩,⟨fun i hi=>⟨?_,rfl⟩,hgo.wf.fsz,fun i t' hi'=>.inr ⟨rfl,es, ?_⟩,fun i j b o o' hi hj h1=>(by cases h1)⟩,fun b o hb=>(by cases hb),fun b hb=>hgo.leF b hb,.one .sl0 rfl⟩
  ·have:i≠0:=by omega
   simp[aQP,this]
  ·unfold aQP at hi';split at hi'
   ·simpa using hi'.symm
   ·cases hi'
 refine⟨u,⟨fun i=>if i=0 then G'.ρ id else none,G'.F⟩,he,⟨hgo.fr.os,hgo.fr.tape,hgo.fr.output,hgo.fr.size,fun b hb=>hgo.fr.same b hb (fun h=>h)⟩,⟨fun i hi => ?_,hgo.wf.fsz,fun i t' hi' => ?_,fun i j b o o' hi hj _ _ => ?_⟩,fun b o hb => ?_,fun b hb=>hgo.leF b hb,aNU (fun l hl=>by simpa using hl) hk hrel⟩
 ·have:i≠0:=by omega
  exact⟨by simp[aQP,this],by simp[this]⟩
 ·unfold aQP at hi';split at hi'
  ·rename_i h0;subst h0;simp only[zaA]at hi';subst hi';rcases hgo.wf.blk id _ hid with⟨b,o,cs,cur,e,g1,g2,g3,g4,g5⟩|g1
   ·exact .inl ⟨b,o,cs,cur,e,by simpa using g1,g2.free hi,g3,g4,g5⟩
   ·exact .inr ⟨by simpa using g1.1,g1.2⟩
  ·cases hi'
 ·unfold aQP at hi hj;split at hi
  ·split at hj
   ·omega
   ·exact absurd rfl hj
  ·exact absurd rfl hi
 ·simp only[if_true]at hb;rcases hgo.fr.loc id b o (by rw[hid];simp) hb with h|h
  ·cases h
  ·exact h
def Ok (P:Program) (q:Nat->Bool):Orc:=fun f args σ v τ =>
 (τ=σ/\AV.j7 args=true/\Pure P f args v)\/(τ=σ/\v.eL=true/\∃ k args',lL (frz σ k) args=some args'/\Pure P f args' v)\/(q f=false/\q (f+1000000)=false/\Gen P f args σ v τ) \/
 (q f=false/\∃ k args' r t,lL (frz σ k) args=some args'/\wK P f args' r t/\aIP 0 σ.n r=some v/\τ=σ.new t)
theorem aX2 {σ σ':St} {G:Gh} (hs:∀ i,G.ρ i≠none->σ.H i=none\/σ'.H i=σ.H i) {es:Nat} {v:AV} {u:Value} {ts:List AV} (hr:bS w G.F G.ρ v u) (h:σ.row es v=some ts):σ'.row es v=some ts:=by
 cases v<;>try exact h
 rename_i id path off k len es2;simp only[St.row]at h ⊢;split
 ·rename_i h0;rw[if_pos h0]at h;exact h
 ·rename_i h0;rw[if_neg h0]at h;have hid:G.ρ id≠none:=by
   obtain⟨a,cap,_,_,h3⟩:=hr.qB;rcases h3 with⟨h3,_⟩|⟨b,o,_,_,_,h4,_⟩
   ·exact absurd h3 h0
   ·rw[h4];simp
  rcases hs id hid with h1|h1
  ·rw[h1]at h;cases h
  ·rw[h1];exact h
theorem aQQ {σ σ':St} {G:Gh} (hs:∀ i,G.ρ i≠none->σ.H i=none\/σ'.H i=σ.H i) {v:AV} {u:Value} {t:AV} (hr:bS w G.F G.ρ v u) (h:σ.oQ v=some t):σ'.oQ v=some t:=by
 cases v<;>try exact h
 rename_i id path off;obtain⟨b,o,h4,_⟩:=hr.oL;simp only[St.oQ]at h ⊢;rcases hs id (by rw[h4];simp)with h1|h1
 ·rw[h1]at h;cases h
 ·rw[h1];exact h
theorem sU {f g:AV->Option AV}:∀ {l us:List AV},(∀ t∈l,∀ u,f t=some u->g t=some u)->lL f l=some us->lL g l=some us
 |[],us,hf,h=>h
 |x::l,us,hf,h=>by
  simp only[lL]at h ⊢;split at h
  ·rename_i y ys hy hys;rw[hf x (by simp) y hy,sU (fun t ht=>hf t (by simp[ht])) hys];exact h
  ·cases h
theorem dU.mem {F:Nat->Prop} {ρ:Nat->Option Loc}:∀ {ts:List AV} {cs:List Value},dU w F ρ ts cs->∀ t∈ts,∃ c,bR w F ρ t c
 |_,_,.nil,t,ht=>by cases ht
 |_,_,.cons h1 h2,t,ht=>by
  rcases List.mem_cons.1 ht with rfl|ht
  ·exact⟨_,h1⟩
  ·exact dU.mem h2 t ht
theorem kU.mem {F:Nat->Prop} {ρ:Nat->Option Loc}:∀ {ts:List AV} {cs:List Value},kU w F ρ ts cs->∀ t∈ts,∃ c,bR w F ρ t c
 |_,_,.nil,t,ht=>by cases ht
 |_,_,.cons h1 _ h2,t,ht=>by
  rcases List.mem_cons.1 ht with rfl|ht
  ·exact⟨_,h1⟩
  ·exact kU.mem h2 t ht
theorem bW.mem {F:Nat->Prop} {ρ:Nat->Option Loc}:∀ {ts:List AV} {vs:List Value},bW w F ρ ts vs->∀ t∈ts,∃ x,bS w F ρ t x
 |_,_,.nil,t,ht=>by cases ht
 |_,_,.cons h1 h2,t,ht=>by
  rcases List.mem_cons.1 ht with rfl|ht
  ·exact⟨_,h1⟩
  ·exact bW.mem h2 t ht
theorem bR.toV {F:Nat->Prop} {ρ:Nat->Option Loc} {t:AV} {cs:List Value} (h:bR w F ρ t cs):∃ u,bS w F ρ t u:=by
 cases ha:t.isAgg with
 |true=>exact⟨_,.agg h ha⟩
 |false => obtain⟨v,rfl⟩:=h.single ha;exact⟨v,.one h ha⟩
theorem aNV {σ σ':St} {G:Gh} {U:Nat->Prop} (hw:Wf G w σ'.H U) (hs:∀ i,G.ρ i≠none->σ.H i=none\/σ'.H i=σ.H i):∀(k:Nat) (v v':AV) (u:Value),bS w G.F G.ρ v u->frz σ k v=some v'->frz σ' k v=some v'
 |0,v,v',u,hr,h=>h
 |k+1,v,v',u,hr,h=>by
  have ih:=aNV hw hs k;cases v with
  |sl id path off kk len es =>
   simp only[frz]at h ⊢;split at h
   ·rename_i ts hrow;rw[aX2 hs hr hrow];exact h
   ·cases h
  |ptr id path off =>
   simp only[frz]at h ⊢;split at h
   ·rename_i t ht;have h1:=aQQ hs hr ht;rw[h1];obtain⟨b,o,cs,_,h2,_⟩:=yF hw (fun k t h=>h) h1 hr;obtain⟨u',h3⟩:=h2.toV;simp only;split at h
    ·rename_i t' ht';rw[ih t t' u' h3 ht'];exact h
    ·cases h
   ·cases h
  |agg n ts =>
   simp only[frz]at h ⊢;split at h
   ·rename_i us hus;rw[sU (fun t ht u' hu => ?_) hus]
    ·exact h
    ·cases hr with
     |one h1 h2=>simp[AV.isAgg]at h2
     |agg h1 h2 =>
      cases h1 with
      |agg hl hn => obtain⟨c,hc⟩:=hl.mem t ht;obtain⟨x,hx⟩:=hc.toV;exact ih t u' x hx hu
   ·cases h
  |clo f ts =>
   simp only[frz]at h ⊢;split at h
   ·rename_i us hus;rw[sU (fun t ht u' hu => ?_) hus]
    ·exact h
    ·cases hr with
     |one h1 h2 =>
      cases h1 with
      |clo hl => obtain⟨c,hc⟩:=hl.mem t ht;obtain⟨x,hx⟩:=hc.toV;exact ih t u' x hx hu
     |agg h1 h2=>simp[AV.isAgg]at h2
   ·cases h
  |tup ts =>
   simp only[frz]at h ⊢;split at h
   ·rename_i us hus;rw[sU (fun t ht u' hu => ?_) hus]
    ·exact h
    ·obtain⟨vs,_,hvs⟩:=hr.aFK;obtain⟨x,hx⟩:=hvs.mem t ht;exact ih t u' x hx hu
   ·cases h
  |sc v=>exact h
  |arr n es ts=>exact h
  |fro x es ts=>exact h
  |cH t=>exact h
  |eQ=>exact h
  |unk=>exact h
theorem aVU {σ σ':St} {v v':AV} {k:Nat} (hc:aK1 v=true) (h:frz σ k v=some v'):frz σ' k v=some v':=by
 cases k with
 |zero=>exact h
 |succ k =>
  cases v<;>first|(exact h)|(cases hc;done)|skip
  rename_i f cs;cases cs with
  |nil=>exact h
  |cons c cs=>cases hc
theorem Ok.quiet {q:Nat->Bool}:n8 q (Ok P q):=by
 refine⟨fun f args σ v τ h hq => ?_,fun f args σ v τ h hq => ?_,fun f args σ v τ h hq σ' G w U hw ha hs => ?_⟩
 ·rcases h with⟨rfl,_⟩|⟨rfl,_⟩|⟨h,_⟩|⟨h,_⟩
  ·exact⟨rfl,rfl,rfl⟩
  ·exact⟨rfl,rfl,rfl⟩
  ·rw[hq]at h;cases h
  ·rw[hq]at h;cases h
 ·rcases h with⟨rfl,_⟩|⟨rfl,_⟩|⟨_,h,_⟩|⟨_,k,args',r,t,_,_,_,rfl⟩
  ·exact⟨fun _ _=>rfl,zaF _⟩
  ·exact⟨fun _ _=>rfl,zaF _⟩
  ·rw[hq]at h;cases h
  ·refine⟨fun i hi => ?_,Nat.le_succ _⟩;show look ((σ.n,some t)::σ.hl) σ.hb i=look σ.hl σ.hb i;simp only[look];rw[if_neg (by omega)]
 ·rcases h with⟨rfl,hi,hp⟩|⟨rfl,hsol,k,args',hm,hp⟩|⟨h,_⟩|⟨h,_⟩
  ·exact .inl ⟨rfl,hi,hp⟩
  ·refine .inr (.inl ⟨rfl,hsol,k,args',sU (fun t ht u hu => ?_) hm,hp⟩);rcases ha t ht with h1|⟨x,hx⟩
   ·exact aVU h1 hu
   ·exact aNV hw hs k t u x hx hu
  ·rw[hq]at h;cases h
  ·rw[hq]at h;cases h
theorem Ok.ok {q:Nat->Bool}:qD P (Ok P q):=by
 intro f args σ v τ h;rcases h with⟨rfl,hi,hk,hp⟩|⟨rfl,hs,k,args',hm,hk,hp⟩|⟨_,_,hk,hp⟩|⟨_,k,args',r,t,hm,⟨hk,hs,hi,hp⟩,hr0,rfl⟩
 ·refine⟨hk,fun fr G w vs hown hr=>(hp w G.F vs hown.1.fsz (hr.free' hi)).mono fun e w' ⟨u,F',he,hb,h1,h2,hrel⟩ => ?_⟩;exact⟨u,⟨G.ρ,F'⟩,he,Nxt.below hown.1 hown.2 hb h1 h2,hrel.mono (Ext.refl _ _) (fun _ h=>h) aGF⟩
 ·refine⟨hk,fun fr G w vs hown hr=>(hp w (FF G _) vs (fun b hb=>aSR hown hb) (aSQ hown k _ _ _ hr hm)).mono fun e w' ⟨u,F',he,hb,h1,h2,hrel⟩ => ?_⟩;exact⟨u,G,he,Nxt.below hown.1 hown.2 hb (fun _ h=>h) (fun b h=>⟨.inl h,Nat.lt_of_lt_of_le (hown.1.fsz b h) hb.size⟩),hrel.eL hs⟩
 ·exact⟨hk,fun fr G w vs hown hr=>hp fr G w vs hown hr⟩
 ·refine⟨hk,fun fr G w vs hown hr=>(hp w (FF G _) vs (fun b hb=>aSR hown hb) (aSQ hown k _ _ _ hr hm)).mono fun e w' ⟨u,G',he,hb,hwf,hloc,hF,hrel⟩ => ?_⟩;have hn:=hown.1.free σ.n (zaF _);have hbase:=Nxt.below hown.1 hown.2 hb (fun _ h=>h) (fun b h=>⟨.inl h,Nat.lt_of_lt_of_le (hown.1.fsz b h) hb.size⟩);have hle:∀ i l,G.ρ i=some l->upd G.ρ σ.n (G'.ρ 0) i=some l:=fun i l hi=>by
   rw[bZ _ _ (fun e=>by rw[e,hn.2]at hi;cases hi)];exact hi
  have hH:(σ.new t).H=upd σ.H σ.n (some t):=by funext j;simp[St.new,St.H,look,upd]
  have hold:∀(i b o:Nat),σ.H i≠none->G.ρ i=some (b,o)->b<w.heap.size:=fun i b o hi hr=>by
   cases hi':σ.H i with
   |none=>exact absurd hi' hi
   |some t' =>
    rcases hown.1.blk i t' hi' with⟨b',o',cs,cur,e,g1,g2,g3,_⟩|⟨g1,_⟩
    ·rw[hr]at g1;simp only[zaA,zaJ]at g1;rw[g1.1];exact lt_of_block g3
    ·rw[hr]at g1;cases g1
  refine⟨u,⟨upd G.ρ σ.n (G'.ρ 0),G.F⟩,he, ?_,aNU (fun l hl=>by show upd G.ρ σ.n (G'.ρ 0) σ.n=some l;rw[bU];exact hl) hr0 hrel⟩;unfold jO;rw[hH];refine⟨⟨fun i hi => ?_,hbase.wf.fsz,fun i t' hi' => ?_,fun i j b o o' hi hj hri hrj => ?_⟩,⟨hbase.fr.os,hbase.fr.tape,hbase.fr.output,hbase.fr.size,hbase.fr.same,hbase.fr.ext,hbase.fr.f0,hbase.fr.v9,fun i b o hi hri => ?_⟩,hbase.ext,fun _ h=>h,hle⟩
  ·have hi':σ.n+1<=i:=hi;have hne:i≠σ.n:=by omega
   have:=hown.1.free i (by omega:σ.n<=i);rw[bZ _ _ hne];exact⟨this.1,by show upd G.ρ σ.n _ i=none;rw[bZ _ _ hne];exact this.2⟩
  ·by_cases hin:i=σ.n
   ·subst hin;rw[bU]at hi';simp only[zaA]at hi';subst hi';rcases hwf.blk 0 t (by simp[aQP])with⟨b,o,cs,cur,e,g1,g2,g3,g4,g5⟩|g1
    ·refine .inl ⟨b,o,cs,cur,e,by show upd G.ρ σ.n _ _=_;rw[bU];exact g1,g2.eL hs,g3,g4,fun h => ?_⟩;have h1:=hloc b o g1;have h2:=hown.1.fsz b h;omega
    ·exact .inr ⟨by show upd G.ρ σ.n _ _=_;rw[bU];exact g1.1,g1.2⟩
   ·rw[bZ _ _ hin]at hi';rcases hbase.wf.blk i t' hi' with⟨b,o,cs,cur,e,g1,g2,g3,g4,g5⟩|g1
    ·exact .inl ⟨b,o,cs,cur,e,hle _ _ g1,g2.mono (Ext.refl _ _) (fun _ h=>h) hle,g3,g4,g5⟩
    ·exact .inr ⟨by show upd G.ρ σ.n _ _=_;rw[bZ _ _ hin];exact g1.1,g1.2⟩
  ·change upd G.ρ σ.n _ i=_ at hri;change upd G.ρ σ.n _ j=_ at hrj;by_cases hin:i=σ.n
   ·by_cases hjn:j=σ.n
    ·rw[hin,hjn]
    ·rw[hin,bU]at hri;rw[bZ _ _ hjn]at hrj hj;have h1:=hloc b o hri;have h2:=hold j b o' hj hrj;omega
   ·rw[bZ _ _ hin]at hri hi;by_cases hjn:j=σ.n
    ·rw[hjn,bU]at hrj;have h1:=hloc b o' hrj;have h2:=hold i b o hi hri;omega
    ·rw[bZ _ _ hjn]at hrj hj;exact hown.1.dis i j b o o' hi hj hri hrj
  ·change upd G.ρ σ.n _ i=_ at hri;by_cases hin:i=σ.n
   ·rw[hin,bU]at hri;have h1:=hloc b o hri;have h2:=hown.2.size;exact .inr (by omega)
   ·rw[bZ _ _ hin]at hri hi;exact hown.2.loc i b o hi hri
theorem aVV {q:Nat->Bool} {d:Option Nat} {f:Nat} {args:List AX} {r:List AG} {K:St->Prop} {v:AV} (hp:Pure P f (args.map σ.ev) v) (hi:AV.j7 (args.map σ.ev)=true) (h:wpOps (Ok P q) r (σ.put d v) K) :
  wpOps (Ok P q) (⟨d,.call f args,none⟩::r) σ K:=⟨v,σ,.inl ⟨rfl,hi,hp⟩,h⟩
end
theorem iM {C:Orc}:∀(Ψ Ψ':AE->St->Prop),(∀ e σ,Ψ e σ->Ψ' e σ)->∀(c:AC) (σ:St),wpC C c σ Ψ->wpC C c σ Ψ'
 |Ψ,Ψ',hΨ,.skip,σ,h=>hΨ _ _ h
 |Ψ,Ψ',hΨ,.ops l,σ,h=>uK (hΨ .normal) l σ h
 |Ψ,Ψ',hΨ,.aIJ l ps,σ,h=>uK (fun τ hk=>⟨hk.1,hΨ .normal τ hk.2⟩) l σ h
 |Ψ,Ψ',hΨ,.seq a b,σ,h=>iM _ _ (fun e τ he=>by
   cases e with
   |normal=>exact iM _ _ hΨ b τ he
   |exit _=>exact hΨ _ _ he
   |ret=>exact hΨ _ _ he) a σ h
 |Ψ,Ψ',hΨ,.cond c x y,σ,h=>by
  unfold wpC at h ⊢;split at h
  ·exact⟨fun hb=>iM _ _ hΨ x σ (h.1 hb),fun hb=>iM _ _ hΨ y σ (h.2 hb)⟩
  ·exact⟨iM _ _ hΨ x σ h.1,iM _ _ hΨ y σ h.2⟩
  ·cases h
 |Ψ,Ψ',hΨ,.block id c,σ,h=>iM _ _ (fun e τ he=>by
   cases e with
   |normal=>exact hΨ _ _ he
   |exit i =>
    simp only[AE.inBlock]at he ⊢;split at he
    ·rename_i hi;rw[if_pos hi];exact hΨ _ _ he
    ·rename_i hi;rw[if_neg hi];exact hΨ _ _ he
   |ret=>exact hΨ _ _ he) c σ h
 |Ψ,Ψ',hΨ,.loop c,σ,h=>by
  unfold wpC at h ⊢;obtain⟨Inv,μ,h0,hr⟩:=h;refine⟨Inv,μ,h0,fun τ hτ=>iM _ _ (fun e τ he => ?_) c τ (hr τ hτ)⟩;cases e with
  |normal=>exact he
  |exit _=>exact hΨ _ _ he
  |ret=>exact hΨ _ _ he
 |Ψ,Ψ',hΨ,.exit id,σ,h=>hΨ _ _ h
 |Ψ,Ψ',hΨ,.ret,σ,h=>hΨ _ _ h
 |Ψ,Ψ',hΨ,.frz,σ,h=>by obtain⟨τ,h1,h2⟩:=h;exact⟨τ,h1,hΨ _ _ h2⟩
def aDI:List (Nat×AV)->List (Nat×AV)->Prop
 |[],_=>True
 |(k,v)::r,e=>leA (get e k) v/\aDI r e
def aBC:List (Nat×Option AV)->List (Nat×Option AV)->(Nat->Option AV)->Prop
 |[],_,_=>True
 |(k,v)::r,hl,hb=>look hl hb k=v/\aBC r hl hb
theorem aAN:∀ {l e:List (Nat×AV)},aDI l e->∀ i,leA (get e i) (get l i)
 |[],e,h,i=>.inl rfl
 |(k,v)::r,e,h,i=>by
  simp only[get];by_cases hi:i=k
  ·subst hi;rw[if_pos rfl];exact h.1
  ·rw[if_neg hi];exact aAN h.2 i
theorem uM:∀ {l hl:List (Nat×Option AV)} {hb:Nat->Option AV},aBC l hl hb->∀ i,look l (fun _=>none) i=none\/look l (fun _=>none) i=look hl hb i
 |[],e,hb,h,i=>.inl rfl
 |(k,v)::r,e,hb,h,i=>by
  simp only[look];by_cases hi:i=k
  ·subst hi;rw[if_pos rfl];exact .inr h.1.symm
  ·rw[if_neg hi];exact uM h.2 i
theorem aSU {e env:List (Nat×AV)} {hl hl':List (Nat×Option AV)} {hb:Nat->Option AV} {n n':Nat} (h1:aDI env e) (h2:aBC hl' hl hb) (h3:n<=n'):pE ⟨e,hl,hb,n⟩ ⟨env,hl',fun _=>none,n'⟩ := ⟨aAN h1,uM h2,h3⟩
theorem aNW {C:Orc} {c:AC} {σ:St} {Φ:AE->St->Prop} {ι:Type} (S:ι->St) (V:ι->Prop) (m:ι->Nat) (i0:ι) (hV:V i0) (h0:cJ σ.n σ (S i0)) (hr:∀ i,V i->wpC C c (S i) (AE.then (fun τ=>∃ j,V j/\cJ σ.n τ (S j)/\m j<m i) Φ)):wpC C (.loop c) σ Φ:=by
 have hmin:∀ τ,∃ n:Nat,(∃ k,∃ i,V i/\S i=τ/\m i=k)->(∃ i,V i/\S i=τ/\m i=n)/\∀ k,(∃ i,V i/\S i=τ/\m i=k)->n<=k:=fun τ=>by
  by_cases hex:∃ k,∃ i,V i/\S i=τ/\m i=k
  ·obtain⟨n,h1,h2⟩:=least _ hex;exact⟨n,fun _=>⟨h1,h2⟩⟩
  ·exact⟨0,fun h=>absurd h hex⟩
 refine⟨fun τ=>∃ i,V i/\S i=τ,fun τ=>Classical.choose (hmin τ),⟨S i0,h0,i0,hV,rfl⟩,fun τ hτ => ?_⟩;obtain⟨i,hi,hS⟩:=hτ;obtain⟨⟨i,hi,hS,hmi⟩,_⟩:=Classical.choose_spec (hmin τ) ⟨m i,i,hi,hS,rfl⟩;subst hS;have:=hr i hi;have hmono:∀(Ψ Ψ':AE->St->Prop),(∀ e σ,Ψ e σ->Ψ' e σ)->∀(c:AC) (σ:St),wpC C c σ Ψ->wpC C c σ Ψ':=iM;refine hmono _ _ (fun e τ he => ?_) c _ this;cases e with
 |normal => obtain⟨j,hj,hw,hlt⟩:=he;refine⟨S j,hw,⟨j,hj,rfl⟩, ?_⟩;have h2:=(Classical.choose_spec (hmin (S j)) ⟨m j,j,hj,rfl,rfl⟩).2 _ ⟨j,hj,rfl,rfl⟩;show Classical.choose (hmin (S j))<Classical.choose (hmin (S i));omega
 |exit _=>exact he
 |ret=>exact he
theorem aX3 {C:Orc} {c:AC} {σ:St} {Φ:AE->St->Prop} {ι:Type} (S:ι->St) (V:ι->Prop) (m:ι->Nat) (i0:ι) (hV:V i0) (h0:pE σ (S i0)) (hr:∀ i,V i->wpC C c (S i) (AE.then (fun τ=>∃ j,V j/\aJB σ.n τ (S j)/\m j<m i) Φ)):wpC C (.loop c) σ Φ :=
 aNW S V m i0 hV (.of h0) fun i hi=>iM _ _ (fun e τ he=>by
  cases e with
  |normal => obtain⟨j,h1,h2,h3⟩:=he;exact⟨j,h1,.ofL h2,h3⟩
  |exit _=>exact he
  |ret=>exact he) c _ (hr i hi)
theorem aSV {C:Orc} {c:AC} {σ:St} {Φ:AE->St->Prop} {ι:Type} (S:ι->St) (V:ι->Prop) (m:ι->Nat) (i0:ι) (hV:V i0) (h0:pE σ (S i0)) (hr:∀ i,V i->wpC C c (S i) (AE.then (fun τ=>∃ j,V j/\pE τ (S j)/\m j<m i) Φ)):wpC C (.loop c) σ Φ :=
 aX3 S V m i0 hV h0 fun i hi=>iM _ _ (fun e τ he=>by
  cases e with
  |normal => obtain⟨j,h1,h2,h3⟩:=he;exact⟨j,h1,.of h2,h3⟩
  |exit _=>exact he
  |ret=>exact he) c _ (hr i hi)
end Go.Ra
namespace Go.Ra
set_option linter.unusedVariables false
set_option linter.unusedSimpArgs false
inductive XV where
 |int (k:IntKind) (n:Int)
 |bool (b:Bool)
 |str (n:Nat) (f:Nat->Int)
 |agg (n:Nat) (ts:List XV)
 |tab (n es:Nat) (f:Nat->XV)
 |row (x:Bool) (es n:Nat) (f:Nat->XV)
 |cH (t:XV)
 |sl (id:Nat) (path:List Nat) (off k len es:Nat)
 |ptr (id:Nat) (path:List Nat) (off:Nat)
 |clo (f:Nat) (caps:List XV)
 |tup (vs:List XV)
 |eQ
 |tri (z b:Bool)
 |unk
 |opt (g:Bool) (v:XV)
 |raw (v:AV)
 deriving Inhabited
def dP {α:Type} (n:Nat) (f:Nat->α):List α:=(List.range n).map f
def byt (n:Int):UInt8:=UInt8.ofNat n.toNat
def aFA (n:Nat) (f:Nat->Int):ByteArray:=⟨(dP n fun i=>byt (f i)).toArray⟩
mutual
def con:XV->AV
 |.int k n=>.sc (.int k n)
 |.bool b=>.sc (.bool b)
 |.str n f=>.sc (.string (aFA n f))
 |.agg n ts=>.agg n (cons ts)
 |.tab n es f=>.arr n es (dP n fun i=>con (f i))
 |.row x es n f=>.fro x es (dP n fun i=>con (f i))
 |.cH t=>.cH (con t)
 |.sl id p off k len es=>.sl id p off k len es
 |.ptr id p off=>.ptr id p off
 |.clo f cs=>.clo f (cons cs)
 |.tup vs=>.tup (cons vs)
 |.eQ=>.eQ
 |.tri z b=>cond z .eQ (B b)
 |.unk=>.unk
 |.opt g v=>cond g (con v) (.tup [])
 |.raw v=>v
def cons:List XV->List AV
 |[]=>[]
 |t::ts=>con t::cons ts
end
theorem mX:∀ ts:List XV,cons ts=ts.map con
 |[]=>rfl
 |t::ts=>by simp[cons,mX ts]
theorem bG {α:Type} {n:Nat} {f:Nat->α}:(dP n f).length=n:=by simp[dP]
theorem fI {α:Type} {n i:Nat} {f:Nat->α} (h:i<n):(dP n f)[i]? = some (f i):=by simp[dP,h]
theorem aVW {α:Type} {n i:Nat} {f:Nat->α} (h:¬i<n):(dP n f)[i]? = none:=by simp[dP];omega
theorem mC {α:Type} {n:Nat} {f g:Nat->α} (h:∀ i,i<n->f i=g i):dP n f=dP n g:=by refine List.map_congr_left fun i hi=>h i (List.mem_range.1 hi)
theorem lX {α:Type} {n:Nat} {f:Nat->α} {l:List α} (h:l.length=n) (hg:∀ i,i<n->l[i]? = some (f i)):l=dP n f:=by
 refine List.ext_getElem? fun i => ?_
 by_cases hi:i<n
 ·rw[hg i hi,fI hi]
 ·rw[aVW hi,List.getElem?_eq_none (by omega)]
theorem mY {α:Type} {n:Nat} {f:Nat->α}:dP n f=[]↔n=0:=by
 constructor
 ·intro h;rw[<-bG (n:=n) (f:=f),h];rfl
 ·rintro rfl;rfl
def XV.size:XV->Nat
 |.agg n _=>n
 |.tab n es _=>n*es
 |.opt g v=>cond g v.size 1
 |.raw v=>v.size
 |_=>1
def XV.isAgg:XV->Bool
 |.agg _ _=>true
 |.tab _ _ _=>true
 |.opt g v=>cond g v.isAgg false
 |.raw v=>v.isAgg
 |_=>false
def XV.aDJ:XV->Bool
 |.tup _=>false
 |.eQ=>false
 |.tri z _ => !z
 |.unk=>false
 |.opt g v=>cond g v.aDJ false
 |.raw v=>v.storable
 |_=>true
mutual
def XV.idf:XV->Bool
 |.agg _ ts=>XV.aGG ts
 |.clo _ cs=>XV.aGG cs
 |.sl .. => false
 |.ptr .. => false
 |.tup _=>false
 |.opt g v=>cond g v.idf false
 |.raw v=>v.fB
 |_=>true
def XV.aGG:List XV->Bool
 |[]=>true
 |t::ts=>cond t.idf (XV.aGG ts) false
end
mutual
def XV.sol:XV->Bool
 |.agg _ ts=>XV.aX4 ts
 |.tab n _ f=>gP (fun i=>(f i).sol) n
 |.tup ts=>XV.aX4 ts
 |.row _ _ n _=>Nat.beq n 0
 |.opt g v=>cond g v.sol false
 |.raw v=>v.eL
 |.cH _=>false
 |.sl .. => false
 |.ptr .. => false
 |.clo .. => false
 |_=>true
def XV.aX4:List XV->Bool
 |[]=>true
 |t::ts=>cond t.sol (XV.aX4 ts) false
end
theorem mZ:∀ t:XV,(con t).size=t.size
 |.opt g v=>by cases g;rfl;exact mZ v
 |.tri z b=>by cases z<;>rfl
 |.int .. => rfl
 |.bool _=>rfl
 |.str .. => rfl
 |.agg .. => rfl
 |.tab .. => rfl
 |.row .. => rfl
 |.cH _=>rfl
 |.sl .. => rfl
 |.ptr .. => rfl
 |.clo .. => rfl
 |.tup _=>rfl
 |.eQ=>rfl
 |.unk=>rfl
 |.raw _=>rfl
theorem sV:∀ t:XV,(con t).isAgg=t.isAgg
 |.opt g v=>by cases g;rfl;exact sV v
 |.tri z b=>by cases z<;>rfl
 |.int .. => rfl
 |.bool _=>rfl
 |.str .. => rfl
 |.agg .. => rfl
 |.tab .. => rfl
 |.row .. => rfl
 |.cH _=>rfl
 |.sl .. => rfl
 |.ptr .. => rfl
 |.clo .. => rfl
 |.tup _=>rfl
 |.eQ=>rfl
 |.unk=>rfl
 |.raw _=>rfl
theorem sW:∀ t:XV,(con t).storable=t.aDJ
 |.opt g v=>by cases g;rfl;exact sW v
 |.tri z b=>by cases z<;>rfl
 |.int .. => rfl
 |.bool _=>rfl
 |.str .. => rfl
 |.agg .. => rfl
 |.tab .. => rfl
 |.row .. => rfl
 |.cH _=>rfl
 |.sl .. => rfl
 |.ptr .. => rfl
 |.clo .. => rfl
 |.tup _=>rfl
 |.eQ=>rfl
 |.unk=>rfl
 |.raw _=>rfl
mutual
theorem yK:∀ t:XV,(con t).fB=t.idf
 |.opt g v=>by cases g;rfl;exact yK v
 |.tri z b=>by cases z<;>rfl
 |.int .. => rfl
 |.bool _=>rfl
 |.str .. => rfl
 |.agg n ts=>by simp[con,AV.fB,XV.idf,sX ts]
 |.tab .. => rfl
 |.row .. => rfl
 |.cH _=>rfl
 |.sl .. => rfl
 |.ptr .. => rfl
 |.clo f cs=>by simp[con,AV.fB,XV.idf,sX cs]
 |.tup _=>rfl
 |.eQ=>rfl
 |.unk=>rfl
 |.raw _=>rfl
theorem sX:∀ ts:List XV,AV.j7 (cons ts)=XV.aGG ts
 |[]=>rfl
 |t::ts=>by simp only[cons,AV.j7,XV.aGG,yK t,sX ts];cases t.idf<;>rfl
end
theorem dH {f:Nat->Bool}:∀ {n:Nat},gP f n=true↔∀ i,i<n->f i=true
 |0=>by simp[gP]
 |n+1=>by
  simp only[gP,zaG,dH (n:=n)];constructor
  ·rintro ⟨h1,h2⟩ i hi;by_cases e:i=n
   ·subst e;exact h1
   ·exact h2 i (by omega)
  ·intro h;exact⟨h n (by omega),fun i hi=>h i (by omega)⟩
theorem aAO:∀ {ts:List AV},AV.kG ts=true↔∀ t∈ts,t.eL=true
 |[]=>by simp[AV.kG]
 |t::ts=>by simp[AV.kG,aAO (ts:=ts)]
mutual
theorem rJ:∀ t:XV,t.sol=true->(con t).eL=true
 |.opt g v,h=>by cases g<;>simp[con,XV.sol,AV.eL]at h ⊢;exact rJ v h
 |.tri z b,h=>by cases z<;>rfl
 |.int ..,h=>rfl
 |.bool _,h=>rfl
 |.str ..,h=>rfl
 |.agg n ts,h=>by simp only[con,AV.eL];exact aGH ts (by simpa [XV.sol]using h)
 |.tab n es f,h=>by simp only[con,AV.eL,aAO,dP,List.mem_map,List.mem_range];rintro t ⟨i,hi,rfl⟩;simp only[XV.sol,dH]at h;exact rJ (f i) (h i hi)
 |.row x es n f,h=>by simp only[XV.sol]at h;have:n=0:=zaL h;subst this;rfl
 |.cH _,h=>by simp[XV.sol]at h
 |.sl ..,h=>by simp[XV.sol]at h
 |.ptr ..,h=>by simp[XV.sol]at h
 |.clo f cs,h=>by simp[XV.sol]at h
 |.tup ts,h=>by simp only[con,AV.eL];exact aGH ts (by simpa [XV.sol]using h)
 |.eQ,h=>rfl
 |.unk,h=>rfl
 |.raw _,h=>h
theorem aGH:∀ ts:List XV,XV.aX4 ts=true->AV.kG (cons ts)=true
 |[],h=>rfl
 |t::ts,h=>by
  simp only[XV.aX4]at h;cases ht:t.sol<;>rw[ht]at h
  ·cases h
  ·simp only[cons,AV.kG,rJ t ht,aGH ts h,zaS]
end
mutual
def mrg (b:Bool):XV->XV->XV
 |.int k x,.int k' y=>if k=k' then .int k (cond b x y)else .raw (cond b (.sc (.int k x)) (.sc (.int k' y)))
 |.bool x,.bool y=>.bool (cond b x y)
 |.agg n ts,.agg n' us=>cond (Nat.beq n n'&&Nat.beq ts.length us.length) (.agg n (a3P b ts us)) (.raw (cond b (.agg n (cons ts)) (.agg n' (cons us))))
 |.tab n es f,.tab n' es' f'=>cond (Nat.beq n n'&&Nat.beq es es') (.tab n es (fun i=>mrg b (f i) (f' i))) (.raw (cond b (con (.tab n es f)) (con (.tab n' es' f'))))
 |.row x es n f,.row x' es' n' f'=>cond (Nat.beq es es') (.row (cond b x x') es (cond b n n') (fun i=>mrg b (f i) (f' i))) (.raw (cond b (con (.row x es n f)) (con (.row x' es' n' f'))))
 |.str n f,.str n' f'=>.str (cond b n n') (fun i=>cond b (f i) (f' i))
 |.cH t,.cH u=>.cH (mrg b t u)
 |t,u=>.raw (cond b (con t) (con u))
def a3P (b:Bool):List XV->List XV->List XV
 |t::ts,u::us=>mrg b t u::a3P b ts us
 |_,_=>[]
end
mutual
theorem oM (b:Bool):∀ t u:XV,con (mrg b t u)=cond b (con t) (con u)
 |.int k x,.int k' y=>by
  simp only[mrg];split
  ·rename_i h;subst h;cases b<;>rfl
  ·cases b<;>rfl
 |.bool x,.bool y=>by cases b<;>rfl
 |.agg n ts,.agg n' us=>by
  simp only[mrg];cases h:(Nat.beq n n'&&Nat.beq ts.length us.length)
  ·cases b<;>rfl
  ·simp only[zaG]at h;have h1:=zaL h.1;have h2:=zaL h.2;subst h1;simp only[zaB,con,aJP b ts us h2];cases b<;>rfl
 |.tab n es f,.tab n' es' f'=>by
  simp only[mrg];cases h:(Nat.beq n n'&&Nat.beq es es')
  ·cases b<;>rfl
  ·simp only[zaG]at h;have h1:=zaL h.1;have h2:=zaL h.2;subst h1 h2;simp only[zaB,con];have:(fun i=>con (mrg b (f i) (f' i)))=fun i=>cond b (con (f i)) (con (f' i)):=funext fun i=>oM b (f i) (f' i)
   rw[this];cases b<;>rfl
 |.row x es n f,.row x' es' n' f'=>by
  simp only[mrg];cases h:Nat.beq es es'
  ·cases b<;>rfl
  ·have h2:=zaL h;subst h2;simp only[zaB,con];have:(fun i=>con (mrg b (f i) (f' i)))=fun i=>cond b (con (f i)) (con (f' i)):=funext fun i=>oM b (f i) (f' i)
   rw[this];cases b<;>rfl
 |.str n f,.str n' f'=>by cases b<;>rfl
 |.cH t,.cH u=>by simp only[mrg,con,oM b t u];cases b<;>rfl
 |.int ..,.bool _|.int ..,.str .. | .int ..,.agg .. | .int ..,.tab .. | .int ..,.row .. | .int ..,.cH _|.int ..,.sl .. | .int ..,.ptr .. | .int ..,.clo .. | .int ..,.tup _|.int ..,.eQ|.int ..,.tri .. | .int ..,.unk|.int ..,.opt .. | .int ..,.raw _=>by cases b<;>rfl
 |.bool _,.int .. | .bool _,.str .. | .bool _,.agg .. | .bool _,.tab .. | .bool _,.row .. | .bool _,.cH _|.bool _,.sl .. | .bool _,.ptr .. | .bool _,.clo .. | .bool _,.tup _|.bool _,.eQ|.bool _,.tri .. | .bool _,.unk|.bool _,.opt .. | .bool _,.raw _=>by cases b<;>rfl
 |.str ..,.int .. | .str ..,.bool _|.str ..,.agg .. | .str ..,.tab .. | .str ..,.row .. | .str ..,.cH _|.str ..,.sl .. | .str ..,.ptr .. | .str ..,.clo .. | .str ..,.tup _|.str ..,.eQ|.str ..,.tri .. | .str ..,.unk|.str ..,.opt .. | .str ..,.raw _=>by cases b<;>rfl
 |.agg ..,.int .. | .agg ..,.bool _|.agg ..,.str .. | .agg ..,.tab .. | .agg ..,.row .. | .agg ..,.cH _|.agg ..,.sl .. | .agg ..,.ptr .. | .agg ..,.clo .. | .agg ..,.tup _|.agg ..,.eQ|.agg ..,.tri .. | .agg ..,.unk|.agg ..,.opt .. | .agg ..,.raw _=>by cases b<;>rfl
 |.tab ..,.int .. | .tab ..,.bool _|.tab ..,.str .. | .tab ..,.agg .. | .tab ..,.row .. | .tab ..,.cH _|.tab ..,.sl .. | .tab ..,.ptr .. | .tab ..,.clo .. | .tab ..,.tup _|.tab ..,.eQ|.tab ..,.tri .. | .tab ..,.unk|.tab ..,.opt .. | .tab ..,.raw _=>by cases b<;>rfl
 |.row ..,.int .. | .row ..,.bool _|.row ..,.str .. | .row ..,.agg .. | .row ..,.tab .. | .row ..,.cH _|.row ..,.sl .. | .row ..,.ptr .. | .row ..,.clo .. | .row ..,.tup _|.row ..,.eQ|.row ..,.tri .. | .row ..,.unk|.row ..,.opt .. | .row ..,.raw _=>by cases b<;>rfl
 |.cH _,.int .. | .cH _,.bool _|.cH _,.str .. | .cH _,.agg .. | .cH _,.tab .. | .cH _,.row .. | .cH _,.sl .. | .cH _,.ptr .. | .cH _,.clo .. | .cH _,.tup _|.cH _,.eQ|.cH _,.tri .. | .cH _,.unk|.cH _,.opt .. | .cH _,.raw _=>by cases b<;>rfl
 |.sl ..,u=>by cases b<;>cases u<;>rfl
 |.ptr ..,u=>by cases b<;>cases u<;>rfl
 |.clo ..,u=>by cases b<;>cases u<;>rfl
 |.tup _,u=>by cases b<;>cases u<;>rfl
 |.eQ,u=>by cases b<;>cases u<;>rfl
 |.tri ..,u=>by cases b<;>cases u<;>rfl
 |.unk,u=>by cases b<;>cases u<;>rfl
 |.opt ..,u=>by cases b<;>cases u<;>rfl
 |.raw _,u=>by cases b<;>cases u<;>rfl
theorem aJP (b:Bool):∀ ts us:List XV,ts.length=us.length->cons (a3P b ts us)=cond b (cons ts) (cons us)
 |[],[],_=>by cases b<;>rfl
 |t::ts,u::us,h=>by simp only[a3P,cons,oM b t u,aJP b ts us (by simpa using h)];cases b<;>rfl
 |[],u::us,h=>by simp at h
 |t::ts,[],h=>by simp at h
end
def sel:List XV->Nat->XV
 |[],_=>.unk
 |[a],_=>a
 |a::b::r,i=>mrg (Nat.beq i 0) a (sel (b::r) (i-1))
theorem aK8:∀(l:List XV) (i:Nat) (a:XV),l[i]? = some a->con (sel l i)=con a
 |[],i,a,h=>by simp at h
 |[x],i,a,h=>by
  cases i with
  |zero=>simp only[List.getElem?_cons_zero,zaA]at h;subst h;rfl
  |succ i=>simp at h
 |x::y::r,0,a,h=>by simp only[List.getElem?_cons_zero,zaA]at h;subst h;simp only[sel,oM];rfl
 |x::y::r,i+1,a,h=>by simp only[sel,oM];have:=aK8 (y::r) i a (by simpa using h);rw[show Nat.beq (i+1) 0=false from rfl,zaD,Nat.add_sub_cancel];exact this
theorem aBD (l:List XV):cons l=dP l.length fun i=>con (sel l i):=by
 rw[mX];refine lX (by simp) fun i hi => ?_
 rw[List.getElem?_map,List.getElem?_eq_getElem hi,Option.map_some,aK8 l i l[i] (List.getElem?_eq_getElem hi)]
def aX5:Value->Value->Bool
 |.int k n,.int k' n'=>decide (k=k')&&decide (n=n')
 |.bool b,.bool b'=>b == b'
 |_,_=>false
theorem aX6 {v w:Value} (h:aX5 v w=true):v=w:=by
 unfold aX5 at h;split at h
 ·simp only[zaG,zaK]at h;rw[h.1,h.2]
 ·simp only[beq_iff_eq]at h;rw[h]
 ·cases h
def aX7 {α:Type}:List α->Bool
 |[]=>true
 |_=>false
mutual
def oB:AV->AV->Bool
 |.sc v,.sc w=>aX5 v w
 |.agg n ts,.agg n' us=>Nat.beq n n'&&aAP ts us
 |.fro x es ts,.fro x' es' us=>(x == x')&&Nat.beq es es'&&aX7 ts&&aX7 us
 |.arr n es ts,.arr n' es' us=>Nat.beq n n'&&Nat.beq es es'&&aAP ts us
 |_,_=>false
def aAP:List AV->List AV->Bool
 |[],[]=>true
 |t::ts,u::us=>oB t u&&aAP ts us
 |_,_=>false
end
mutual
theorem aNX:∀ t u:AV,oB t u=true->t=u
 |.sc v,u,h=>by cases u<;>first|(simp only[oB]at h;rw[aX6 h])|(simp[oB]at h)
 |.agg n ts,u,h=>by cases u<;>first|(simp only[oB,zaG]at h;rw[zaL h.1,aDK ts _ h.2])|(simp[oB]at h)
 |.fro x es ts,u,h=>by cases u<;>first|(simp only[oB,zaG,beq_iff_eq]at h;cases ts<;>rename_i ts'<;>cases ts'<;>first|(rw[h.1.1.1,zaL h.1.1.2];done)|(simp[aX7]at h))|(simp[oB]at h)
 |.arr n es ts,u,h=>by cases u<;>first|(simp only[oB,zaG]at h;rw[zaL h.1.1,zaL h.1.2,aDK ts _ h.2])|(simp[oB]at h)
 |.cH _,u,h=>by cases u<;>simp[oB]at h
 |.sl ..,u,h=>by cases u<;>simp[oB]at h
 |.ptr ..,u,h=>by cases u<;>simp[oB]at h
 |.clo ..,u,h=>by cases u<;>simp[oB]at h
 |.tup _,u,h=>by cases u<;>simp[oB]at h
 |.eQ,u,h=>by cases u<;>simp[oB]at h
 |.unk,u,h=>by cases u<;>simp[oB]at h
theorem aDK:∀ ts us:List AV,aAP ts us=true->ts=us
 |[],[],_=>rfl
 |t::ts,u::us,h=>by simp only[aAP,zaG]at h;rw[aNX t u h.1,aDK ts us h.2]
 |[],_::_,h=>by simp[aAP]at h
 |_::_,[],h=>by simp[aAP]at h
end
def aK9:List AV->Bool
 |[]=>true
 |t::ts=>ts.all (oB t)
mutual
def lift:AV->XV
 |.sc (.int k n)=>.int k n
 |.sc (.bool b)=>.bool b
 |.agg n ts=>.agg n (qE ts)
 |.arr n es ts=>cond (Nat.beq ts.length n) (cond (aK9 ts) (.tab n es (fun _=>sel (qE ts) 0)) (.tab n es (sel (qE ts)))) (.raw (.arr n es ts))
 |.fro x es ts=>cond (aX7 ts) (.row x es 0 (fun _=>.unk)) (.row x es ts.length (sel (qE ts)))
 |.clo f cs=>.clo f (qE cs)
 |.tup ts=>.tup (qE ts)
 |v=>.raw v
def qE:List AV->List XV
 |[]=>[]
 |t::ts=>lift t::qE ts
end
theorem aDL:∀ ts:List AV,(qE ts).length=ts.length
 |[]=>rfl
 |t::ts=>by simp[qE,aDL ts]
mutual
theorem wL:∀ v:AV,con (lift v)=v
 |.sc v=>by cases v<;>rfl
 |.agg n ts=>by simp[lift,con,mD ts]
 |.arr n es ts=>by
  simp only[lift];cases h:Nat.beq ts.length n
  ·rfl
  ·have h1:=zaL h;subst h1;have h2:=aBD (qE ts);rw[mD ts,aDL]at h2;cases h3:aK9 ts
   ·simp only[zaB,zaD,con];rw[<-h2]
   ·simp only[zaB,con];congr 1;refine(lX rfl fun i hi => ?_).symm;rw[List.getElem?_eq_getElem hi];cases ts with
    |nil=>simp at hi
    |cons t r =>
     have h4:(t::r)[i]=t:=by
      cases i with
      |zero=>rfl
      |succ i => simp only[aK9,List.all_eq_true]at h3;exact(aNX t _ (h3 _ (List.getElem_mem (by simpa using hi)))).symm
     rw[h4];have h5:=aK8 (qE (t::r)) 0 (lift t) rfl;rw[h5,wL t]
 |.fro x es ts=>by
  simp only[lift];cases h:aX7 ts
  ·simp only[zaD,con];have h2:=aBD (qE ts);rw[mD ts,aDL]at h2;rw[<-h2]
  ·cases ts with
   |nil=>rfl
   |cons t r=>cases h
 |.clo f cs=>by simp[lift,con,mD cs]
 |.tup ts=>by simp[lift,con,mD ts]
 |.cH _=>rfl
 |.sl .. => rfl
 |.ptr .. => rfl
 |.eQ=>rfl
 |.unk=>rfl
theorem mD:∀ ts:List AV,cons (qE ts)=ts
 |[]=>rfl
 |t::ts=>by simp[qE,cons,wL t,mD ts]
end
end Go.Ra
namespace Go.Ra
set_option linter.unusedVariables false
set_option linter.unusedSimpArgs false
structure XSt where
 env:List (Nat×XV)
 hl:List (Nat×Option XV)
 n:Nat
def nB:List (Nat×XV)->Nat->XV
 |[],_=>.unk
 |(k,v)::l,i=>cond (Nat.beq i k) v (nB l i)
def j8:List (Nat×Option XV)->Nat->Option XV
 |[],_=>none
 |(k,v)::l,i=>cond (Nat.beq i k) v (j8 l i)
def aSW:List (Nat×Option XV)->Nat->Option XV->List (Nat×Option XV)
 |[],i,t=>[(i,t)]
 |(k,v)::l,i,t=>cond (Nat.beq i k) ((k,t)::l) ((k,v)::aSW l i t)
def eS (l:List (Nat×XV)):List (Nat×AV):=l.map fun p=>(p.1,con p.2)
def iW (l:List (Nat×Option XV)):List (Nat×Option AV):=l.map fun p=>(p.1,p.2.map con)
def XSt.st (σ:XSt):St:=⟨eS σ.env,iW σ.hl,fun _=>none,σ.n⟩
def XSt.ev (σ:XSt):AX->XV
 |.t i=>nB σ.env i
 |.c v=>lift v
theorem jV {α:Type} {i k:Nat} {a b:α}:(cond (Nat.beq i k) a b)=if i=k then a else b:=by
 cases h:Nat.beq i k
 ·rw[if_neg (Nat.ne_of_beq_eq_false h)];rfl
 ·rw[if_pos (zaL h)];rfl
theorem fP:∀(l:List (Nat×XV)) (i:Nat),get (eS l) i=con (nB l i)
 |[],i=>rfl
 |(k,v)::l,i=>by
  simp only[eS,List.map_cons,get,nB,jV];split
  ·rfl
  ·exact fP l i
theorem p7:∀(l:List (Nat×Option XV)) (i:Nat),look (iW l) (fun _=>none) i=(j8 l i).map con
 |[],i=>rfl
 |(k,v)::l,i=>by
  simp only[iW,List.map_cons,look,j8,jV];split
  ·rfl
  ·exact p7 l i
theorem aJQ:∀(l:List (Nat×Option XV)) (i:Nat) (t:Option XV),aA4 (iW l) i (t.map con)=iW (aSW l i t)
 |[],i,t=>rfl
 |(k,v)::l,i,t=>by
  simp only[iW,List.map_cons,aA4,aSW,jV];split
  ·rfl
  ·rw[List.map_cons];exact congrArg _ (aJQ l i t)
theorem wM (σ:XSt) (x:AX):σ.st.ev x=con (σ.ev x):=by
 cases x with
 |t i=>exact fP σ.env i
 |c v=>exact(wL v).symm
theorem aAK (σ:XSt) (i:Nat):σ.st.H i=(j8 σ.hl i).map con:=p7 σ.hl i
def pl (k i:Nat):Nat:=cond (Nat.beq k 0) i (k+i)
theorem cC (k i:Nat):pl k i=k+i:=by
 unfold pl;cases h:Nat.beq k 0
 ·rfl
 ·rw[zaL h];exact(Nat.zero_add i).symm
def nth {α:Type}:List α->Nat->Option α
 |[],_=>none
 |a::_,0=>some a
 |_::l,i+1=>nth l i
theorem aSX {α:Type}:∀(l:List α) (i:Nat),nth l i=l[i]?
 |[],i=>rfl
 |a::l,0=>rfl
 |a::l,i+1=>by simp[nth,aSX l i]
def iI (l:List Bool):Prop:=∀ b∈l,b=true
theorem aBE:iI []:=fun b h=>by cases h
theorem bH {b:Bool} {l:List Bool}:iI (b::l)↔b=true/\iI l:=by simp[iI]
theorem fJ {l r:List Bool}:iI (l++r)↔iI l/\iI r:=by simp only[iI,List.mem_append];exact⟨fun h=>⟨fun b hb=>h b (.inl hb),fun b hb=>h b (.inr hb)⟩,fun h b hb=>hb.elim (h.1 b) (h.2 b)⟩
def uN:List XV->Nat
 |[]=>0
 |t::ts=>t.size+uN ts
theorem aAQ:∀ ts:List XV,j6 (cons ts)=uN ts
 |[]=>rfl
 |t::ts=>by simp[cons,j6,uN,mZ,aAQ ts]
theorem aJR (ts:List XV) (i:Nat):(cons ts).take i=cons (ts.take i):=by simp[mX]
theorem wN {ts:List XV} {i:Nat} {t:XV} (h:nth ts i=some t):(cons ts)[i]? = some (con t):=by rw[aSX]at h;rw[mX,List.getElem?_map,h];rfl
theorem aNY (ts:List XV) (i:Nat) (v:XV):(cons ts).set i (con v)=cons (ts.set i v):=by simp[mX,List.map_set]
def atx:XV->List Nat->Nat->Option (List Bool×Nat×XV)
 |t,[],acc=>some ([],acc,t)
 |.agg _ ts,i::p,acc =>
  match nth ts i with
  |some t=>atx t p (pl acc (uN (ts.take i)))
  |none=>none
 |.tab n es f,i::p,acc =>
  match atx (f i) p (pl acc (i*es))with
  |some (nd,o,u)=>some (decide (i<n)::nd,o,u)
  |none=>none
 |_,_::_,_=>none
 termination_by structural _ p=>p
theorem yL:∀(p:List Nat) (t:XV) (acc:Nat) (nd:List Bool) (o:Nat) (u:XV),atx t p acc=some (nd,o,u)->iI nd->∃ o',(con t).at? p=some (o',con u)/\o=acc+o'
 |[],t,acc,nd,o,u,h,hn=>by simp only[atx,zaA,zaJ]at h;obtain⟨_,rfl,rfl⟩:=h;exact⟨0,by cases h:con t<;>simp[AV.at?],rfl⟩
 |i::p,t,acc,nd,o,u,h,hn=>by
  cases t<;>simp only[atx]at h<;>first|(cases h;done)|skip
  ·rename_i n ts;split at h
   ·rename_i t' ht;obtain⟨o',h1,h2⟩:=yL p t' _ nd o u h hn;refine⟨j6 ((cons ts).take i)+o', ?_, ?_⟩
    ·simp only[con,AV.at?,wN ht,h1]
    ·rw[aJR,aAQ];rw[cC]at h2;omega
   ·cases h
  ·rename_i n es f;split at h
   ·rename_i nd' o1 u1 h1;simp only[zaA,zaJ]at h;obtain⟨rfl,rfl,rfl⟩:=h;rw[bH]at hn;obtain⟨o',h3,h4⟩:=yL p (f i) _ nd' o1 u1 h1 hn.2;have hi:i<n:=by simpa using hn.1
    rw[cC]at h4;refine⟨i*es+o', ?_,by omega⟩;simp only[con,AV.at?,fI hi,h3]
   ·cases h
def aVX:XV->List Nat->XV->Option (List Bool×XV)
 |_,[],v=>some ([],v)
 |.agg n ts,i::p,v =>
  match nth ts i with
  |some t =>
   match aVX t p v with
   |some (nd,u)=>some (nd,.agg n (ts.set i u))
   |none=>none
  |none=>none
 |.tab n es f,i::p,v =>
  match aVX (f i) p v with
  |some (nd,u)=>some (decide (i<n)::v.idf::nd,.tab n es (fun j=>mrg (Nat.beq j i) u (f j)))
  |none=>none
 |_,_::_,_=>none
 termination_by structural _ p=>p
theorem aGI:∀(p:List Nat) (t v:XV) (nd:List Bool) (u:XV),aVX t p v=some (nd,u)->iI nd->(con t).set? p (con v)=some (con u)
 |[],t,v,nd,u,h,hn=>by simp only[aVX,zaA,zaJ]at h;obtain⟨_,rfl⟩:=h;cases h:con t<;>simp[AV.set?]
 |i::p,t,v,nd,u,h,hn=>by
  cases t<;>simp only[aVX]at h<;>first|(cases h;done)|skip
  ·rename_i n ts;split at h
   ·rename_i t' ht;split at h
    ·rename_i nd' u1 h1;simp only[zaA,zaJ]at h;obtain⟨rfl,rfl⟩:=h;simp only[con,AV.set?,wN ht,aGI p t' v nd' u1 h1 hn,aNY]
    ·cases h
   ·cases h
  ·rename_i n es f;split at h
   ·rename_i nd' u1 h1;simp only[zaA,zaJ]at h;obtain⟨rfl,rfl⟩:=h;rw[bH,bH]at hn;have hi:i<n:=by simpa using hn.1
    simp only[con,AV.set?,fI hi,aGI p (f i) v nd' u1 h1 hn.2.2,yK,hn.2.1,if_true];refine congrArg some (congrArg _ (lX (by simp[bG]) fun j hj => ?_));rw[oM];by_cases hij:j=i
    ·subst hij;rw[zaQ,List.getElem?_set_self (by simpa [bG]using hj)];rfl
    ·rw[List.getElem?_set_ne (fun e=>hij e.symm),fI hj];rw[show Nat.beq j i=false from by rw[<-Bool.not_eq_true];exact fun e=>hij (zaL e)];rfl
   ·cases h
def aIQ (H:List (Nat×Option XV)) (es:Nat):XV->Option (List Bool×Nat×(Nat->XV))
 |.row _ es' n f=>cond (Nat.beq es' es||Nat.beq n 0) (some ([],n,f)) none
 |.sl id path off k len es2 =>
  match j8 H id with
  |some t =>
   match atx t path 0 with
   |some (nd,o,.tab n es' f)=>cond (Nat.beq es2 es&&Nat.beq es' es) (some (Nat.beq off (pl o (k*es))::decide (pl k len<=n)::nd,len,fun i=>f (pl k i))) none
   |_=>none
  |none=>none
 |_=>none
theorem oW {H:List (Nat×Option XV)} {σ:St} (hH:∀ i,σ.H i=(j8 H i).map con) {es n:Nat} {v:XV} {nd:List Bool} {f:Nat->XV} (h:aIQ H es v=some (nd,n,f)) (hn:iI nd):σ.row es (con v)=some (dP n fun i=>con (f i)):=by
 cases v<;>simp only[aIQ]at h<;>first|(cases h;done)|skip
 ·rename_i x es' m g;cases hb:(Nat.beq es' es||Nat.beq m 0)<;>rw[hb]at h
  ·cases h
  ·simp only[zaB,zaA,zaJ]at h;obtain⟨_,rfl,rfl⟩:=h;simp only[con,St.row];rw[if_pos];rw[zaV]at hb;exact hb.imp zaL (fun e=>mY.2 (zaL e))
 ·rename_i id path off k len es2;by_cases hl0:len=0
  ·subst hl0
   repeat' split at h
   all_goals first|(cases h;done)|skip
   revert h;generalize (Nat.beq es2 es&&Nat.beq _ es)=b;intro h;cases b
   ·cases h
   ·simp only[zaB,zaA,zaJ]at h;obtain⟨_,rfl,_⟩:=h;simp only[con,St.row,if_true];rfl
  split at h
  ·rename_i t ht;split at h
   ·rename_i nd' o m es' g ha;cases hb:(Nat.beq es2 es&&Nat.beq es' es)<;>rw[hb]at h
    ·cases h
    ·simp only[zaB,zaA,zaJ]at h;obtain⟨rfl,rfl,rfl⟩:=h;rw[bH,bH]at hn;obtain⟨o',h1,h2⟩:=yL path t 0 nd' o _ ha hn.2.2;rw[zaG]at hb;have e1:=zaL hb.1;have e2:=zaL hb.2;have e3:=zaL hn.1;have e4:k+len<=m:=by simpa [cC]using hn.2.1
     rw[cC]at e3;simp only[con]at h1;simp only[con,St.row,if_neg hl0,hH,ht,Option.map_some,h1];rw[if_pos ⟨e1,e2,by omega,by rw[bG];exact e4⟩];refine congrArg some (lX (by simp[bG];omega) fun i hi => ?_);rw[List.getElem?_take,if_pos hi,List.getElem?_drop,fI (by omega),cC]
   ·cases h
  ·cases h
def aNZ (H:List (Nat×Option XV)):XV->Option (List Bool×XV)
 |.cH t=>some ([],t)
 |.ptr id path off =>
  match j8 H id with
  |some t =>
   match atx t path 0 with
   |some (nd,o,u)=>some (Nat.beq o off::nd,u)
   |none=>none
  |none=>none
 |_=>none
theorem aDM {H:List (Nat×Option XV)} {σ:St} (hH:∀ i,σ.H i=(j8 H i).map con) {v u:XV} {nd:List Bool} (h:aNZ H v=some (nd,u)) (hn:iI nd):σ.oQ (con v)=some (con u):=by
 cases v<;>simp only[aNZ]at h<;>first|(cases h;done)|skip
 ·simp only[zaA,zaJ]at h;obtain⟨_,rfl⟩:=h;rfl
 ·rename_i id path off;split at h
  ·rename_i t ht;split at h
   ·rename_i nd' o u' ha;simp only[zaA,zaJ]at h;obtain⟨rfl,rfl⟩:=h;rw[bH]at hn;obtain⟨o',h1,h2⟩:=yL path t 0 nd' o _ ha hn.2;have e3:=zaL hn.1;simp only[con,St.oQ,hH,ht,Option.map_some,h1];rw[if_pos (by omega)]
   ·cases h
  ·cases h
def a3Q (op:BinOp) (k:IntKind) (a b:Int):Option (List Bool×XV) :=
 match op with
 |.add=>some ([],.int k (k.wrap (a+b)))
 |.sub=>some ([],.int k (k.wrap (a-b)))
 |.mul=>some ([],.int k (k.wrap (a*b)))
 |.quo=>some ([!decide (b=0)],.int k (k.wrap (a.tdiv b)))
 |.rem=>some ([!decide (b=0)],.int k (a.tmod b))
 |.and=>some ([],.int k (eR .and k a b))
 |.or=>some ([],.int k (eR .or k a b))
 |.xor=>some ([],.int k (eR .xor k a b))
 |.andNot=>some ([],.int k (eR .andNot k a b))
 |.eql=>some ([],.bool (decide (a=b)))
 |.neq=>some ([],.bool (decide (¬a=b)))
 |.lss=>some ([],.bool (decide (a<b)))
 |.leq=>some ([],.bool (decide (a<=b)))
 |.gtr=>some ([],.bool (decide (a>b)))
 |.geq=>some ([],.bool (decide (a>=b)))
 |.shl=>some ([decide (0<=b)],.int k (k.wrap (a*2^(Nat.min b.toNat k.bits))))
 |.shr=>some ([decide (0<=b)],.int k (a.fdiv (2^(Nat.min b.toNat k.bits))))
def aSY (n:Nat) (f:Nat->Int) (m:Nat) (g:Nat->Int):Bool:=cond (Nat.beq n m) (gP (fun i=>decide (byt (f i)=byt (g i))) n) false
def a9H (op:BinOp):XV->XV->Option (List Bool×XV)
 |.int k a,.int k' b=>if uA op=true\/k=k' then a3Q op k a b else none
 |.str n f,.str m g =>
  match op with
  |.eql=>some ([],.bool (aSY n f m g))
  |.neq=>some ([],.bool (!aSY n f m g))
  |.add=>some ([decide (n+m<=140737488351232)],.str (n+m) (fun i=>cond (decide (i<n)) (f i) (g (i-n))))
  |_=>none
 |_,_=>none
theorem aSZ {n m:Nat} {f g:Nat->Int}:decide ((aFA n f).toList=(aFA m g).toList)=aSY n f m g:=by
 have hl:∀(n:Nat) (f:Nat->Int),(aFA n f).toList=dP n fun i=>byt (f i):=fun n f=>by rw[ByteArray.toList_eq];unfold aFA;simp
 rw[hl,hl];unfold aSY;cases hb:Nat.beq n m
 ·rw[zaD];refine decide_eq_false fun e => ?_
  have:=congrArg List.length e;rw[bG,bG]at this;subst this;rw[zaQ]at hb;cases hb
 ·have e:=zaL hb;subst e;rw[zaB,Bool.eq_iff_iff,decide_eq_true_iff,dH];constructor
  ·intro h i hi;have:=congrArg (fun l=>l[i]?) h;simp only[fI hi,zaA]at this;simpa using this
  ·intro h;exact mC fun i hi=>by simpa using h i hi
theorem aX8 {op:BinOp} {k k':IntKind} {a b:Int} {nd:List Bool} {v:XV} (hk:uA op=true\/k=k') (h:a3Q op k a b=some (nd,v)) (hn:iI nd):∃ u,aFU op (.int k a) (.int k' b)=some u/\con v=.sc u:=by
 by_cases hs:uA op=true
 ·have e:aFU op (.int k a) (.int k' b)=shI op k a b:=by simp only[aFU,hs,if_true]
  rw[e];cases op<;>first|(exact absurd hs (by decide))|skip
  all_goals
   simp only[a3Q,zaA,zaJ]at h;obtain⟨rfl,rfl⟩:=h;have hb:¬b<0:=by
    have:0<=b:=by simpa [iI]using hn
    omega
   exact⟨_,by simp only[shI,hb,if_false],rfl⟩
 ·have hk':k=k':=hk.resolve_left hs;subst hk';have e:aFU op (.int k a) (.int k b)=aKV op k a b:=by simp only[aFU,hs,if_false,if_true];rfl
  rw[e];cases op<;>first|(exact absurd rfl hs)|skip
  all_goals
   simp only[a3Q,zaA,zaJ]at h;obtain⟨rfl,rfl⟩:=h
   first
    |exact⟨_,rfl,rfl⟩
    |(have hb:¬b=0:=by simpa [iI]using hn
      exact⟨_,by simp only[aKV,hb,if_false],rfl⟩)
theorem aJS {n:Nat} {f:Nat->Int}:(aFA n f).size=n:=by show(dP n fun i=>byt (f i)).toArray.size=n;simp[bG]
theorem aX9 {n m:Nat} {f g:Nat->Int}:aFA n f++aFA m g=aFA (n+m) fun i=>cond (decide (i<n)) (f i) (g (i-n)):=by
 refine ByteArray.ext ?_;rw[ByteArray.data_append];show(dP n fun i=>byt (f i)).toArray++(dP m fun i=>byt (g i)).toArray=(dP (n+m) _).toArray;rw[List.append_toArray];congr 1;refine lX (by simp[bG]) fun i hi => ?_
 by_cases hin:i<n
 ·rw[List.getElem?_append_left (by rw[bG];exact hin),fI hin];simp[hin]
 ·rw[List.getElem?_append_right (by rw[bG];omega),bG,fI (by omega)];simp[hin]
theorem aYA {op:BinOp} {x y v:XV} {nd:List Bool} (h:a9H op x y=some (nd,v)) (hn:iI nd):∃ a b u,con x=.sc a/\con y=.sc b/\aFU op a b=some u/\con v=.sc u:=by
 unfold a9H at h;split at h
 ·rename_i k a k' b;split at h
  ·rename_i hk;obtain⟨u,h1,h2⟩:=aX8 hk h hn;exact⟨_,_,u,rfl,rfl,h1,h2⟩
  ·cases h
 ·rename_i n f m g;cases op<;>simp only[zaA,zaJ,reduceCtorEq]at h<;>obtain⟨rfl,rfl⟩:=h
  ·have hb:n+m<=140737488351232:=by simpa [iI]using hn
   refine⟨_,_,.string (aFA n f++aFA m g),rfl,rfl, ?_, ?_⟩
   ·simp only[aFU,aJS,hb,if_true]
   ·simp only[con,aX9]
  ·exact⟨_,_,_,rfl,rfl,rfl,by rw[aSZ];rfl⟩
  ·exact⟨_,_,_,rfl,rfl,rfl,by rw[aSZ];rfl⟩
 ·cases h
mutual
def eqX:TS->XV->XV->Option Bool
 |.int,.int k a,.int k' b=>if k=k' then some (decide (a=b))else none
 |.bool,.bool a,.bool b=>some (a == b)
 |.agg l,.agg _ ts,.agg _ us=>aLA l ts us
 |.arr n es e,.tab n' es' f,.tab n'' es'' g => cond (Nat.beq n' n&&Nat.beq n'' n&&Nat.beq es' es&&Nat.beq es'' es&&gP (fun i=>(eqX e (f i) (g i)).isSome) n) (some (gP (fun i=>(eqX e (f i) (g i)).getD false) n)) none
 |_,_,_=>none
def aLA:List (Nat×TS)->List XV->List XV->Option Bool
 |[],[],[]=>some true
 |(n,e)::l,t::ts,u::us =>
  bif(Nat.beq t.size n&&Nat.beq u.size n)then
   match eqX e t u,aLA l ts us with
   |some a,some b=>some (a&&b)
   |_,_=>none
  else none
 |_,_,_=>none
end
theorem aN0 {e:TS} {F G:Nat->AV} {p:Nat->Bool}:∀(l:List Nat),(∀ i∈l,eqT e (F i) (G i)=some (p i))->aM7 e (l.map F) (l.map G)=some (l.all p)
 |[],_=>rfl
 |i::l,h=>by simp only[List.map_cons,aM7,h i (by simp),aN0 l fun j hj=>h j (by simp[hj]),List.all_cons]
mutual
theorem aLB:∀(s:TS) (x y:XV) (b:Bool),eqX s x y=some b->eqT s (con x) (con y)=some b
 |.int,x,y,b,h=>by cases x<;>cases y<;>simp only[eqX,reduceCtorEq]at h;simp only[con,eqT];exact h
 |.bool,x,y,b,h=>by cases x<;>cases y<;>simp only[eqX,reduceCtorEq]at h;simp only[con,eqT];exact h
 |.agg l,x,y,b,h=>by cases x<;>cases y<;>simp only[eqX,reduceCtorEq]at h;simp only[con,eqT];exact aN1 l _ _ b h
 |.arr n es e,x,y,b,h=>by
  cases x<;>cases y<;>simp only[eqX,reduceCtorEq]at h;rename_i n' es' f n'' es'' g;cases hc:(Nat.beq n' n&&Nat.beq n'' n&&Nat.beq es' es&&Nat.beq es'' es&&gP (fun i=>(eqX e (f i) (g i)).isSome) n)<;>rw[hc]at h
  ·cases h
  ·simp only[zaG]at hc;obtain⟨⟨⟨⟨h1,h2⟩,h3⟩,h4⟩,h5⟩:=hc;have h1:=zaL h1;have h2:=zaL h2;have h3:=zaL h3;have h4:=zaL h4;subst h1 h3;subst h2;subst h4;simp only[zaB,zaA]at h;rw[dH]at h5;simp only[con,eqT];rw[if_pos (by simp[bG]),dP,dP,aN0 (p:=fun i=>(eqX e (f i) (g i)).getD false)]
   ·rw[<-h];congr 1;rw[Bool.eq_iff_iff,dH,List.all_eq_true];simp
   ·intro i hi;have h6:=h5 i (List.mem_range.1 hi);cases h7:eqX e (f i) (g i)with
    |none=>rw[h7]at h6;cases h6
    |some c=>rw[aLB e (f i) (g i) c h7];rfl
theorem aN1:∀(l:List (Nat×TS)) (ts us:List XV) (b:Bool),aLA l ts us=some b->aFV l (cons ts) (cons us)=some b
 |[],[],[],b,h=>by simpa [aLA,aFV,cons]using h
 |(n,e)::l,t::ts,u::us,b,h=>by
  simp only[aLA]at h;cases hc:(Nat.beq t.size n&&Nat.beq u.size n)<;>rw[hc]at h
  ·cases h
  ·simp only[zaG]at hc;have h1:=zaL hc.1;have h2:=zaL hc.2;rw[zaB]at h;split at h
   ·rename_i c d h3 h4;simp only[cons,aFV,mZ,h1,h2,and_self,if_true,aLB e t u c h3,aN1 l ts us d h4];exact h
   ·cases h
 |[],_::_,_,b,h=>by simp[aLA]at h
 |[],[],_::_,b,h=>by simp[aLA]at h
 |_::_,[],_,b,h=>by simp[aLA]at h
 |_::_,_::_,[],b,h=>by simp[aLA]at h
end
def bDN:XV->Bool
 |.int .u8 _=>true
 |_=>false
def asN:XV->Int
 |.int _ n=>n
 |_=>0
theorem aEI {f:Nat->XV}:∀(l:List Nat),(∀ i∈l,bDN (f i)=true)->bytesOf (l.map fun i=>con (f i))=some (l.map fun i=>byt (asN (f i)))
 |[],_=>rfl
 |i::l,h=>by
  have h1:=h i (by simp);have h2:=aEI l fun j hj=>h j (by simp[hj])
  rw[List.map_cons];cases hf:f i<;>rw[hf]at h1<;>first|(cases h1;done)|skip
  rename_i k n;cases k<;>first|(cases h1;done)|skip
  simp only[con,bytesOf,h2,List.map_cons,hf,asN];rfl
def yM (len:Nat) (lo hi:Option XV):Option (List Bool×Nat×Nat) :=
 match lo,hi with
 |none,none=>some ([],0,len)
 |some (.int _ l),none=>some ([decide (0<=l),decide (l<=(len:Int))],l.toNat,len)
 |none,some (.int _ h)=>some ([decide (0<=h),decide (h<=(len:Int))],0,h.toNat)
 |some (.int _ l),some (.int _ h)=>some ([decide (0<=l),decide (l<=h),decide (h<=(len:Int))],l.toNat,h.toNat)
 |_,_=>none
theorem rK {len:Nat} {lo hi:Option XV} {nd:List Bool} {l h:Nat} (hb:yM len lo hi=some (nd,l,h)) (hn:iI nd):lW len (lo.map con) (hi.map con)=some (l,h)/\l<=h/\h<=len:=by
 unfold yM at hb;split at hb<;>simp only[zaA,zaJ,reduceCtorEq]at hb<;>obtain⟨rfl,rfl,rfl⟩:=hb
 all_goals try simp only[bH,zaK]at hn
 ·simp[lW]
 ·simp only[Option.map_some,Option.map_none,lW,con,asI];rw[if_pos (by omega)];simp;omega
 ·simp only[Option.map_some,Option.map_none,lW,con,asI];rw[if_pos (by omega)];simp;omega
 ·simp only[Option.map_some,Option.map_none,lW,con,asI];rw[if_pos (by omega)];simp;omega
def asX:XV->Option Int
 |.int _ n=>some n
 |_=>none
theorem yN {v:XV} {n:Int} (h:asX v=some n):asI (con v)=some n:=by cases v<;>simp only[asX,reduceCtorEq,zaA]at h;subst h;rfl
def aGJ (zero:List XV):List (Nat×XV)->Option (List XV)
 |[]=>some zero
 |(i,v)::r =>
  match nth zero i with
  |some z=>cond (Nat.beq v.size z.size&&v.aDJ&&(v.isAgg == z.isAgg)) (aGJ (zero.set i v) r) none
  |none=>none
theorem aGK:∀(l:List (Nat×XV)) (zero ts:List XV),aGJ zero l=some ts->wD (cons zero) (l.map fun p=>(p.1,con p.2))=some (cons ts)
 |[],zero,ts,h=>by simp only[aGJ,zaA]at h;subst h;rfl
 |(i,v)::r,zero,ts,h=>by
  simp only[aGJ]at h;split at h
  ·rename_i z hz;cases hc:(Nat.beq v.size z.size&&v.aDJ&&(v.isAgg == z.isAgg))<;>rw[hc]at h
   ·cases h
   ·simp only[zaG,beq_iff_eq]at hc;simp only[List.map_cons,wD,wN hz,mZ,sW,sV];rw[if_pos ⟨zaL hc.1.1,hc.1.2,hc.2⟩,aNY];exact aGK r _ ts h
  ·cases h
def aAR (es:Nat):List XV->Bool
 |[]=>true
 |v::r=>cond (Nat.beq v.size es&&v.aDJ&&v.idf) (aAR es r) false
theorem aAS {es:Nat}:∀ {l:List XV},aAR es l=true->aEA es (cons l)=true
 |[],_=>rfl
 |v::r,h=>by
  simp only[aAR]at h;cases hc:(Nat.beq v.size es&&v.aDJ&&v.idf)<;>rw[hc]at h
  ·cases h
  ·simp only[zaG]at hc;simp only[cons,aEA,mZ,sW,yK,zaL hc.1.1,hc.1.2,hc.2,beq_self_eq_true,zaR];exact aAS h
def aBF:List XV->Bool
 |[]=>true
 |v::r=>cond (v.aDJ && !v.isAgg) (aBF r) false
theorem aEJ:∀ {l:List XV},aBF l=true->aAF (cons l)=true
 |[],_=>rfl
 |v::r,h=>by
  simp only[aBF]at h;cases hc:(v.aDJ && !v.isAgg)<;>rw[hc]at h
  ·cases h
  ·simp only[zaG]at hc;simp only[cons,aAF,sW,sV,hc.1,hc.2,zaR];exact aEJ h
def aN2 (f:Int->Int->Int) (k:IntKind) (a:Int):List XV->Option XV
 |[]=>some (.int k a)
 |.int k' b::l=>if k=k' then aN2 f k (f a b) l else none
 |_=>none
def foldX' (f:Int->Int->Int):List XV->Option XV
 |.int k a::l=>aN2 f k a l
 |_=>none
theorem aJT {f:Int->Int->Int} {k:IntKind}:∀ {l:List XV} {a:Int} {v:XV},aN2 f k a l=some v->aEB f k a (cons l)=some (con v)
 |[],a,v,h=>by simp only[aN2,zaA]at h;subst h;rfl
 |x::l,a,v,h=>by
  cases x<;>simp only[aN2,reduceCtorEq]at h;split at h
  ·rename_i hk;simp only[cons,con,aEB];rw[if_pos hk];exact aJT h
  ·cases h
theorem foldX'_con {f:Int->Int->Int} {l:List XV} {v:XV} (h:foldX' f l=some v):foldI f (cons l)=some (con v):=by
 cases l with
 |nil=>simp[foldX']at h
 |cons x l => cases x<;>simp only[foldX',reduceCtorEq]at h;simp only[cons,con,foldI];exact aJT h
end Go.Ra
namespace Go.Ra
set_option linter.unusedVariables false
set_option linter.unusedSimpArgs false
def zK:AOp->List AX
 |.mv x=>[x]
 |.pick c a b=>[c,a,b]
 |.box x=>[x]
 |.build _ _ ps=>ps.map (·.2)
 |.bsl _ xs=>xs
 |.aU9 _ _ xs=>xs
 |.load _ _ x=>[x]
 |.store _ x v=>[x,v]
 |.aFT x=>[x]
 |.bin _ x y=>[x,y]
 |.eqs _ _ x y=>[x,y]
 |.eqn _ x=>[x]
 |.un _ x=>[x]
 |.conv _ x=>[x]
 |.b2s x=>[x]
 |.slice _ x lo hi=>x::(lo.toList++hi.toList)
 |.aAE _ _ x lo hi=>x::(lo.toList++hi.toList)
 |.aVA _ _ _ x=>[x]
 |.aM6 _ _ x i=>[x,i]
 |.ext x _=>[x]
 |.mkf _ cs=>cs
 |.mks _ _ _ x=>[x]
 |.app _ _ s x=>[s,x]
 |.aQA _ _ x=>[x]
 |.aQB _ _ _ x=>[x]
 |.len _ x=>[x]
 |.lens x=>[x]
 |.copy _ x y=>[x,y]
 |.min xs=>xs
 |.max xs=>xs
 |.call _ xs=>xs
 |.n7 f xs=>f::xs
 |.lO _ xs=>xs
def aS0 (H:List (Nat×Option XV)) (e:AX->XV):AOp->Option (List Bool×XV)
 |.mv x=>some ([],e x)
 |.build n zero parts =>
  match aGJ (qE zero) (parts.map fun p=>(p.1,e p.2))with
  |some ts=>some ([],.agg n ts)
  |none=>none
 |.aU9 n es xs=>cond (aAR es (xs.map e)&&Nat.beq xs.length n) (some ([],.tab n es (sel (xs.map e)))) none
 |.bsl es xs=>cond (aAR es (xs.map e)) (some ([],.row true es xs.length (sel (xs.map e)))) none
 |.load ag n x =>
  match aNZ H (e x)with
  |some (nd,u)=>cond (u.isAgg == ag&&Nat.beq u.size n) (some (nd,u)) none
  |none=>none
 |.aFT x =>
  match e x with
  |.ptr id p o=>some ([],.ptr id p o)
  |.cH t=>some ([],.cH t)
  |.clo f c=>some ([],.clo f c)
  |_=>none
 |.bin op x y=>a9H op (e x) (e y)
 |.eqs neg ts x y =>
  match eqX ts (e x) (e y)with
  |some b=>some ([],.bool (cond neg (!b) b))
  |none=>none
 |.eqn neg x =>
  match e x with
  |.row _ _ n _=>some ([],.tri (Nat.beq n 0) neg)
  |.sl _ _ _ _ len _=>some ([],.tri (Nat.beq len 0) neg)
  |_=>none
 |.un op x =>
  match op,e x with
  |.not,.bool b=>some ([],.bool (!b))
  |.not,.tri z b=>some ([],.tri z (!b))
  |.not,.eQ=>some ([],.eQ)
  |.neg,.int k a=>some ([],.int k (k.wrap (0-a)))
  |.xor,.int k a=>some ([],.int k (eR .xor k (if k.signed then -1 else k.max) a))
  |_,_=>none
 |.conv k x =>
  match e x with
  |.int _ a=>some ([],.int k (k.wrap a))
  |_=>none
 |.b2s x =>
  match aIQ H 1 (e x)with
  |some (nd,n,f)=>some (gP (fun i=>bDN (f i)) n::nd,.str n (fun i=>asN (f i)))
  |none=>none
 |.slice es x lo hi =>
  match e x with
  |.row _ es' n f =>
   match yM n (lo.map e) (hi.map e)with
   |some (nd,l,h)=>cond (Nat.beq es' es) (some (nd,.row false es (h-l) (fun i=>f (pl l i)))) none
   |none=>none
  |.sl id path off k len es' =>
   match yM len (lo.map e) (hi.map e)with
   |some (nd,l,h)=>cond (Nat.beq es' es) (some (nd,.sl id path (pl off (l*es)) (pl k l) (h-l) es)) none
   |none=>none
  |_=>none
 |.aAE n es x lo hi =>
  match e x with
  |.ptr id path off =>
   match yM n (lo.map e) (hi.map e),j8 H id with
   |some (nd,l,h),some t =>
    match atx t path 0 with
    |some (nd',o,.tab n' es' _)=>cond (Nat.beq n' n&&Nat.beq es' es&&Nat.blt 0 es) (some (Nat.beq o off::(nd++nd'),.sl id path (pl off (l*es)) l (h-l) es)) none
    |_=>none
   |_,_=>none
  |.cH (.tab n' es' f) =>
   match yM n (lo.map e) (hi.map e)with
   |some (nd,l,h)=>cond (Nat.beq es' es&&Nat.beq n' n) (some (nd,.row false es (h-l) (fun i=>f (pl l i)))) none
   |none=>none
  |_=>none
 |.aVA i off n x =>
  match e x with
  |.ptr id path o=>some ([],.ptr id (path++[i]) (pl o off))
  |.cH (.agg _ ts) =>
   match nth ts i with
   |some u=>cond (Nat.beq (uN (ts.take i)) off) (some ([],.cH u)) none
   |none=>none
  |_=>none
 |.aM6 a es x i =>
  match a,e x,asX (e i)with
  |none,.row _ es' n f,some j=>cond (Nat.beq es' es) (some ([decide (0<=j),decide (j<(n:Int))],.cH (f j.toNat))) none
  |none,.sl id path off k len es',some j=>cond (Nat.beq es' es) (some ([decide (0<=j),decide (j<(len:Int))],.ptr id (path++[pl k j.toNat]) (pl off (j.toNat*es)))) none
  |some n,.ptr id path off,some j=>some ([decide (0<=j),decide (j<(n:Int))],.ptr id (path++[j.toNat]) (pl off (j.toNat*es)))
  |some n,.cH (.tab n' es' f),some j=>cond (Nat.beq es' es&&Nat.beq n' n) (some ([decide (0<=j),decide (j<(n:Int))],.cH (f j.toNat))) none
  |_,_,_=>none
 |.ext x i =>
  match e x with
  |.tup vs =>
   match nth vs i with
   |some v=>some ([],v)
   |none=>none
  |_=>none
 |.mkf f cs=>cond (aBF (cs.map e)) (some ([],.clo f (cs.map e))) none
 |.aQB es bytes zero len =>
  match asX (e len)with
  |some n=>cond (Nat.blt 0 bytes) (some ([decide (0<=n),decide (n.toNat*bytes<=140737488355328)],.row false es n.toNat (fun _=>lift zero))) none
  |none=>none
 |.aQA es bytes x =>
  match aIQ H es (e x)with
  |some (nd,n,f)=>cond (Nat.blt 0 bytes) (some (decide (n*bytes<=140737488355328)::nd,.row false es n f)) none
  |none=>none
 |.len a x =>
  match a,e x with
  |some n,_=>some ([],.int .i64 n)
  |none,.row _ _ n _=>some ([],.int .i64 n)
  |none,.sl _ _ _ _ len _=>some ([],.int .i64 len)
  |_,_=>none
 |.lens x =>
  match e x with
  |.str n _=>some ([],.int .i64 n)
  |_=>none
 |.min xs =>
  match foldX' (fun a b=>if b<a then b else a) (xs.map e)with
  |some v=>some ([],v)
  |none=>none
 |.max xs =>
  match foldX' (fun a b=>if b>a then b else a) (xs.map e)with
  |some v=>some ([],v)
  |none=>none
 |_=>none
theorem aJU {α:Type} {n l h:Nat} {f:Nat->α} (h1:l<=h) (h2:h<=n):((dP n f).take h).drop l=dP (h-l) fun i=>f (pl l i):=by
 refine lX (by simp[bG];omega) fun i hi => ?_
 rw[List.getElem?_drop,List.getElem?_take,if_pos (by omega),fI (by omega),cC]
theorem aDN {σ:St} {e:AX->XV}:∀ {l:List AX},(∀ x∈l,σ.ev x=con (e x))->l.map σ.ev=cons (l.map e)
 |[],_=>rfl
 |x::l,h=>by simp only[List.map_cons,cons,h x (by simp)];rw[aDN fun y hy=>h y (by simp[hy])]
theorem aLC {σ:St} {e:AX->XV} {x:Option AX} (h:∀ y∈x.toList,σ.ev y=con (e y)):x.map σ.ev=(x.map e).map con:=by
 cases x with
 |none=>rfl
 |some y=>simp[h y (by simp)]
theorem aYB (z b:Bool):a22 (cond z AV.eQ (B b))=some (cond z AV.eQ (B (!b))):=by cases z<;>rfl
theorem aJV {H:List (Nat×Option XV)} {σ:St} {e:AX->XV} {o:AOp} {nd:List Bool} {v:XV} (hH:∀ i,σ.H i=(j8 H i).map con) (he:∀ x∈zK o,σ.ev x=con (e x)) (h:aS0 H e o=some (nd,v)) (hn:iI nd):aX o σ=some (con v,σ):=by
 cases o<;>simp only[aS0,reduceCtorEq]at h<;>simp only[zK,List.mem_cons,List.not_mem_nil,or_false,forall_eq_or_imp,forall_eq]at he
 case mv x => simp only[zaA,zaJ]at h;obtain⟨_,rfl⟩:=h;simp only[aX,he]
 case build n zero parts =>
  split at h
  ·rename_i ts ht;simp only[zaA,zaJ]at h;obtain⟨_,rfl⟩:=h;have h1:=aGK _ _ _ ht;rw[mD,List.map_map]at h1;have h2:(parts.map fun p=>(p.1,σ.ev p.2))=List.map ((fun p=>(p.1,con p.2)) ∘ fun p=>(p.1,e p.2)) parts:=by
    refine List.map_congr_left fun p hp => ?_
    simp only[Function.comp];rw[he p.2 (List.mem_map.2 ⟨p,hp,rfl⟩)]
   simp only[aX,h2,h1];rfl
  ·cases h
 case aU9 n es xs =>
  cases hc:(aAR es (xs.map e)&&Nat.beq xs.length n)<;>rw[hc]at h
  ·cases h
  ·simp only[zaB,zaA,zaJ]at h;obtain⟨_,rfl⟩:=h;rw[zaG]at hc;have hl:=zaL hc.2;have h1:=aDN he;simp only[aX,h1,aAS hc.1,con];rw[if_pos ⟨trivial,hl⟩];have h2:=aBD (xs.map e);rw[List.length_map,hl]at h2;rw[<-h2]
 case bsl es xs =>
  cases hc:aAR es (xs.map e)<;>rw[hc]at h
  ·cases h
  ·simp only[zaB,zaA,zaJ]at h;obtain⟨_,rfl⟩:=h;have h1:=aDN he;simp only[aX,h1,aAS hc,if_true,con];have h2:=aBD (xs.map e);rw[List.length_map]at h2;rw[<-h2]
 case load ag n x =>
  split at h
  ·rename_i nd' u hl;cases hc:(u.isAgg == ag&&Nat.beq u.size n)<;>rw[hc]at h
   ·cases h
   ·simp only[zaB,zaA,zaJ]at h;obtain⟨rfl,rfl⟩:=h;simp only[zaG,beq_iff_eq]at hc;simp only[aX,he,aDM hH hl hn,sV,mZ];rw[if_pos ⟨hc.1,zaL hc.2⟩]
  ·cases h
 case aFT x =>
  split at h<;>simp only[zaA,zaJ,reduceCtorEq]at h
  all_goals
   rename_i hx;obtain⟨_,rfl⟩:=h;simp only[aX,he,hx,con]
 case bin op x y => obtain⟨a,b,u,h1,h2,h3,h4⟩:=aYA h hn;simp only[aX,he.1,he.2,h1,h2,h3,h4]
 case eqs neg ts x y =>
  split at h
  ·rename_i b hb;simp only[zaA,zaJ]at h;obtain⟨_,rfl⟩:=h;simp only[aX,he.1,he.2,aLB _ _ _ _ hb,con,B];cases neg<;>rfl
  ·cases h
 case eqn neg x =>
  split at h<;>simp only[zaA,zaJ,reduceCtorEq]at h
  ·rename_i x' es n f hx;obtain⟨_,rfl⟩:=h;simp only[aX,he,hx,con,aW0];cases hz:Nat.beq n 0
   ·have:(dP n fun i=>con (f i)).isEmpty=false:=by
     rw[List.isEmpty_eq_false_iff];exact fun e=>Nat.ne_of_beq_eq_false hz (mY.1 e)
    rw[this];rfl
   ·have:(dP n fun i=>con (f i)).isEmpty=true:=by
     rw[List.isEmpty_iff];exact mY.2 (zaL hz)
    rw[this];rfl
  ·rename_i id p off k len es hx;obtain⟨_,rfl⟩:=h;simp only[aX,he,hx,con,aW0];cases hz:Nat.beq len 0
   ·rw[if_neg (Nat.ne_of_beq_eq_false hz)];rfl
   ·rw[if_pos (zaL hz)];rfl
 case un op x => split at h<;>simp only[zaA,zaJ,reduceCtorEq]at h<;>rename_i hx<;>obtain⟨_,rfl⟩:=h<;>simp only[aX,he,hx,con,aYB]<;>rfl
 case conv k x => split at h<;>simp only[zaA,zaJ,reduceCtorEq]at h;rename_i hx;obtain⟨_,rfl⟩:=h;simp only[aX,he,hx,con]
 case b2s x =>
  split at h<;>simp only[zaA,zaJ,reduceCtorEq]at h;rename_i nd' n f hr;obtain⟨rfl,rfl⟩:=h;rw[bH,dH]at hn;have h1:=oW hH hr hn.2;have h2:=aEI (f:=f) (List.range n) fun i hi=>hn.1 i (List.mem_range.1 hi)
  simp only[aX,he,h1,dP,h2,con,aFA]
 case slice es x lo hi =>
  have hlo:=aLC (σ:=σ) (e:=e) (x:=lo) fun y hy=>he.2 y (by simp[hy])
  have hhi:=aLC (σ:=σ) (e:=e) (x:=hi) fun y hy=>he.2 y (by simp[hy])
  split at h
  ·rename_i x' es' n f hx;split at h
   ·rename_i nd' l r hb;cases hc:Nat.beq es' es<;>rw[hc]at h
    ·cases h
    ·simp only[zaB,zaA,zaJ]at h;obtain⟨rfl,rfl⟩:=h;obtain⟨h1,h2,h3⟩:=rK hb hn;simp only[aX,he.1,hx,con,bG,hlo,hhi,h1];rw[if_pos (zaL hc),aJU h2 h3]
   ·cases h
  ·rename_i id path off k len es' hx;split at h
   ·rename_i nd' l r hb;cases hc:Nat.beq es' es<;>rw[hc]at h
    ·cases h
    ·simp only[zaB,zaA,zaJ]at h;obtain⟨rfl,rfl⟩:=h;obtain⟨h1,h2,h3⟩:=rK hb hn;simp only[aX,he.1,hx,con,hlo,hhi,h1];rw[if_pos (zaL hc),cC,cC]
   ·cases h
  ·cases h
 case aAE n es x lo hi =>
  have hlo:=aLC (σ:=σ) (e:=e) (x:=lo) fun y hy=>he.2 y (by simp[hy])
  have hhi:=aLC (σ:=σ) (e:=e) (x:=hi) fun y hy=>he.2 y (by simp[hy])
  split at h
  ·rename_i id path off hx;split at h
   ·rename_i nd' l r t hb ht;split at h
    ·rename_i nd2 o n' es' f ha;cases hc:(Nat.beq n' n&&Nat.beq es' es&&Nat.blt 0 es)<;>rw[hc]at h
     ·cases h
     ·simp only[zaB,zaA,zaJ]at h;obtain⟨rfl,rfl⟩:=h;rw[bH,fJ]at hn;simp only[zaG]at hc;obtain⟨h1,h2,h3⟩:=rK hb hn.2.1;obtain⟨o',h4,h5⟩:=yL _ _ _ _ _ _ ha hn.2.2;simp only[con]at h4;have e1:=zaL hn.1;simp only[aX,he.1,hx,con,hlo,hhi,h1,hH,ht,Option.map_some,h4];rw[if_pos ⟨by omega,zaL hc.1.1,zaL hc.1.2,Nat.le_of_ble_eq_true hc.2⟩,cC]
    ·cases h
   ·cases h
  ·rename_i n' es' f hx;split at h
   ·rename_i nd' l r hb;cases hc:(Nat.beq es' es&&Nat.beq n' n)<;>rw[hc]at h
    ·cases h
    ·simp only[zaB,zaA,zaJ]at h;obtain⟨rfl,rfl⟩:=h;simp only[zaG]at hc;obtain⟨h1,h2,h3⟩:=rK hb hn;have e1:=zaL hc.1;have e2:=zaL hc.2;simp only[aX,he.1,hx,con,hlo,hhi,h1];rw[if_pos ⟨e1,e2⟩,aJU h2 (by omega)]
   ·cases h
  ·cases h
 case aVA i off n x =>
  split at h
  ·rename_i id path o hx;simp only[zaA,zaJ]at h;obtain⟨_,rfl⟩:=h;simp only[aX,he,hx,con,cC]
  ·rename_i m ts hx;split at h
   ·rename_i u hu;cases hc:Nat.beq (uN (ts.take i)) off<;>rw[hc]at h
    ·cases h
    ·simp only[zaB,zaA,zaJ]at h;obtain⟨_,rfl⟩:=h;simp only[aX,he,hx,con,wN hu,aJR,aAQ];rw[if_pos (zaL hc)]
   ·cases h
  ·cases h
 case aM6 a es x i =>
  split at h
  ·rename_i x' es' n f j hx hj;cases hc:Nat.beq es' es<;>rw[hc]at h
   ·cases h
   ·simp only[zaB,zaA,zaJ]at h;obtain⟨rfl,rfl⟩:=h;simp only[bH,zaK]at hn;simp only[aX,he.1,hx,con,he.2,yN hj];rw[if_pos ⟨hn.1,zaL hc⟩,fI (by omega)]
  ·rename_i id path off k len es' j hx hj;cases hc:Nat.beq es' es<;>rw[hc]at h
   ·cases h
   ·simp only[zaB,zaA,zaJ]at h;obtain⟨rfl,rfl⟩:=h;simp only[bH,zaK]at hn;simp only[aX,he.1,hx,con,he.2,yN hj];rw[if_pos ⟨hn.1,hn.2.1,zaL hc⟩,cC,cC]
  ·rename_i n id path off j hx hj;simp only[zaA,zaJ]at h;obtain⟨rfl,rfl⟩:=h;simp only[bH,zaK]at hn;simp only[aX,he.1,hx,con,he.2,yN hj];rw[if_pos ⟨hn.1,hn.2.1⟩,cC]
  ·rename_i n n' es' f j hx hj;cases hc:(Nat.beq es' es&&Nat.beq n' n)<;>rw[hc]at h
   ·cases h
   ·simp only[zaB,zaA,zaJ]at h;obtain⟨rfl,rfl⟩:=h;simp only[bH,zaK]at hn;simp only[zaG]at hc;have e1:=zaL hc.1;have e2:=zaL hc.2;simp only[aX,he.1,hx,con,he.2,yN hj];rw[if_pos ⟨hn.1,e1,e2⟩,fI (by omega)]
  ·cases h
 case ext x i =>
  split at h
  ·rename_i vs hx;split at h
   ·rename_i u hu;simp only[zaA,zaJ]at h;obtain⟨_,rfl⟩:=h;simp only[aX,he,hx,con,wN hu]
   ·cases h
  ·cases h
 case mkf f cs =>
  cases hc:aBF (cs.map e)<;>rw[hc]at h
  ·cases h
  ·simp only[zaB,zaA,zaJ]at h;obtain⟨_,rfl⟩:=h;simp only[aX,aDN he,aEJ hc,if_true,con]
 case aQB es bytes zero len =>
  split at h
  ·rename_i n hx;cases hc:Nat.blt 0 bytes<;>rw[hc]at h
   ·cases h
   ·simp only[zaB,zaA,zaJ]at h;obtain⟨rfl,rfl⟩:=h;simp only[bH,zaK]at hn;simp only[aX,he,yN hx,con];rw[if_pos ⟨hn.1,Nat.le_of_ble_eq_true hc,hn.2.1⟩];have:List.replicate n.toNat zero=dP n.toNat fun _=>con (lift zero):=by
     refine lX (by simp) fun i hi => ?_
     rw[List.getElem?_replicate,if_pos hi,wL]
    rw[this]
  ·cases h
 case aQA es bytes x =>
  split at h
  ·rename_i nd' n f hr;cases hc:Nat.blt 0 bytes<;>rw[hc]at h
   ·cases h
   ·simp only[zaB,zaA,zaJ]at h;obtain⟨rfl,rfl⟩:=h;rw[bH,zaK]at hn;simp only[aX,he,oW hH hr hn.2,bG,con];rw[if_pos ⟨Nat.le_of_ble_eq_true hc,hn.1⟩]
  ·cases h
 case len a x =>
  split at h
  ·simp only[zaA,zaJ]at h;obtain⟨_,rfl⟩:=h;simp only[aX,con,I]
  ·rename_i hx;simp only[zaA,zaJ]at h;obtain⟨_,rfl⟩:=h;simp only[aX,he,hx,con,I,bG]
  ·rename_i hx;simp only[zaA,zaJ]at h;obtain⟨_,rfl⟩:=h;simp only[aX,he,hx,con,I]
  ·cases h
 case lens x =>
  split at h
  ·rename_i n f hx;simp only[zaA,zaJ]at h;obtain⟨_,rfl⟩:=h;simp only[aX,he,hx,con,I,aJS]
  ·cases h
 case min xs =>
  split at h
  ·rename_i u hu;simp only[zaA,zaJ]at h;obtain⟨_,rfl⟩:=h;simp only[aX,aDN he,foldX'_con hu]
  ·cases h
 case max xs =>
  split at h
  ·rename_i u hu;simp only[zaA,zaJ]at h;obtain⟨_,rfl⟩:=h;simp only[aX,aDN he,foldX'_con hu]
  ·cases h
def a3R (n:Nat) (f g:Nat->XV):Option (Nat->XV) :=
 match f 0 with
 |.unk=>cond (Nat.beq n 0) (some g) none
 |_=>some fun i=>mrg (decide (i<n)) (f i) (g (i-n))
theorem aN3 {n m:Nat} {f g k:Nat->XV} (h:a3R n f g=some k):(dP (n+m) fun i=>con (k i))=(dP n fun i=>con (f i))++dP m fun i=>con (g i):=by
 have key:∀ k:Nat->XV,(∀ i,con (k i)=cond (decide (i<n)) (con (f i)) (con (g (i-n))))->(dP (n+m) fun i=>con (k i))=(dP n fun i=>con (f i))++dP m fun i=>con (g i):=by
  intro k hk;refine(lX (by simp[bG]) fun i hi => ?_).symm;rw[hk];by_cases hin:i<n
  ·rw[List.getElem?_append_left (by rw[bG];exact hin),fI hin];simp[hin]
  ·rw[List.getElem?_append_right (by rw[bG];omega),bG,fI (by omega)];simp[hin]
 unfold a3R at h;split at h
 ·cases hc:Nat.beq n 0<;>rw[hc]at h
  ·cases h
  ·simp only[zaB,zaA]at h;subst h;have:=zaL hc;subst this;exact key _ fun i=>by simp
 ·simp only[zaA]at h;subst h;exact key _ fun i=>oM _ _ _
def XSt.put (σ:XSt) (d:Option Nat) (v:XV):XSt :=
 match d with
 |some d=>⟨(d,v)::σ.env,σ.hl,σ.n⟩
 |none=>σ
def XSt.new (σ:XSt) (t:XV):XSt:=⟨σ.env,(σ.n,some t)::σ.hl,σ.n+1⟩
def XSt.rB (σ:XSt) (i:Nat) (t:Option XV):XSt:=⟨σ.env,aSW σ.hl i t,σ.n⟩
def XSt.back (σ τ:XSt):XSt:=⟨σ.env,τ.hl,τ.n⟩
theorem aAT (σ:XSt) (d:Option Nat) (v:XV):(σ.put d v).st=σ.st.put d (con v):=by cases d<;>rfl
theorem aLD (σ:XSt) (t:XV):(σ.new t).st=σ.st.new (con t):=rfl
theorem aLE (σ:XSt) (i:Nat) (t:Option XV):(σ.rB i t).st=σ.st.rB i (t.map con):=by simp only[XSt.st,XSt.rB,St.rB,aJQ]
theorem aS1 (σ τ:XSt):(σ.back τ).st=σ.st.back τ.st:=rfl
def aN4 (σ:XSt) (e:AX->XV):AOp->Option (List Bool×XV×XSt)
 |.box x=>cond ((e x).aDJ) (some ([],.ptr σ.n [] 0,σ.new (e x))) none
 |.store n x v =>
  match e x with
  |.ptr id path off =>
   match j8 σ.hl id with
   |some t =>
    match atx t path 0,aVX t path (e v)with
    |some (nd,o,u),some (nd',t')=>cond (Nat.beq u.size n&&Nat.beq (e v).size n&&(e v).aDJ) (some (Nat.beq o off::(nd++nd'),.tup [],σ.rB id (some t'))) none
    |_,_=>none
   |none=>none
  |_=>none
 |.mks es bytes zero len =>
  match asX (e len)with
  |some n=>cond (Nat.blt 0 bytes) (some ([decide (0<=n),decide (n.toNat*bytes<=140737488355328)],.sl σ.n [] 0 0 n.toNat es,σ.new (.tab n.toNat es (fun _=>lift zero)))) none
  |none=>none
 |.app es bytes s x =>
  match aIQ σ.hl es (e x),e s with
  |some (nd,m,g),.row true es' n f =>
   match a3R n f g with
   |some k=>cond ((Nat.beq es' es||Nat.beq n 0)&&Nat.blt 0 bytes) (some (((Nat.beq n 0 || !Nat.beq m 0))::decide (pl n m*bytes<=140737488355328)::nd,.sl σ.n [] 0 0 (pl n m) es,σ.new (.tab (pl n m) es k))) none
   |none=>none
  |some (nd,m,g),.sl id [] off k len es' =>
   match j8 σ.hl id with
   |some (.tab m' es'' f) =>
    match a3R len (fun i=>f (pl k i)) g with
    |some h=>cond (Nat.beq es'' es&&Nat.beq es' es&&Nat.blt 0 bytes) (some (Nat.beq off (k*es)::decide (pl k len<=m')::decide (pl len m*bytes<=140737488355328)::nd,.sl σ.n [] 0 0 (pl len m) es,(σ.rB id none).new (.tab (pl len m) es h))) none
    |none=>none
   |_=>none
  |_,_=>none
 |.copy es x y =>
  match e x,aIQ σ.hl es (e y)with
  |.sl id [] off k len es',some (nd,m,g) =>
   match j8 σ.hl id with
   |some (.tab n es'' f)=>cond (Nat.beq es' es&&Nat.beq es'' es&&Nat.beq off 0&&Nat.beq k 0) (some (Nat.beq len n::nd,.int .i64 (Nat.min m len:Nat),σ.rB id (some (.tab n es (fun i=>mrg (decide (i<m)) (g i) (f i)))))) none
   |_=>none
  |_,_=>none
 |_=>none
theorem aVY {σ τ:XSt} {s:St} {e:AX->XV} {o:AOp} {nd:List Bool} {v:XV} (hs:s=σ.st) (he:∀ x∈zK o,s.ev x=con (e x)) (h:aN4 σ e o=some (nd,v,τ)) (hn:iI nd):aX o s=some (con v,τ.st):=by
 subst hs;have hH:=aAK σ;cases o<;>simp only[aN4,reduceCtorEq]at h<;>simp only[zK,List.mem_cons,List.not_mem_nil,or_false,forall_eq_or_imp,forall_eq]at he
 case box x =>
  cases hc:(e x).aDJ<;>rw[hc]at h
  ·cases h
  ·simp only[zaB,zaA,zaJ]at h;obtain⟨_,rfl,rfl⟩:=h;simp only[aX,he,sW,hc,if_true,aLD,con];rfl
 case store n x w =>
  split at h
  ·rename_i id path off hx;split at h
   ·rename_i t ht;split at h
    ·rename_i nd1 o u nd2 t' h1 h2;cases hc:(Nat.beq u.size n&&Nat.beq (e w).size n&&(e w).aDJ)<;>rw[hc]at h
     ·cases h
     ·simp only[zaB,zaA,zaJ]at h;obtain⟨rfl,rfl,rfl⟩:=h;rw[bH,fJ]at hn;simp only[zaG]at hc;obtain⟨o',h3,h4⟩:=yL _ _ _ _ _ _ h1 hn.2.1;have h5:=aGI _ _ _ _ _ h2 hn.2.2;have e1:=zaL hn.1;simp only[aX,he.1,he.2,hx,con,hH,ht,Option.map_some,h3,h5,mZ,sW,aLE];rw[if_pos ⟨by omega,zaL hc.1.1,zaL hc.1.2,hc.2⟩];rfl
    ·cases h
   ·cases h
  ·cases h
 case mks es bytes zero len =>
  split at h
  ·rename_i n hx;cases hc:Nat.blt 0 bytes<;>rw[hc]at h
   ·cases h
   ·simp only[zaB,zaA,zaJ]at h;obtain⟨rfl,rfl,rfl⟩:=h;simp only[bH,zaK]at hn;simp only[aX,he,yN hx,con,aLD];rw[if_pos ⟨hn.1,Nat.le_of_ble_eq_true hc,hn.2.1⟩];have:List.replicate n.toNat zero=dP n.toNat fun _=>con (lift zero):=by
     refine lX (by simp) fun i hi => ?_
     rw[List.getElem?_replicate,if_pos hi,wL]
    rw[this];rfl
  ·cases h
 case app es bytes y x =>
  split at h
  ·rename_i nd1 m g es' n f h1 h2;split at h
   ·rename_i k hk;cases hc:((Nat.beq es' es||Nat.beq n 0)&&Nat.blt 0 bytes)<;>rw[hc]at h
    ·cases h
    ·simp only[zaB,zaA,zaJ]at h;obtain⟨rfl,rfl,rfl⟩:=h;simp only[bH,zaK,cC]at hn;simp only[zaG,zaV]at hc;simp only[cC];simp only[aX,he.1,he.2,oW hH h1 hn.2.2,h2,con,aVB,bG];have a1:=hc.1.imp zaL (fun e=>(mY (f:=fun i=>con (f i))).2 (zaL e));have a2:(dP n fun i=>con (f i))=[]\/(dP m fun i=>con (g i))≠[]:=by
      rw[mY,ne_eq,mY];have:=hn.1;simp only[zaV,Bool.not_eq_true']at this;exact this.imp zaL Nat.ne_of_beq_eq_false
     rw[if_pos ⟨a1,a2,Nat.le_of_ble_eq_true hc.2,hn.2.1⟩,aLD];simp only[con];rw[aN3 hk];rfl
   ·cases h
  ·rename_i nd1 m g id off k len es' h1 h2;split at h
   ·rename_i m' es'' f h3;split at h
    ·rename_i h' hk;cases hc:(Nat.beq es'' es&&Nat.beq es' es&&Nat.blt 0 bytes)<;>rw[hc]at h
     ·cases h
     ·simp only[zaB,zaA,zaJ]at h;obtain⟨rfl,rfl,rfl⟩:=h;simp only[bH,zaK,cC]at hn;simp only[zaG]at hc;simp only[cC];simp only[aX,he.1,he.2,oW hH h1 hn.2.2.2,h2,con,aVB,bG,hH,h3,Option.map_some];rw[if_pos ⟨zaL hc.1.1,zaL hc.1.2,zaL hn.1,hn.2.1,Nat.le_of_ble_eq_true hc.2,hn.2.2.1⟩,aLD,aLE];have h4:((dP m' fun i=>con (f i)).drop k).take len=dP len fun i=>con (f (pl k i)):=by
       refine lX (by simp[bG];omega) fun i hi => ?_
       rw[List.getElem?_take,if_pos hi,List.getElem?_drop,fI (by omega),cC]
      simp only[con];rw[h4,aN3 hk];rfl
    ·cases h
   ·cases h
  ·cases h
 case copy es x y =>
  split at h
  ·rename_i id off k len es' nd1 m g h1 h2;split at h
   ·rename_i n es'' f h3;cases hc:(Nat.beq es' es&&Nat.beq es'' es&&Nat.beq off 0&&Nat.beq k 0)<;>rw[hc]at h
    ·cases h
    ·simp only[zaB,zaA,zaJ]at h;obtain⟨rfl,rfl,rfl⟩:=h;simp only[bH]at hn;simp only[zaG]at hc;have e1:=zaL hn.1;simp only[aX,he.1,he.2,oW hH h2 hn.2,h1,con,bG,hH,h3,Option.map_some];rw[if_pos ⟨zaL hc.1.1.1,zaL hc.1.1.2,zaL hc.1.2,zaL hc.2,e1⟩,aLE];have:(dP n fun i=>con (mrg (decide (i<m)) (g i) (f i)))=(dP m fun i=>con (g i)).take len++(dP n fun i=>con (f i)).drop m:=by
      refine(lX (by simp[bG];omega) fun i hi => ?_).symm;rw[oM];by_cases him:i<m
      ·rw[List.getElem?_append_left (by simp[bG];omega),List.getElem?_take,if_pos (by omega),fI him];simp[him]
      ·rw[List.getElem?_append_right (by simp[bG];omega),List.getElem?_drop,List.length_take,bG,fI (by omega)];simp only[him,zaE,zaD,zaA];congr 2;omega
     simp only[Option.map_some,con];rw[this];rfl
   ·cases h
  ·cases h
end Go.Ra
namespace Go.Ra
set_option linter.unusedVariables false
set_option linter.unusedSimpArgs false
def aIR (f:XV->Option (List Bool×XV)):List XV->Option (List Bool×List XV)
 |[]=>some ([],[])
 |v::r =>
  match f v,aIR f r with
  |some (nd,u),some (nd',us)=>some (nd++nd',u::us)
  |_,_=>none
def aFB (H:List (Nat×Option XV)):Nat->XV->Option (List Bool×XV)
 |0,v=>cond v.idf (some ([],v)) none
 |k+1,v =>
  match v with
  |.sl id path off kk len es =>
   match aIQ H es (.sl id path off kk len es)with
   |some (nd,n,f)=>some (nd,.row false es n f)
   |none=>none
  |.ptr id path off =>
   match aNZ H (.ptr id path off)with
   |some (nd,u) =>
    match aFB H k u with
    |some (nd',u')=>some (nd++nd',.cH u')
    |none=>none
   |none=>none
  |.agg n ts =>
   match aIR (aFB H k) ts with
   |some (nd,us)=>some (nd,.agg n us)
   |none=>none
  |.tup ts =>
   match aIR (aFB H k) ts with
   |some (nd,us)=>some (nd,.tup us)
   |none=>none
  |.clo f ts =>
   match aIR (aFB H k) ts with
   |some (nd,us)=>some (nd,.clo f us)
   |none=>none
  |.raw (.sc v)=>some ([],.raw (.sc v))
  |.raw _=>none
  |.opt _ _=>none
  |.tri _ _=>none
  |v=>cond v.idf (some ([],v)) none
theorem qF {f:XV->Option (List Bool×XV)} {g:AV->Option AV} (hf:∀ v nd u,f v=some (nd,u)->iI nd->g (con v)=some (con u)):∀ {l:List XV} {nd:List Bool} {us:List XV},aIR f l=some (nd,us)->iI nd->lL g (cons l)=some (cons us)
 |[],nd,us,h,hn=>by simp only[aIR,zaA,zaJ]at h;obtain⟨_,rfl⟩:=h;rfl
 |v::r,nd,us,h,hn=>by
  simp only[aIR]at h;split at h
  ·rename_i nd1 u nd2 us' h1 h2;simp only[zaA,zaJ]at h;obtain⟨rfl,rfl⟩:=h;rw[fJ]at hn;simp only[cons,lL,hf _ _ _ h1 hn.1,qF hf h2 hn.2]
  ·cases h
theorem qG {H:List (Nat×Option XV)} {σ:St} (hH:∀ i,σ.H i=(j8 H i).map con):∀(k:Nat) (v:XV) (nd:List Bool) (u:XV),aFB H k v=some (nd,u)->iI nd->frz σ k (con v)=some (con u)
 |0,v,nd,u,h,hn=>by
  simp only[aFB]at h;cases hc:v.idf<;>rw[hc]at h
  ·cases h
  ·simp only[zaB,zaA,zaJ]at h;obtain⟨_,rfl⟩:=h;simp only[frz,yK,hc,if_true]
 |k+1,v,nd,u,h,hn=>by
  have ih:=qG hH k;cases v<;>simp only[aFB]at h
  case sl id path off kk len es =>
   split at h
   ·rename_i nd' n f hr;simp only[zaA,zaJ]at h;obtain⟨rfl,rfl⟩:=h;have:=oW hH hr hn;simp only[con]at this;simp only[con,frz,this]
   ·cases h
  case ptr id path off =>
   split at h
   ·rename_i nd' w hl;split at h
    ·rename_i nd2 w' hw;simp only[zaA,zaJ]at h;obtain⟨rfl,rfl⟩:=h;rw[fJ]at hn;have:=aDM hH hl hn.1;simp only[con]at this;simp only[con,frz,this,ih _ _ _ hw hn.2]
    ·cases h
   ·cases h
  case agg n ts =>
   split at h
   ·rename_i nd' us hm;simp only[zaA,zaJ]at h;obtain⟨rfl,rfl⟩:=h;simp only[con,frz,qF ih hm hn]
   ·cases h
  case tup ts =>
   split at h
   ·rename_i nd' us hm;simp only[zaA,zaJ]at h;obtain⟨rfl,rfl⟩:=h;simp only[con,frz,qF ih hm hn]
   ·cases h
  case clo f ts =>
   split at h
   ·rename_i nd' us hm;simp only[zaA,zaJ]at h;obtain⟨rfl,rfl⟩:=h;simp only[con,frz,qF ih hm hn]
   ·cases h
  case raw w => cases w<;>simp only[aFB,zaA,zaJ,reduceCtorEq]at h;obtain⟨_,rfl⟩:=h;rfl
  case opt=>cases h
  case tri=>cases h
  all_goals
   simp only[XV.idf,zaB,zaA,zaJ]at h;obtain⟨_,rfl⟩:=h;rfl
def lQ:List Bool->Prop->Prop
 |[],p=>p
 |b::l,p=>cond b (lQ l p) False
theorem dQ:∀ {l:List Bool} {p:Prop},lQ l p↔iI l/\p
 |[],p=>by simp[lQ,aBE]
 |b::l,p=>by
  cases b
  ·simp[lQ,bH]
  ·simp only[lQ,zaB,dQ (l:=l),bH,true_and]
def aGL (g:Bool):List Bool->Prop->Prop
 |[],p=>p
 |b::l,p=>cond (cond b true (!g)) (aGL g l p) False
theorem aDO {g:Bool}:∀ {l:List Bool} {p:Prop},aGL g l p↔(g=true->iI l)/\p
 |[],p=>by simp[aGL,aBE]
 |b::l,p=>by
  cases b
  ·cases g
   ·simp[aGL,aDO (l:=l)]
   ·simp[aGL,bH]
  ·simp only[aGL,zaB,aDO (l:=l),bH,true_and]
def strip:XV->XV
 |.opt _ v=>v
 |v=>v
def lY:XV->List Bool
 |.opt g _=>[g]
 |_=>[]
theorem iK {v:XV} (h:iI (lY v)):con v=con (strip v):=by
 cases v<;>try rfl
 rename_i g v;simp only[lY,bH]at h;simp only[con,strip,h.1,zaB]
def nC (e:AX->XV):List AX->List Bool
 |[]=>[]
 |x::l=>lY (e x)++nC e l
theorem wO {e:AX->XV}:∀ {l:List AX},iI (nC e l)->∀ x∈l,con (e x)=con (strip (e x))
 |[],h,x,hx=>by cases hx
 |y::l,h,x,hx=>by
  simp only[nC,fJ]at h;rcases List.mem_cons.1 hx with rfl|hx
  ·exact iK h.1
  ·exact wO h.2 x hx
def a7E (a b:XV) (c:Bool):List Bool :=
 match a,b with
 |.opt ga _,.opt gb _=>[cond c ga gb]
 |.opt ga _,_=>[cond c ga true]
 |_,.opt gb _=>[cond c true gb]
 |_,_=>[]
def aS2 (c a b:XV):Option (List Bool×XV) :=
 match strip c with
 |.bool t =>
  match a,b with
  |_,.tup []=>some (lY c++t::lY a,strip a)
  |.tup [],_=>some (lY c++(!t)::lY b,strip b)
  |_,_=>some (lY c++a7E a b t,mrg t (strip a) (strip b))
 |_=>none
theorem aJW {σ:St} {e:AX->XV} {c a b:AX} {nd:List Bool} {v:XV} (he:∀ x,σ.ev x=con (e x)) (h:aS2 (e c) (e a) (e b)=some (nd,v)) (hn:iI nd):aX (.pick c a b) σ=some (con v,σ):=by
 unfold aS2 at h;split at h
 ·rename_i t hc;split at h
  ·rename_i ha hb;simp only[zaA,zaJ]at h;obtain⟨rfl,rfl⟩:=h;rw[fJ,bH]at hn;have h1:=iK hn.1;rw[hc]at h1;simp only[aX,he,h1,con];rw[hn.2.1];simp only[if_true];rw[iK hn.2.2]
  ·rename_i ha hb;simp only[zaA,zaJ]at h;obtain⟨rfl,rfl⟩:=h;rw[fJ,bH]at hn;have h1:=iK hn.1;rw[hc]at h1;simp only[aX,he,h1,con];have ht:t=false:=by simpa using hn.2.1
   rw[ht];simp only[zaU,if_false];rw[iK hn.2.2]
  ·simp only[zaA,zaJ]at h;obtain⟨rfl,rfl⟩:=h;rw[fJ]at hn;have h1:=iK hn.1;rw[hc]at h1;simp only[aX,he,h1,con,oM];have h2:=hn.2;unfold a7E at h2;cases t
   ·simp only[zaU,if_false,zaD];congr 2;refine iK ?_;cases ha:e a<;>cases hb:e b<;>simp only[ha,hb,lY,aBE,bH,zaD]at h2 ⊢ <;> exact h2
   ·simp only[if_true,zaB];congr 2;refine iK ?_;cases ha:e a<;>cases hb:e b<;>simp only[ha,hb,lY,aBE,bH,zaB]at h2 ⊢ <;> exact h2
 ·cases h
inductive XG where
 |one (d:Option Nat) (o:AOp)
 |run (t:Nat) (b:Bool) (l:List (Option Nat×AOp))
def isD (d:Option Nat) (t:Nat):Bool :=
 match d with
 |some d=>Nat.beq d t
 |none=>false
def a3S (d:Option Nat) (o:AOp) (t:Nat) (b:Bool):List XG->List XG
 |.run t' b' l::gs=>cond (Nat.beq t t'&&(b == b') && !isD d t) (.run t b ((d,o)::l)::gs) (.run t b [(d,o)]::.run t' b' l::gs)
 |gs=>.run t b [(d,o)]::gs
def grp:List AG->List XG
 |[]=>[]
 |⟨d,o,none⟩::r=>.one d o::grp r
 |⟨d,o,some (t,b)⟩::r=>a3S d o t b (grp r)
def aYC (t:Nat) (b:Bool):List (Option Nat×AOp)->List AG->List AG
 |[],r=>r
 |(d,o)::l,r=>⟨d,o,some (t,b)⟩::aYC t b l r
def ung:List XG->List AG
 |[]=>[]
 |.one d o::r=>⟨d,o,none⟩::ung r
 |.run t b l::r=>aYC t b l (ung r)
def aBG (t:Nat):List (Option Nat×AOp)->Bool
 |[]=>true
 |[_]=>true
 |(d,_)::l => !isD d t&&aBG t l
def okG:List XG->Bool
 |[]=>true
 |.one _ _::r=>okG r
 |.run t _ l::r=>aBG t l&&okG r
theorem aYD {d:Option Nat} {o:AOp} {t:Nat} {b:Bool} {gs:List XG} (h:okG gs=true):ung (a3S d o t b gs)=⟨d,o,some (t,b)⟩::ung gs/\okG (a3S d o t b gs)=true:=by
 unfold a3S;split
 ·rename_i t' b' l gs';cases hc:(Nat.beq t t'&&(b == b') && !isD d t)
  ·exact⟨rfl,by simpa [okG,aBG]using h⟩
  ·simp only[zaG,beq_iff_eq]at hc;have:=zaL hc.1.1;have h2:=hc.1.2;subst this;subst h2;refine⟨rfl, ?_⟩;simp only[okG,zaG]at h;simp only[zaB,okG,zaG];refine⟨?_,h.2⟩;cases l with
   |nil=>rfl
   |cons x l=>simp only[aBG,hc.2,zaR];exact h.1
 ·exact⟨rfl,by simpa [okG,aBG]using h⟩
theorem yO:∀ l:List AG,ung (grp l)=l/\okG (grp l)=true
 |[]=>⟨rfl,rfl⟩
 |⟨d,o,none⟩::r=>by obtain⟨h1,h2⟩:=yO r;exact⟨by simp only[grp,ung,h1],by simpa [grp,okG]using h2⟩
 |⟨d,o,some (t,b)⟩::r=>by obtain⟨h1,h2⟩:=yO r;obtain⟨h3,h4⟩:=aYD (d:=d) (o:=o) (t:=t) (b:=b) h2;exact⟨by simp only[grp,h3,h1],by simpa [grp]using h4⟩
structure Tab where
 wP:Nat->Option (Nat×List AR×AC)
 q:Nat->Bool
 sp:Nat->List XV->Option (List Bool×XV)
 sg:Nat->List XV->XSt->Option (List Bool×XV×XSt)
 sk:Nat->List XV->Option ((XV->Prop)->Prop):=fun _ _=>none
 gk:Nat->List XV->XSt->Option ((XV->XSt->Prop)->Prop):=fun _ _ _=>none
section
variable (T:Tab)
def a9I (H:List (Nat×Option XV)) (e:AX->XV) (o:AOp):Option (List Bool×XV) :=
 match o with
 |.pick c a b=>aS2 (e c) (e a) (e b)
 |.call f args =>
  bif(T.q f&&XV.aGG (args.map fun x=>strip (e x)))then
   match T.sp f (args.map fun x=>strip (e x))with
   |some (nd,v)=>some (nC e args++nd,v)
   |none=>none
  else none
 |o =>
  match aS0 H (fun x=>strip (e x)) o with
  |some (nd,v)=>some (nC e (zK o)++nd,v)
  |none=>none
def aN5 (d:Option Nat) (v:XV) (env:List (Nat×XV)):List (Nat×XV) :=
 match d with
 |some d=>(d,v)::env
 |none=>env
def evE (env:List (Nat×XV)):AX->XV
 |.t i=>nB env i
 |.c v=>lift v
def aLF (H:List (Nat×Option XV)):List (Option Nat×AOp)->List (Nat×XV)->Option (List Bool×List (Nat×XV))
 |[],env=>some ([],env)
 |(d,o)::l,env =>
  match a9I T H (evE env) o with
  |some (nd,v) =>
   match aLF H l (aN5 d v env)with
   |some (nd',env')=>some (nd++nd',env')
   |none=>none
  |none=>none
def aQR:List (Option Nat×AOp)->Nat
 |[]=>0
 |(some _,_)::l=>aQR l+1
 |(none,_)::l=>aQR l
def wrap (g:Bool):Nat->List (Nat×XV)->List (Nat×XV)
 |k+1,(i,v)::l=>(i,.opt g v)::wrap g k l
 |_,l=>l
def sY:List (Option Nat×AOp)->List (Nat×XV)->List (Nat×XV)
 |[],env=>env
 |(d,_)::l,env=>sY l (aN5 d (.tup []) env)
def aGM (v:XV) (b:Bool):Option Bool :=
 match v with
 |.bool c=>some (cond b c (!c))
 |.opt g (.bool c)=>some (cond g (cond b c (!c)) false)
 |.tup []=>some false
 |_=>none
variable (ci:Nat->List XV->XSt->(XV->XSt->Prop)->Prop)
def aS3 (d:Option Nat) (o:AOp) (σ:XSt) (K:XSt->Prop):Prop :=
 match o with
 |.pick c a b =>
  match aS2 (σ.ev c) (σ.ev a) (σ.ev b)with
  |some (nd,v)=>lQ nd (K (σ.put d v))
  |none=>False
 |.call f args=>lQ (nC σ.ev args) (ci f (args.map fun x=>strip (σ.ev x)) σ fun v τ=>K ((σ.back τ).put d v))
 |.n7 x args =>
  match strip (σ.ev x)with
  |.clo f caps=>cond (T.q f) (lQ (nC σ.ev (x::args)) (ci f ((args.map fun x=>strip (σ.ev x))++caps) σ fun v τ=>K ((σ.back τ).put d v))) False
  |_=>False
 |.lO f args=>cond (XV.aGG (args.map fun x=>strip (σ.ev x))) (lQ (nC σ.ev args)
   (match T.sp f (args.map fun x=>strip (σ.ev x))with
   |some (nd,v)=>lQ nd (K (σ.put d v))
   |none =>
    match T.sk f (args.map fun x=>strip (σ.ev x))with
    |some W=>W fun v=>K (σ.put d v)
    |none=>False)) False
 |o =>
  match aS0 σ.hl (fun x=>strip (σ.ev x)) o with
  |some (nd,v)=>lQ (nC σ.ev (zK o)) (lQ nd (K (σ.put d v)))
  |none =>
   match aN4 σ (fun x=>strip (σ.ev x)) o with
   |some (nd,v,τ)=>lQ (nC σ.ev (zK o)) (lQ nd (K (τ.put d v)))
   |none=>False
def aS4:List (Option Nat×AOp)->XSt->(XSt->Prop)->Prop
 |[],σ,K=>K σ
 |(d,o)::l,σ,K=>aS3 T ci d o σ fun σ'=>aS4 l σ' K
def exO:List XG->XSt->(XSt->Prop)->Prop
 |[],σ,K=>K σ
 |.one d o::r,σ,K=>aS3 T ci d o σ fun σ'=>exO r σ' K
 |.run t b l::r,σ,K =>
  match aGM (nB σ.env t) b with
  |some g =>
   match aLF T σ.hl l σ.env with
   |some (nd,env)=>aGL g nd (exO r ⟨wrap g (aQR l) env,σ.hl,σ.n⟩ K)
   |none=>cond g (aS4 T ci l σ fun σ'=>exO r σ' K) (exO r ⟨sY l σ.env,σ.hl,σ.n⟩ K)
  |none=>False
def aS5:Nat->(XSt->(AE->XSt->Prop)->Prop)->XSt->(AE->XSt->Prop)->Prop
 |0,_,_,_=>False
 |n+1,g,σ,K=>g σ fun e σ' =>
  match e with
  |.normal=>aS5 n g σ' K
  |e=>K e σ'
def idX:XV->Option Nat
 |.ptr id _ _=>some id
 |.sl id _ _ _ _ _=>some id
 |.opt _ v=>idX v
 |.raw v=>rC v
 |_=>none
def a9J (a b:XV):List Bool :=
 match idX a,idX b with
 |some i,some j=>[!Nat.beq i j]
 |_,_=>[]
def aN6 (σ:XSt):List (Nat×Nat)->List Bool
 |[]=>[]
 |(t,u)::r=>a9J (nB σ.env t) (nB σ.env u)++aN6 σ r
theorem aLG:∀ {v:XV} {i:Nat},rC (con v)=some i->idX v=some i
 |.opt g v,i,h=>by
  cases g
  ·simp[con,rC]at h
  ·exact aLG (v:=v) h
 |.tri z b,i,h=>by cases z<;>simp[con,rC,B]at h
 |.int ..,i,h=>by simp[con,rC]at h
 |.bool _,i,h=>by simp[con,rC]at h
 |.str ..,i,h=>by simp[con,rC]at h
 |.agg ..,i,h=>by simp[con,rC]at h
 |.tab ..,i,h=>by simp[con,rC]at h
 |.row ..,i,h=>by simp[con,rC]at h
 |.cH _,i,h=>by simp[con,rC]at h
 |.sl ..,i,h=>h
 |.ptr ..,i,h=>h
 |.clo ..,i,h=>by simp[con,rC]at h
 |.tup _,i,h=>by simp[con,rC]at h
 |.eQ,i,h=>by simp[con,rC]at h
 |.unk,i,h=>by simp[con,rC]at h
 |.raw _,i,h=>h
theorem a3T {a b:XV} (h:iI (a9J a b)):a23 (con a) (con b):=by intro i ha hb;unfold a9J at h;rw[aLG ha,aLG hb]at h;simp[bH]at h
mutual
def aJX:XV->List Nat
 |.sl id _ _ _ _ _=>[id]
 |.agg _ ts=>aLH ts
 |_=>[]
def aLH:List XV->List Nat
 |[]=>[]
 |t::ts=>aJX t++aLH ts
end
mutual
def fzV (H:List (Nat×Option XV)):XV->List Bool×XV
 |.sl id path off k len es =>
  match aIQ H es (.sl id path off k len es)with
  |some (nd,n,f)=>(nd,.row false es n f)
  |none=>([],.sl id path off k len es)
 |.agg n ts=>((aQS H ts).1,.agg n (aQS H ts).2)
 |v=>([],v)
def aQS (H:List (Nat×Option XV)):List XV->List Bool×List XV
 |[]=>([],[])
 |t::ts=>((fzV H t).1++(aQS H ts).1,(fzV H t).2::(aQS H ts).2)
end
def fzE (H:List (Nat×Option XV)):List (Nat×XV)->List Bool×List (Nat×XV)
 |[]=>([],[])
 |(k,v)::r=>((fzV H v).1++(fzE H r).1,(k,(fzV H v).2)::(fzE H r).2)
def inL (i:Nat):List Nat->Bool
 |[]=>false
 |k::l=>cond (Nat.beq i k) true (inL i l)
def fzH (H:List (Nat×Option XV)) (L:List Nat):List (Nat×Option XV)->List Bool×List (Nat×Option XV)
 |[]=>([],[])
 |(k,none)::r=>((fzH H L r).1,(k,none)::(fzH H L r).2)
 |(k,some t)::r=>cond (inL k L) ((fzH H L r).1,(k,none)::(fzH H L r).2) ((fzV H t).1++(fzH H L r).1,(k,some (fzV H t).2)::(fzH H L r).2)
def aAU:List (Nat×XV)->List Nat
 |[]=>[]
 |(_,v)::r=>aJX v++aAU r
def zC:List (Nat×Option XV)->List Nat
 |[]=>[]
 |(_,some t)::r=>aJX t++zC r
 |(_,none)::r=>zC r
def XSt.fz (σ:XSt):List Bool×XSt := ((fzE σ.hl σ.env).1++(fzH σ.hl (aAU σ.env++zC σ.hl) σ.hl).1,⟨(fzE σ.hl σ.env).2,(fzH σ.hl (aAU σ.env++zC σ.hl) σ.hl).2,σ.n⟩)
def exC (u:Nat):AC->XSt->(AE->XSt->Prop)->Prop
 |.skip,σ,K=>K .normal σ
 |.ops l,σ,K=>exO T ci (grp l) σ (K .normal)
 |.aIJ l ps,σ,K=>exO T ci (grp l) σ fun σ'=>lQ (aN6 σ' ps) (K .normal σ')
 |.seq a b,σ,K=>exC u a σ fun e σ' =>
  match e with
  |.normal=>exC u b σ' K
  |e=>K e σ'
 |.cond c x y,σ,K =>
  match strip (σ.ev c)with
  |.bool b=>lQ (lY (σ.ev c)) (cond b (exC u x σ K) (exC u y σ K))
  |_=>False
 |.block id c,σ,K=>exC u c σ fun e σ' =>
  match e with
  |.exit i=>cond (Nat.beq i id) (K .normal σ') (K (.exit i) σ')
  |e=>K e σ'
 |.loop c,σ,K=>aS5 u (exC u c) σ K
 |.exit id,σ,K=>K (.exit id) σ
 |.ret,σ,K=>K .ret σ
 |.frz,σ,K=>lQ σ.fz.1 (K .normal σ.fz.2)
def a9K (σ:XSt):AR->Option (List Bool×XV)
 |.tmp t=>some ([],nB σ.env t)
 |.cell t ag n =>
  match aNZ σ.hl (nB σ.env t)with
  |some (nd,u)=>cond (u.isAgg == ag&&Nat.beq u.size n) (some (nd,u)) none
  |none=>none
def aJY (σ:XSt):List AR->Option (List Bool×List XV)
 |[]=>some ([],[])
 |r::rs =>
  match a9K σ r,aJY σ rs with
  |some (nd,v),some (nd',vs)=>some (nd++nd',v::vs)
  |_,_=>none
def a9L:List XV->XV
 |[v]=>v
 |vs=>.tup vs
def aQT (rs:List AR) (K:XV->XSt->Prop):AE->XSt->Prop
 |.exit _,_=>False
 |_,σ =>
  match aJY σ rs with
  |some (nd,vs)=>lQ nd (K (a9L vs) σ)
  |none=>False
def kF:Nat->List XV->List (Nat×XV)
 |_,[]=>[]
 |k,v::r=>(k,v)::kF (k+1) r
end
def aVZ (K:XV->Prop) (v:XV) (τ:XSt):Prop :=
 match aFB τ.hl 6 v with
 |some (nd,r)=>lQ nd (K r)
 |none=>False
def aO (T:Tab) (u:Nat) (ci:Nat->List XV->XSt->(XV->XSt->Prop)->Prop) (f:Nat) (args:List XV) (K:XV->Prop):Prop :=
 match T.sp f args with
 |some (nd,v)=>lQ nd (K v)
 |none =>
  match T.sk f args with
  |some W=>W K
  |none =>
   match T.wP f with
   |some (nt,rs,c)=>cond (Nat.ble args.length nt) (exC T ci u c ⟨kF 0 args,[],0⟩ (aQT rs (aVZ K))) False
   |none=>False
def bL (T:Tab) (u:Nat):Nat->Nat->List XV->XSt->(XV->XSt->Prop)->Prop
 |0,_,_,_,_=>False
 |k+1,f,args,σ,K =>
  cond (T.q f)
   (cond (XV.aGG args) (aO T u (bL T u k) f args fun v=>K v σ)
    (match aIR (aFB σ.hl 6) args with
    |some (nd,args')=>lQ nd (aO T u (bL T u k) f args' fun v=>cond v.sol (K v σ) False)
    |none=>False))
   (match T.sg f args σ with
   |some (nd,v,τ)=>lQ nd (K v τ)
   |none=>match T.gk f args σ with
   |some W=>W K
   |none =>
    match T.wP f with
    |some (nt,rs,c)=>cond (Nat.ble args.length nt && !T.q (f+1000000)) (exC T (bL T u k) u c ⟨kF 0 args,σ.hl,σ.n⟩ (aQT rs K)) False
    |none=>False)
end Go.Ra
namespace Go.Ra
set_option linter.unusedVariables false
set_option linter.unusedSimpArgs false
structure bT (P:Program) (T:Tab):Prop where
 wP:∀ f r,T.wP f=some r->trF P T.q f=some r
 sp:∀ f args nd v,T.sp f args=some (nd,v)->iI nd->Pure P f (cons args) (con v)
 sg:∀ f args σ nd v τ,T.sg f args σ=some (nd,v,τ)->iI nd->T.q f=false->Ok P T.q f (cons args) σ.st (con v) τ.st
 sk:∀ f args W,T.sk f args=some W->∀ K:XV->Prop,W K->∃ v,Pure P f (cons args) (con v)/\K v
 gk:∀ f args σ W,T.gk f args σ=some W->T.q f=false->∀ K:XV->XSt->Prop,W K->∃ v τ,Ok P T.q f (cons args) σ.st (con v) τ.st/\K v τ
section
variable {P:Program} {T:Tab}
abbrev aQU (P:Program) (q:Nat->Bool) (ci:Nat->List XV->XSt->(XV->XSt->Prop)->Prop):Prop := ∀ f args σ K,ci f args σ K->∃ v τ,Ok P q f (cons args) σ.st (con v) τ.st/\K v τ
theorem sZ {C:Orc} {d:Option Nat} {o:AOp} {r:List AG} {s t:St} {v:AV} {K:St->Prop} (h:aX o s=some (v,t)) (hK:wpOps C r (t.put d v) K):wpOps C (⟨d,o,none⟩::r) s K:=by
 unfold wpOps;simp only;split
 ·simp[aX]at h
 ·simp[aX]at h
 ·simp[aX]at h
 ·rw[h];exact hK
theorem wQ {e:AX->XV} {σ:St} (he:∀ x,σ.ev x=con (e x)):∀ {l:List AX},iI (nC e l)->l.map σ.ev=cons (l.map fun x=>strip (e x))
 |[],h=>rfl
 |x::l,h=>by simp only[nC,fJ]at h;simp only[List.map_cons,cons,he x,iK h.1,wQ he h.2]
variable {ci:Nat->List XV->XSt->(XV->XSt->Prop)->Prop}
theorem aV0 {σ τ:XSt} {e:AX->XV} {o:AOp} {nd:List Bool} {v:XV} (h:aN4 σ e o=some (nd,v,τ)):τ=σ.back τ:=by
 cases o<;>simp only[aN4,reduceCtorEq]at h
 case box x =>
  cases hc:(e x).aDJ<;>rw[hc]at h
  ·cases h
  ·simp only[zaB,zaA,zaJ]at h;obtain⟨_,_,rfl⟩:=h;rfl
 case store n x w =>
  repeat' split at h
  all_goals first|(cases h;done)|skip
  rename_i u _ _ _ _ _;revert h;generalize (Nat.beq _ n&&_&&_)=c;intro h;cases c
  ·cases h
  ·simp only[zaB,zaA,zaJ]at h;obtain⟨_,_,rfl⟩:=h;rfl
 case mks es bytes zero len =>
  split at h
  ·cases hc:Nat.blt 0 bytes<;>rw[hc]at h
   ·cases h
   ·simp only[zaB,zaA,zaJ]at h;obtain⟨_,_,rfl⟩:=h;rfl
  ·cases h
 case app es bytes y x =>
  repeat' split at h
  all_goals first|(cases h;done)|skip
  all_goals
   revert h;generalize (_&&Nat.blt 0 bytes)=c;intro h;cases c
   ·cases h
   ·simp only[zaB,zaA,zaJ]at h;obtain⟨_,_,rfl⟩:=h;rfl
 case copy es x y =>
  repeat' split at h
  all_goals first|(cases h;done)|skip
  revert h;generalize (_&&_&&_&&_)=c;intro h;cases c
  ·cases h
  ·simp only[zaB,zaA,zaJ]at h;obtain⟨_,_,rfl⟩:=h;rfl
theorem aN7 (hT:bT P T) (hci:aQU P T.q ci) {d:Option Nat} {o:AOp} {σ:XSt} {K:XSt->Prop} (h:aS3 T ci d o σ K):∃ σ',K σ'/\(∃ v τ,σ'=(σ.back τ).put d v)/\∀ r Φ,wpOps (Ok P T.q) r σ'.st Φ->wpOps (Ok P T.q) (⟨d,o,none⟩::r) σ.st Φ:=by
 unfold aS3 at h;split at h
 ·rename_i c a b;split at h
  ·rename_i nd v hp;rw[dQ]at h;exact⟨_,h.2,⟨v,σ,rfl⟩,fun r Φ hr=>sZ (aJW (wM σ) hp h.1) (by rw[<-aAT];exact hr)⟩
  ·cases h
 ·rename_i f args;rw[dQ]at h;obtain⟨v,τ,h1,h2⟩:=hci _ _ _ _ h.2;refine⟨_,h2,⟨v,τ,rfl⟩,fun r Φ hr => ?_⟩;refine⟨con v,τ.st, ?_,by rw[<-aS1,<-aAT];exact hr⟩;rw[wQ (wM σ) h.1];exact h1
 ·rename_i x args;split at h
  ·rename_i f caps hx;cases hqf:T.q f<;>rw[hqf]at h
   ·exact h.elim
   rw[zaB,dQ]at h;simp only[nC,fJ]at h;obtain⟨v,τ,h1,h2⟩:=hci _ _ _ _ h.2;have hsame:=Ok.quiet.1 _ _ _ _ _ h1 hqf;refine⟨_,h2,⟨v,τ,rfl⟩,fun r Φ hr => ?_⟩;have hx2:σ.st.ev x=.clo f (cons caps):=by rw[wM,iK h.1.1,hx];rfl
   unfold wpOps;simp only[hx2];refine⟨con v,τ.st, ?_,hsame,by rw[<-aS1,<-aAT];exact hr⟩;rw[wQ (wM σ) h.1.2];rw[mX,List.map_append,<-mX,<-mX]at h1;exact h1
  ·cases h
 ·rename_i f args;cases hid:XV.aGG (args.map fun x=>strip (σ.ev x))<;>rw[hid]at h
  ·exact h.elim
  rw[zaB,dQ]at h;obtain⟨ht,h⟩:=h;have key:∀ v,Pure P f (cons (args.map fun x=>strip (σ.ev x))) (con v)->K (σ.put d v)->∃ σ',K σ'/\(∃ v τ,σ'=(σ.back τ).put d v)/\∀ r Φ,wpOps (Ok P T.q) r σ'.st Φ->wpOps (Ok P T.q) (⟨d,.lO f args,none⟩::r) σ.st Φ:=fun v hp hk=>by refine⟨_,hk,⟨v,σ,rfl⟩,fun r Φ hr=>⟨con v,fun σ' => ?_,by rw[<-aAT];exact hr⟩⟩;rw[wQ (wM σ) ht];exact .inl ⟨rfl,by rw[sX];exact hid,hp⟩
  split at h
  ·rename_i nd v hs;rw[dQ]at h;exact key v (hT.sp _ _ _ _ hs h.1) h.2
  ·split at h
   ·rename_i W hs;obtain⟨v,h1,h2⟩:=hT.sk _ _ _ hs _ h;exact key v h1 h2
   ·exact h.elim
 ·have he:iI (nC σ.ev (zK o))->∀ x∈zK o,σ.st.ev x=con (strip (σ.ev x)):=fun ht x hx=>by
   rw[wM];exact wO ht x hx
  split at h
  ·rename_i nd v hs;rw[dQ,dQ]at h;exact⟨_,h.2.2,⟨v,σ,rfl⟩,fun r Φ hr=>sZ (aJV (aAK σ) (he h.1) hs h.2.1) (by rw[<-aAT];exact hr)⟩
  ·split at h
   ·rename_i nd v τ hs;rw[dQ,dQ]at h;exact⟨_,h.2.2,⟨v,τ,by rw[<-aV0 hs]⟩,fun r Φ hr=>sZ (aVY rfl (he h.1) hs h.2.1) (by rw[<-aAT];exact hr)⟩
   ·cases h
theorem a3U (hT:bT P T) {σ:XSt} {o:AOp} {nd:List Bool} {v:XV} {d:Option Nat} (h:a9I T σ.hl (evE σ.env) o=some (nd,v)) (hn:iI nd) {r:List AG} {Φ:St->Prop} (hr:wpOps (Ok P T.q) r (σ.put d v).st Φ):wpOps (Ok P T.q) (⟨d,o,none⟩::r) σ.st Φ:=by
 have hev:evE σ.env=σ.ev:=by funext x;cases x<;>rfl
 rw[hev]at h;rw[aAT]at hr;unfold a9I at h;split at h
 ·exact sZ (aJW (wM σ) h hn) hr
 ·rename_i f args;cases hc:(T.q f&&XV.aGG (args.map fun x=>strip (σ.ev x)))<;>rw[hc]at h
  ·cases h
  ·rw[zaB]at h;split at h
   ·rename_i nd' v' hs;simp only[zaA,zaJ]at h;obtain⟨rfl,rfl⟩:=h;rw[fJ]at hn;simp only[zaG]at hc;have ha:=wQ (wM σ) hn.1;exact aVV (by rw[ha];exact hT.sp _ _ _ _ hs hn.2) (by rw[ha,sX];exact hc.2) hr
   ·cases h
 ·split at h
  ·rename_i nd' v' hs;simp only[zaA,zaJ]at h;obtain⟨rfl,rfl⟩:=h;rw[fJ]at hn;refine sZ (aJV (aAK σ) (fun x hx => ?_) hs hn.2) hr;rw[wM];exact wO hn.1 x hx
  ·cases h
theorem aYE {σ:XSt} {d:Option Nat} {v:XV}:σ.put d v=⟨aN5 d v σ.env,σ.hl,σ.n⟩:=by cases d<;>rfl
theorem aDP {C:Orc} {d:Option Nat} {o:AOp} {t:Nat} {b:Bool} {r:List AG} {s:St} {Φ:St->Prop} (hg:get s.env t=.sc (.bool b)) (h:wpOps C (⟨d,o,none⟩::r) s Φ):wpOps C (⟨d,o,some (t,b)⟩::r) s Φ:=by rw[oU,hg];exact⟨fun _=>h,fun e=>absurd rfl e⟩
theorem aQV {C:Orc} {d:Option Nat} {o:AOp} {t:Nat} {b:Bool} {r:List AG} {s:St} {Φ:St->Prop} (hg:get s.env t=.sc (.bool (!b))\/get s.env t=.tup []) (h:wpOps C r (s.put d (.tup [])) Φ):wpOps C (⟨d,o,some (t,b)⟩::r) s Φ:=by
 rw[oU];rcases hg with hg|hg
 ·rw[hg];refine⟨fun e => ?_,fun _=>h⟩;cases b<;>cases e
 ·rw[hg];exact h
theorem aN8 (hT:bT P T) {t:Nat} {b:Bool} {H:List (Nat×Option XV)} {n:Nat} {r:List AG} {Φ:St->Prop}:∀(l:List (Option Nat×AOp)) (env env':List (Nat×XV)) (nd:List Bool),aLF T H l env=some (nd,env')->iI nd->aBG t l=true ->
  get (eS env) t=.sc (.bool b)->wpOps (Ok P T.q) r (XSt.st ⟨env',H,n⟩) Φ->wpOps (Ok P T.q) (aYC t b l r) (XSt.st ⟨env,H,n⟩) Φ
 |[],env,env',nd,h,hn,hok,hg,hr=>by simp only[aLF,zaA,zaJ]at h;obtain⟨_,rfl⟩:=h;exact hr
 |(d,o)::l,env,env',nd,h,hn,hok,hg,hr=>by
  simp only[aLF]at h;split at h
  ·rename_i nd1 v h1;split at h
   ·rename_i nd2 env2 h2;simp only[zaA,zaJ]at h;obtain⟨rfl,rfl⟩:=h;rw[fJ]at hn;refine aDP hg (a3U (σ:=⟨env,H,n⟩) hT h1 hn.1 ?_);rw[aYE];cases l with
    |nil => simp only[aLF,zaA,zaJ]at h2;obtain⟨_,rfl⟩:=h2;exact hr
    |cons x l =>
     simp only[aBG,zaG,Bool.not_eq_true']at hok;refine aN8 hT (x::l) (aN5 d v env) env2 nd2 h2 hn.2 hok.2 ?_ hr;rw[fP]at hg ⊢;cases d with
     |none=>exact hg
     |some d =>
      have:¬t=d:=fun e=>by have:=hok.1;rw[e]at this;simp[isD]at this
      show con (nB ((d,v)::env) t)=_;simp only[nB,jV,if_neg this];exact hg
   ·cases h
  ·cases h
theorem aGN {C:Orc} {t:Nat} {b:Bool} {H:List (Nat×Option XV)} {n:Nat} {r:List AG} {Φ:St->Prop}:∀(l:List (Option Nat×AOp)) (env:List (Nat×XV)),(get (eS env) t=.sc (.bool (!b))\/get (eS env) t=.tup []) ->
  wpOps C r (XSt.st ⟨sY l env,H,n⟩) Φ->wpOps C (aYC t b l r) (XSt.st ⟨env,H,n⟩) Φ
 |[],env,hg,h=>h
 |(d,o)::l,env,hg,h=>by
  refine aQV (s:=XSt.st ⟨env,H,n⟩) hg ?_;have:(XSt.st ⟨env,H,n⟩).put d (.tup [])=XSt.st ⟨aN5 d (.tup []) env,H,n⟩:=by cases d<;>rfl
  rw[this];refine aGN l _ ?_ h;cases d with
  |none=>exact hg
  |some d =>
   show get (eS ((d,.tup [])::env)) t=_\/get (eS ((d,.tup [])::env)) t=_;rw[fP];simp only[nB,jV];split
   ·exact .inr rfl
   ·rw[<-fP];exact hg
theorem aJZ {H:List (Nat×Option XV)}:∀(l:List (Option Nat×AOp)) (env env':List (Nat×XV)) (nd:List Bool),aLF T H l env=some (nd,env')->∃ dl,env'=dl++env/\dl.length=aQR l/\eS (sY l env)=(dl.map fun p=>(p.1,AV.tup []))++eS env
 |[],env,env',nd,h=>by simp only[aLF,zaA,zaJ]at h;obtain⟨_,rfl⟩:=h;exact⟨[],rfl,rfl,rfl⟩
 |(d,o)::l,env,env',nd,h=>by
  simp only[aLF]at h;split at h
  ·rename_i nd1 v h1;split at h
   ·rename_i nd2 env2 h2;simp only[zaA,zaJ]at h;obtain⟨rfl,rfl⟩:=h;obtain⟨dl,h3,h4,h5⟩:=aJZ l _ _ _ h2;cases d with
    |none => refine⟨dl,h3,h4, ?_⟩;exact h5
    |some d =>
     refine⟨dl++[(d,v)],by rw[h3];simp[aN5],by simp[aQR,h4], ?_⟩;show eS (sY l ((d,.tup [])::env))=_;have key:∀(l:List (Option Nat×AOp)) (e1 e2:List (Nat×XV)) (x:List (Nat×AV)),eS (sY l e1)=x++eS e1->eS (sY l e2)=x++eS e2:=by
      intro l
      induction l with
      |nil =>
       intro e1 e2 x hx;have:x=[]:=by have:=congrArg List.length hx;simp only[sY,List.length_append]at this;exact List.eq_nil_of_length_eq_zero (by omega)
       subst this;rfl
      |cons p l ih =>
       intro e1 e2 x hx;obtain⟨d',o'⟩:=p;cases d' with
       |none=>exact ih e1 e2 x hx
       |some d' =>
        have hlen:∀(l:List (Option Nat×AOp)) (e:List (Nat×XV)),∃ y,eS (sY l e)=y++eS e:=by
         intro l
         induction l with
         |nil=>exact fun e=>⟨[],rfl⟩
         |cons p l ih =>
          intro e;obtain⟨d'',o''⟩:=p;obtain⟨y,hy⟩:=ih (aN5 d'' (.tup []) e);cases d'' with
          |none=>exact⟨y,hy⟩
          |some d''=>exact⟨y++[(d'',.tup [])],by show eS (sY l _)=_;rw[hy];simp[aN5,eS,con,cons]⟩
        obtain⟨y,hy⟩:=hlen l ((d',.tup [])::e1);have hx':x=y++[(d',.tup [])]:=by
         have h6:eS (sY l ((d',.tup [])::e1))=x++eS e1:=hx;rw[hy]at h6;have h7:y++((d',AV.tup [])::eS e1)=x++eS e1:=h6;have h8:(y++[(d',AV.tup [])])++eS e1=x++eS e1:=by simpa using h7
         exact(List.append_cancel_right h8).symm
        have:=ih _ ((d',.tup [])::e2) y hy;show eS (sY l ((d',.tup [])::e2))=_;rw[this,hx'];simp[eS,con,cons]
     have:=key l _ ((d,.tup [])::env) _ h5;rw[this];simp[eS,con,cons]
   ·cases h
  ·cases h
theorem aJ0:∀(k:Nat) (env:List (Nat×XV)),eS (wrap true k env)=eS env
 |0,env=>by cases env<;>rfl
 |k+1,[]=>rfl
 |k+1,(i,v)::l=>by have:=aJ0 k l;simp only[eS]at this;simp only[wrap,eS,List.map_cons,con,zaB,this]
theorem aGO:∀(dl env:List (Nat×XV)),eS (wrap false dl.length (dl++env))=(dl.map fun p=>(p.1,AV.tup []))++eS env
 |[],env=>by cases env<;>rfl
 |(i,v)::l,env=>by have:=aGO l env;simp only[eS]at this;simp only[List.cons_append,List.length_cons,wrap,eS,List.map_cons,con,zaD,this]
theorem aN9 (hT:bT P T) (hci:aQU P T.q ci) {t:Nat} {b:Bool}:∀(l:List (Option Nat×AOp)) (σ:XSt) (K:XSt->Prop),aS4 T ci l σ K->aBG t l=true->get (eS σ.env) t=.sc (.bool b)->∃ σ',K σ'/\∀ r Φ,wpOps (Ok P T.q) r σ'.st Φ->wpOps (Ok P T.q) (aYC t b l r) σ.st Φ
 |[],σ,K,h,hok,hg=>⟨σ,h,fun r Φ hr=>hr⟩
 |(d,o)::l,σ,K,h,hok,hg=>by
  simp only[aS4]at h;obtain⟨σ1,h1,⟨v,τ,h2⟩,h3⟩:=aN7 hT hci h;cases l with
  |nil=>exact⟨σ1,h1,fun r Φ hr=>aDP hg (h3 r Φ hr)⟩
  |cons x l =>
   simp only[aBG,zaG,Bool.not_eq_true']at hok;obtain⟨σ',h4,h5⟩:=aN9 hT hci (x::l) σ1 K h1 hok.2 (by
    rw[h2,aYE,fP]at *;cases d with
    |none=>exact hg
    |some d =>
     have:¬t=d:=fun e=>by have:=hok.1;rw[e]at this;simp[isD]at this
     show con (nB ((d,v)::σ.env) t)=_;simp only[nB,jV,if_neg this];exact hg)
   exact⟨σ',h4,fun r Φ hr=>aDP hg (h3 _ Φ (h5 r Φ hr))⟩
theorem aEK {v:XV} {b:Bool} (h:aGM v b=some true):con v=.sc (.bool b):=by
 unfold aGM at h;split at h<;>simp only[zaA,reduceCtorEq]at h
 ·rename_i c;cases b<;>cases c<;>first|rfl|cases h
 ·rename_i g c;cases g<;>cases b<;>cases c<;>first|rfl|cases h
theorem aBH {v:XV} {b:Bool} (h:aGM v b=some false):con v=.sc (.bool (!b))\/con v=.tup []:=by
 unfold aGM at h;split at h<;>simp only[zaA,reduceCtorEq]at h
 ·rename_i c;cases b<;>cases c<;>first|exact .inl rfl|cases h
 ·rename_i g c;cases g<;>cases b<;>cases c<;>first|exact .inl rfl|exact .inr rfl|cases h
 ·exact .inr rfl
theorem wR (hT:bT P T) (hci:aQU P T.q ci):∀(gs:List XG) (σ:XSt) (K:XSt->Prop),exO T ci gs σ K->okG gs=true->∃ σ',K σ'/\∀ Φ,Φ σ'.st->wpOps (Ok P T.q) (ung gs) σ.st Φ
 |[],σ,K,h,hok=>⟨σ,h,fun Φ hr=>hr⟩
 |.one d o::r,σ,K,h,hok=>by simp only[exO]at h;obtain⟨σ1,h1,_,h3⟩:=aN7 hT hci h;obtain⟨σ',h4,h5⟩:=wR hT hci r σ1 K h1 (by simpa [okG]using hok);exact⟨σ',h4,fun Φ hr=>h3 _ Φ (h5 Φ hr)⟩
 |.run t b l::r,σ,K,h,hok=>by
  simp only[okG,zaG]at hok;simp only[exO]at h;split at h
  ·rename_i g hg;have hgt:get (eS σ.env) t=con (nB σ.env t):=fP _ _;split at h
   ·rename_i nd env hx;rw[aDO]at h;obtain⟨σ',h4,h5⟩:=wR hT hci r _ K h.2 hok.2;refine⟨σ',h4,fun Φ hr => ?_⟩;have h6:=h5 Φ hr;cases g with
    |true =>
     refine aN8 (σ.hl |> fun _=>hT) l σ.env env nd hx (h.1 rfl) hok.1 (by rw[hgt,aEK hg]) ?_;have:XSt.st ⟨wrap true (aQR l) env,σ.hl,σ.n⟩=XSt.st ⟨env,σ.hl,σ.n⟩:=by simp only[XSt.st,aJ0]
     rw[this]at h6;exact h6
    |false =>
     refine aGN l σ.env (by rw[hgt];exact aBH hg) ?_;obtain⟨dl,e1,e2,e3⟩:=aJZ l _ _ _ hx;have:XSt.st ⟨wrap false (aQR l) env,σ.hl,σ.n⟩=XSt.st ⟨sY l σ.env,σ.hl,σ.n⟩:=by simp only[XSt.st];rw[e3,<-e2,e1,aGO]
     rw[this]at h6;exact h6
   ·cases g with
    |true => simp only[zaB]at h;obtain⟨σ1,h1,h2⟩:=aN9 hT hci l σ _ h hok.1 (by rw[hgt,aEK hg]);obtain⟨σ',h4,h5⟩:=wR hT hci r σ1 K h1 hok.2;exact⟨σ',h4,fun Φ hr=>h2 _ Φ (h5 Φ hr)⟩
    |false => simp only[zaD]at h;obtain⟨σ',h4,h5⟩:=wR hT hci r _ K h hok.2;exact⟨σ',h4,fun Φ hr=>aGN l σ.env (by rw[hgt];exact aBH hg) (h5 Φ hr)⟩
  ·cases h
theorem pE.refl (σ:St):pE σ σ:=⟨fun _=>.inr (.inl rfl),fun _=>.inr rfl,zaF _⟩
theorem aOA {c:AC} {g:XSt->(AE->XSt->Prop)->Prop} (hg:∀ σ K,g σ K->∃ e σ',K e σ'/\∀ Φ,Φ e σ'.st->wpC (Ok P T.q) c σ.st Φ):∀(n:Nat) (σ:XSt) (K:AE->XSt->Prop),aS5 n g σ K ->
  ∃(S:Nat->XSt) (m:Nat) (e:AE) (σ':XSt),S 0=σ/\K e σ'/\(∀ i,i<m->∀ Φ,Φ .normal (S (i+1)).st->wpC (Ok P T.q) c (S i).st Φ)/\(∀ Φ,Φ e σ'.st->wpC (Ok P T.q) c (S m).st Φ)/\e≠.normal
 |0,σ,K,h=>h.elim
 |n+1,σ,K,h=>by
  simp only[aS5]at h;obtain⟨e,σ1,h1,h2⟩:=hg _ _ h;cases e with
  |normal =>
   obtain⟨S,m,e,σ',g1,g2,g3,g4,g5⟩:=aOA hg n σ1 K h1;refine⟨fun i=>match i with|0=>σ|i+1=>S i,m+1,e,σ',rfl,g2,fun i hi Φ hr => ?_,g4,g5⟩;cases i with
   |zero=>exact h2 Φ (by rw[<-g1];exact hr)
   |succ i=>exact g3 i (by omega) Φ hr
  |exit id=>exact⟨fun _=>σ,0,_,σ1,rfl,h1,fun i hi=>by omega,h2,by simp⟩
  |ret=>exact⟨fun _=>σ,0,_,σ1,rfl,h1,fun i hi=>by omega,h2,by simp⟩
theorem aFL {i:Nat}:∀ {l:List Nat},inL i l=true↔i∈l
 |[]=>by simp[inL]
 |k::l=>by
  simp only[inL,jV,List.mem_cons];split
  ·rename_i h;simp[h]
  ·rename_i h;rw[aFL (l:=l)];simp[h]
mutual
theorem aQW {H:List (Nat×Option XV)} {σ:St} (hH:∀ i,σ.H i=(j8 H i).map con) {L:List Nat}:∀ v:XV,(∀ i∈aJX v,i∈L)->iI (fzV H v).1->leF L σ (con v) (con (fzV H v).2)
 |.sl id path off k len es,hL,hn=>by
  simp only[fzV]at hn ⊢;split at hn
  ·rename_i nd n f hr;have:=oW hH hr hn;simp only[hr];exact .fz (hL id (by simp[aJX])) this
  ·rename_i hr;simp only[hr];exact .same
 |.agg n ts,hL,hn=>.agg (aS6 hH ts (by simpa [aJX]using hL) hn)
 |.int ..,_,_=>.same
 |.bool _,_,_=>.same
 |.str ..,_,_=>.same
 |.tab ..,_,_=>.same
 |.row ..,_,_=>.same
 |.cH _,_,_=>.same
 |.ptr ..,_,_=>.same
 |.clo ..,_,_=>.same
 |.tup _,_,_=>.same
 |.eQ,_,_=>.same
 |.tri ..,_,_=>.same
 |.unk,_,_=>.same
 |.opt ..,_,_=>.same
 |.raw _,_,_=>.same
theorem aS6 {H:List (Nat×Option XV)} {σ:St} (hH:∀ i,σ.H i=(j8 H i).map con) {L:List Nat}:∀ ts:List XV,(∀ i∈aLH ts,i∈L)->iI (aQS H ts).1->aKW L σ (cons ts) (cons (aQS H ts).2)
 |[],_,_=>.nil
 |t::ts,hL,hn=>by simp only[aQS,fJ]at hn;simp only[aLH,List.mem_append]at hL;exact .cons (aQW hH t (fun i hi=>hL i (.inl hi)) hn.1) (aS6 hH ts (fun i hi=>hL i (.inr hi)) hn.2)
end
theorem a7F {σ:XSt} (h:iI σ.fz.1):aVC σ.st σ.fz.2.st:=by
 simp only[XSt.fz,fJ]at h;refine⟨aAU σ.env++zC σ.hl,rfl,fun t => ?_,fun j => ?_⟩
 ·have key:∀(e:List (Nat×XV)),(∀ i∈aAU e,i∈aAU σ.env++zC σ.hl)->iI (fzE σ.hl e).1->leF (aAU σ.env++zC σ.hl) σ.st (get (eS e) t) (get (eS (fzE σ.hl e).2) t):=by
   intro e
   induction e with
   |nil=>intro _ _;exact .same
   |cons p r ih =>
    obtain⟨k,v⟩:=p;intro hL hn;simp only[fzE,fJ]at hn;simp only[aAU,List.mem_append]at hL;show leF _ _ (if t=k then con v else get (eS r) t) (if t=k then con (fzV σ.hl v).2 else get (eS (fzE σ.hl r).2) t);split
    ·exact aQW (aAK σ) v (fun i hi=>by simpa using hL i (.inl hi)) hn.1
    ·exact ih (fun i hi=>by simpa using hL i (.inr hi)) hn.2
  exact key σ.env (fun i hi=>List.mem_append_left _ hi) h.1
 ·have key:∀(e:List (Nat×Option XV)),(∀ i∈zC e,i∈aAU σ.env++zC σ.hl)->iI (fzH σ.hl (aAU σ.env++zC σ.hl) e).1->look (iW (fzH σ.hl (aAU σ.env++zC σ.hl) e).2) (fun _=>none) j=none \/
    (j∉aAU σ.env++zC σ.hl/\∃ t t',look (iW e) (fun _=>none) j=some t/\look (iW (fzH σ.hl (aAU σ.env++zC σ.hl) e).2) (fun _=>none) j=some t'/\leF (aAU σ.env++zC σ.hl) σ.st t t'):=by
   intro e
   induction e with
   |nil=>intro _ _;exact .inl rfl
   |cons p r ih =>
    obtain⟨k,v⟩:=p;intro hL hn;cases v with
    |none =>
     simp only[fzH]at hn ⊢;show(if j=k then none else look (iW _) _ j)=none\/_/\∃ t t',(if j=k then none else look (iW r) _ j)=some t/\(if j=k then none else look (iW _) _ j)=some t'/\_;by_cases hjk:j=k
     ·rw[if_pos hjk];exact .inl rfl
     ·rw[if_neg hjk,if_neg hjk];exact ih hL hn
    |some u =>
     simp only[zC,List.mem_append]at hL;cases hin:inL k (aAU σ.env++zC σ.hl)with
     |true =>
      simp only[fzH,hin,zaB]at hn ⊢;show(if j=k then none else look (iW _) _ j)=none\/_/\∃ t t',(if j=k then some (con u)else look (iW r) _ j)=some t/\(if j=k then none else look (iW _) _ j)=some t'/\_;by_cases hjk:j=k
      ·rw[if_pos hjk];exact .inl rfl
      ·rw[if_neg hjk,if_neg hjk];exact ih (fun i hi=>by simpa using hL i (.inr hi)) hn
     |false =>
      simp only[fzH,hin,zaD,fJ]at hn ⊢;show(if j=k then some (con (fzV σ.hl u).2)else look (iW _) _ j)=none\/_/\∃ t t',(if j=k then some (con u)else look (iW r) _ j)=some t/\(if j=k then some (con (fzV σ.hl u).2)else look (iW _) _ j)=some t'/\_;by_cases hjk:j=k
      ·rw[if_pos hjk,if_pos hjk];refine .inr ⟨fun hm => ?_,_,_,rfl,rfl,aQW (aAK σ) u (fun i hi=>by simpa using hL i (.inl hi)) hn.1⟩;rw[hjk,<-aFL,hin]at hm;cases hm
      ·rw[if_neg hjk,if_neg hjk];exact ih (fun i hi=>by simpa using hL i (.inr hi)) hn.2
  exact key σ.hl (fun i hi=>List.mem_append_right _ hi) h.2
theorem aGP {σ:XSt}:∀ {ps:List (Nat×Nat)},iI (aN6 σ ps)->uB σ.st ps
 |[],_=>trivial
 |(t,u)::r,h=>by simp only[aN6,fJ]at h;refine⟨?_,aGP h.2⟩;show a23 (get (eS σ.env) t) (get (eS σ.env) u);rw[fP,fP];exact a3T h.1
theorem uO (hT:bT P T) (hci:aQU P T.q ci) {u:Nat}:∀(c:AC) (σ:XSt) (K:AE->XSt->Prop),exC T ci u c σ K->∃ e σ',K e σ'/\∀ Φ,Φ e σ'.st->wpC (Ok P T.q) c σ.st Φ
 |.skip,σ,K,h=>⟨_,_,h,fun Φ hr=>hr⟩
 |.ops l,σ,K,h=>by simp only[exC]at h;obtain⟨h1,h2⟩:=yO l;obtain⟨σ',h3,h4⟩:=wR hT hci (grp l) σ _ h h2;rw[h1]at h4;exact⟨.normal,σ',h3,fun Φ hr=>h4 (Φ .normal) hr⟩
 |.aIJ l ps,σ,K,h=>by simp only[exC]at h;obtain⟨h1,h2⟩:=yO l;obtain⟨σ',h3,h4⟩:=wR hT hci (grp l) σ _ h h2;rw[h1]at h4;rw[dQ]at h3;exact⟨.normal,σ',h3.2,fun Φ hr=>h4 _ ⟨aGP h3.1,hr⟩⟩
 |.seq a b,σ,K,h=>by
  simp only[exC]at h;obtain⟨e,σ1,h1,h2⟩:=uO hT hci a σ _ h;cases e with
  |normal => obtain⟨e,σ',h3,h4⟩:=uO hT hci b σ1 K h1;exact⟨e,σ',h3,fun Φ hr=>h2 _ (h4 Φ hr)⟩
  |exit id=>exact⟨_,σ1,h1,fun Φ hr=>h2 _ hr⟩
  |ret=>exact⟨_,σ1,h1,fun Φ hr=>h2 _ hr⟩
 |.cond c x y,σ,K,h=>by
  simp only[exC]at h;split at h
  ·rename_i b hb;rw[dQ]at h;have hc:σ.st.ev c=.sc (.bool b):=by rw[wM,iK h.1,hb];rfl
   cases b with
   |true => obtain⟨e,σ',h1,h2⟩:=uO hT hci x σ K h.2;refine⟨e,σ',h1,fun Φ hr => ?_⟩;unfold wpC;rw[hc];exact⟨fun _=>h2 Φ hr,fun e=>by cases e⟩
   |false => obtain⟨e,σ',h1,h2⟩:=uO hT hci y σ K h.2;refine⟨e,σ',h1,fun Φ hr => ?_⟩;unfold wpC;rw[hc];exact⟨fun e=>by(cases e),fun _=>h2 Φ hr⟩
  ·cases h
 |.block id c,σ,K,h=>by
  simp only[exC]at h;obtain⟨e,σ1,h1,h2⟩:=uO hT hci c σ _ h;cases e with
  |normal=>exact⟨_,σ1,h1,fun Φ hr=>h2 (AE.inBlock id Φ) hr⟩
  |exit i =>
   cases hi:Nat.beq i id<;>simp only[hi,zaB,zaD]at h1
   ·exact⟨_,σ1,h1,fun Φ hr=>h2 (AE.inBlock id Φ) (by simp only[AE.inBlock];rw[if_neg (Nat.ne_of_beq_eq_false hi)];exact hr)⟩
   ·exact⟨_,σ1,h1,fun Φ hr=>h2 (AE.inBlock id Φ) (by simp only[AE.inBlock];rw[if_pos (zaL hi)];exact hr)⟩
  |ret=>exact⟨_,σ1,h1,fun Φ hr=>h2 (AE.inBlock id Φ) hr⟩
 |.loop c,σ,K,h=>by
  simp only[exC]at h;obtain⟨S,m,e,σ',g1,g2,g3,g4,g5⟩:=aOA (c:=c) (fun σ K h=>uO hT hci c σ K h) u σ K h;refine⟨e,σ',g2,fun Φ hr => ?_⟩;refine aSV (fun i=>(S i).st) (fun i=>i<=m) (fun i=>m-i) 0 (Nat.zero_le _) (by rw[g1];exact pE.refl _) fun i hi => ?_
  by_cases him:i=m
  ·subst him;refine g4 _ ?_;cases e with
   |normal=>exact absurd rfl g5
   |exit id=>exact hr
   |ret=>exact hr
  ·exact g3 i (by omega) _ ⟨i+1,by omega,pE.refl _,by omega⟩
 |.exit id,σ,K,h=>⟨_,_,h,fun Φ hr=>hr⟩
 |.ret,σ,K,h=>⟨_,_,h,fun Φ hr=>hr⟩
 |.frz,σ,K,h=>by simp only[exC]at h;rw[dQ]at h;exact⟨_,_,h.2,fun Φ hr=>⟨_,a7F h.1,hr⟩⟩
theorem qH:∀(k:Nat) (args:List XV),eS (kF k args)=n9 k (cons args)
 |k,[]=>rfl
 |k,v::r=>by have:=qH (k+1) r;simp only[eS]at this;simp only[kF,eS,List.map_cons,cons,n9,this]
theorem tB (l:List XV):(cons l).length=l.length:=by simp[mX]
theorem aJ1 {σ:XSt}:∀ {rs:List AR} {nd:List Bool} {vs:List XV},aJY σ rs=some (nd,vs)->iI nd->aIN σ.st rs=some (cons vs)
 |[],nd,vs,h,hn=>by simp only[aJY,zaA,zaJ]at h;obtain⟨_,rfl⟩:=h;rfl
 |r::rs,nd,vs,h,hn=>by
  simp only[aJY]at h;split at h
  ·rename_i nd1 v nd2 vs' h1 h2;simp only[zaA,zaJ]at h;obtain⟨rfl,rfl⟩:=h;rw[fJ]at hn;have h3:aQO σ.st r=some (con v):=by
    cases r with
    |tmp t => simp only[a9K,zaA,zaJ]at h1;obtain⟨_,rfl⟩:=h1;simp only[aQO];exact congrArg some (fP _ _)
    |cell t ag n =>
     simp only[a9K]at h1;split at h1
     ·rename_i nd' u hl;cases hc:(u.isAgg == ag&&Nat.beq u.size n)<;>rw[hc]at h1
      ·cases h1
      ·simp only[zaB,zaA,zaJ]at h1;obtain⟨rfl,rfl⟩:=h1;simp only[zaG,beq_iff_eq]at hc;have h4:=aDM (aAK σ) hl hn.1;rw[<-fP]at h4;simp only[aQO];show(match σ.st.oQ (get (eS σ.env) t)with|some u=>_|none=>_)=_;rw[h4];simp only[sV,mZ];rw[if_pos ⟨hc.1,zaL hc.2⟩]
     ·cases h1
   simp only[aIN,h3,aJ1 h2 hn.2,cons]
  ·cases h
theorem aYF:∀ vs:List XV,aNS (cons vs)=con (a9L vs)
 |[]=>rfl
 |[v]=>rfl
 |v::w::r=>rfl
theorem yP {rs:List AR} {K:XV->XSt->Prop} {e:AE} {σ:XSt} (h:aQT rs K e σ):∃ v,K v σ/\∀ Φ:AV->St->Prop,Φ (con v) σ.st->aIO rs Φ e σ.st:=by
 have key:(match aJY σ rs with|some (nd,vs)=>lQ nd (K (a9L vs) σ)|none=>False)->∃ v,K v σ/\∀ Φ:AV->St->Prop,Φ (con v) σ.st->(match aIN σ.st rs with|some vs=>Φ (aNS vs) σ.st|none=>False):=by
  intro h;split at h
  ·rename_i nd vs hv;rw[dQ]at h;refine⟨_,h.2,fun Φ hr => ?_⟩;rw[aJ1 hv h.1];simp only[aYF];exact hr
  ·cases h
 cases e with
 |normal=>exact key h
 |exit i=>exact h.elim
 |ret=>exact key h
theorem uP (hmix:P.follows .mixedOrders=true) (hT:bT P T) (hci:aQU P T.q ci) {u f:Nat} {args:List XV} {K:XV->Prop} (h:aO T u ci f args K):∃ v,Pure P f (cons args) (con v)/\K v:=by
 unfold aO at h;split at h
 ·rename_i nd v hs;rw[dQ]at h;exact⟨v,hT.sp _ _ _ _ hs h.1,h.2⟩
 ·split at h
  ·rename_i W hs;exact hT.sk _ _ _ hs _ h
  ·split at h
   ·rename_i nt rs c hc;cases hl:Nat.ble args.length nt<;>rw[hl]at h
    ·exact h.elim
    ·rw[zaB]at h;obtain⟨e,σ',h1,h2⟩:=uO hT hci c _ _ h;obtain⟨v,h3,h4⟩:=yP h1;unfold aVZ at h3;split at h3
     ·rename_i nd r hz;rw[dQ]at h3;refine⟨r, ?_,h3.2⟩;have hw:=h2 _ (h4 (fun v τ=>frz τ 6 v=some (con r)) (qG (aAK σ') 6 v nd r hz h3.1));refine aSS (k:=6) hmix Ok.ok Ok.quiet (hT.wP _ _ hc) (by rw[tB];exact Nat.le_of_ble_eq_true hl) ?_;simpa [XSt.st,qH,iW]using hw
     ·cases h3
   ·cases h
theorem nD (hmix:P.follows .mixedOrders=true) (hT:bT P T) {u:Nat}:∀ k:Nat,aQU P T.q (bL T u k)
 |0=>fun f args σ K h=>h.elim
 |k+1=>fun f args σ K h=>by
  have ih:=nD hmix hT (u:=u) k;simp only[bL]at h;cases hq:T.q f<;>rw[hq]at h
  ·rw[zaD]at h;split at h
   ·rename_i nd v τ hs;rw[dQ]at h;exact⟨v,τ,hT.sg _ _ _ _ _ _ hs h.1 hq,h.2⟩
   ·split at h
    ·rename_i W hs;exact hT.gk _ _ _ _ hs hq _ h
    ·split at h
     ·rename_i nt rs c hc;cases hl':(Nat.ble args.length nt && !T.q (f+1000000))<;>rw[hl']at h
      ·exact h.elim
      ·rw[zaB]at h;simp only[zaG,Bool.not_eq_true']at hl';obtain⟨hl,hal⟩:=hl';obtain⟨e,σ',h1,h2⟩:=uO hT ih c _ _ h;obtain⟨v,h3,h4⟩:=yP h1;refine⟨v,σ',.inr (.inr (.inl ⟨hq,hal,yJ (hT.wP _ _ hc),fun fr G w vs hown hr => ?_⟩)),h3⟩;have hw:=h2 _ (h4 (fun v' τ=>v'=con v/\τ=σ'.st) ⟨rfl,rfl⟩);have hw':wpC (Ok P T.q) c ⟨n9 0 (cons args),iW σ.hl,fun _=>none,σ.n⟩ (aIO rs fun v' τ=>v'=con v/\τ=σ'.st):=by
        simpa [XSt.st,qH]using hw
       refine(enter hmix Ok.ok Ok.quiet (hT.wP _ _ hc) (by rw[tB];exact Nat.le_of_ble_eq_true hl) hown hr hw').mono fun e w' ⟨u',G',v',τ,g1,g2,g3,g4,g5⟩ => ?_
       subst g4 g5;exact⟨u',G',g1,g2,g3⟩
     ·cases h
  ·rw[zaB]at h;cases hi:XV.aGG args<;>rw[hi]at h
   ·rw[zaD]at h;split at h
    ·rename_i nd args' hm;rw[dQ]at h;obtain⟨v,h1,h2⟩:=uP hmix hT ih h.2;cases hsol:v.sol<;>rw[hsol]at h2
     ·exact h2.elim
     ·exact⟨v,σ,.inr (.inl ⟨rfl,rJ v hsol,6,cons args',qF (qG (aAK σ) 6) hm h.1,h1⟩),h2⟩
    ·cases h
   ·rw[zaB]at h;obtain⟨v,h1,h2⟩:=uP hmix hT ih h;exact⟨v,σ,.inl ⟨rfl,by rw[sX];exact hi,h1⟩,h2⟩
theorem gQ (hmix:P.follows .mixedOrders=true) (hT:bT P T) {u k f:Nat} {args:List XV} {r:AV} (h:aO T u (bL T u k) f args fun v=>con v=r):Pure P f (cons args) r:=by obtain⟨v,h1,h2⟩:=uP hmix hT (nD hmix hT k) h;rw[<-h2];exact h1
end
end Go.Ra
namespace Go.Ra
set_option linter.unusedVariables false
def assoc {α:Type}:List (Nat×α)->Nat->Option α
 |[],_=>none
 |(k,v)::l,i=>cond (Nat.beq i k) (some v) (assoc l i)
def nF {α:Type} (p:α->Prop):List α->Prop
 |[]=>True
 |x::l=>p x/\nF p l
theorem kW {α:Type} {p:Nat×α->Prop}:∀ {l:List (Nat×α)} {i:Nat} {v:α},nF p l->assoc l i=some v->p (i,v)
 |[],i,v,h,ha=>by cases ha
 |(k,u)::l,i,v,h,ha=>by
  simp only[assoc,jV]at ha;split at ha
  ·rename_i e;subst e;simp only[zaA]at ha;subst ha;exact h.1
  ·exact kW h.2 ha
theorem nF.app {α:Type} {p:α->Prop}:∀ {l r:List α},nF p l->nF p r->nF p (l++r)
 |[],r,_,h=>h
 |x::l,r,h,h2=>⟨h.1,nF.app h.2 h2⟩
abbrev oX:=List (Nat×(Nat×List AR×AC))
abbrev SpL:=List (Nat×(List XV->Option (List Bool×XV)))
abbrev SgL:=List (Nat×(List XV->XSt->Option (List Bool×XV×XSt)))
def mkT (q:Nat->Bool) (cl:oX) (sl:SpL) (gl:SgL):Tab where
 wP:=assoc cl
 q:=q
 sp f args :=
  match assoc sl f with
  |some g=>g args
  |none=>none
 sg f args σ :=
  match assoc gl f with
  |some g=>g args σ
  |none=>none
def rD (P:Program) (p:Nat×(List XV->Option (List Bool×XV))):Prop:=∀ args nd v,p.2 args=some (nd,v)->iI nd->Pure P p.1 (cons args) (con v)
def a3V (P:Program) (q:Nat->Bool) (p:Nat×(List XV->XSt->Option (List Bool×XV×XSt))):Prop:=∀ args σ nd v τ,p.2 args σ=some (nd,v,τ)->iI nd->q p.1=false->Ok P q p.1 (cons args) σ.st (con v) τ.st
abbrev SkL:=List (Nat×(List XV->Option ((XV->Prop)->Prop)))
abbrev GkL:=List (Nat×(List XV->XSt->Option ((XV->XSt->Prop)->Prop)))
def fW (q:Nat->Bool) (cl:oX) (sl:SpL) (gl:SgL) (kl:SkL) (hl:GkL):Tab where
 wP:=assoc cl
 q:=q
 sp f args :=
  match assoc sl f with
  |some g=>g args
  |none=>none
 sg f args σ :=
  match assoc gl f with
  |some g=>g args σ
  |none=>none
 sk f args :=
  match assoc kl f with
  |some g=>g args
  |none=>none
 gk f args σ :=
  match assoc hl f with
  |some g=>g args σ
  |none=>none
def eV (P:Program) (p:Nat×(List XV->Option ((XV->Prop)->Prop))):Prop:=∀ args W,p.2 args=some W->∀ K:XV->Prop,W K->∃ v,Pure P p.1 (cons args) (con v)/\K v
def aYG (P:Program) (q:Nat->Bool) (p:Nat×(List XV->XSt->Option ((XV->XSt->Prop)->Prop))):Prop:=∀ args σ W,p.2 args σ=some W->q p.1=false->∀ K:XV->XSt->Prop,W K->∃ v τ,Ok P q p.1 (cons args) σ.st (con v) τ.st/\K v τ
theorem bQ {P:Program} {q:Nat->Bool} {cl:oX} {sl:SpL} {gl:SgL} {kl:SkL} {hl:GkL} (h1:nF (fun p=>trF P q p.1=some p.2) cl) (h2:nF (rD P) sl) (h3:nF (a3V P q) gl) (h4:nF (eV P) kl) (h5:nF (aYG P q) hl):bT P (fW q cl sl gl kl hl):=by
 refine⟨fun f r h=>kW h1 h,fun f args nd v h hn => ?_,fun f args σ nd v τ h hn hq => ?_,fun f args W h => ?_,fun f args σ W h hq => ?_⟩
 ·simp only[fW]at h;split at h
  ·rename_i g hg;exact kW h2 hg args nd v h hn
  ·cases h
 ·simp only[fW]at h;split at h
  ·rename_i g hg;exact kW h3 hg args σ nd v τ h hn hq
  ·cases h
 ·simp only[fW]at h;split at h
  ·rename_i g hg;exact kW h4 hg args W h
  ·cases h
 ·simp only[fW]at h;split at h
  ·rename_i g hg;exact kW h5 hg args σ W h hq
  ·cases h
theorem sH {P:Program} {q:Nat->Bool} {cl:oX} {sl:SpL} {gl:SgL} (h1:nF (fun p=>trF P q p.1=some p.2) cl) (h2:nF (rD P) sl) (h3:nF (a3V P q) gl):bT P (mkT q cl sl gl):=by
 refine⟨fun f r h=>kW h1 h,fun f args nd v h hn => ?_,fun f args σ nd v τ h hn hq => ?_,fun f args W h=>(by cases h),fun f args σ W h=>(by cases h)⟩
 ·simp only[mkT]at h;split at h
  ·rename_i g hg;exact kW h2 hg args nd v h hn
  ·cases h
 ·simp only[mkT]at h;split at h
  ·rename_i g hg;exact kW h3 hg args σ nd v τ h hn hq
  ·cases h
end Go.Ra
namespace Go.Ra
set_option linter.unusedVariables false
set_option linter.unusedSimpArgs false
def aYH (es bytes:Nat):AC:=.seq (.ops [⟨some 2,.mv (.c (.fro true 0 [])),none⟩]) (.seq (.ops [⟨some 3,.mv (.t 0),none⟩,⟨some 4,.app es bytes (.c (.fro true 0 [])) (.t 3),none⟩,⟨some 2,.mv (.t 4),none⟩]) .ret)
section
variable {P:Program} {q:Nat->Bool} {f es bytes:Nat}
theorem aQX (hmix:P.follows .mixedOrders=true) (hF:trF P q f=some (5,[.tmp 2],aYH es bytes)) (h0:0<bytes) (x:Bool) (es0:Nat) (ts:List AV) (hes:es0=es\/ts=[]) (hs:AV.kG ts=true) (hb:ts.length*bytes<=140737488355328) :
  wK P f [.fro x es0 ts] (.sl 0 [] 0 0 ts.length es) (.arr ts.length es ts):=by
 refine aK7 hmix Ok.ok Ok.quiet hF (Nat.le_of_ble_eq_true rfl) (by simpa [AV.eL]using hs) rfl ?_;unfold aYH;simp only[n9];have hor:(es0=es\/ts=[])=True:=by simp[hes]
 clear hes
 repeat' (first
  |(with_reducible refine a3O ?_;intro K hK)
  |with_reducible refine a3M ?_
  |with_reducible refine a3N ?_
  |with_reducible refine aXY ?_
  |with_reducible refine aXZ ?_
  |with_reducible refine aVR ?_
  |with_reducible refine aNQ ?_
  |with_reducible refine aX0 ?_
  |with_reducible refine aVS ?_
  |with_reducible refine aGE ?_
  |with_reducible refine aNR ?_
  |with_reducible refine aK6 ?_
  |with_reducible refine aIM (by decide) ?_
  |(with_reducible refine hK.out _ ?_;clear hK K)
  |with_reducible refine KK.out (by assumption) _ ?_
  |simp -implicitDefEqProofs (disch:=omega) only[aXP,aVK,oU,aVJ,aXO,aXR,bHS,bHT,bDI,a9D,aXS,aNM,aJI,aNN,aX,aFU,uA,a22,I,B,if_true,if_false,ite_true,ite_false,reduceCtorEq,Nat.reduceEqDiff,Nat.succ_ne_self,zaU,↓reduceIte,zaI,zaH,zaC,zaE,zaN,zaM,St.oQ,AV.at?,AV.set?,AV.fB,AV.j7,j6,List.map_cons,List.map_nil,List.getElem?_cons_zero,List.getElem?_cons_succ,List.getElem?_nil,List.take_succ_cons,List.take_zero,List.take_nil,Nat.zero_add,Nat.add_zero,Nat.reduceAdd,and_self,and_true,true_and,List.nil_append,List.cons_append,List.append_nil,aEA,aAF,BEq.rfl,beq_self_eq_true,zaT,zaR,zaS,wD,List.set_cons_zero,List.set_cons_succ,foldI,aEB,asI,zaO,aDI,aBC,Option.map_some,Option.map_none,aW0,St.row,aVB,List.isEmpty_nil,List.isEmpty_cons,List.length_nil,List.length_cons,List.length_map,true_or,or_true,or_false,false_or,ne_eq,zaN,lW,Nat.sub_zero,List.drop_zero,List.length_append,List.length_set,Nat.reduceMul,Nat.reduceLT,Nat.reduceLeDiff,Int.reduceLT,Int.reduceLE,Int.reduceToNat,Nat.zero_mul,Nat.zero_le,zaF,Int.le_refl,List.take_length,Int.natCast_zero,List.drop_succ_cons,List.take_succ_cons,Nat.add_sub_cancel, *]
  |with_reducible refine a3L ?_ ?_
  |(with_reducible refine aVQ (fun h => ?_) (fun h => ?_)<;>(first|simp only[zaK,zaP,Classical.not_not,zaG,zaV]at h|skip))
  |(with_reducible refine aXQ (fun h => ?_) (fun h => ?_)<;>(first|simp only[zaK,zaP,Classical.not_not,zaG,zaV]at h|skip))
  |(with_reducible refine aVL (fun h => ?_) (fun h => ?_)<;>(first|simp only[zaK,zaP,Classical.not_not,zaG,zaV]at h|skip)))
 simp -implicitDefEqProofs only[aIO,aIN,aQO,aNM,Nat.reduceEqDiff,↓reduceIte,aNS,reduceCtorEq,Nat.succ_ne_self,bDI,aJI,aNN];exact .inl ⟨0,rfl,rfl⟩
def aYI (es bytes:Nat) (args:List XV) (σ:XSt):Option (List Bool×XV×XSt) :=
 match aIR (aFB σ.hl 6) args with
 |some (nd,[.row x es' n f])=>cond ((Nat.beq es' es||Nat.beq n 0)&&Nat.blt 0 bytes) (some (decide (n*bytes<=140737488355328)::gP (fun i=>(f i).sol) n::nd,.sl σ.n [] 0 0 n es,σ.new (.tab n es f))) none
 |_=>none
theorem aYJ (hM:∀(x:Bool) (es0:Nat) (ts:List AV),(es0=es\/ts=[])->AV.kG ts=true->ts.length*bytes<=140737488355328->wK P f [.fro x es0 ts] (.sl 0 [] 0 0 ts.length es) (.arr ts.length es ts)):a3V P q (f,aYI es bytes):=by
 intro args σ nd v τ h hn hq;simp only[aYI]at h;split at h
 ·rename_i nd' x es' n g hm;cases hc:((Nat.beq es' es||Nat.beq n 0)&&Nat.blt 0 bytes)<;>rw[hc]at h
  ·cases h
  ·simp only[zaB,zaA,zaJ]at h;obtain⟨rfl,rfl,rfl⟩:=h;simp only[bH,zaK,dH]at hn;simp only[zaG,zaV]at hc;have h1:=qF (qG (aAK σ) 6) hm hn.2.2;have h2:=hM x es' (dP n fun i=>con (g i)) (hc.1.imp zaL (fun e=>mY.2 (zaL e))) (by
    rw[aAO];intro t ht;simp only[dP,List.mem_map,List.mem_range]at ht;obtain⟨i,hi,rfl⟩:=ht;exact rJ _ (hn.2.1 i hi)) (by rw[bG];exact hn.1)
   rw[bG]at h2;exact .inr (.inr (.inr ⟨hq,6,_,_,_,h1,h2,by simp only[aIP,ren,if_true];rfl,rfl⟩))
 ·cases h
end
end Go.Ra
namespace Go.Ra
open Go.RowKit (Below)
set_option linter.unusedVariables false
set_option linter.unusedSimpArgs false
inductive Ty where
 |int (k:IntKind)
 |bool
 |str
 |slice (es bytes:Nat) (e:Ty)
 |agg (n:Nat) (l:List Ty)
 |arr (n es:Nat) (e:Ty)
 deriving Inhabited
mutual
def Ty.has:Ty->AV->Prop
 |.int k,a=>∃ n,a=.sc (.int k n)/\(Lit.int k n).wf=true
 |.bool,a=>∃ b,a=.sc (.bool b)
 |.str,a=>∃ s,a=.sc (.string s)/\s.size<=maxLen
 |.slice es bytes e,a=>∃ ts,a=.fro false es ts/\ts.length*bytes<=140737488351232/\∀ t∈ts,e.has t
 |.agg n l,a=>∃ ts,a=.agg n ts/\Ty.aGQ l ts
 |.arr n es e,a=>∃ ts,a=.arr n es ts/\ts.length=n/\∀ t∈ts,e.has t
def Ty.aGQ:List Ty->List AV->Prop
 |[],ts=>ts=[]
 |T::l,ts=>∃ t r,ts=t::r/\T.has t/\Ty.aGQ l r
end
mutual
def tyT (P:Program):Nat->TypeId->Option Ty
 |0,_=>none
 |d+1,t =>
  match P.underlying t with
  |some (.int k)=>some (.int k)
  |some .bool=>some .bool
  |some .string=>some .str
  |some (.slice e) =>
   match tyT P d e with
   |some T=>if P.cellsOf e=0 then none else some (.slice (P.cellsOf e) (P.bytesOf e) T)
   |none=>none
  |some (.struct fs) =>
   match aV1 P d 0 fs.toList with
   |some (l,n)=>if n=P.cellsOf t then some (.agg n l)else none
   |none=>none
  |some (.array n e) =>
   match tyT P d e with
   |some T=>if P.cellsOf t=n*P.cellsOf e then some (.arr n (P.cellsOf e) T)else none
   |none=>none
  |_=>none
def aV1 (P:Program):Nat->Nat->List Field->Option (List Ty×Nat)
 |_,o,[]=>some ([],o)
 |0,_,_::_=>none
 |d+1,o,f::fs =>
  if f.offset=o then
   match tyT P d f.type,aV1 P d (o+P.cellsOf f.type) fs with
   |some T,some (l,n)=>some (T::l,n)
   |_,_=>none
  else none
end
section
variable {P:Program} {H:Type} {enc:TypeId×Value->H} {W:World} {base:Nat} {sp:Nat->Bool} {held:Bool}
theorem aOB {a:Addr} {n:Nat} {cs:List Value} (h:W.cells? base a n=some cs):cs.length=n/\∀ j v,cs[j]? = some v->W.cell? (a.add j)=some v:=by
 unfold World.cells? at h;split at h
 ·have hl:=wI h;refine⟨by simpa using hl,fun j v hj => ?_⟩;have hlt:j<n:=by have:=(List.getElem?_eq_some_iff.1 hj).1;rw[hl]at this;simpa using this
  obtain⟨y,h1,h2⟩:=aGC h j j (by simp[hlt]);rw[hj]at h1;simp only[zaA]at h1;subst h1;exact h2
 ·cases h
theorem aV2 {a:Addr} {v:Value} (h:W.cell? a=some v):a.spot=none:=by
 unfold World.cell? at h;split at h
 ·rename_i c e f hc;cases hs:a.spot with
  |none=>rfl
  |some s=>rw[hs]at h;simp at h
 ·cases h
theorem aYK {a:Addr} {v:Value} (h:W.cell? a=some v):a.block<W.heap.size:=World.block_lt_of_cell? W a h
abbrev Low (W:World):Nat->Prop:=fun b=>b<W.heap.size
theorem aGR {e:TypeId} {fuel es b o:Nat} {T:Ty} (hes:0<es) (ih:∀(cs:List Value) (d:DataW H) (ps:List MemPlace),DataW.trod enc P W base sp held fuel e cs=some (d,ps)->(∀ x∈d.weights P e,x<=140737488351232)->∃ a,bR W (Low W) gF a cs/\T.has a):∀(n k:Nat) (xs:List (DataW H×List MemPlace)),
  xs.length=n->(∀ i,i<n->(W.cells? base ((⟨b,o,none⟩:Addr).add ((k+i)*es)) es).bind (DataW.trod enc P W base sp held fuel e)=xs[i]?)->(∀ x∈DataW.weightsAll P e (xs.map (·.1)),x<=140737488351232) ->
  ∃ ts cs,ts.length=n/\eH W (Low W) es ts cs/\Reads W b (o+k*es) cs/\∀ t∈ts,T.has t
 |0,k,xs,hn,h,hw=>⟨[],[],rfl,.nil,fun j v hj=>by simp at hj,fun t ht=>by cases ht⟩
 |n+1,k,[],hn,h,hw=>by simp at hn
 |n+1,k,y::ys,hn,h,hw=>by
  have h1:=h 0 (by omega);simp only[List.map_cons,DataW.weightsAll,List.mem_append]at hw;obtain⟨ts,cs,h3,h4,h5,h6⟩:=aGR hes ih n (k+1) ys (by simpa using hn) (fun i hi=>by have:=h (i+1) (by omega);rw[show k+(i+1)=k+1+i by omega]at this;simpa using this) (fun x hx=>hw x (.inr hx));simp only[Nat.add_zero,List.getElem?_cons_zero]at h1;cases hc:W.cells? base ((⟨b,o,none⟩:Addr).add (k*es)) es with
  |none=>rw[hc]at h1;cases h1
  |some c =>
   rw[hc]at h1;simp only[Option.bind_some]at h1;obtain⟨h7,h8⟩:=aOB hc;obtain⟨d,ps⟩:=y;obtain⟨a,h9,h10⟩:=ih c d ps h1 (fun x hx=>hw x (.inl hx));refine⟨a::ts,c++cs,by simp[h3],.cons h9 h7 h4,fun j v hj => ?_,fun t ht => ?_⟩
   ·by_cases hjc:j<c.length
    ·rw[List.getElem?_append_left hjc]at hj;have:=h8 j v hj
     rwa [add_lit,add_lit]at this
    ·rw[List.getElem?_append_right (by omega)]at hj;have:=h5 _ v hj;rw[Nat.add_mul,Nat.one_mul]at this;rw[show o+k*es+j=o+(k*es+es)+(j-c.length)by omega];exact this
   ·rcases List.mem_cons.1 ht with rfl|ht
    ·exact h10
    ·exact h6 t ht
theorem aEL {fuel:Nat} {whole:List Value} {D:Nat} (ih:∀(m:Nat),m<D->∀(t:TypeId) (T:Ty) (cs:List Value) (d:DataW H) (ps:List MemPlace),tyT P m t=some T->DataW.trod enc P W base sp held fuel t cs=some (d,ps)->(∀ x∈d.weights P t,x<=140737488351232)->∃ a,bR W (Low W) gF a cs/\T.has a) :
  ∀(fs:List Field) (d o:Nat) (xs:List (DataW H×List MemPlace)) (l:List Ty) (m:Nat),d<=D->aV1 P d o fs=some (l,m)->xs.length=fs.length->(∀(i:Nat) (f:Field),fs[i]? = some f->DataW.trod enc P W base sp held fuel f.type ((whole.drop f.offset).take (P.cellsOf f.type))=xs[i]?) ->
   (∀ x∈DataW.weightsEach P (fs.map (·.type)) (xs.map (·.1)),x<=140737488351232)->m<=whole.length->o<=m/\∃ ts,dU W (Low W) gF ts ((whole.drop o).take (m-o))/\Ty.aGQ l ts
 |[],d,o,xs,l,m,hd,hT,hn,h,hw,hm=>by simp only[aV1,zaA,zaJ]at hT;obtain⟨rfl,rfl⟩:=hT;exact⟨zaF _,[],by simp;exact .nil,rfl⟩
 |f::fs,0,o,xs,l,m,hd,hT,hn,h,hw,hm=>by simp[aV1]at hT
 |f::fs,d+1,o,[],l,m,hd,hT,hn,h,hw,hm=>by simp at hn
 |f::fs,d+1,o,y::ys,l,m,hd,hT,hn,h,hw,hm=>by
  simp only[aV1]at hT;split at hT
  ·rename_i hoff;split at hT
   ·rename_i T l' m' hT1 hT2;simp only[zaA,zaJ]at hT;obtain⟨rfl,rfl⟩:=hT;simp only[List.map_cons,DataW.weightsEach,List.mem_append]at hw;obtain⟨h1,ts,h2,h3⟩:=aEL ih fs d (o+P.cellsOf f.type) ys l' m' (by omega) hT2 (by simpa using hn) (fun i g hg=>by simpa using h (i+1) g (by simpa using hg)) (fun x hx=>hw x (.inr hx)) hm;have h4:=h 0 f rfl;simp only[List.getElem?_cons_zero]at h4;obtain⟨dd,ps⟩:=y;obtain⟨a,h5,h6⟩:=ih d (by omega) f.type T _ dd ps hT1 h4 (fun x hx=>hw x (.inl hx));refine⟨by omega,a::ts, ?_,⟨a,ts,rfl,h6,h3⟩⟩;have e1:(whole.drop o).take (m'-o)=(whole.drop f.offset).take (P.cellsOf f.type)++(whole.drop (o+P.cellsOf f.type)).take (m'-(o+P.cellsOf f.type)):=by
     rw[hoff,show m'-o=P.cellsOf f.type+(m'-(o+P.cellsOf f.type))by omega,List.take_add,List.drop_drop]
    rw[e1];exact .cons h5 h2
   ·cases hT
  ·cases hT
theorem aGS {e:TypeId} {fuel es:Nat} {T:Ty} {whole:List Value} (ih:∀(cs:List Value) (d:DataW H) (ps:List MemPlace),DataW.trod enc P W base sp held fuel e cs=some (d,ps)->(∀ x∈d.weights P e,x<=140737488351232)->∃ a,bR W (Low W) gF a cs/\T.has a):∀(n k:Nat) (xs:List (DataW H×List MemPlace)),
  xs.length=n->(∀ i,i<n->DataW.trod enc P W base sp held fuel e ((whole.drop ((k+i)*es)).take es)=xs[i]?)->(k+n)*es<=whole.length->(∀ x∈DataW.weightsAll P e (xs.map (·.1)),x<=140737488351232) ->
  ∃ ts,ts.length=n/\eH W (Low W) es ts ((whole.drop (k*es)).take (n*es))/\∀ t∈ts,T.has t
 |0,k,xs,hn,h,hl,hw=>⟨[],rfl,by simp;exact .nil,fun t ht=>by cases ht⟩
 |n+1,k,[],hn,h,hl,hw=>by simp at hn
 |n+1,k,y::ys,hn,h,hl,hw=>by
  have h1:=h 0 (by omega);simp only[Nat.add_zero,List.getElem?_cons_zero]at h1;simp only[List.map_cons,DataW.weightsAll,List.mem_append]at hw;obtain⟨ts,h3,h4,h6⟩:=aGS ih n (k+1) ys (by simpa using hn) (fun i hi=>by have:=h (i+1) (by omega);rw[show k+(i+1)=k+1+i by omega]at this;simpa using this) (by rw[show k+1+n=k+(n+1)by omega];exact hl) (fun x hx=>hw x (.inr hx));obtain⟨d,ps⟩:=y;obtain⟨a,h9,h10⟩:=ih _ d ps h1 (fun x hx=>hw x (.inl hx));have hlen:((whole.drop (k*es)).take es).length=es:=by
   simp only[List.length_take,List.length_drop];have:(k+(n+1))*es=k*es+es+n*es:=by rw[Nat.add_mul,Nat.add_mul,Nat.one_mul];omega
   omega
  refine⟨a::ts,by simp[h3], ?_,fun t ht => ?_⟩
  ·have e1:(whole.drop (k*es)).take ((n+1)*es)=(whole.drop (k*es)).take es++(whole.drop ((k+1)*es)).take (n*es):=by
    rw[show(n+1)*es=es+n*es by rw[Nat.add_mul,Nat.one_mul];omega,List.take_add,List.drop_drop,show k*es+es=(k+1)*es by rw[Nat.add_mul,Nat.one_mul]]
   rw[e1];exact .cons h9 hlen h4
  ·rcases List.mem_cons.1 ht with rfl|ht
   ·exact h10
   ·exact h6 t ht
theorem aV3:∀(n:Nat) (t:TypeId) (T:Ty) (fuel:Nat) (cs:List Value) (d:DataW H) (ps:List MemPlace),tyT P n t=some T->DataW.trod enc P W base sp held fuel t cs=some (d,ps) ->
  (∀ x∈d.weights P t,x<=140737488351232)->∃ a,bR W (Low W) gF a cs/\T.has a:=by
 intro n
 induction n using Nat.strongRecOn with
 |_ n ih =>
 intro t T fuel cs d ps hT h hw;cases n with
 |zero=>simp[tyT]at hT
 |succ n =>
  simp only[tyT]at hT;split at hT
  ·rename_i k hu;simp only[zaA]at hT;subst hT;obtain⟨x,rfl,_,h2⟩:=DataW.trod_int hu h;exact⟨.sc (.int k x),.sc rfl,⟨x,rfl,h2⟩⟩
  ·rename_i hu;simp only[zaA]at hT;subst hT;obtain⟨b,rfl,_⟩:=DataW.trod_bool hu h;exact⟨.sc (.bool b),.sc rfl,⟨b,rfl⟩⟩
  ·rename_i hu;simp only[zaA]at hT;subst hT;obtain⟨s,rfl,_,h2⟩:=DataW.trod_string hu h;exact⟨.sc (.string s),.sc rfl,⟨s,rfl,h2⟩⟩
  ·rename_i e hu;split at hT
   ·rename_i T' hT';split at hT
    ·cases hT
    ·rename_i hes;simp only[zaA]at hT;subst hT;have hes':0<P.cellsOf e:=Nat.pos_of_ne_zero hes;rcases DataW.trod_slice hu h with⟨rfl,hx⟩|⟨a,len,cap,elems,rest,m,rfl,rfl,hx,hb,hlc,hcm,hel,hat,_⟩
     ·exact⟨.fro false (P.cellsOf e) [],.iV (fun h=>by cases h),⟨[],rfl,by simp,fun t ht=>by cases ht⟩⟩
     ·simp only[zaJ]at hx;obtain⟨rfl,rfl⟩:=hx;simp only[DataW.weights,hu,List.mem_cons,List.mem_append]at hw;have hw1:=hw _ (.inl rfl);simp only[List.length_map]at hw1;cases len with
      |zero=>exact⟨.fro false (P.cellsOf e) [],.iV (fun h=>by cases h),⟨[],rfl,by simp,fun t ht=>by cases ht⟩⟩
      |succ len =>
       have h0:=hat 0 (by omega);rw[List.getElem?_eq_getElem (by omega),Nat.zero_mul]at h0;cases hc:W.cells? base (a.add 0) (P.cellsOf e)with
       |none=>rw[hc]at h0;cases h0
       |some c =>
        obtain⟨h7,h8⟩:=aOB hc;have h9:=h8 0 c[0] (List.getElem?_eq_getElem (by omega));have hadd:(a.add 0).add 0=a:=by simp[Addr.add]
        rw[hadd]at h9;have hspot:=aV2 h9;obtain⟨b,o,sp'⟩:=a;simp only at hspot;subst hspot;obtain⟨ts,cs,g1,g2,g3,g4⟩:=aGR hes' (fun cs d ps h1 h2=>ih n (by omega) e T' m cs d ps hT' h1 h2) (len+1) 0 elems hel (fun i hi=>by rw[Nat.zero_add];exact hat i hi) (fun x hx=>hw x (.inr (.inl hx)));rw[Nat.zero_mul,Nat.add_zero]at g3;refine⟨.fro false (P.cellsOf e) ts, ?_,⟨ts,rfl, ?_,g4⟩⟩
        ·rw[<-g1];exact .fro g2 g3 (aYK h9) (fun h=>by cases h) (by rw[g1];exact hlc)
        ·rw[g1];rw[hel]at hw1;exact Nat.le_trans (Nat.mul_le_mul_right _ (by omega)) hw1
   ·cases hT
  ·rename_i fs hu;split at hT
   ·rename_i l m hl;split at hT
    ·rename_i hm;simp only[zaA]at hT;subst hT;obtain⟨xs,k,rfl,hx,hlen,hxl,hat⟩:=DataW.trod_struct hu h;simp only[zaJ]at hx;obtain⟨rfl,rfl⟩:=hx;simp only[DataW.weights,hu]at hw;obtain⟨_,ts,h2,h3⟩:=aEL (D:=n) (whole:=cs) (fuel:=k) (fun m hm t T cs d ps h1 h2 h3=>ih m (by omega) t T k cs d ps h1 h2 h3) fs.toList n 0 xs l m (zaF _) hl (by simpa using hxl) (fun i f hf=>hat i f (by simpa using hf)) hw (by omega);refine⟨.agg m ts, ?_,⟨ts,rfl,h3⟩⟩;have e1:(cs.drop 0).take (m-0)=cs:=by
      rw[List.drop_zero,Nat.sub_zero];exact List.take_of_length_le (by omega)
     rw[e1]at h2;exact .agg h2 (by omega)
    ·cases hT
   ·cases hT
  ·rename_i k e hu;split at hT
   ·rename_i T' hT';split at hT
    ·rename_i hsz;simp only[zaA]at hT;subst hT;obtain⟨xs,m,rfl,hx,hlen,hxl,hat⟩:=DataW.trod_array hu h;simp only[zaJ]at hx;obtain⟨rfl,rfl⟩:=hx;simp only[DataW.weights,hu]at hw;obtain⟨ts,g1,g2,g3⟩:=aGS (whole:=cs) (fun cs d ps h1 h2=>ih n (by omega) e T' m cs d ps hT' h1 h2) k 0 xs hxl (fun i hi=>by rw[Nat.zero_add];exact hat i hi) (by rw[Nat.zero_add];omega) hw;refine⟨.arr k (P.cellsOf e) ts, ?_,⟨ts,rfl,g1,g3⟩⟩;have e1:(cs.drop (0*P.cellsOf e)).take (k*P.cellsOf e)=cs:=by
      rw[Nat.zero_mul,List.drop_zero];exact List.take_of_length_le (by omega)
     rw[e1]at g2;exact .arr g2 g1
    ·cases hT
   ·cases hT
  ·cases hT
end
end Go.Ra
namespace Go.Ra
open Go.RowKit (Below)
open Go.ChangeShapes Go.WideShapes Go.ChangeAt Go.RowKit
set_option linter.unusedVariables false
set_option linter.unusedSimpArgs false
section
variable {P:Program} {H:Type} {enc:TypeId×Value->H} {W:World} {sp:Nat->Bool} {held:Bool} {base b0:Nat}
theorem aYL {n:Nat} {t:TypeId} {T:Ty} {v:Value} {d:DataW H} {ps:List MemPlace} (hT:tyT P n t=some T) (hval:Value.okWide P W .any b0 t v) (h:DataW.Trod enc P W base sp held t v d ps) (hw:∀ x∈d.weights P t,x<=140737488351232) :
  ∃ a,bS W (Low W) gF a v/\T.has a:=by
 obtain⟨fuel,hf⟩:=h;obtain⟨a,h1,h2⟩:=aV3 n t T fuel _ d ps hT hf hw;refine⟨a, ?_,h2⟩;cases n with
 |zero=>simp[tyT]at hT
 |succ n =>
  simp only[tyT]at hT;split at hT
  ·rename_i k hu;simp only[zaA]at hT;subst hT;obtain⟨x,rfl⟩:=okWide_int hu hval;obtain⟨y,rfl,_⟩:=h2;exact .one (by simpa [Value.cells]using h1) rfl
  ·rename_i hu;simp only[zaA]at hT;subst hT;obtain⟨x,rfl⟩:=okWide_bool hu hval;obtain⟨y,rfl⟩:=h2;exact .one (by simpa [Value.cells]using h1) rfl
  ·rename_i hu;simp only[zaA]at hT;subst hT;obtain⟨x,rfl⟩:=okWide_string hu hval;obtain⟨y,rfl,_⟩:=h2;exact .one (by simpa [Value.cells]using h1) rfl
  ·rename_i e hu;obtain⟨x,len,cap,rfl⟩:=okWide_slice hu hval;split at hT
   ·split at hT
    ·cases hT
    ·simp only[zaA]at hT;subst hT;obtain⟨ts,rfl,_⟩:=h2;exact .one (by simpa [Value.cells]using h1) rfl
   ·cases hT
  ·rename_i fs hu;simp only[Value.okWide,hu]at hval;obtain⟨cs,rfl,_⟩:=hval;split at hT
   ·split at hT
    ·simp only[zaA]at hT;subst hT;obtain⟨ts,rfl,_⟩:=h2;simpa using bS.agg (cs:=cs.toList) (by simpa [Value.cells]using h1) rfl
    ·cases hT
   ·cases hT
  ·rename_i k e hu;simp only[Value.okWide,hu]at hval;obtain⟨cs,rfl,_⟩:=hval;split at hT
   ·split at hT
    ·simp only[zaA]at hT;subst hT;obtain⟨ts,rfl,_⟩:=h2;simpa using bS.agg (cs:=cs.toList) (by simpa [Value.cells]using h1) rfl
    ·cases hT
   ·cases hT
  ·cases hT
theorem aOC {n:Nat}:∀ {ts:List TypeId} {Ts:List Ty} {vs:List Value} {ds:List (DataW H)} {ps:List MemPlace},lL (tyT P n) ts=some Ts->(∀(j:Nat) (t:TypeId) (v:Value),ts[j]? = some t->vs[j]? = some v->Value.okWide P W .any b0 t v) ->
  DataW.TrodAll enc P W base sp held ts vs ds ps->(∀ x∈DataW.weightsEach P ts ds,x<=140737488351232)->∃ as0,bW W (Low W) gF as0 vs/\Ty.aGQ Ts as0
 |[],Ts,[],[],ps,hT,hv,h,hw=>by simp only[lL,zaA]at hT;subst hT;exact⟨[],.nil,rfl⟩
 |t::ts,Ts,v::vs,d::ds,ps,hT,hv,h,hw=>by
  simp only[lL]at hT;split at hT
  ·rename_i T Ts' hT1 hT2;simp only[zaA]at hT;subst hT;obtain⟨p,q,h1,h2,rfl⟩:=h;simp only[DataW.weightsEach,List.mem_append]at hw;obtain⟨a,h3,h4⟩:=aYL hT1 (hv 0 t v rfl rfl) h1 (fun x hx=>hw x (.inl hx));obtain⟨as0,h5,h6⟩:=aOC hT2 (fun j t' v' h7 h8=>hv (j+1) t' v' (by simpa using h7) (by simpa using h8)) h2 (fun x hx=>hw x (.inr hx));exact⟨a::as0,.cons h3 h5,⟨a,as0,rfl,h4,h6⟩⟩
  ·cases hT
 |[],Ts,v::vs,ds,ps,hT,hv,h,hw=>by cases ds<;>exact h.elim
 |[],Ts,[],d::ds,ps,hT,hv,h,hw=>h.elim
 |t::ts,Ts,[],ds,ps,hT,hv,h,hw=>by cases ds<;>exact h.elim
 |t::ts,Ts,v::vs,[],ps,hT,hv,h,hw=>h.elim
theorem aJ2 (hl:laidOutB P=true) {W':World} (hb:Below W.heap.size W W'):∀ {ts:List TypeId} {vs:List Value} {ds:List (DataW H)} {ps:List MemPlace},ts.all (fun t=>P.readableRec t&&decide (t<P.types.size))=true ->
  DataW.TrodAll enc P W 0 (fun _=>true) true ts vs ds ps->(∀ x∈ps,x.block<W.heap.size)->DataW.TrodAll enc P W' 0 (fun b=>decide (b<W.heap.size)) true ts vs ds ps
 |[],[],[],ps,hr,h,hlt=>h
 |t::ts,v::vs,d::ds,ps,hr,h,hlt=>by obtain⟨p,q,h1,h2,rfl⟩:=h;simp only[List.all_cons,zaG,zaK]at hr;exact⟨p,q,Below.trod hl hr.1.1 hr.1.2 h1 hb (fun x hx=>hlt x (List.mem_append_left _ hx)),aJ2 hl hb hr.2 h2 (fun x hx=>hlt x (List.mem_append_right _ hx)),rfl⟩
 |[],v::vs,ds,ps,hr,h,hlt=>by cases ds<;>exact h.elim
 |[],[],d::ds,ps,hr,h,hlt=>h.elim
 |t::ts,[],ds,ps,hr,h,hlt=>by cases ds<;>exact h.elim
 |t::ts,v::vs,[],ps,hr,h,hlt=>h.elim
theorem aS7:∀ {ts:List TypeId} {vs:List Value} {ds:List (DataW H)} {ps:List MemPlace},DataW.TrodAll enc P W base sp held ts vs ds ps->ds.length=ts.length
 |[],[],[],ps,h=>rfl
 |t::ts,v::vs,d::ds,ps,h=>by obtain⟨p,q,h1,h2,rfl⟩:=h;simp[aS7 h2]
 |[],v::vs,ds,ps,h=>by cases ds<;>exact h.elim
 |[],[],d::ds,ps,h=>h.elim
 |t::ts,[],ds,ps,h=>by cases ds<;>exact h.elim
 |t::ts,v::vs,[],ps,h=>h.elim
end
theorem law_post {P:Program} {H:Type} {enc:TypeId×Value->H} {fn:Func} {f:Nat} {s:ChangeSpec} {ts:List TypeId} {Ts:List Ty} {tb:TypeId} {n:Nat} (hl:laidOutB P=true) (hp:fn.params.toList=ts) (hr:fn.resultTypes = #[tb]) (htb:P.underlying tb=some .bool)
  (hv:s.vars=[]) (hTs:lL (tyT P n) ts=some Ts) (hread:ts.all (fun t=>P.readableRec t&&decide (t<P.types.size))=true)
  (hfn:∀ ds:List (DataW H),ds.length=ts.length->(s.fn H ds).results=[.lit (.bool true)]/\(s.fn H ds).args=ds/\(s.fn H ds).vars=[])
  (hlaw:∀ as0,Ty.aGQ Ts as0->Pure P f as0 (.sc (.bool true))) {apart:Bool} :
  ∀(W:World) (base:Nat) (args:Array Value) (ds gs:List (DataW H)) (before:List MemPlace),
   (∀(j:Nat) t v,fn.params[j]? = some t->args[j]? = some v->Value.okWide P W .any base t v) ->
   DataW.Whole enc P fn.params.toList s.vars apart W args.toList ds gs before ->
   (DataW.weightsEach P (fn.params.toList++s.plain.varTypes P) (ds++gs)).all (· <= reachBytes)=true ->
   Calls P f args W fun e W'=>∃ v,e=.returned v/\s.post enc P fn apart true false false W args v W':=by
 intro W base args ds gs before hval hW hsz;have hW':=hW;obtain⟨p,q,hA,hV,rfl,hfz,hnd⟩:=hW;rw[hv]at hV;have hgs:gs=[]/\q=[]:=by
  cases gs with
  |nil=>exact⟨rfl,hV⟩
  |cons g gs=>exact hV.elim
 obtain⟨rfl,rfl⟩:=hgs;rw[hp]at hA;have hvt:s.plain.varTypes P=[]:=by simp only[ChangeSpec.plain,DataSpec.varTypes,hv];rfl
 rw[hvt,List.append_nil,List.append_nil,hp]at hsz;obtain⟨as0,h1,h2⟩:=aOC (b0:=base) hTs (fun j t v hj hvj=>hval j t v (by rw[<-Array.getElem?_toList,hp];exact hj) (by rw[<-Array.getElem?_toList];exact hvj)) hA (fun x hx=>by have:=List.all_eq_true.1 hsz x hx;exact of_decide_eq_true this);obtain⟨_,hc⟩:=hlaw as0 h2;have:=hc W (Low W) args.toList (fun b hb=>hb) h1;rw[Array.toArray_toList]at this;refine this.mono fun e W' ⟨u,F',he,hb,_,_,hrel⟩ => ?_
 obtain⟨hu,_⟩:=hrel.mT;subst hu;obtain⟨g1,g2,g3⟩:=hfn ds (aS7 hA);have hlt:=hA.lt;refine⟨_,he,ds,[],_,[],p,[],hW', ?_, ?_, ?_,hb.frame _,fun h=>by cases h⟩
 ·rw[List.append_nil,g1,hr];exact trodAll_mk1 (shut_bool htb _)
 ·rw[List.append_nil,g2,hp];exact aJ2 hl hb hread hA hlt
 ·rw[List.append_nil,g3,hv];rfl
end Go.Ra
noncomputable section
namespace Go.Proofs.YtooojfbfobmkfaaGreat
open Go.Ra
noncomputable abbrev zPr:=Tryz.prog
def qq:Nat->Bool:=qs [0,1,2,3,4,5,6,7,8,9,10,11,12,13,14,15,16,17,18,19,20,21,22,23,24,25,27,28,29,30,31,32,34,35,36,37,40,41,42,43,44,46,47,49,50,51,52,53,54,55,57,58,59,60,61,62,64,67,71,73,74,75,76,77,78,80,81,82,83,86,87,90,91,92,93,94,95,96,97,98,99,100,102,103,104,105,106,107,108,109,110,111,112,113,114,115,116,117,118,119,120,121,122,123,124,125,126,1000033,1000048,1000056,1000079,4000027008,4000027016,4000027031,4000028008,4000028016,4000066006,4000066021,5000300038,5000300026,5000300048,5000400038,5000400026,5000400048,5000500038,5000500026,5000500048,5000600038,5000600026,5000600048,5001400038,5001400026,5001400048,5001600038,5001600026,5001600048,5001800038,5001800026,5001800048,5003200079,5003400079,5003500079,5007200048,5008300079,5008600079]
theorem mix:zPr.follows .mixedOrders=true:=by kernel_rfl
def cdO:Option (Nat×List AR×AC)->AC
 |some (_,_,c)=>c
 |none=>.skip
def cdA:List Nat->AC->AC
 |k::l,.seq a b=>cdA l (match k with|0=>a|_=>b)
 |k::l,.cond _ a b=>cdA l (match k with|0=>a|_=>b)
 |_::l,.block _ a=>cdA l a
 |_::l,.loop a=>cdA l a
 |_,a=>a
@[irreducible] def qI:AC:=cdO (trF zPr qq 8)
@[irreducible] def jU:AC:=cdA [1,1,1,1,1,0,1,0,0] qI
@[irreducible] def sI:AC:=cdA [1,1,1,1,1,1] qI
theorem aGT:trF zPr qq 8=some (39,[(.cell 4 .true 23)],qI):=by kernel_rfl
@[irreducible] def gR:AC:=cdO (trF zPr qq 20)
@[irreducible] def jI:AC:=cdA [1,1,0,1,0,0] gR
@[irreducible] def nG:AC:=cdA [1,1,1] gR
theorem pT:trF zPr qq 20=some (49,[(.tmp 2)],gR):=by kernel_rfl
@[irreducible] def aBI:AC:=cdO (trF zPr qq 21)
theorem aLI:trF zPr qq 21=some (12,[(.tmp 2)],aBI):=by kernel_rfl
@[irreducible] def aGU:AC:=cdO (trF zPr qq 22)
theorem aQY:trF zPr qq 22=some (18,[(.tmp 6)],aGU):=by kernel_rfl
@[irreducible] def aEM:AC:=cdO (trF zPr qq 23)
theorem aOD:trF zPr qq 23=some (188,[(.cell 6 .true 23),(.tmp 7)],aEM):=by kernel_rfl
@[irreducible] def vL:AC:=cdO (trF zPr qq 36)
theorem aFC:trF zPr qq 36=some (79,[(.tmp 2)],vL):=by kernel_rfl
@[irreducible] def kH:AC:=cdO (trF zPr qq 37)
@[irreducible] def nH:AC:=cdA [1,0,1,0,0] kH
@[irreducible] def rL:AC:=cdA [1,1] kH
theorem wS:trF zPr qq 37=some (31,[(.tmp 2)],kH):=by kernel_rfl
@[irreducible] def aEN:AC:=cdO (trF zPr qq 38)
theorem aOE:trF zPr qq 38=some (12,[(.cell 2 .true 23)],aEN):=by kernel_rfl
@[irreducible] def aEO:AC:=cdO (trF zPr qq 39)
theorem aOF:trF zPr qq 39=some (17,[(.cell 6 .true 23),(.tmp 7)],aEO):=by kernel_rfl
@[irreducible] def aBJ:AC:=cdO (trF zPr qq 40)
theorem aLJ:trF zPr qq 40=some (10,[(.tmp 4)],aBJ):=by kernel_rfl
@[irreducible] def aEP:AC:=cdO (trF zPr qq 41)
theorem aOG:trF zPr qq 41=some (31,[(.tmp 2)],aEP):=by kernel_rfl
@[irreducible] def aBK:AC:=cdO (trF zPr qq 42)
theorem aLK:trF zPr qq 42=some (43,[(.tmp 6)],aBK):=by kernel_rfl
@[irreducible] def aEQ:AC:=cdO (trF zPr qq 43)
theorem aOH:trF zPr qq 43=some (15,[(.tmp 2)],aEQ):=by kernel_rfl
@[irreducible] def aJ3:AC:=cdO (trF zPr qq 44)
theorem aV4:trF zPr qq 44=some (148,[(.tmp 6),(.tmp 7)],aJ3):=by kernel_rfl
@[irreducible] def aGV:AC:=cdO (trF zPr qq 45)
theorem aQZ:trF zPr qq 45=some (13,[],aGV):=by kernel_rfl
@[irreducible] def oY:AC:=cdO (trF zPr qq 46)
@[irreducible] def qJ:AC:=cdA [1,1,1,1,0,1,0,0] oY
@[irreducible] def wT:AC:=cdA [1,1,1,1,1] oY
theorem aER:trF zPr qq 46=some (45,[(.tmp 6)],oY):=by kernel_rfl
@[irreducible] def aES:AC:=cdO (trF zPr qq 47)
theorem aOI:trF zPr qq 47=some (17,[(.tmp 4)],aES):=by kernel_rfl
@[irreducible] def aBL:AC:=cdO (trF zPr qq 48)
theorem aLL:trF zPr qq 48=some (64,[(.tmp 4)],aBL):=by kernel_rfl
@[irreducible] def aBM:AC:=cdO (trF zPr qq 49)
theorem aLM:trF zPr qq 49=some (42,[(.tmp 6)],aBM):=by kernel_rfl
@[irreducible] def wU:AC:=cdO (trF zPr qq 64)
theorem aGW:trF zPr qq 64=some (31,[(.tmp 4)],wU):=by kernel_rfl
@[irreducible] def uQ:AC:=cdO (trF zPr qq 79)
theorem aBN:trF zPr qq 79=some (43,[(.tmp 2)],uQ):=by kernel_rfl
@[irreducible] def zL:AC:=cdO (trF zPr qq 82)
theorem aIS:trF zPr qq 82=some (52,[(.tmp 4)],zL):=by kernel_rfl
@[irreducible] def aGX:AC:=cdO (trF zPr qq 90)
theorem aQ0:trF zPr qq 90=some (19,[(.tmp 2),(.tmp 3),(.tmp 4),(.tmp 5)],aGX):=by kernel_rfl
@[irreducible] def aGY:AC:=cdO (trF zPr qq 91)
theorem aQ1:trF zPr qq 91=some (18,[(.tmp 4)],aGY):=by kernel_rfl
@[irreducible] def aGZ:AC:=cdO (trF zPr qq 92)
theorem aQ2:trF zPr qq 92=some (11,[(.tmp 2)],aGZ):=by kernel_rfl
@[irreducible] def aG0:AC:=cdO (trF zPr qq 93)
theorem aQ3:trF zPr qq 93=some (4,[(.tmp 2)],aG0):=by kernel_rfl
@[irreducible] def aG1:AC:=cdO (trF zPr qq 94)
theorem aQ4:trF zPr qq 94=some (12,[(.tmp 4),(.tmp 5)],aG1):=by kernel_rfl
@[irreducible] def zM:AC:=cdO (trF zPr qq 95)
theorem aIT:trF zPr qq 95=some (21,[(.tmp 4)],zM):=by kernel_rfl
@[irreducible] def wV:AC:=cdO (trF zPr qq 104)
theorem aG2:trF zPr qq 104=some (42,[(.tmp 8)],wV):=by kernel_rfl
@[irreducible] def zN:AC:=cdO (trF zPr qq 109)
theorem aIU:trF zPr qq 109=some (8,[(.tmp 2)],zN):=by kernel_rfl
def fX:oX:=[(8,39,[(.cell 4 .true 23)],qI),(20,49,[(.tmp 2)],gR),(21,12,[(.tmp 2)],aBI),(22,18,[(.tmp 6)],aGU),(23,188,[(.cell 6 .true 23),(.tmp 7)],aEM),(36,79,[(.tmp 2)],vL),(37,31,[(.tmp 2)],kH),(38,12,[(.cell 2 .true 23)],aEN),(39,17,[(.cell 6 .true 23),(.tmp 7)],aEO),(40,10,[(.tmp 4)],aBJ),(41,31,[(.tmp 2)],aEP),(42,43,[(.tmp 6)],aBK),(43,15,[(.tmp 2)],aEQ),(44,148,[(.tmp 6),(.tmp 7)],aJ3),(45,13,[],aGV),(46,45,[(.tmp 6)],oY),(47,17,[(.tmp 4)],aES),(48,64,[(.tmp 4)],aBL),(49,42,[(.tmp 6)],aBM),(64,31,[(.tmp 4)],wU),(79,43,[(.tmp 2)],uQ),(82,52,[(.tmp 4)],zL),(90,19,[(.tmp 2),(.tmp 3),(.tmp 4),(.tmp 5)],aGX),(91,18,[(.tmp 4)],aGY),(92,11,[(.tmp 2)],aGZ),(93,4,[(.tmp 2)],aG0),(94,12,[(.tmp 4),(.tmp 5)],aG1),(95,21,[(.tmp 4)],zM),(104,42,[(.tmp 8)],wV),(109,8,[(.tmp 2)],zN)]
theorem dY:nF (fun p=>trF zPr qq p.1=some p.2) fX:=⟨aGT,pT,aLI,aQY,aOD,aFC,wS,aOE,aOF,aLJ,aOG,aLK,aOH,aV4,aQZ,aER,aOI,aLL,aLM,aGW,aBN,aIS,aQ0,aQ1,aQ2,aQ3,aQ4,aIT,aG2,aIU,trivial⟩
end Go.Proofs.YtooojfbfobmkfaaGreat
namespace Go.Ra
set_option linter.unusedVariables false
set_option linter.unusedSimpArgs false
def a7G:AX->List Nat
 |.t i=>[i]
 |.c _=>[]
def aG3 (i:Nat):List Nat->Bool
 |[]=>false
 |k::l=>cond (Nat.beq i k) true (aG3 i l)
def a7H (l r:List Nat):List Nat:=l.filter fun i => !aG3 i r
def aYM:List AX->List Nat
 |[]=>[]
 |x::l=>a7G x++aYM l
def bDO:Option Nat->List Nat
 |some d=>[d]
 |none=>[]
def aYN:List AG->List Nat->List Nat
 |[],_=>[]
 |⟨d,o,g⟩::r,df=>a7H ((match g with|some (t,_)=>[t]|none=>[])++aYM (zK o)) df++aYN r (bDO d++df)
def aYO:List AG->List Nat
 |[]=>[]
 |⟨d,_,_⟩::r=>bDO d++aYO r
def aYP:AC->List Nat
 |.ops l=>aYO l
 |.aIJ l _=>aYO l
 |.seq a b=>aYP a++aYP b
 |_=>[]
def zO:AC->List Nat
 |.ops l=>aYN l []
 |.aIJ l _=>aYN l []
 |.seq a b=>zO a++a7H (zO b) (aYP a)
 |.cond c x y=>a7G c++(zO x++zO y)
 |.block _ c=>zO c
 |.loop c=>zO c
 |_=>[]
def a3W (k:Nat) (l:List Nat):List Nat:=l.filter fun i => !Nat.beq i k
def uR:List Nat->List (Nat×XV)->List (Nat×XV)
 |_,[]=>[]
 |l,(k,v)::r=>cond (aG3 k l) ((k,v)::uR (a3W k l) r) (uR l r)
theorem aG4 {i k:Nat}:∀ {l:List Nat},aG3 i (a3W k l)=true->aG3 i l=true
 |[],h=>h
 |a::l,h=>by
  simp only[a3W,List.filter_cons]at h;simp only[aG3];cases hb:Nat.beq i a
  ·rw[zaD];split at h
   ·simp only[aG3,hb,zaD]at h;exact aG4 (k:=k) h
   ·exact aG4 (k:=k) h
  ·rfl
theorem pG {i:Nat}:∀(l:List Nat) (env:List (Nat×XV)),aG3 i l=false->nB (uR l env) i=.unk
 |l,[],h=>rfl
 |l,(k,v)::r,h=>by
  simp only[uR];cases hk:aG3 k l
  ·exact pG l r h
  ·simp only[zaB,nB,jV];have:¬i=k:=fun e=>by rw[e,hk]at h;cases h
   rw[if_neg this];refine pG _ r ?_;cases hd:aG3 i (a3W k l)
   ·rfl
   ·rw[aG4 hd]at h;cases h
theorem aAV {i:Nat}:∀(l:List Nat) (env:List (Nat×XV)),nB (uR l env) i=.unk\/nB (uR l env) i=nB env i
 |l,[]=>.inl rfl
 |l,(k,v)::r=>by
  simp only[uR];cases hk:aG3 k l
  ·rw[zaD];by_cases hi:i=k
   ·subst hi;exact .inl (pG l r hk)
   ·simp only[nB,jV,if_neg hi];exact aAV l r
  ·simp only[zaB,nB,jV];by_cases hi:i=k
   ·rw[if_pos hi,if_pos hi];exact .inr rfl
   ·rw[if_neg hi,if_neg hi];exact aAV _ r
def XSt.prune (l:List Nat) (σ:XSt):XSt:=⟨uR l σ.env,σ.hl,σ.n⟩
theorem aG5 (l:List Nat) (σ:XSt):pE σ.st (σ.prune l).st:=by
 refine⟨fun i => ?_,fun _=>.inr rfl,zaF _⟩;show leA (get (eS σ.env) i) (get (eS (uR l σ.env)) i);rw[fP,fP];rcases aAV l σ.env (i:=i)with h|h
 ·rw[h];exact .inl rfl
 ·rw[h];exact .inr (.inl rfl)
theorem aV5 {a b c:AV} (h1:leA a b) (h2:leA b c):leA a c:=by
 rcases h2 with rfl|rfl|⟨x,es,es',ts,rfl,rfl,h⟩
 ·exact .inl rfl
 ·exact h1
 ·rcases h1 with h1|h1|⟨x',e1,e2,us,rfl,h3,h4⟩
  ·cases h1
  ·subst h1;exact .inr (.inr ⟨x,es,es',ts,rfl,rfl,h⟩)
  ·simp only[AV.fro.injEq]at h3;obtain⟨_,rfl,rfl⟩:=h3;refine .inr (.inr ⟨x',e1,es',ts,rfl,rfl, ?_⟩);rcases h with rfl|h
   ·exact h4
   ·exact .inr h
theorem pE.trans {σ τ υ:St} (h1:pE σ τ) (h2:pE τ υ):pE σ υ :=
 ⟨fun i=>aV5 (h1.1 i) (h2.1 i),fun i=>by
  rcases h2.2.1 i with h|h
  ·exact .inl h
  ·rw[h];exact h1.2.1 i,Nat.le_trans h1.2.2 h2.2.2⟩
theorem aG6 {m k:Nat} {σ τ:St} (hm:m<=k) (h:cJ k σ τ):cJ m σ τ:=fun fr G0 w0 nt a w hl hs=>h fr G0 w0 nt a w (fun i l hi=>Nat.lt_of_lt_of_le (hl i l hi) hm) hs
theorem aET {m:Nat} {σ τ υ:St} (h1:pE σ τ) (h2:cJ m τ υ):cJ m σ υ:=(cJ.of h1).trans h2
inductive Frm where
 |seq (b:AC)
 |blk (id:Nat)
 |lp (c:AC) (A:XSt->Prop)
def aOJ:List Frm->List Nat
 |[]=>[]
 |.seq b::s=>zO b++aOJ s
 |.blk _::s=>aOJ s
 |.lp c _::s=>zO c++aOJ s
def unwind (C:Orc):List Frm->(AE->St->Prop)->AE->St->Prop
 |[],Φ=>Φ
 |.seq b::s,Φ=>AE.then (fun σ=>wpC C b σ (unwind C s Φ)) (unwind C s Φ)
 |.blk id::s,Φ=>AE.inBlock id (unwind C s Φ)
 |.lp _ A::s,Φ=>AE.then (fun t=>∃ σ:XSt,pE t σ.st/\A σ) (unwind C s Φ)
structure bX (C:Orc) (c:AC) (σ:XSt) (s:List Frm) (Φ:AE->St->Prop):Prop where
 out:wpC C (.loop c) σ.st (unwind C s Φ)
inductive Job where
 |run (c:AC)
 |back (e:AE)
section
variable (T:Tab) (C:Orc) (ci:Nat->List XV->XSt->(XV->XSt->Prop)->Prop) (kp:List Nat) (fin:AE->XSt->Prop) (Φ:AE->St->Prop)
def exS:Nat->Job->List Frm->XSt->Prop
 |0,_,_,_=>False
 |n+1,.run c,s,σ =>
  match c with
  |.skip=>exS n (.back .normal) s σ
  |.ops l=>exO T ci (grp l) σ fun σ'=>exS n (.back .normal) s σ'
  |.aIJ l ps=>exO T ci (grp l) σ fun σ'=>lQ (aN6 σ' ps) (exS n (.back .normal) s σ')
  |.seq a b=>exS n (.run a) (.seq b::s) σ
  |.cond c x y =>
   match strip (σ.ev c)with
   |.bool b=>lQ (lY (σ.ev c)) (cond b (exS n (.run x) s σ) (exS n (.run y) s σ))
   |_=>False
  |.block id c=>exS n (.run c) (.blk id::s) σ
  |.loop c=>bX C c (σ.prune (zO c++(aOJ s++kp))) s Φ
  |.exit id=>exS n (.back (.exit id)) s σ
  |.ret=>exS n (.back .ret) s σ
  |.frz=>lQ σ.fz.1 (exS n (.back .normal) s σ.fz.2)
 |n+1,.back e,s,σ =>
  match s with
  |[]=>fin e σ
  |.seq b::s =>
   match e with
   |.normal=>exS n (.run b) s σ
   |e=>exS n (.back e) s σ
  |.blk id::s =>
   match e with
   |.exit i=>cond (Nat.beq i id) (exS n (.back .normal) s σ) (exS n (.back (.exit i)) s σ)
   |e=>exS n (.back e) s σ
  |.lp c A::s =>
   match e with
   |.normal=>A (σ.prune (zO c++(aOJ s++kp)))
   |e=>exS n (.back e) s σ
end
section
variable {P:Program} {T:Tab} {ci:Nat->List XV->XSt->(XV->XSt->Prop)->Prop} {kp:List Nat} {fin:AE->XSt->Prop} {Φ:AE->St->Prop}
def aJ4 (C:Orc) (j:Job) (σ:XSt) (Ψ:AE->St->Prop):Prop :=
 match j with
 |.run c=>wpC C c σ.st Ψ
 |.back e=>Ψ e σ.st
theorem aIV {C:Orc} {c:AC} {σ τ:St} {Ψ:AE->St->Prop} (hw:pE σ τ) (h:wpC C (.loop c) τ Ψ):wpC C (.loop c) σ Ψ:=by
 unfold wpC at h ⊢;obtain⟨Inv,μ,⟨υ,h1,h2⟩,h3⟩:=h;refine⟨Inv,μ,⟨υ,aET hw (aG6 hw.2.2 h1),h2⟩,fun τ' hτ=>iM _ _ (fun e t he => ?_) c τ' (h3 τ' hτ)⟩;cases e with
 |normal => obtain⟨t',g1,g2,g3⟩:=he;exact⟨t',aG6 hw.2.2 g1,g2,g3⟩
 |exit _=>exact he
 |ret=>exact he
theorem aAW (hT:bT P T) (hci:aQU P T.q ci) (hfin:∀ e σ,fin e σ->Φ e σ.st):∀(n:Nat) (j:Job) (s:List Frm) (σ:XSt),exS T (Ok P T.q) ci kp fin Φ n j s σ->aJ4 (Ok P T.q) j σ (unwind (Ok P T.q) s Φ)
 |0,_,_,_,h=>h.elim
 |n+1,.run c,s,σ,h=>by
  have ih:=aAW hT hci hfin n;simp only[aJ4];cases c with
  |skip=>exact ih (.back .normal) s σ h
  |ops l => simp only[exS]at h;obtain⟨h1,h2⟩:=yO l;obtain⟨σ',h3,h4⟩:=wR hT hci (grp l) σ _ h h2;rw[h1]at h4;exact h4 _ (ih (.back .normal) s σ' h3)
  |aIJ l ps => simp only[exS]at h;obtain⟨h1,h2⟩:=yO l;obtain⟨σ',h3,h4⟩:=wR hT hci (grp l) σ _ h h2;rw[h1]at h4;rw[dQ]at h3;exact h4 _ ⟨aGP h3.1,ih (.back .normal) s σ' h3.2⟩
  |seq a b=>exact ih (.run a) (.seq b::s) σ h
  |cond c x y =>
   simp only[exS]at h;split at h
   ·rename_i b hb;rw[dQ]at h;have hc:σ.st.ev c=.sc (.bool b):=by rw[wM,iK h.1,hb];rfl
    unfold wpC;rw[hc];cases b with
    |true=>exact⟨fun _=>ih (.run x) s σ h.2,fun e=>by cases e⟩
    |false=>exact⟨fun e=>(by cases e),fun _=>ih (.run y) s σ h.2⟩
   ·cases h
  |block id c=>exact ih (.run c) (.blk id::s) σ h
  |loop c=>exact aIV (aG5 _ σ) h.out
  |exit id=>exact ih (.back (.exit id)) s σ h
  |ret=>exact ih (.back .ret) s σ h
  |frz => simp only[exS]at h;rw[dQ]at h;exact⟨_,a7F h.1,ih (.back .normal) s _ h.2⟩
 |n+1,.back e,s,σ,h=>by
  have ih:=aAW hT hci hfin n;simp only[aJ4];cases s with
  |nil=>exact hfin e σ h
  |cons f s =>
   cases f with
   |seq b =>
    cases e with
    |normal=>exact ih (.run b) s σ h
    |exit i=>exact ih (.back (.exit i)) s σ h
    |ret=>exact ih (.back .ret) s σ h
   |blk id =>
    cases e with
    |normal=>exact ih (.back .normal) s σ h
    |ret=>exact ih (.back .ret) s σ h
    |exit i =>
     simp only[exS]at h;simp only[unwind,AE.inBlock];cases hi:Nat.beq i id<;>rw[hi]at h
     ·rw[if_neg (Nat.ne_of_beq_eq_false hi)];exact ih (.back (.exit i)) s σ h
     ·rw[if_pos (zaL hi)];exact ih (.back .normal) s σ h
   |lp c A =>
    cases e with
    |normal=>exact⟨_,aG5 _ σ,h⟩
    |exit i=>exact ih (.back (.exit i)) s σ h
    |ret=>exact ih (.back .ret) s σ h
def bDP (rs:List AR) (r:AV):AE->XSt->Prop:=aQT rs (aVZ fun v=>con v=r)
def aYQ (rs:List AR) (r:AV):AE->St->Prop:=aIO rs fun v τ=>frz τ 6 v=some r
def aOK:List AR->List Nat
 |[]=>[]
 |.tmp t::r=>t::aOK r
 |.cell t _ _::r=>t::aOK r
theorem aS8 {rs:List AR} {r:AV} (e:AE) (σ:XSt) (h:bDP rs r e σ):aYQ rs r e σ.st:=by
 obtain⟨v,h3,h4⟩:=yP h;refine h4 (fun v τ=>frz τ 6 v=some r) ?_;unfold aVZ at h3;split at h3
 ·rename_i nd r' hz;rw[dQ]at h3;rw[<-h3.2];exact qG (aAK σ) 6 v nd r' hz h3.1
 ·cases h3
abbrev goS (P:Program) (T:Tab) (rs:List AR) (r:AV) (j:Job) (s:List Frm) (σ:XSt):Prop:=exS T (Ok P T.q) (bL T 80 20) (aOK rs) (bDP rs r) (aYQ rs r) 2000 j s σ
theorem bDQ (hmix:P.follows .mixedOrders=true) (hT:bT P T) {f nt:Nat} {rs:List AR} {c:AC} (hF:trF P T.q f=some (nt,rs,c)) {args:List XV} {r:AV} (hl:args.length<=nt) (h:goS P T rs r (.run c) [] ⟨kF 0 args,[],0⟩):Pure P f (cons args) r:=by have:=aAW hT (nD hmix hT 20) aS8 2000 _ _ _ h;refine aSS (k:=6) hmix Ok.ok Ok.quiet hF (by rw[tB];exact hl) ?_;simpa [aJ4,unwind,XSt.st,qH,iW,aYQ]using this
theorem bDR (hmix:P.follows .mixedOrders=true) (hT:bT P T) {rs:List AR} {r:AV} {c:AC} {σ:XSt} {s:List Frm} {ι:Type} (S:ι->XSt) (V:ι->Prop) (m:ι->Nat) (i0:ι) (hV:V i0) (h0:pE σ.st (S i0).st)
  (hr:∀ i,V i->goS P T rs r (.run c) (.lp c (fun τ=>∃ j,V j/\pE τ.st (S j).st/\m j<m i)::s) (S i)):bX (Ok P T.q) c σ s (aYQ rs r) :=
 ⟨aSV (fun i=>(S i).st) V m i0 hV h0 fun i hi=>by
  have h:=aAW hT (nD hmix hT 20) aS8 2000 _ _ _ (hr i hi);refine iM _ _ (fun e t he => ?_) c _ h;cases e with
  |normal => obtain⟨τ,hw,j,h1,h2,h3⟩:=he;exact⟨j,h1,hw.trans h2,h3⟩
  |exit _=>exact he
  |ret=>exact he⟩
theorem kX {b:Bool} {p q:Prop} (h1:b=true->p) (h2:b=false->q):cond b p q:=by
 cases b
 ·exact h2 rfl
 ·exact h1 rfl
theorem aS (b:Bool):(cond b b true)=true:=by cases b<;>rfl
theorem bI (b:Bool):(cond b true (!b))=true:=by cases b<;>rfl
theorem aD (n:Nat):gP (fun _=>true) n=true:=dH.2 fun _ _=>rfl
def aQ5:List (Nat×XV)->List (Nat×XV)->Prop
 |[],_=>True
 |(k,v)::r,e=>con (nB e k)=con v/\aQ5 r e
def aBO:List (Nat×Option XV)->List (Nat×Option XV)->Prop
 |[],_=>True
 |(k,v)::r,e=>(j8 e k).map con=v.map con/\aBO r e
theorem aJ5:∀ {l e:List (Nat×XV)},aQ5 l e->aDI (eS l) (eS e)
 |[],e,h=>trivial
 |(k,v)::r,e,h=>⟨by rw[fP];exact .inr (.inl h.1.symm),aJ5 h.2⟩
theorem uS:∀ {l e:List (Nat×Option XV)},aBO l e->aBC (iW l) (iW e) (fun _=>none)
 |[],e,h=>trivial
 |(k,v)::r,e,h=>⟨by rw[p7];exact h.1,uS h.2⟩
def aLN:List (Nat×XV)->List (Nat×XV)->Prop
 |[],_=>True
 |(k,v)::r,e=>leA (con (nB e k)) (con v)/\aLN r e
theorem aDQ:∀ {l e:List (Nat×XV)},aLN l e->aDI (eS l) (eS e)
 |[],e,h=>trivial
 |(k,v)::r,e,h=>⟨by rw[fP];exact h.1,aDQ h.2⟩
theorem a7I {σ τ:XSt} (h1:aLN τ.env σ.env) (h2:aBO τ.hl σ.hl) (h3:σ.n<=τ.n):pE σ.st τ.st:=aSU (aDQ h1) (uS h2) h3
theorem eF {a b:AV} (h:a=b):leA a b:=.inr (.inl h.symm)
theorem dL {σ τ:XSt} (h1:aQ5 τ.env σ.env) (h2:aBO τ.hl σ.hl) (h3:σ.n<=τ.n):pE σ.st τ.st:=aSU (aJ5 h1) (uS h2) h3
mutual
def XV.low (n:Nat):XV->Bool
 |.agg _ ts=>XV.aV6 n ts
 |.clo _ cs=>XV.aV6 n cs
 |.tup ts=>XV.aV6 n ts
 |.sl id _ _ _ _ _=>Nat.blt id n
 |.ptr id _ _=>Nat.blt id n
 |.opt _ v=>v.low n
 |.raw v=>v.sN n
 |_=>true
def XV.aV6 (n:Nat):List XV->Bool
 |[]=>true
 |t::ts=>cond (t.low n) (XV.aV6 n ts) false
end
mutual
theorem aBP {n:Nat}:∀ t:XV,t.low n=true->(con t).sN n=true
 |.opt g v,h=>by
  cases g
  ·rfl
  ·exact aBP v h
 |.tri z b,h=>by cases z<;>rfl
 |.int ..,h=>rfl
 |.bool _,h=>rfl
 |.str ..,h=>rfl
 |.agg m ts,h=>by simp only[con,AV.sN];exact aBQ ts h
 |.tab ..,h=>rfl
 |.row ..,h=>rfl
 |.cH _,h=>rfl
 |.sl ..,h=>h
 |.ptr ..,h=>h
 |.clo f cs,h=>by simp only[con,AV.sN];exact aBQ cs h
 |.tup ts,h=>by simp only[con,AV.sN];exact aBQ ts h
 |.eQ,h=>rfl
 |.unk,h=>rfl
 |.raw _,h=>h
theorem aBQ {n:Nat}:∀ ts:List XV,XV.aV6 n ts=true->AV.vJ n (cons ts)=true
 |[],h=>rfl
 |t::ts,h=>by
  simp only[XV.aV6]at h;cases ht:t.low n<;>rw[ht]at h
  ·cases h
  ·simp only[cons,AV.vJ,aBP t ht,aBQ ts h,zaS]
end
def aYR (n:Nat):List (Nat×XV)->Bool
 |[]=>true
 |(_,v)::r=>cond (v.low n) (aYR n r) false
def aYS (n:Nat):List (Nat×Option XV)->Bool
 |[]=>true
 |(k,v)::r=>cond (Nat.blt k n) (cond (match v with|some t=>t.low n|none=>true) (aYS n r) false) false
def XSt.low (σ:XSt):Bool:=cond (aYR σ.n σ.env) (aYS σ.n σ.hl) false
theorem aOL {n i:Nat}:∀ {l:List (Nat×XV)},aYR n l=true->(get (eS l) i).sN n=true
 |[],h=>rfl
 |(k,v)::r,h=>by
  simp only[aYR]at h;cases hv:v.low n<;>rw[hv]at h
  ·cases h
  ·show(if i=k then con v else get (eS r) i).sN n=true;split
   ·exact aBP v hv
   ·exact aOL h
theorem aG7 {n i:Nat}:∀ {l:List (Nat×Option XV)},aYS n l=true->(n<=i->look (iW l) (fun _=>none) i=none)/\∀ t,look (iW l) (fun _=>none) i=some t->t.sN n=true
 |[],h=>⟨fun _=>rfl,fun t ht=>by cases ht⟩
 |(k,v)::r,h=>by
  simp only[aYS]at h;cases hk:Nat.blt k n<;>rw[hk]at h
  ·cases h
  ·rw[zaB]at h;have hkn:k<n:=Nat.le_of_ble_eq_true hk;have hr:aYS n r=true:=by
    cases v with
    |none=>exact h
    |some u =>
     simp only at h;cases hu:u.low n<;>rw[hu]at h
     ·cases h
     ·exact h
   obtain⟨i1,i2⟩:=aG7 (i:=i) (l:=r) hr;show(n<=i->(if i=k then v.map con else look (iW r) _ i)=none)/\∀ t,(if i=k then v.map con else look (iW r) _ i)=some t->t.sN n=true;by_cases hik:i=k
   ·subst hik;refine⟨fun hn=>by omega,fun t ht => ?_⟩;rw[if_pos rfl]at ht;cases v with
    |none=>cases ht
    |some u =>
     simp only[Option.map_some,zaA]at ht;subst ht;simp only at h;cases hu:u.low n<;>rw[hu]at h
     ·cases h
     ·exact aBP u hu
   ·rw[if_neg hik];exact⟨i1,i2⟩
theorem a9M {m:Nat} {σ τ:XSt} (h1:m<=τ.n) (h2:τ.low=true):bDF m σ.st τ.st:=by
 unfold XSt.low at h2;cases he:aYR τ.n τ.env<;>rw[he]at h2
 ·cases h2
 ·rw[zaB]at h2;exact .inr ⟨h1,fun i=>aOL he,fun i hi=>(aG7 h2).1 hi,fun i t ht=>(aG7 h2).2 t ht⟩
theorem aEU {m:Nat} {σ τ:XSt} (h1:aLN τ.env σ.env) (h2:aBO τ.hl σ.hl) (h3:m<=τ.n) (h4:τ.low=true):aJB m σ.st τ.st := ⟨aAN (aDQ h1),uM (uS h2),a9M h3 h4⟩
def kap (l:List (Nat×Nat)) (j:Nat):Option Nat :=
 match l with
 |[]=>none
 |(k,i)::r=>cond (Nat.beq j k) (some i) (kap r j)
def aG8 (n:Nat):List (Nat×Nat)->Bool
 |[]=>true
 |(k,_)::r=>cond (Nat.blt k n) (aG8 n r) false
def aOM (i:Nat):List (Nat×Nat)->Bool
 |[]=>true
 |(_,a)::r=>cond (Nat.beq i a) false (aOM i r)
def aG9:List (Nat×Nat)->Bool
 |[]=>true
 |(_,i)::r=>cond (aOM i r) (aG9 r) false
def aBR (n:Nat):List (Nat×Option XV)->Bool
 |[]=>true
 |(k,_)::r=>cond (Nat.blt k n) (aBR n r) false
def aYT (l:List (Nat×Nat)) (m:Nat):Bool:=gP (fun j=>match kap l j with|some i=>Nat.beq i j|none=>false) m
theorem aHA {n j:Nat}:∀ {l:List (Nat×Nat)},aG8 n l=true->n<=j->kap l j=none
 |[],_,_=>rfl
 |(k,i)::r,h,hj=>by
  simp only[aG8]at h;cases hk:Nat.blt k n<;>rw[hk]at h
  ·cases h
  ·have hkn:k<n:=Nat.le_of_ble_eq_true hk;have:¬j=k:=by omega
   simp only[kap,jV,if_neg this];exact aHA h hj
theorem aQ6 {i:Nat}:∀ {l:List (Nat×Nat)},aOM i l=true->∀ j,kap l j≠some i
 |[],_,j,h=>by cases h
 |(k,a)::r,h,j,hj=>by
  simp only[aOM,jV]at h;split at h
  ·cases h
  ·rename_i hia;simp only[kap,jV]at hj;split at hj
   ·simp only[zaA]at hj;exact hia hj.symm
   ·exact aQ6 h j hj
theorem aLO:∀ {l:List (Nat×Nat)},aG9 l=true->∀ i j j',kap l j=some i->kap l j'=some i->j=j'
 |[],_,i,j,j',h,_=>by cases h
 |(k,a)::r,h,i,j,j',h1,h2=>by
  simp only[aG9]at h;cases hno:aOM a r<;>rw[hno]at h
  ·cases h
  ·rw[zaB]at h;simp only[kap,jV]at h1 h2;split at h1
   ·rename_i hj;simp only[zaA]at h1;subst h1;split at h2
    ·rename_i hj';rw[hj,hj']
    ·exact absurd h2 (aQ6 hno j')
   ·split at h2
    ·simp only[zaA]at h2;subst h2;exact absurd h1 (aQ6 hno j)
    ·exact aLO h i j j' h1 h2
theorem aDR {n j:Nat}:∀ {l:List (Nat×Option XV)},aBR n l=true->n<=j->look (iW l) (fun _=>none) j=none
 |[],_,_=>rfl
 |(k,v)::r,h,hj=>by
  simp only[aBR]at h;cases hk:Nat.blt k n<;>rw[hk]at h
  ·cases h
  ·have hkn:k<n:=Nat.le_of_ble_eq_true hk;have:¬j=k:=by omega
   show(if j=k then v.map con else look (iW r) _ j)=none;rw[if_neg this];exact aDR h hj
def aLP (κ:Nat->Option Nat):List (Nat×XV)->List (Nat×XV)->Prop
 |[],_=>True
 |(k,v)::r,e=>leK κ (con (nB e k)) (con v)/\aLP κ r e
def aBS (κ:Nat->Option Nat):List (Nat×Option XV)->List (Nat×Option XV)->Prop
 |[],_=>True
 |(j,some t')::r,e=>(match κ j with
   |some i=>(match j8 e i with|some t=>leK κ (con t) (con t')|none=>False)
   |none=>∃ es,con t'=.arr 0 es [])/\aBS κ r e
 |(_,none)::r,e=>aBS κ r e
theorem aAX {κ:Nat->Option Nat} {i:Nat}:∀ {l e:List (Nat×XV)},aLP κ l e->get (eS l) i=.unk\/leK κ (get (eS e) i) (get (eS l) i)
 |[],e,h=>.inl rfl
 |(k,v)::r,e,h=>by
  show(if i=k then con v else get (eS r) i)=.unk\/leK κ _ (if i=k then con v else get (eS r) i);by_cases hi:i=k
  ·subst hi;rw[if_pos rfl,fP];exact .inr h.1
  ·rw[if_neg hi];exact aAX h.2
theorem rM {κ:Nat->Option Nat} {j:Nat} {t':AV}:∀ {l e:List (Nat×Option XV)},aBS κ l e->look (iW l) (fun _=>none) j=some t'->(∃ i t,κ j=some i/\look (iW e) (fun _=>none) i=some t/\leK κ t t')\/(κ j=none/\∃ es,t'=.arr 0 es [])
 |[],e,h,hj=>by cases hj
 |(k,v)::r,e,h,hj=>by
  have hj':(if j=k then v.map con else look (iW r) (fun _=>none) j)=some t':=hj;by_cases hk:j=k
  ·subst hk;rw[if_pos rfl]at hj';cases v with
   |none=>cases hj'
   |some t =>
    simp only[Option.map_some,zaA]at hj';subst hj';have h1:=h.1;cases hκ:κ j with
    |none => rw[hκ]at h1;exact .inr ⟨rfl,h1⟩
    |some i =>
     rw[hκ]at h1;simp only at h1;cases hl:j8 e i with
     |none=>rw[hl]at h1;cases h1
     |some u => rw[hl]at h1;exact .inl ⟨i,con u,rfl,by rw[p7,hl];rfl,h1⟩
  ·rw[if_neg hk]at hj';cases v with
   |none=>exact rM (l:=r) h hj'
   |some t=>exact rM (l:=r) h.2 hj'
theorem rN {m:Nat} {σ τ:XSt} (kl:List (Nat×Nat)) (h1:aYT kl m=true) (h2:aG8 τ.n kl=true) (h3:aBR τ.n τ.hl=true) (h4:Nat.ble m τ.n=true) (h5:aG9 kl=true) (h6:aLP (kap kl) τ.env σ.env) (h7:aBS (kap kl) τ.hl σ.hl):cJ m σ.st τ.st :=
 .ofK ⟨kap kl,(fun j hj=>by
  have h8:=oF h1 j hj;cases hk:kap kl j with
  |none=>rw[hk]at h8;cases h8
  |some i => rw[hk]at h8;rw[zaL h8]),(fun j hj=>⟨aDR h3 hj,aHA h2 hj⟩),Nat.le_of_ble_eq_true h4,(fun i j j' _ _=>aLO h5 i j j'),(fun t=>aAX h6),(fun j t' hj=>rM h7 hj)⟩
theorem aH {κ:Nat->Option Nat} {a b:XV} (h:con a=con b) (hl:b.low 0=true):leK κ (con a) (con b):=by rw[h];exact .same (aBP b hl)
theorem aHB {κ:Nat->Option Nat} {x:Bool} {e es n m:Nat} {f g:Nat->XV} (hn:n=m) (he:es=e\/n=0) (h:∀ i,i<n->con (f i)=con (g i)):leK κ (con (.row x e n f)) (con (.row false es m g)):=by subst hn;show leK κ (.fro x e (dP n fun i=>con (f i))) (.fro false es (dP n fun i=>con (g i)));rw[mC h];exact .fro (he.imp id fun h=>mY.2 h)
theorem a7J {κ:Nat->Option Nat} {es n:Nat} {f g:Nat->XV} (h:∀ i,i<n->con (f i)=con (g i)):leK κ (con (.tab n es f)) (con (.tab n es g)):=by refine aH ?_ rfl;simp only[con];rw[mC h]
theorem wW {κ:Nat->Option Nat} {e es j off k n:Nat} {path:List Nat} {f:Nat->XV} (hn:n=0):leK κ (con (.row true e n f)) (con (.sl j path off k 0 es)):=by subst hn;exact .nil
end
end Go.Ra
namespace Go.Ra
set_option linter.unusedVariables false
set_option linter.unusedSimpArgs false
def asB:XV->Bool
 |.bool b=>b
 |_=>false
inductive KD where
 |i (k:IntKind)
 |b
def isK:KD->XV->Bool
 |.i k,.int k' _=>decide (k=k')
 |.b,.bool _=>true
 |_,_=>false
def mkK:KD->XV->XV
 |.i k,v=>.int k (asN v)
 |.b,v=>.bool (asB v)
theorem a9N {k:KD} {v:XV} (h:isK k v=true):mkK k v=v:=by
 cases k<;>cases v<;>simp only[isK,zaU,zaK]at h
 ·subst h;rfl
 ·rfl
def okE (e es n:Nat):Bool:=Nat.beq e es||Nat.beq n 0
theorem rO {x:Bool} {es n:Nat} {f g:Nat->XV} (h:∀ i,i<n->con (f i)=con (g i)):con (.row x es n f)=con (.row x es n g):=by simp only[con];rw[mC h]
def aON (a b:AV):Prop:=a=b\/∃ x es es',a=.fro x es []/\b=.fro x es' []
inductive sJ:List AV->List AV->Prop
 |nil:sJ [] []
 |cons {a b:AV} {l r:List AV}:aON a b->sJ l r->sJ (a::l) (b::r)
theorem aON.rel {w:World} {F:Nat->Prop} {ρ:Nat->Option Loc} {a b:AV} {v:Value} (h:aON a b) (hr:bS w F ρ a v):bS w F ρ b v:=by
 rcases h with rfl|⟨x,es,es',rfl,rfl⟩
 ·exact hr
 ·obtain⟨a,cap,rfl,_,hc,_⟩:=hr.rH;exact .one (.iV fun hx=>hc hx) rfl
theorem sJ.rel {w:World} {F:Nat->Prop} {ρ:Nat->Option Loc}:∀ {l r:List AV} {vs:List Value},sJ l r->bW w F ρ l vs->bW w F ρ r vs
 |_,_,_,.nil,.nil=>.nil
 |_,_,_,.cons h1 h2,.cons h3 h4=>.cons (h1.rel h3) (sJ.rel h2 h4)
theorem Pure.sJ {P:Program} {f:Nat} {l r:List AV} {v:AV} (hp:Pure P f r v) (h:sJ l r):Pure P f l v := ⟨hp.1,fun w F vs hF hr=>hp.2 w F vs hF (h.rel hr)⟩
theorem a3X {x:Bool} {e es n:Nat} {f g:Nat->XV} (ho:okE e es n=true) (h:∀ i,i<n->con (f i)=con (g i)):aON (con (.row x e n f)) (con (.row x es n g)):=by
 simp only[okE,zaV]at ho;rcases ho with ho|ho
 ·have:=zaL ho;subst this;exact .inl (rO h)
 ·have:=zaL ho;subst this;exact .inr ⟨x,e,es,rfl,rfl⟩
theorem aYU (a:AV):aON a a:=.inl rfl
mutual
inductive aBT:AV->AV->Prop
 |refl (a:AV):aBT a a
 |row {x:Bool} {es es':Nat}:aBT (.fro x es []) (.fro x es' [])
 |agg {n:Nat} {l r:List AV}:vM l r->aBT (.agg n l) (.agg n r)
inductive vM:List AV->List AV->Prop
 |nil:vM [] []
 |cons {a b:AV} {l r:List AV}:aBT a b->vM l r->vM (a::l) (b::r)
end
mutual
theorem aBT.aIW {w:World} {F:Nat->Prop}:∀ {ρ:Nat->Option Loc} {a b:AV} {cs:List Value},aBT a b->bR w F ρ a cs->bR w F ρ b cs
 |_,_,_,_,.refl a,h=>h
 |_,_,_,_,.row,h=>by
  cases h with
  |iV h=>exact .iV h
  |fro h1 h2 h3 h4 h5=>exact .iV h4
 |_,_,_,_,.agg hl,h=>by
  cases h with
  |agg h hn=>exact .agg (vM.aYV hl h) hn
theorem vM.aYV {w:World} {F:Nat->Prop}:∀ {ρ:Nat->Option Loc} {l r:List AV} {cs:List Value},vM l r->dU w F ρ l cs->dU w F ρ r cs
 |_,_,_,_,.nil,h=>h
 |_,_,_,_,.cons h1 h2,.cons h3 h4=>.cons (aBT.aIW h1 h3) (vM.aYV h2 h4)
end
theorem aBT.isAgg {a b:AV} (h:aBT a b):b.isAgg=a.isAgg:=by cases h<;>rfl
theorem aBT.rel {w:World} {F:Nat->Prop} {ρ:Nat->Option Loc} {a b:AV} {v:Value} (h:aBT a b) (hr:bS w F ρ a v):bS w F ρ b v:=by
 cases h with
 |refl=>exact hr
 |row =>
  cases hr with
  |one h1 h2=>exact .one (aBT.row.aIW h1) rfl
  |agg h1 h2=>cases h2
 |agg hl =>
  cases hr with
  |one h1 h2=>cases h2
  |agg h1 h2=>exact .agg ((aBT.agg hl).aIW h1) rfl
theorem vM.aQ7 {w:World} {F:Nat->Prop} {ρ:Nat->Option Loc}:∀ {l r:List AV} {vs:List Value},vM l r->bW w F ρ l vs->bW w F ρ r vs
 |_,_,_,.nil,.nil=>.nil
 |_,_,_,.cons h1 h2,.cons h3 h4=>.cons (h1.rel h3) (vM.aQ7 h2 h4)
theorem Pure.aBT {P:Program} {f:Nat} {l r:List AV} {v:AV} (hp:Pure P f r v) (h:vM l r):Pure P f l v := ⟨hp.1,fun w F vs hF hr=>hp.2 w F vs hF (h.aQ7 hr)⟩
theorem aEV:∀ l:List AV,sJ l l
 |[]=>.nil
 |a::l=>.cons (aYU a) (aEV l)
def aLQ (es:Nat) (k:KD) (N:Nat) (g:Nat->(Nat->XV)->List XV->Option (List Bool×XV)):List XV->Option (List Bool×XV)
 |.row _ e n f::rest=>bif okE e es n then
   match g n f rest with
   |some (nd,v)=>some (decide (n<=N)::gP (fun i=>isK k (f i)) n::nd,v)
   |none=>none
  else none
 |_=>none
theorem aJ6 {P:Program} {fn es N:Nat} {k:KD} {g:Nat->(Nat->XV)->List XV->Option (List Bool×XV)}
  (h:∀(x:Bool) (n:Nat) (f:Nat->XV) (rest:List XV) (nd:List Bool) (v:XV),n<=N->g n f rest=some (nd,v)->iI nd->Pure P fn (cons (.row x es n (fun i=>mkK k (f i))::rest)) (con v)):rD P (fn,aLQ es k N g):=by
 intro args nd v ha hn;simp only[aLQ]at ha;split at ha
 ·rename_i x e n f rest;cases hc:okE e es n<;>rw[hc]at ha
  ·cases ha
  ·rw[zaB]at ha;split at ha
   ·rename_i nd' v' hg;simp only[zaA,zaJ]at ha;obtain⟨rfl,rfl⟩:=ha;simp only[bH,zaK,dH]at hn;refine(h x n f rest nd' v' hn.1 hg hn.2.2).sJ (.cons (a3X hc fun i hi => ?_) (aEV _));rw[a9N (hn.2.1 i hi)]
   ·cases ha
 ·cases ha
end Go.Ra
namespace Go.Ra
set_option linter.unusedVariables false
set_option linter.unusedSimpArgs false
theorem aHC {k:IntKind} {a b:Int} (h:a=b):con (.int k a)=con (.int k b):=by rw[h]
theorem aOO {a b:Bool} (h:a=b):con (.bool a)=con (.bool b):=by rw[h]
theorem aS9 {a b a' b':XV} (h1:con a=con a') (h2:con b=con b'):con (.tup [a,b])=con (.tup [a',b']):=by simp only[con,cons,h1,h2]
theorem a3Y (n:Int):IntKind.i64.wrap n=(n+9223372036854775808)%18446744073709551616-9223372036854775808:=by first|(rw[IntKind.wrap_i64];done)|(rw[IntKind.wrap_i64];omega)
theorem aYW (n:Int):IntKind.i32.wrap n=(n+2147483648)%4294967296-2147483648:=by first|(rw[IntKind.wrap_i32];done)|(rw[IntKind.wrap_i32];omega)
theorem bHW (n:Int):IntKind.u64.wrap n=n%18446744073709551616:=rfl
theorem wA (n:Int):IntKind.u32.wrap n=n%4294967296:=rfl
theorem wU8 (n:Int):IntKind.u8.wrap n=n%256:=rfl
theorem dB {i k:Nat} (h:¬i=k):Nat.beq i k=false:=by rw[<-Bool.not_eq_true];exact fun e=>h (zaL e)
theorem oC {a b:Int} (h:0<=b):a.fdiv b=a/b:=Int.fdiv_eq_ediv_of_nonneg a h
def aQ8 (n:Nat) (f:Nat->XV):Bool:=gP (fun i=>decide (0<=asN (f i))&&decide (asN (f i)<=255)) n
theorem aHD {n:Nat} {f:Nat->XV}:aQ8 n f=true↔∀ i,i<n->0<=asN (f i)/\asN (f i)<=255:=by simp only[aQ8,dH,zaG,zaK]
theorem a9O {x b:Int} {k:Nat} (hx:0<=x) (hx2:x<2^k) (hb:0<=b) (hb2:b*2^k+x<=4294967295):eR .or .u32 x (b*2^k)=x+b*2^k:=by
 obtain⟨m,rfl⟩:=Int.eq_ofNat_of_zero_le hx;obtain⟨c,rfl⟩:=Int.eq_ofNat_of_zero_le hb;have hp:((2:Int)^k)=((2^k:Nat):Int):=(Int.natCast_pow 2 k).symm;rw[hp]at hx2 hb2 ⊢;have hm:m<2^k:=by exact_mod_cast hx2
 have h2:(c:Int)*((2^k:Nat):Int)=((c*2^k:Nat):Int):=(Int.natCast_mul c (2^k)).symm;rw[h2]at hb2 ⊢;have h1:c*2^k+m<=4294967295:=by generalize c*2^k=d at *;omega
 clear hb2;have h3:=Nat.two_pow_add_eq_or_of_lt hm c;have h4:m ||| c*2^k=m+c*2^k:=by rw[Nat.or_comm,Nat.mul_comm,<-h3,Nat.add_comm]
 generalize c*2^k=d at *;show IntKind.u32.wrap (((BitVec.ofInt 32 (m:Int)) ||| (BitVec.ofInt 32 (d:Int))).toNat:Int)=_;have e1:(BitVec.ofInt 32 (m:Int)).toNat=m:=by rw[BitVec.toNat_ofInt];omega
 have e2:(BitVec.ofInt 32 (d:Int)).toNat=d:=by rw[BitVec.toNat_ofInt];omega
 rw[BitVec.toNat_or,e1,e2,h4,wA];omega
end Go.Ra
namespace Go.Ra
set_option linter.unusedVariables false
set_option linter.unusedSimpArgs false
def avs:AV->List AV
 |.agg _ ts=>ts
 |.arr _ _ ts=>ts
 |.fro _ _ ts=>ts
 |_=>[]
def avI:AV->Int
 |.sc (.int _ n)=>n
 |_=>0
def avB:AV->Bool
 |.sc (.bool b)=>b
 |_=>false
def avN (a:AV):Nat:=(avs a).length
def a9P (a:AV) (i:Nat):AV:=(avs a).getD i .unk
mutual
def rd:Ty->AV->XV
 |.int k,a=>.int k (avI a)
 |.bool,a=>.bool (avB a)
 |.str,a=>.raw a
 |.slice es _ T,a=>.row false es (avN a) (fun i=>rd T (a9P a i))
 |.agg n l,a=>.agg n (rdL l a 0)
 |.arr n es T,a=>.tab n es (fun i=>rd T (a9P a i))
def rdL:List Ty->AV->Nat->List XV
 |[],_,_=>[]
 |T::l,a,j=>rd T (a9P a j)::rdL l a (j+1)
end
theorem a3Z {a:AV} (h:(Ty.int .i64).has a) : -9223372036854775808<=avI a/\avI a<=9223372036854775807:=by simp only[Ty.has]at h;obtain⟨n,rfl,h1⟩:=h;simpa [Lit.wf,IntKind.min,IntKind.max,IntKind.signed,IntKind.bits,avI]using h1
theorem a9Q {a:AV} (h:(Ty.int .u8).has a):0<=avI a/\avI a<=255:=by simp only[Ty.has]at h;obtain⟨n,rfl,h1⟩:=h;simpa [Lit.wf,IntKind.min,IntKind.max,IntKind.signed,IntKind.bits,avI]using h1
end Go.Ra
namespace Go.Ra
set_option linter.unusedVariables false
set_option linter.unusedSimpArgs false
mutual
inductive leQ:AV->AV->Prop
 |refl (a:AV):leQ a a
 |row {x:Bool} {es es':Nat} {ts us:List AV}:(es'=es\/ts=[])->iQ ts us->leQ (.fro x es ts) (.fro false es' us)
 |agg {n:Nat} {l r:List AV}:iQ l r->leQ (.agg n l) (.agg n r)
 |arr {n es:Nat} {l r:List AV}:iQ l r->leQ (.arr n es l) (.arr n es r)
 |cH {a b:AV}:leQ a b->leQ (.cH a) (.cH b)
 |tup {l r:List AV}:iQ l r->leQ (.tup l) (.tup r)
 |clo {f:Nat} {l r:List AV}:iQ l r->leQ (.clo f l) (.clo f r)
inductive iQ:List AV->List AV->Prop
 |nil:iQ [] []
 |cons {a b:AV} {l r:List AV}:leQ a b->iQ l r->iQ (a::l) (b::r)
end
theorem aJ7:∀ l:List AV,iQ l l
 |[]=>.nil
 |a::l=>.cons (.refl a) (aJ7 l)
theorem iQ.len:∀ {l r:List AV},iQ l r->r.length=l.length
 |_,_,.nil=>rfl
 |_,_,.cons _ h=>by simp[iQ.len h]
theorem leQ.isAgg {a b:AV} (h:leQ a b):b.isAgg=a.isAgg:=by cases h<;>rfl
theorem aOP {r:List AV} (h:iQ [] r):r=[]:=by cases h;rfl
theorem leQs_nil' {l:List AV} (h:iQ l []):l=[]:=by cases h;rfl
mutual
theorem leQ.aIW {w:World} {F:Nat->Prop}:∀ {ρ:Nat->Option Loc} {a b:AV} {cs:List Value},leQ a b->bR w F ρ a cs->bR w F ρ b cs
 |_,_,_,_,.refl a,h=>h
 |_,_,_,_,.row he hl,h=>by
  cases h with
  |iV h=>rw[aOP hl];exact .iV fun h=>by cases h
  |fro h1 h2 h3 h4 h5 =>
   rename_i x es es' ts us cs b o cap;have hn:=iQ.len hl;by_cases hus:us=[]
   ·subst hus;have:=leQs_nil' hl;subst this;exact .iV fun h=>by cases h
   ·have hts:ts≠[]:=fun e=>hus (by rw[e]at hl;exact aOP hl)
    have he':es'=es:=he.resolve_right hts;subst he';rw[<-hn];exact .fro (iQ.a9R hl h1) h2 h3 (fun h=>by cases h) (by rw[hn];exact h5)
 |_,_,_,_,.agg hl,h=>by
  cases h with
  |agg h hn=>exact .agg (iQ.aYV hl h) hn
 |_,_,_,_,.arr hl,h=>by
  cases h with
  |arr h hn=>exact .arr (iQ.a9R hl h) (by rw[iQ.len hl];exact hn)
 |_,_,_,_,.cH hl,h=>by
  cases h with
  |cH h1 h2 h3=>exact .cH (leQ.aIW hl h1) h2 h3
 |_,_,_,_,.tup hl,h=>by cases h
 |_,_,_,_,.clo hl,h=>by
  cases h with
  |clo h=>exact .clo (iQ.bDS hl h)
theorem iQ.aYV {w:World} {F:Nat->Prop}:∀ {ρ:Nat->Option Loc} {l r:List AV} {cs:List Value},iQ l r->dU w F ρ l cs->dU w F ρ r cs
 |_,_,_,_,.nil,h=>h
 |_,_,_,_,.cons h1 h2,.cons h3 h4=>.cons (leQ.aIW h1 h3) (iQ.aYV h2 h4)
theorem iQ.a9R {w:World} {F:Nat->Prop}:∀ {es:Nat} {l r:List AV} {cs:List Value},iQ l r->eH w F es l cs->eH w F es r cs
 |_,_,_,_,.nil,.nil=>.nil
 |_,_,_,_,.cons h1 h2,.cons h3 h4 h5=>.cons (leQ.aIW h1 h3) h4 (iQ.a9R h2 h5)
theorem iQ.bDS {w:World} {F:Nat->Prop}:∀ {ρ:Nat->Option Loc} {l r:List AV} {cs:List Value},iQ l r->kU w F ρ l cs->kU w F ρ r cs
 |_,_,_,_,.nil,h=>h
 |_,_,_,_,.cons h1 h2,.cons h3 h4 h5=>.cons (leQ.aIW h1 h3) ((leQ.isAgg h1).trans h4) (iQ.bDS h2 h5)
end
mutual
theorem leQ.rel {w:World} {F:Nat->Prop} {ρ:Nat->Option Loc}:∀ {a b:AV} {v:Value},leQ a b->bS w F ρ a v->bS w F ρ b v
 |_,_,_,h,.one h1 h2=>.one (h.aIW h1) (h.isAgg.trans h2)
 |_,_,_,h,.agg h1 h2=>.agg (h.aIW h1) (h.isAgg.trans h2)
 |_,_,_,.refl _,h=>h
 |_,_,_,.tup hl,.tup h=>.tup (iQ.aQ7 hl h)
theorem iQ.aQ7 {w:World} {F:Nat->Prop} {ρ:Nat->Option Loc}:∀ {l r:List AV} {vs:List Value},iQ l r->bW w F ρ l vs->bW w F ρ r vs
 |_,_,_,.nil,h=>h
 |_,_,_,.cons h1 h2,.cons h3 h4=>.cons (leQ.rel h1 h3) (iQ.aQ7 h2 h4)
end
theorem Pure.args {P:Program} {f:Nat} {l r:List AV} {v:AV} (hp:Pure P f r v) (h:iQ l r):Pure P f l v := ⟨hp.1,fun w F vs hF hr=>hp.2 w F vs hF (h.aQ7 hr)⟩
theorem Pure.out {P:Program} {f:Nat} {l:List AV} {v r:AV} (hp:Pure P f l v) (h:leQ v r):Pure P f l r := ⟨hp.1,fun w F vs hF hr=>(hp.2 w F vs hF hr).mono fun e w' ⟨u,F',h1,h2,h3,h4,h5⟩=>⟨u,F',h1,h2,h3,h4,h.rel h5⟩⟩
theorem aHE {a b:XV} (h:con a=con b):leQ (con a) (con b):=by rw[h];exact .refl _
theorem a9S {k:IntKind} {a b:Int} (h:a=b):leQ (con (.int k a)) (con (.int k b)):=by rw[h];exact .refl _
theorem a30 {a b:Bool} (h:a=b):leQ (con (.bool a)) (con (.bool b)):=by rw[h];exact .refl _
theorem gK {n:Nat} {l r:List XV} (h:iQ (cons l) (cons r)):leQ (con (.agg n l)) (con (.agg n r)):=.agg h
theorem iZ {l r:List XV} (h:iQ (cons l) (cons r)):leQ (con (.tup l)) (con (.tup r)):=.tup h
theorem bM:iQ (cons []) (cons []):=.nil
theorem aF {a b:XV} {l r:List XV} (h:leQ (con a) (con b)) (h2:iQ (cons l) (cons r)):iQ (cons (a::l)) (cons (b::r)):=.cons h h2
theorem aYX {n:Nat} {f g:Nat->AV} (h:∀ i,i<n->leQ (f i) (g i)):iQ (dP n f) (dP n g):=by
 have key:∀ l:List Nat,(∀ i∈l,i<n)->iQ (l.map f) (l.map g):=by
  intro l
  induction l with
  |nil=>intro _;exact .nil
  |cons i l ih=>exact fun hl=>.cons (h i (hl i (by simp))) (ih fun j hj=>hl j (by simp[hj]))
 exact key _ fun i hi=>List.mem_range.1 hi
theorem aLR {x:Bool} {e es n m:Nat} {f g:Nat->XV} (hn:n=m) (he:es=e\/n=0) (h:∀ i,i<n->leQ (con (f i)) (con (g i))):leQ (con (.row x e n f)) (con (.row false es m g)):=by subst hn;exact .row (he.imp id fun h=>mY.2 h) (aYX h)
structure aI (a b:List XV):Prop where
 out:iQ (cons a) (cons b)
structure aA (a b:XV):Prop where
 out:leQ (con a) (con b)
structure aN (p:Prop):Prop where
 out:p
structure bIK (σ τ:XSt):Prop where
 mem:∀ i,τ.st.H i=none\/τ.st.H i=σ.st.H i
 num:σ.n<=τ.n
theorem aI.rfl {a:List XV}:aI a a:=⟨aJ7 _⟩
theorem aA.rfl {a:XV}:aA a a:=⟨.refl _⟩
def eZ {α β:Type} (en:α->List XV) (pre:α->Prop) (F:α->β) (er:β->XV):List XV->Option ((XV->Prop)->Prop):=fun args=>some fun K=>∃ s:α,aI args (en s)/\aN (pre s)/\∀ y:β,y=F s->K (er y)
theorem bB {P:Program} {f:Nat} {α β:Type} {en:α->List XV} {pre:α->Prop} {F:α->β} {er:β->XV} (h:∀ s,pre s->Pure P f (cons (en s)) (con (er (F s)))):eV P (f,eZ en pre F er):=by intro args W hW K hK;simp only[eZ,zaA]at hW;subst hW;obtain⟨s,h1,h2,h3⟩:=hK;exact⟨er (F s),(h s h2.out).args h1.out,h3 _ rfl⟩
section
variable {P:Program} {T:Tab}
abbrev goX (P:Program) (T:Tab) (kp:List Nat) (fin:AE->XSt->Prop) (Φ:AE->St->Prop) (j:Job) (s:List Frm) (σ:XSt):Prop:=exS T (Ok P T.q) (bL T 80 20) kp fin Φ 2000 j s σ
theorem a7K (hmix:P.follows .mixedOrders=true) (hT:bT P T) {kp:List Nat} {fin:AE->XSt->Prop} {Φ:AE->St->Prop} (hfin:∀ e σ,fin e σ->Φ e σ.st) {c:AC} {σ:XSt} {s:List Frm} {ι:Type} (S:ι->XSt) (V:ι->Prop) (m:ι->Nat) (i0:ι) (hV:V i0) (h0:cJ σ.n σ.st (S i0).st)
  (hr:∀ i,V i->goX P T kp fin Φ (.run c) (.lp c (fun τ=>∃ j,V j/\cJ σ.n τ.st (S j).st/\m j<m i)::s) (S i)):bX (Ok P T.q) c σ s Φ :=
 ⟨aNW (fun i=>(S i).st) V m i0 hV h0 fun i hi=>by
  have h:=aAW hT (nD hmix hT 20) hfin 2000 _ _ _ (hr i hi);refine iM _ _ (fun e t he => ?_) c _ h;cases e with
  |normal => obtain⟨τ,hw,j,h1,h2,h3⟩:=he;exact⟨j,h1,aET hw h2,h3⟩
  |exit _=>exact he
  |ret=>exact he⟩
def bDT (rs:List AR) (r:XV):AE->XSt->Prop:=aQT rs (aVZ fun v=>aA v r)
def dC (rs:List AR) (r:XV):AE->St->Prop:=aIO rs fun v τ=>∃ r',frz τ 6 v=some r'/\leQ r' (con r)
theorem aTA {rs:List AR} {r:XV} (e:AE) (σ:XSt) (h:bDT rs r e σ):dC rs r e σ.st:=by
 obtain⟨v,h3,h4⟩:=yP h;refine h4 (fun v τ=>∃ r',frz τ 6 v=some r'/\leQ r' (con r)) ?_;unfold aVZ at h3;split at h3
 ·rename_i nd r' hz;rw[dQ]at h3;exact⟨con r',qG (aAK σ) 6 v nd r' hz h3.1,h3.2.out⟩
 ·cases h3
theorem aYY {q:Nat->Bool} {C:Orc} (hmix:P.follows .mixedOrders=true) (hC:qD P C) (hq:n8 q C) {f nt:Nat} {rs:List AR} {ac:AC} (hF:trF P q f=some (nt,rs,ac)) {args:List AV} {r:AV} {k:Nat} (hlen:args.length<=nt)
  (h:wpC C ac ⟨n9 0 args,[],fun _=>none,0⟩ (aIO rs fun v τ=>∃ r',frz τ k v=some r'/\leQ r' r)):Pure P f args r:=by
 refine⟨yJ hF,fun w F vs hFs hr => ?_⟩;have hown:Own ⟨w,fun _=>False,F,0⟩ ⟨gF,F⟩ w ⟨n9 0 args,[],fun _=>none,0⟩ := ⟨⟨fun i _=>⟨rfl,rfl⟩,hFs,fun i t hi=>(by cases hi),fun i j b o o' hi=>absurd rfl hi⟩,⟨rfl,rfl,rfl,zaF _,fun _ _ _=>rfl,Ext.refl _ _,fun _ h=>h,fun _ h=>.inl h,fun i b o hi=>absurd rfl hi⟩⟩;refine(enter hmix hC hq hF hlen hown hr h).mono fun e w' ⟨u,G',v,τ,he,hgo,hrel,r',hk,hle⟩ => ?_
 refine⟨u,FF G' τ,he,⟨hgo.fr.os,hgo.fr.tape,hgo.fr.output,hgo.fr.size,fun b hb=>hgo.fr.same b hb (fun h=>h)⟩,fun b hb=>.inl (hgo.leF b hb),fun b hb=>⟨?_,aSR hgo.own hb⟩,hle.rel (a9G hgo.own k v r' u hrel hk)⟩;rcases hb with hb|⟨i,o,h1,h2⟩
 ·rcases hgo.fr.v9 b hb with h|h|h
  ·exact .inl h
  ·cases h
  ·exact .inr h
 ·rcases hgo.fr.loc i b o h1 h2 with h|h
  ·cases h
  ·exact .inr h
abbrev goQ (P:Program) (T:Tab) (rs:List AR) (r:XV) (j:Job) (s:List Frm) (σ:XSt):Prop:=goX P T (aOK rs) (bDT rs r) (dC rs r) j s σ
theorem j9 (hmix:P.follows .mixedOrders=true) (hT:bT P T) {f nt:Nat} {rs:List AR} {c:AC} (hF:trF P T.q f=some (nt,rs,c)) {args:List XV} {r:XV} (hl:args.length<=nt) (h:goQ P T rs r (.run c) [] ⟨kF 0 args,[],0⟩):Pure P f (cons args) (con r):=by have:=aAW hT (nD hmix hT 20) aTA 2000 _ _ _ h;refine aYY (k:=6) hmix Ok.ok Ok.quiet hF (by rw[tB];exact hl) ?_;simpa [aJ4,unwind,XSt.st,qH,iW,dC]using this
theorem fF (hmix:P.follows .mixedOrders=true) (hT:bT P T) {u k f:Nat} {args:List XV} {r:XV} (h:aO T u (bL T u k) f args fun v=>aA v r):Pure P f (cons args) (con r):=by obtain⟨v,h1,h2⟩:=uP hmix hT (nD hmix hT k) h;exact h1.out h2.out
theorem gT (hmix:P.follows .mixedOrders=true) (hT:bT P T) {rs:List AR} {r:XV} {c:AC} {σ:XSt} {s:List Frm} {ι:Type} (S:ι->XSt) (V:ι->Prop) (m:ι->Nat) (i0:ι) (hV:V i0) (h0:cJ σ.n σ.st (S i0).st)
  (hr:∀ i,V i->goQ P T rs r (.run c) (.lp c (fun τ=>∃ j,V j/\cJ σ.n τ.st (S j).st/\m j<m i)::s) (S i)):bX (Ok P T.q) c σ s (dC rs r):=a7K hmix hT aTA S V m i0 hV h0 hr
structure wX (m:Nat) (v':XV) (σ:XSt) (v:XV) (τ:XSt):Prop where
 out:cJ m (XSt.st ⟨[(0,v')],σ.hl,σ.n⟩) (XSt.st ⟨[(0,v)],τ.hl,τ.n⟩)
structure eB (v:XV) (σ:XSt) (r t:XV):Prop where
 out:(∃ id,σ.st.H id=some (con t)/\aIP id 0 (con v)=some (con r))\/∃ es' es,con v=.fro true es' []/\con t=.arr 0 es []/\con r=.sl 0 [] 0 0 0 es
def bDU (rs:List AR) (r t:XV):AE->XSt->Prop:=aQT rs fun v σ=>eB v σ r t
def aOQ (rs:List AR) (r t:XV):AE->St->Prop:=aIO rs fun v τ=>(∃ id,τ.H id=some (con t)/\aIP id 0 v=some (con r))\/∃ es' es,v=.fro true es' []/\con t=.arr 0 es []/\con r=.sl 0 [] 0 0 0 es
theorem aTB {rs:List AR} {r t:XV} (e:AE) (σ:XSt) (h:bDU rs r t e σ):aOQ rs r t e σ.st:=by obtain⟨v',h3,h4⟩:=yP h;exact h4 (fun v τ=>(∃ id,τ.H id=some (con t)/\aIP id 0 v=some (con r))\/∃ es' es,v=.fro true es' []/\con t=.arr 0 es []/\con r=.sl 0 [] 0 0 0 es) h3.out
abbrev goM (P:Program) (T:Tab) (rs:List AR) (r t:XV) (j:Job) (s:List Frm) (σ:XSt):Prop:=goX P T (aOK rs) (bDU rs r t) (aOQ rs r t) j s σ
theorem a7L (hmix:P.follows .mixedOrders=true) (hT:bT P T) {f nt:Nat} {rs:List AR} {c:AC} (hF:trF P T.q f=some (nt,rs,c)) {args:List XV} {r t:XV} (hl:args.length<=nt) (hs:(con t).eL=true) (hi:(con t).fB=true) (h:goM P T rs r t (.run c) [] ⟨kF 0 args,[],0⟩):wK P f (cons args) (con r) (con t):=by have:=aAW hT (nD hmix hT 20) aTB 2000 _ _ _ h;refine aK7 hmix Ok.ok Ok.quiet hF (by rw[tB];exact hl) hs hi ?_;simpa [aJ4,unwind,XSt.st,qH,iW,aOQ]using this
theorem bDV (hmix:P.follows .mixedOrders=true) (hT:bT P T) {rs:List AR} {r t:XV} {c:AC} {σ:XSt} {s:List Frm} {ι:Type} (S:ι->XSt) (V:ι->Prop) (m:ι->Nat) (i0:ι) (hV:V i0) (h0:cJ σ.n σ.st (S i0).st)
  (hr:∀ i,V i->goM P T rs r t (.run c) (.lp c (fun τ=>∃ j,V j/\cJ σ.n τ.st (S j).st/\m j<m i)::s) (S i)):bX (Ok P T.q) c σ s (aOQ rs r t):=a7K hmix hT aTB S V m i0 hV h0 hr
end
theorem wK.args {P:Program} {f:Nat} {l r:List AV} {v t:AV} (hp:wK P f r v t) (h:iQ l r):wK P f l v t := ⟨hp.1,hp.2.1,hp.2.2.1,fun w F vs hF hr=>hp.2.2.2 w F vs hF (h.aQ7 hr)⟩
def aYZ {α β:Type} (en:α->List XV) (pre:α->Prop) (F:α->β) (er:Nat->β->XV) (et:β->XV):List XV->XSt->Option ((XV->XSt->Prop)->Prop):=fun args σ =>
 match aIR (aFB σ.hl 6) args with
 |some (nd,args')=>some fun K=>lQ nd (∃ s:α,aI args' (en s)/\aN (pre s)/\∀ y:β,y=F s->K (er σ.n y) (σ.new (et y)))
 |none=>none
theorem aLS {P:Program} {q:Nat->Bool} {f:Nat} {α β:Type} {en:α->List XV} {pre:α->Prop} {F:α->β} {er:Nat->β->XV} {et:β->XV} (hr:∀ n y,aIP 0 n (con (er 0 y))=some (con (er n y)))
  (h:∀ s,pre s->wK P f (cons (en s)) (con (er 0 (F s))) (con (et (F s)))):aYG P q (f,aYZ en pre F er et):=by
 intro args σ W hW hqf K hK;simp only[aYZ]at hW;split at hW
 ·rename_i nd args' hm;simp only[zaA]at hW;subst hW;rw[dQ]at hK;obtain⟨hn,s,h1,h2,h3⟩:=hK;exact⟨er σ.n (F s),σ.new (et (F s)),.inr (.inr (.inr ⟨hqf,6,cons args',_,_,qF (qG (aAK σ) 6) hm hn,(h s h2.out).args h1.out,hr _ _,rfl⟩)),h3 _ rfl⟩
 ·cases hW
end Go.Ra
namespace Go.Ra
set_option linter.unusedVariables false
set_option linter.unusedSimpArgs false
def ix {α:Type} [Inhabited α] (l:List α) (i:Nat):α:=l.getD i default
section
variable {α:Type} [Inhabited α]
theorem gW {l:List α} {i:Nat} (h:i<l.length):ix l i=l[i]:=by simp[ix,h]
theorem aEW {l:List α} {i:Nat} (h:l.length<=i):ix l i=default:=by simp[ix,h]
theorem cA {l:List α} {i:Nat} (h:i<l.length):ix l i∈l:=by rw[gW h];exact List.getElem_mem h
theorem aK {a:α} {l:List α}:ix (a::l) 0=a:=rfl
theorem jJ {a:α} {l:List α} {i:Nat}:ix (a::l) (i+1)=ix l i:=rfl
theorem dJ {l r:List α} {i:Nat}:ix (l++r) i=if i<l.length then ix l i else ix r (i-l.length):=by
 unfold ix;split
 ·rename_i h;rw[List.getD_eq_getElem?_getD,List.getElem?_append_left h,List.getD_eq_getElem?_getD]
 ·rename_i h;rw[List.getD_eq_getElem?_getD,List.getElem?_append_right (by omega),List.getD_eq_getElem?_getD]
theorem yQ {l:List α} {i:Nat}:ix l.tail i=ix l (i+1):=by
 cases l with
 |nil=>rfl
 |cons a l=>rfl
theorem sK {l:List α} {k i:Nat} {a:α}:ix (l.set k a) i=if i=k/\k<l.length then a else ix l i:=by
 unfold ix;rw[List.getD_eq_getElem?_getD,List.getElem?_set,List.getD_eq_getElem?_getD];by_cases h:k=i
 ·subst h;by_cases h2:k<l.length
  ·simp[h2]
  ·simp[h2,List.getElem?_eq_none (Nat.le_of_not_lt h2)]
 ·have:¬(i=k/\k<l.length):=fun e=>h e.1.symm
  rw[if_neg this,if_neg h]
theorem aY0 {l r:List α} (hl:l.length=r.length) (h:∀ i,i<l.length->ix l i=ix r i):l=r:=by
 refine List.ext_getElem hl fun i h1 h2 => ?_
 have:=h i h1;rw[gW h1,gW h2]at this;exact this
theorem kB {n i:Nat} {f:Nat->α} (h:i<n):ix (dP n f) i=f i:=by unfold ix;rw[List.getD_eq_getElem?_getD,fI h];rfl
theorem a31 (l:List α):dP l.length (ix l)=l:=aY0 bG fun i h=>by rw[bG]at h;exact kB h
theorem nI {β:Type} [Inhabited β] {f:α->β} {l:List α} {i:Nat} (h:i<l.length):ix (l.map f) i=f (ix l i):=by rw[gW h,gW (by simpa using h)];simp
end
def lR {α:Type} (p:α->Bool) (l:List α):Int:=if l.any p then(l.findIdx p:Int)else -1
theorem tC {α:Type} [Inhabited α] {p:α->Bool} {l:List α} {i:Nat} (hi:i<l.length) (hp:p (ix l i)=true) (hn:∀ j,j<i->p (ix l j)=false):lR p l=i:=by
 unfold lR;have h1:l.any p=true:=List.any_eq_true.2 ⟨_,cA hi,hp⟩;rw[if_pos h1];have h2:l.findIdx p=i:=by rw[List.findIdx_eq hi];refine⟨by rw[<-gW hi];exact hp,fun j hj => ?_⟩;rw[<-gW (by omega)];exact hn j hj
 rw[h2]
theorem yR {α:Type} [Inhabited α] {p:α->Bool} {l:List α} (hn:∀ j,j<l.length->p (ix l j)=false):lR p l = -1:=by unfold lR;rw[if_neg];rw[List.any_eq_true];rintro ⟨x,hx,hp⟩;obtain⟨j,hj,rfl⟩:=List.mem_iff_getElem.1 hx;have:=hn j hj;rw[gW hj,hp]at this;cases this
theorem a32 {α:Type} {p:α->Bool} {l:List α}:decide (lR p l>=0)=l.any p:=by
 unfold lR;split
 ·rename_i h;rw[h];exact decide_eq_true (by omega)
 ·rename_i h;simp only[Bool.not_eq_true]at h;rw[h];exact decide_eq_false (by omega)
theorem bD {α:Type} (l:List α) (x:α):(l++[x]).length=l.length+1:=by simp
theorem fM {α:Type} [Inhabited α] {l:List α} {x:α} {i:Nat} (h:i<l.length):ix (l++[x]) i=ix l i:=by rw[dJ,if_pos h]
theorem fN {α:Type} [Inhabited α] {l:List α} {x:α}:ix (l++[x]) l.length=x:=by rw[dJ,if_neg (Nat.lt_irrefl _),Nat.sub_self];rfl
theorem aOR {α:Type} [Inhabited α] {κ:Nat->Option Nat} {es:Nat} {f g:Nat->XV} {en:α->XV} {l:List α} {x:α} (h1:∀ i,i<l.length->con (f i)=con (en (ix l i))) (h2:con (f l.length)=con (en x)) (hg:g=fun i=>en (ix (l++[x]) i)):leK κ (con (.tab (l.length+1) es f)) (con (.tab (l.length+1) es g)):=by
 subst hg;refine a7J fun i hi => ?_
 by_cases hlt:i<l.length
 ·rw[fM hlt];exact h1 i hlt
 ·obtain rfl:i=l.length:=by omega
  rw[fN];exact h2
theorem qK {n es:Nat} {f g:Nat->XV} (h:∀ i,i<n->con (f i)=con (g i)):con (.tab n es f)=con (.tab n es g):=by simp only[con];rw[mC h]
theorem aHF {α:Type} {n i:Nat} {g:Nat->α} (h:i<n):dP n g=dP i g++g i::dP (n-i-1) (fun j=>g (i+1+j)):=by
 refine(lX (by simp[bG];omega) fun j hj => ?_).symm;by_cases hlt:j<i
 ·rw[List.getElem?_append_left (by rw[bG];exact hlt),fI hlt]
 ·rw[List.getElem?_append_right (by rw[bG];omega),bG];by_cases he:j=i
  ·subst he;rw[Nat.sub_self];rfl
  ·obtain⟨k,rfl⟩:∃ k,j=i+1+k:=⟨j-i-1,by omega⟩;rw[show i+1+k-i=k+1 by omega,List.getElem?_cons_succ,fI (by omega)]
theorem a33 {κ:Nat->Option Nat} {n es i:Nat} {f:Nat->XV} {u:XV} (h:i<n) (hu:leK κ (con (f i)) (con u)):leK κ (con (.tab n es f)) (con (.agg (n*es) [.tab i es f,u,.tab (n-i-1) es (fun j=>f (i+1+j))])):=by have:=leK.split (κ:=κ) (n:=n) (es:=es) (pre:=dP i fun j=>con (f j)) (post:=dP (n-i-1) fun j=>con (f (i+1+j))) (t:=con (f i)) (u:=con u) (by simp only[bG];omega) hu;simp only[bG]at this;show leK κ (.arr n es (dP n fun j=>con (f j))) _;rw[aHF h];exact this
theorem a9T {κ:Nat->Option Nat} {n m a b es:Nat} {f g h:Nat->XV} {t u:XV} (hn:a+(1+b)=n) (hi:u.idf=true) (hs:u.size=es) (ht:leK κ (con t) (con u)) (h1:∀ j,j<a->con (f j)=con (h j)) (h2:con u=con (h a)) (h3:∀ j,j<b->con (g j)=con (h (a+1+j))):leK κ (con (.agg m [.tab a es f,t,.tab b es g])) (con (.tab n es h)):=by subst hn;have:=leK.join (κ:=κ) (m:=m) (a:=a) (b:=b) (es:=es) (pre:=dP a fun j=>con (f j)) (post:=dP b fun j=>con (g j)) (t:=con t) (u:=con u) ((yK u).trans hi) ((mZ u).trans hs) ht;show leK κ (.agg m [.arr a es (dP a fun j=>con (f j)),con t,.arr b es (dP b fun j=>con (g j))]) (.arr (a+(1+b)) es (dP (a+(1+b)) fun j=>con (h j)));rw[aHF (n:=a+(1+b)) (i:=a) (by omega),show a+(1+b)-a-1=b by omega,<-h2,<-mC h1,<-mC h3];exact this
theorem aY1 {α:Type} [Inhabited α] {κ:Nat->Option Nat} {es n:Nat} {f:Nat->XV} {en:α->XV} {l r:List α} (hn:n=l.length+r.length) (h1:∀ i,i<l.length->con (f i)=con (en (ix l i))) (h2:∀ i,i<r.length->con (f (l.length+i))=con (en (ix r i))):leK κ (con (.tab n es f)) (con (.tab (l++r).length es (fun i=>en (ix (l++r) i)))):=by
 rw[List.length_append,<-hn];refine a7J fun i hi => ?_
 rw[dJ];by_cases hlt:i<l.length
 ·rw[if_pos hlt];exact h1 i hlt
 ·rw[if_neg hlt,<-h2 _ (by omega),show l.length+(i-l.length)=i by omega]
def aHG (L:List Nat) (σ:XSt):List (Nat×Option XV)->Prop
 |[]=>True
 |(_,none)::r=>aHG L σ r
 |(j,some t')::r=>inL j L=false/\(match j8 σ.hl j with|some t=>leF L σ.st (con t) (con t')|none=>False)/\aHG L σ r
theorem uT {L:List Nat} {σ:XSt} {j:Nat}:∀ {l:List (Nat×Option XV)},aHG L σ l->look (iW l) (fun _=>none) j=none\/(j∉L/\∃ t t',look (iW σ.hl) (fun _=>none) j=some t/\look (iW l) (fun _=>none) j=some t'/\leF L σ.st t t')
 |[],_=>.inl rfl
 |(k,v)::r,h=>by
  show(if j=k then v.map con else look (iW r) (fun _=>none) j)=none\/(j∉L/\∃ t t',look (iW σ.hl) (fun _=>none) j=some t/\(if j=k then v.map con else look (iW r) (fun _=>none) j)=some t'/\leF L σ.st t t');by_cases hk:j=k
  ·subst hk;simp only[if_true];cases v with
   |none=>exact .inl rfl
   |some t' =>
    obtain⟨h1,h2,h3⟩:=h;cases hl:j8 σ.hl j with
    |none=>rw[hl]at h2;exact h2.elim
    |some t =>
     rw[hl]at h2;refine .inr ⟨fun hj => ?_,con t,con t', ?_,rfl,h2⟩
     ·rw[aFL.2 hj]at h1;cases h1
     ·rw[p7,hl];rfl
  ·simp only[if_neg hk];cases v with
   |none=>exact uT (l:=r) h
   |some t'=>exact uT (l:=r) h.2.2
theorem aY2 {L:List Nat} {σ τ:XSt} (hn:τ.n=σ.n) (he:τ.env=σ.env) (hh:aHG L σ τ.hl):aVC σ.st τ.st:=by refine⟨L,hn,fun t => ?_,fun j=>uT hh⟩;show leF L σ.st (get (eS σ.env) t) (get (eS τ.env) t);rw[he];exact .same
theorem mF {σ:XSt} {L:List Nat} {id es n:Nat} {f:Nat->XV} (hin:inL id L=true) (hl:j8 σ.hl id=some (.tab n es f)):leF L σ.st (con (.sl id [] 0 0 n es)) (con (.row false es n f)):=by
 have hr:aIQ σ.hl es (.sl id [] 0 0 n es)=some ([Nat.beq 0 (pl 0 (0*es)),decide (pl 0 n<=n)],n,fun i=>f (pl 0 i)):=by simp only[aIQ,hl,atx,zaQ,zaS,zaB]
 have h:=oW (σ:=σ.st) (aAK σ) hr (by
  intro b hb;simp only[List.mem_cons,List.not_mem_nil,or_false]at hb;rcases hb with rfl|rfl
  ·simp[cC]
  ·simp[cC])
 have e:(fun i=>con (f (pl 0 i)))=fun i=>con (f i):=by funext i;rw[cC,Nat.zero_add]
 rw[e]at h;exact .fz (aFL.1 hin) h
theorem yS {i k:Nat}:Nat.beq i k=decide (i=k):=by
 by_cases h:i=k
 ·subst h;simp
 ·rw[dB h];simp[h]
theorem g1 (b:Bool):(cond b true (!b))=true:=by cases b<;>rfl
theorem g2 (b:Bool):(cond b b true)=true:=by cases b<;>rfl
theorem g3 (p z:Bool):(cond (cond p (cond (!z) p false) true) true (!!z))=true:=by cases p<;>cases z<;>rfl
theorem g4 (z:Bool):(cond (cond (!z) true false) true (!!z))=true:=by cases z<;>rfl
theorem g5 (z:Bool):(cond z true (!!!z))=true:=by cases z<;>rfl
theorem g6 (z:Bool):(cond (!!z) true (!z))=true:=by cases z<;>rfl
theorem g7 (p z:Bool):(cond (cond p (cond z p false) true) true (!z))=true:=by cases p<;>cases z<;>rfl
theorem tD (a b:Bool):(cond a b false)=(a&&b):=by cases a<;>rfl
theorem bor (a b:Bool):(cond a true b)=(a||b):=by cases a<;>rfl
def bJ (n:Int):XV:=.int .i64 n
def dA (n:Int):XV:=.int .u32 n
def eP (n:Int):XV:=.int .u8 n
def cL (b:Bool):XV:=.bool b
def aB {α:Type} [Inhabited α] (es:Nat) (en:α->XV) (l:List α):XV:=.row false es l.length (fun i=>en (ix l i))
structure Slot where
 tag:Int
 full:Bool
 val:Int
 deriving Inhabited,DecidableEq
structure Entry where
 addr:Int
 size:Int
 step:Int
 known:Bool
 val:Int
 deriving Inhabited,DecidableEq
structure Req where
 store:Bool
 op:Int
 addr:Int
 size:Int
 val:Int
 left:Int
 reg:Int
 tag:Int
 deriving Inhabited,DecidableEq
structure Wr where
 addr:Int
 size:Int
 val:Int
 deriving Inhabited,DecidableEq
structure Pos where
 block:Int
 index:Int
 base:Int
 deriving Inhabited,DecidableEq
structure Trp where
 kind:Int
 step:Int
 pc:Int
 deriving Inhabited,DecidableEq
structure cE where
 bC:Nat->Int
 ready:Nat->Int
 pos:Pos
 wait:Int
 halted:Bool
 done:Int
 deriving Inhabited
structure Stt where
 aE:Int
 a:cE
 e:cE
 ldq:List Slot
 sdq:List Int
 aeq:List Int
 abq:List Bool
 ebq:List Bool
 saq:List Entry
 table:List Req
 mem:List Int
 writes:List Wr
 aT:Trp
 dR:Int
 cG:Int
 tags:Int
 deriving Inhabited
structure Cfg where
 ldq:Int
 sdq:Int
 aeq:Int
 abq:Int
 ebq:Int
 saq:Int
 dI:Int
 bN:Int
 jW:Int
 lat:Int
 mul:Int
 div:Int
 deriving Inhabited,DecidableEq
structure bF where
 dR:List Int
 cG:List Int
 deriving Inhabited,DecidableEq
structure Ins where
 op:Int
 d:Int
 a:Int
 b:Int
 imm:Int
 deriving Inhabited,DecidableEq
structure Cell where
 kind:Int
 ins:Ins
 reg:Int
 pc:Int
 off:Int
 deriving Inhabited,DecidableEq
structure Block where
 src:Int
 dst:Int
 next:Int
 taken:Int
 a:List Cell
 e:List Cell
 deriving Inhabited,DecidableEq
structure Split where
 blocks:List Block
 owner:Nat->Int
 deriving Inhabited
structure Prog where
 code:List Ins
 size:Int
 data:List Int
 deriving Inhabited,DecidableEq
structure jP where
 fin:Int
 aT:Trp
 steps:Int
 bC:Nat->Int
 mem:List Int
 writes:List Wr
 deriving Inhabited
def cO (s:Slot):XV:=.agg 3 [.int .i64 s.tag,.bool s.full,.int .u32 s.val]
def cB (s:Entry):XV:=.agg 5 [.int .i64 s.addr,.int .i64 s.size,.int .i64 s.step,.bool s.known,.int .u32 s.val]
def dS (r:Req):XV:=.agg 8 [.bool r.store,.int .i64 r.op,.int .i64 r.addr,.int .i64 r.size,.int .u32 r.val,.int .i64 r.left,.int .i64 r.reg,.int .i64 r.tag]
def mQ (w:Wr):XV:=.agg 3 [.int .i64 w.addr,.int .i64 w.size,.int .u32 w.val]
def dZ (p:Pos):XV:=.agg 3 [.int .i64 p.block,.int .i64 p.index,.int .i64 p.base]
def lH (t:Trp):XV:=.agg 3 [.int .i64 t.kind,.int .i64 t.step,.int .i64 t.pc]
def aR (s:cE):XV:=.agg 38 [.tab 16 1 (fun i=>.int .u32 (s.bC i)),.tab 16 1 (fun i=>.int .i64 (s.ready i)),dZ s.pos,.int .i64 s.wait,.bool s.halted,.int .i64 s.done]
def aP (s:Stt):XV:=.agg 92 [.int .i64 s.aE,aR s.a,aR s.e,aB 3 cO s.ldq,aB 1 dA s.sdq,aB 1 dA s.aeq,aB 1 cL s.abq,aB 1 cL s.ebq,aB 5 cB s.saq,aB 8 dS s.table,aB 1 eP s.mem,aB 3 mQ s.writes,lH s.aT,.int .i64 s.dR,.int .i64 s.cG,.int .i64 s.tags]
def aV (c:Cfg):XV:=.agg 12 [.int .i64 c.ldq,.int .i64 c.sdq,.int .i64 c.aeq,.int .i64 c.abq,.int .i64 c.ebq,.int .i64 c.saq,.int .i64 c.dI,.int .i64 c.bN,.int .i64 c.jW,.int .i64 c.lat,.int .i64 c.mul,.int .i64 c.div]
def bO (s:bF):XV:=.agg 2 [aB 1 bJ s.dR,aB 1 bJ s.cG]
def cT (i:Ins):XV:=.agg 5 [.int .i64 i.op,.int .i64 i.d,.int .i64 i.a,.int .i64 i.b,.int .i64 i.imm]
def dD (c:Cell):XV:=.agg 9 [.int .i64 c.kind,cT c.ins,.int .i64 c.reg,.int .i64 c.pc,.int .i64 c.off]
def aTC (b:Block):XV:=.agg 6 [.int .i64 b.src,.int .i64 b.dst,.int .i64 b.next,.int .i64 b.taken,aB 9 dD b.a,aB 9 dD b.e]
def aG (s:Split):XV:=.agg 17 [aB 6 aTC s.blocks,.tab 16 1 (fun i=>.int .i64 (s.owner i))]
def aJ (p:Prog):XV:=.agg 3 [aB 5 cT p.code,.int .i64 p.size,aB 1 eP p.data]
def nJ (r:jP):XV:=.agg 23 [.int .i64 r.fin,lH r.aT,.int .i64 r.steps,.tab 16 1 (fun i=>.int .u32 (r.bC i)),aB 1 eP r.mem,aB 3 mQ r.writes]
theorem aY3 {α:Type} [Inhabited α] {es:Nat} {en:α->XV} {l:List α}:con (aB es en l)=.fro false es (l.map fun x=>con (en x)):=by
 show AV.fro false es (dP l.length fun i=>con (en (ix l i)))=_;congr 1;have:(dP l.length fun i=>con (en (ix l i)))=(dP l.length (ix l)).map fun x=>con (en x):=by simp[dP]
 rw[this,a31]
theorem gZ {α:Type} [Inhabited α] {x:Bool} {e es n:Nat} {f:Nat->XV} {en:α->XV} {l:List α} (hn:n=l.length) (he:es=e\/n=0) (h:∀ i,i<n->leQ (con (f i)) (con (en (ix l i)))):leQ (con (.row x e n f)) (con (aB es en l)):=aLR hn he h
theorem cM {α:Type} [Inhabited α] {x:Bool} {e es:Nat} {f:Nat->XV} {en:α->XV}:leQ (con (.row x e 0 f)) (con (aB es en [])):=gZ rfl (.inr rfl) fun j hj=>absurd hj (Nat.not_lt_zero _)
theorem dG {α:Type} [Inhabited α] {x:Bool} {es:Nat} {f:Nat->XV} {en:α->XV} {a:α} (h:leQ (con (f 0)) (con (en a))):leQ (con (.row x es 1 f)) (con (aB es en [a])):=gZ rfl (.inl rfl) fun j hj=>by
 obtain rfl:j=0:=by omega
 exact h
theorem dK {α:Type} [Inhabited α] {x:Bool} {es:Nat} {f:Nat->XV} {en:α->XV} {a b:α} (h:leQ (con (f 0)) (con (en a))) (h2:leQ (con (f 1)) (con (en b))):leQ (con (.row x es 2 f)) (con (aB es en [a,b])):=gZ rfl (.inl rfl) fun j hj=>by
 rcases(by omega:j=0\/j=1)with rfl|rfl
 ·exact h
 ·exact h2
theorem dO {α:Type} [Inhabited α] {x:Bool} {es:Nat} {f:Nat->XV} {en:α->XV} {a b c:α} (h:leQ (con (f 0)) (con (en a))) (h2:leQ (con (f 1)) (con (en b))) (h3:leQ (con (f 2)) (con (en c))):leQ (con (.row x es 3 f)) (con (aB es en [a,b,c])):=gZ rfl (.inl rfl) fun j hj=>by
 rcases(by omega:j=0\/j=1\/j=2)with rfl|rfl|rfl
 ·exact h
 ·exact h2
 ·exact h3
def bK (n:Int):Prop:=-9223372036854775808<=n/\n<=9223372036854775807
def gC (n:Int):Prop:=0<=n/\n<=4294967295
def u8R (n:Int):Prop:=0<=n/\n<=255
theorem aFM {α:Type} [Inhabited α] {es bytes:Nat} {T:Ty} {a:AV} {en:α->XV} {wf:α->Prop} (ho:∀ b,T.has b->∃ x,b=con (en x)/\wf x) (h:(Ty.slice es bytes T).has a):∃ l:List α,a=con (aB es en l)/\(∀ x∈l,wf x)/\l.length*bytes<=140737488351232:=by
 simp only[Ty.has]at h;obtain⟨ts,rfl,h1,h2⟩:=h;have key:∀ us:List AV,(∀ t∈us,T.has t)->∃ l:List α,us=l.map (fun x=>con (en x))/\∀ x∈l,wf x:=by
  intro us
  induction us with
  |nil=>exact fun _=>⟨[],rfl,fun x hx=>by cases hx⟩
  |cons u us ih =>
   intro hu;obtain⟨x,h3,h4⟩:=ho u (hu u (by simp));obtain⟨l,h5,h6⟩:=ih fun t ht=>hu t (by simp[ht])
   refine⟨x::l,by rw[h3,h5];rfl,fun y hy => ?_⟩;rcases List.mem_cons.1 hy with rfl|hy
   ·exact h4
   ·exact h6 y hy
 obtain⟨l,h3,h4⟩:=key ts h2;refine⟨l,by rw[aY3,h3],h4, ?_⟩;rw[h3]at h1;simpa using h1
theorem has_i64' (a:AV) (h:(Ty.int .i64).has a):∃ n,a=con (.int .i64 n)/\bK n:=by have h1:=a3Z h;simp only[Ty.has]at h;obtain⟨n,rfl,_⟩:=h;exact⟨n,rfl,h1⟩
theorem has_u8' (a:AV) (h:(Ty.int .u8).has a):∃ n,a=con (.int .u8 n)/\u8R n:=by have h1:=a9Q h;simp only[Ty.has]at h;obtain⟨n,rfl,_⟩:=h;exact⟨n,rfl,h1⟩
def Slot.wf (s:Slot):Prop:=bK s.tag/\gC s.val
def Entry.wf (s:Entry):Prop:=bK s.addr/\bK s.size/\bK s.step/\gC s.val
def Req.wf (s:Req):Prop:=bK s.op/\bK s.addr/\bK s.size/\gC s.val/\bK s.left/\bK s.reg/\bK s.tag
def Wr.wf (s:Wr):Prop:=bK s.addr/\bK s.size/\gC s.val
def Pos.wf (s:Pos):Prop:=bK s.block/\bK s.index/\bK s.base
def Trp.wf (s:Trp):Prop:=bK s.kind/\bK s.step/\bK s.pc
def cE.wf (s:cE):Prop:=(∀ i,i<16->gC (s.bC i))/\(∀ i,i<16->bK (s.ready i))/\s.pos.wf/\bK s.wait/\bK s.done
def Stt.wf (s:Stt):Prop:=bK s.aE/\s.a.wf/\s.e.wf/\((∀ x∈s.ldq,x.wf)/\s.ldq.length*16<=140737488351232)/\((∀ x∈s.sdq,gC x)/\s.sdq.length*4<=140737488351232)/\((∀ x∈s.aeq,gC x)/\s.aeq.length*4<=140737488351232)/\((∀ x∈s.abq,True)/\s.abq.length*1<=140737488351232)/\((∀ x∈s.ebq,True)/\s.ebq.length*1<=140737488351232)/\((∀ x∈s.saq,x.wf)/\s.saq.length*32<=140737488351232)/\((∀ x∈s.table,x.wf)/\s.table.length*64<=140737488351232)/\((∀ x∈s.mem,u8R x)/\s.mem.length*1<=140737488351232)/\((∀ x∈s.writes,x.wf)/\s.writes.length*24<=140737488351232)/\s.aT.wf/\bK s.dR/\bK s.cG/\bK s.tags
def aY4:Ty:=.agg 12 [.int .i64,.int .i64,.int .i64,.int .i64,.int .i64,.int .i64,.int .i64,.int .i64,.int .i64,.int .i64,.int .i64,.int .i64]
def Cfg.wf (s:Cfg):Prop:=bK s.ldq/\bK s.sdq/\bK s.aeq/\bK s.abq/\bK s.ebq/\bK s.saq/\bK s.dI/\bK s.bN/\bK s.jW/\bK s.lat/\bK s.mul/\bK s.div
theorem a34 (a:AV) (h:aY4.has a):∃ s:Cfg,a=con (aV s)/\s.wf:=by simp only[aY4,Ty.has,Ty.aGQ]at h;obtain⟨_,rfl,h⟩:=h;obtain⟨a0,_,rfl,h0,h⟩:=h;obtain⟨a1,_,rfl,h1,h⟩:=h;obtain⟨a2,_,rfl,h2,h⟩:=h;obtain⟨a3,_,rfl,h3,h⟩:=h;obtain⟨a4,_,rfl,h4,h⟩:=h;obtain⟨a5,_,rfl,h5,h⟩:=h;obtain⟨a6,_,rfl,h6,h⟩:=h;obtain⟨a7,_,rfl,h7,h⟩:=h;obtain⟨a8,_,rfl,h8,h⟩:=h;obtain⟨a9,_,rfl,h9,h⟩:=h;obtain⟨a10,_,rfl,h10,h⟩:=h;obtain⟨a11,_,rfl,h11,h⟩:=h;subst h;obtain⟨x0,rfl,w0⟩:=has_i64' _ (by simp only[Ty.has];exact h0);obtain⟨x1,rfl,w1⟩:=has_i64' _ (by simp only[Ty.has];exact h1);obtain⟨x2,rfl,w2⟩:=has_i64' _ (by simp only[Ty.has];exact h2);obtain⟨x3,rfl,w3⟩:=has_i64' _ (by simp only[Ty.has];exact h3);obtain⟨x4,rfl,w4⟩:=has_i64' _ (by simp only[Ty.has];exact h4);obtain⟨x5,rfl,w5⟩:=has_i64' _ (by simp only[Ty.has];exact h5);obtain⟨x6,rfl,w6⟩:=has_i64' _ (by simp only[Ty.has];exact h6);obtain⟨x7,rfl,w7⟩:=has_i64' _ (by simp only[Ty.has];exact h7);obtain⟨x8,rfl,w8⟩:=has_i64' _ (by simp only[Ty.has];exact h8);obtain⟨x9,rfl,w9⟩:=has_i64' _ (by simp only[Ty.has];exact h9);obtain⟨x10,rfl,w10⟩:=has_i64' _ (by simp only[Ty.has];exact h10);obtain⟨x11,rfl,w11⟩:=has_i64' _ (by simp only[Ty.has];exact h11);exact⟨⟨x0,x1,x2,x3,x4,x5,x6,x7,x8,x9,x10,x11⟩,rfl,⟨w0,w1,w2,w3,w4,w5,w6,w7,w8,w9,w10,w11⟩⟩
def aHH:Ty:=.agg 2 [.slice 1 8 (.int .i64),.slice 1 8 (.int .i64)]
def bF.wf (s:bF):Prop:=((∀ x∈s.dR,bK x)/\s.dR.length*8<=140737488351232)/\((∀ x∈s.cG,bK x)/\s.cG.length*8<=140737488351232)
theorem aQ9 (a:AV) (h:aHH.has a):∃ s:bF,a=con (bO s)/\s.wf:=by simp only[aHH,Ty.has,Ty.aGQ]at h;obtain⟨_,rfl,h⟩:=h;obtain⟨a0,_,rfl,h0,h⟩:=h;obtain⟨a1,_,rfl,h1,h⟩:=h;subst h;obtain⟨x0,rfl,w0⟩:=aFM (en:=bJ) (wf:=bK) has_i64' (by simp only[Ty.has];exact h0);obtain⟨x1,rfl,w1⟩:=aFM (en:=bJ) (wf:=bK) has_i64' (by simp only[Ty.has];exact h1);exact⟨⟨x0,x1⟩,rfl,⟨w0,w1⟩⟩
def aY5:Ty:=.agg 5 [.int .i64,.int .i64,.int .i64,.int .i64,.int .i64]
def Ins.wf (s:Ins):Prop:=bK s.op/\bK s.d/\bK s.a/\bK s.b/\bK s.imm
theorem a35 (a:AV) (h:aY5.has a):∃ s:Ins,a=con (cT s)/\s.wf:=by simp only[aY5,Ty.has,Ty.aGQ]at h;obtain⟨_,rfl,h⟩:=h;obtain⟨a0,_,rfl,h0,h⟩:=h;obtain⟨a1,_,rfl,h1,h⟩:=h;obtain⟨a2,_,rfl,h2,h⟩:=h;obtain⟨a3,_,rfl,h3,h⟩:=h;obtain⟨a4,_,rfl,h4,h⟩:=h;subst h;obtain⟨x0,rfl,w0⟩:=has_i64' _ (by simp only[Ty.has];exact h0);obtain⟨x1,rfl,w1⟩:=has_i64' _ (by simp only[Ty.has];exact h1);obtain⟨x2,rfl,w2⟩:=has_i64' _ (by simp only[Ty.has];exact h2);obtain⟨x3,rfl,w3⟩:=has_i64' _ (by simp only[Ty.has];exact h3);obtain⟨x4,rfl,w4⟩:=has_i64' _ (by simp only[Ty.has];exact h4);exact⟨⟨x0,x1,x2,x3,x4⟩,rfl,⟨w0,w1,w2,w3,w4⟩⟩
def Cell.wf (s:Cell):Prop:=bK s.kind/\s.ins.wf/\bK s.reg/\bK s.pc/\bK s.off
def Block.wf (s:Block):Prop:=bK s.src/\bK s.dst/\bK s.next/\bK s.taken/\((∀ x∈s.a,x.wf)/\s.a.length*72<=140737488351232)/\((∀ x∈s.e,x.wf)/\s.e.length*72<=140737488351232)
def Split.wf (s:Split):Prop:=((∀ x∈s.blocks,x.wf)/\s.blocks.length*80<=140737488351232)/\(∀ i,i<16->bK (s.owner i))
def aRA:Ty:=.agg 3 [.slice 5 40 aY5,.int .i64,.slice 1 1 (.int .u8)]
def Prog.wf (s:Prog):Prop:=((∀ x∈s.code,x.wf)/\s.code.length*40<=140737488351232)/\bK s.size/\((∀ x∈s.data,u8R x)/\s.data.length*1<=140737488351232)
theorem aY6 (a:AV) (h:aRA.has a):∃ s:Prog,a=con (aJ s)/\s.wf:=by simp only[aRA,Ty.has,Ty.aGQ]at h;obtain⟨_,rfl,h⟩:=h;obtain⟨a0,_,rfl,h0,h⟩:=h;obtain⟨a1,_,rfl,h1,h⟩:=h;obtain⟨a2,_,rfl,h2,h⟩:=h;subst h;obtain⟨x0,rfl,w0⟩:=aFM (en:=cT) (wf:=Ins.wf) a35 (by simp only[Ty.has];exact h0);obtain⟨x1,rfl,w1⟩:=has_i64' _ (by simp only[Ty.has];exact h1);obtain⟨x2,rfl,w2⟩:=aFM (en:=eP) (wf:=u8R) has_u8' (by simp only[Ty.has];exact h2);exact⟨⟨x0,x1,x2⟩,rfl,⟨w0,w1,w2⟩⟩
def Stt.ok (s:Stt):Prop:=s.wf/\s.ldq.length<=1000000/\s.sdq.length<=1000000/\s.aeq.length<=1000000/\s.abq.length<=1000000/\s.ebq.length<=1000000/\s.saq.length<=1000000/\s.table.length<=1000000/\s.mem.length<=1000000/\s.writes.length<=1000000
end Go.Ra
namespace Go.Proofs.YtooojfbfobmkfaaGreat
open Go.Ra
set_option linter.unusedVariables false
set_option linter.unusedSimpArgs false
def TR0:Tab:=mkT qq fX [] []
def aC (op:Int):Int:=if op<1\/op>41 then 0 else if op<=16 then 1 else if op<=24 then 2 else if op=25 then 3 else if op<=30 then 4 else if op<=33 then 5 else if op<=39 then 6 else if op=40 then 7 else 8
def lM:List XV->Option (List Bool×XV)
 |[.int .i64 op]=>some ([],.int .i64 (aC op))
 |_=>none
def aLT (f:Int):Bool:=decide (f=1\/f=2\/f=3\/f=4)
def oG (f:Int):Bool:=decide (f=1\/f=2\/f=4\/f=5\/f=6)
def hasB (f:Int):Bool:=decide (f=1\/f=5\/f=6)
def aDS (f:Int):Bool:=decide (f=2\/f=3\/f=4\/f=5\/f=6\/f=7)
def aOS:List XV->Option (List Bool×XV)
 |[.int .i64 f]=>some ([],.tup [.bool (aLT f),.bool (oG f),.bool (hasB f),.bool (aDS f)])
 |_=>none
def uU (n:Int) (t:Bool):Bool:=decide (n=0)||(t&&(decide (n>0)&&decide (n<=15)))
def aY7:List XV->Option (List Bool×XV)
 |[.int .i64 n,.bool t]=>some ([],.bool (uU n t))
 |_=>none
def TR1:Tab:=mkT qq fX [(41,lM),(90,aOS),(91,aY7)] []
def bY (i:Ins):Bool:=decide (¬aC i.op=0)&&(uU i.d (aLT (aC i.op))&&(uU i.a (oG (aC i.op))&&(uU i.b (hasB (aC i.op))&&((aDS (aC i.op)||decide (i.imm=0))&&(if i.op=22\/i.op=23\/i.op=24 then decide (0<=i.imm/\i.imm<=31)else decide (-8192<=i.imm/\i.imm<=8191))))))
def aFD:List XV->Option (List Bool×XV)
 |[.agg 5 [.int .i64 op,.int .i64 d,.int .i64 a,.int .i64 b,.int .i64 m]]=>some ([],.bool (bY ⟨op,d,a,b,m⟩))
 |_=>none
theorem aY8:bT zPr TR0:=sH dY trivial trivial
theorem a9U (a:Int) (K:XV->Prop):(aO TR0 80 (bL TR0 80 20) 41 [.int .i64 a] K)=(
 letI q1:=decide (a<1);cond (cond q1 true (!q1)) (cond (cond q1 true (decide (a>41))) (K (.int .i64 0)) (cond (decide (a<=16)) (K (.int .i64 1)) (cond (decide
  (a<=24)) (K (.int .i64 2)) (cond (decide (a=25)) (K (.int .i64 3)) (cond (decide (a<=30)) (K (.int .i64 4)) (cond (decide (a<=33)) (K (.int .i64 5)) (cond (decide
  (a<=39)) (K (.int .i64 6)) (cond (decide (a=40)) (K (.int .i64 7)) (K (.int .i64 8)))))))))) False):=by kernel_rfl
theorem bDW (a:Int) (K:XV->Prop):(aO TR0 80 (bL TR0 80 20) 90 [.int .i64 a] K)=(
 letI q1:=decide (a=2);
 letI q2:XV:=.tup [.bool true,.bool true,.bool false,.bool true];
 letI q3:List XV:=[.bool false,.bool false,.bool true];
 letI q4:=decide (a=5);
 letI q5:XV:=.tup [.bool false,.bool true,.bool true,.bool true];
 letI q6:=cond (decide (a=7)) (K (.tup (.bool false::q3))) (K (.tup [.bool false,.bool false,.bool false,.bool false]));
 letI q7:=cond (decide (a=3)) (K (.tup (.bool true::q3))) (cond q4 (cond q4 (K q5) q6) (cond (decide (a=6)) (K q5) q6));cond (decide (a=1)) (K (.tup [.bool
  true,.bool true,.bool true,.bool false])) (cond q1 (cond q1 (K q2) q7) (cond (decide (a=4)) (K q2) q7))):=by kernel_rfl
theorem bDX (a:Int) (t:Bool) (K:XV->Prop):(aO TR0 80 (bL TR0 80 20) 91 [.int .i64 a,.bool t] K)=(
 letI q1:=decide (a=0);
 letI q2:=!q1;
 letI q3:=!q2;
 letI q4:=cond q2 true q3;
 letI q5:=cond t (decide (a>0)) false;cond q4 (cond (cond (cond t (cond q2 t false) true) true q3) (cond q4 (cond (cond (cond q5 (cond q2 q5 false) true) true q3) (cond (cond q1 true q2) (K (.bool (cond q1 true (cond q5 (decide (a<=15)) false)))) False) False) False) False) False):=by kernel_rfl
theorem bHX (i:Ins) (K:XV->Prop):(aO TR1 80 (bL TR1 80 20) 36 [cT i] K)=(
 letI q1:=decide (aC i.op=0);
 letI q2:=cond q1 true (!uU i.d (aLT (aC i.op)));
 letI q3:=cond q2 true (!uU i.a (oG (aC i.op)));
 letI q4:=cond q3 true (!uU i.b (hasB (aC i.op)));
 letI q5:=!q4;
 letI q6:=!q5;
 letI q7:=decide (i.op=22);
 letI q8:=cond q7 true (decide (i.op=23));
 letI q9:=decide (i.imm>=0);
 letI q10:=decide (i.imm>=(-8192:Int));cond (cond q1 true (!q1)) (cond (cond q2 true (!q2)) (cond (cond q3 true (!q3)) (cond (cond q5 true q6) (cond (cond (cond (!aDS (aC i.op)) (cond q5 (!aDS (aC i.op)) false) true) true q6) (cond (cond q4 true q5) (cond (cond q4 true (cond (!aDS
  (aC i.op)) (decide ¬i.imm=0) false)) (K (.bool false)) (cond (cond q7 true (!q7)) (cond (cond q8 true (!q8)) (cond (cond q8 true (decide (i.op
  = 24))) (cond (cond q9 q9 true) (K (.bool (cond q9 (decide (i.imm<=31)) false))) False) (cond (cond q10 q10 true) (K (.bool (cond q10 (decide
  (i.imm<=8191)) false))) False)) False) False)) False) False) False) False) False) False):=by kernel_rfl
theorem kC:rD zPr (41,lM):=by
 intro args nd v ha hn;simp only[lM]at ha;split at ha<;>simp only[zaA,zaJ,reduceCtorEq]at ha;obtain⟨hnd,rfl⟩:=ha;clear hnd hn;rename_i a;refine gQ (u:=80) (k:=20) mix aY8 ?_;rw[a9U];unfold aC;simp only[g1,g2,g3,g4,g5,g6,g7,aD,zaB,zaF,zaC,cC];by_cases h0:a<1\/a>41
 ·rw[if_pos h0];rcases h0 with h|h<;>simp[h]
 ·rw[if_neg h0];have h1:¬a<1:=fun h=>h0 (.inl h)
  have h2:¬a>41:=fun h=>h0 (.inr h)
  simp only[h1,h2,zaE,zaD];by_cases h3:a<=16
  ·simp[h3]
  by_cases h4:a<=24
  ·simp[h3,h4]
  by_cases h5:a=25
  ·simp[h5]
  by_cases h6:a<=30
  ·simp[h3,h4,h5,h6]
  by_cases h7:a<=33
  ·simp[h3,h4,h5,h6,h7]
  by_cases h8:a<=39
  ·simp[h3,h4,h5,h6,h7,h8]
  by_cases h9:a=40
  ·simp[h9]
  simp[h3,h4,h5,h6,h7,h8,h9]
theorem aRB:rD zPr (90,aOS):=by
 intro args nd v ha hn;simp only[aOS]at ha;split at ha<;>simp only[zaA,zaJ,reduceCtorEq]at ha;obtain⟨hnd,rfl⟩:=ha;clear hnd hn;rename_i a;refine gQ (u:=80) (k:=20) mix aY8 ?_;rw[bDW];unfold aLT oG hasB aDS;by_cases h1:a=1
 ·subst h1;simp
 by_cases h2:a=2
 ·subst h2;simp
 by_cases h3:a=3
 ·subst h3;simp
 by_cases h4:a=4
 ·subst h4;simp
 by_cases h5:a=5
 ·subst h5;simp
 by_cases h6:a=6
 ·subst h6;simp
 by_cases h7:a=7
 ·subst h7;simp
 simp[h1,h2,h3,h4,h5,h6,h7]
theorem a9V:rD zPr (91,aY7):=by intro args nd v ha hn;simp only[aY7]at ha;split at ha<;>simp only[zaA,zaJ,reduceCtorEq]at ha;obtain⟨hnd,rfl⟩:=ha;clear hnd hn;rename_i a t;refine gQ (u:=80) (k:=20) mix aY8 ?_;rw[bDX];simp only[g1,g2,g3,g4,g5,g6,g7,aD,zaB,zaF,zaC,cC];refine aOO ?_;unfold uU;simp only[tD,bor,Bool.and_assoc]
theorem bDY:bT zPr TR1:=sH dY ⟨kC,aRB,a9V,trivial⟩ trivial
theorem aJ8:rD zPr (36,aFD):=by
 intro args nd v ha hn;simp only[aFD]at ha;split at ha<;>simp only[zaA,zaJ,reduceCtorEq]at ha;obtain⟨hnd,rfl⟩:=ha;clear hnd hn;rename_i op d a b m;refine gQ (u:=80) (k:=20) mix bDY ?_;refine Eq.mpr (bHX ⟨op,d,a,b,m⟩ _) ?_;simp only[g1,g2,g3,g4,g5,g6,g7,aD,zaB,zaF,zaC,cC];unfold bY
 dsimp only
 generalize aC op=f;by_cases h0:f=0
 ·simp[h0]
 cases h1:uU d (aLT f)with
 |false=>simp[h0,h1]
 |true =>
 cases h2:uU a (oG f)with
 |false=>simp[h0,h1,h2]
 |true =>
 cases h3:uU b (hasB f)with
 |false=>simp[h0,h1,h2,h3]
 |true =>
 have e:(cond (!aDS f) (decide (¬m=0)) false) = !(aDS f||decide (m=0)):=by cases aDS f<;>by_cases h:m=0<;>simp[h]
 simp only[h0,h1,h2,h3,e,zaE,zaD,zaI,zaM,zaC,zaR];cases h4:(aDS f||decide (m=0))with
 |false=>simp[h4]
 |true =>
  simp only[zaI,zaD,zaR];simp only[bor,tD];have e2:(decide (op=22)||decide (op=23)||decide (op=24))=decide (op=22\/op=23\/op=24):=by simp[Bool.or_assoc]
  rw[e2];by_cases h5:op=22\/op=23\/op=24
  ·rw[decide_eq_true h5,zaB,if_pos h5];refine aOO ?_;rw[Bool.eq_iff_iff];simp
  ·rw[decide_eq_false h5,zaD,if_neg h5];refine aOO ?_;rw[Bool.eq_iff_iff];simp
def TR2:Tab:=mkT qq fX [(41,lM),(90,aOS),(36,aFD)] []
def aY (i:Ins):List Int:=if bY i then(if oG (aC i.op)&&decide (¬i.a=0)then [i.a]else [])++(if hasB (aC i.op)&&decide (¬i.b=0)then [i.b]else [])else []
def aY9:List XV->Option ((XV->Prop)->Prop):=eZ (fun i:Ins=>[cT i]) (fun i=>True) (fun i=>aY i) (fun y=>aB 1 bJ y)
def bV (p:Prog) (n:Nat):Int:=if(¬aC (ix p.code n).op=6/\¬aC (ix p.code n).op=7)\/(ix p.code n).imm < -8192\/(ix p.code n).imm>8191\/(n:Int)+(ix p.code n).imm<0\/(n:Int)+(ix p.code n).imm>=p.code.length then -1 else(n:Int)+(ix p.code n).imm
def a36:List XV->Option ((XV->Prop)->Prop):=eZ (fun q:Prog×Nat=>[aJ q.1,.int .i64 q.2]) (fun q=>q.1.wf/\q.2<q.1.code.length) (fun q=>bV q.1 q.2) (fun y=>.int .i64 y)
theorem a7M:bT zPr TR2:=sH dY ⟨kC,aRB,aJ8,trivial⟩ trivial
theorem a37 (i:Ins) (r:XV):(aO TR2 80 (bL TR2 80 20) 79 [cT i] (fun v=>aA v r))=(
 letI q1:=aA (.row true 0 0 fun x=>.unk) r;
 letI q2:=cond (hasB (aC i.op)) (decide ¬i.b=0) false;cond (!bY i) q1 (cond (cond (oG (aC i.op)) (oG (aC i.op)) true) (cond (cond (oG (aC i.op)) (decide ¬i.a=0) false) (cond (cond (hasB (aC i.op)) (hasB (aC i.op)) true) (cond q2 (aA (.row false 1 2 fun i_1=>.int .i64 (cond (decide (i_1<1)) i.a i.b)) r) (aA (.row false 1 1 fun i_1=>.int .i64 i.a) r)) False) (cond (cond (hasB (aC i.op)) (hasB (aC i.op)) true) (cond q2 (aA (.row false
  1 1 fun i_1=>.int .i64 i.b) r) q1) False)) False)):=by kernel_rfl
theorem bDZ (p:Prog) (n:Nat) (r:XV):(aO TR2 80 (bL TR2 80 20) 82 [aJ p,.int .i64 n] (fun v=>aA v r))=(
 letI q1:=aC (Ins.op (ix p.code (Int.toNat (↑n:Int))));
 letI q2:=decide ¬aC ((ix p.code n).op)=6;
 letI q3:=cond q2 (decide ¬aC ((ix p.code n).op)=7) false;
 letI q4:=cond q3 true (decide ((ix p.code n).imm<(-8192:Int)));
 letI q5:=cond q4 true (decide ((ix p.code n).imm>8191));
 letI q6:=IntKind.wrap .i64 ((↑n:Int)+(ix p.code n).imm);
 letI q7:=IntKind.wrap .i64 ((↑n:Int)+Ins.imm (ix p.code (Int.toNat (↑n:Int))));
 letI q8:=cond q5 true (decide (q6<0));cond (decide ((↑n:Int)<(↑(p.code.length):Int))) (cond (cond q2 q2 true) (cond (cond q3 true (!q3)) (cond (cond q4 true (!q4)) (cond (cond q5 true (!q5)) (cond (cond q8 true (!q8)) (cond (cond q8 true (decide (q6>=(↑(p.code.length):Int)))) (aA (.int .i64
  (-1:Int)) r) (aA (.int .i64 q6) r)) False) False) False) False) False) False):=by kernel_rfl
theorem aBU:eV zPr (79,aY9):=bB fun i _=>by
 refine fF (u:=80) (k:=20) mix a7M ?_;refine Eq.mpr (a37 i _) ?_;unfold aY;simp only[g1,g2,g3,g4,g5,g6,g7,aD,zaB,zaF,zaC,cC];simp only[tD];show cond (!bY i) _ _;cases bY i with
 |false=>exact⟨gZ rfl (.inr rfl) fun j hj=>absurd hj (Nat.not_lt_zero _)⟩
 |true =>
  simp only[zaI,zaD,if_true];cases (oG (aC i.op)&&decide (¬i.a=0))<;>cases (hasB (aC i.op)&&decide (¬i.b=0))<;>simp only[zaB,zaD,if_true,if_false,zaU]
  ·exact⟨gZ rfl (.inr rfl) fun j hj=>absurd hj (Nat.not_lt_zero _)⟩
  ·refine⟨gZ rfl (.inl rfl) fun j hj => ?_⟩;obtain rfl:j=0:=by omega
   exact .refl _
  ·refine⟨gZ rfl (.inl rfl) fun j hj => ?_⟩;obtain rfl:j=0:=by omega
   exact .refl _
  ·refine⟨gZ rfl (.inl rfl) fun j hj => ?_⟩;rcases(by omega:j=0\/j=1)with rfl|rfl<;>exact .refl _
theorem aRC:eV zPr (82,a36):=bB fun⟨p,n⟩ h=>by
 obtain⟨hw,hn⟩:p.wf/\n<p.code.length:=h;show Pure _ _ (cons [aJ p,.int .i64 n]) (con (.int .i64 (bV p n)));refine fF (u:=80) (k:=20) mix a7M ?_;refine Eq.mpr (bDZ p n _) ?_;have h1:(n:Int)<(p.code.length:Int):=by omega
 have hl:=hw.1.2;simp only[g1,g2,g3,g4,g5,g6,g7,aD,zaB,zaF,zaC,cC,h1];simp only[tD,bor];unfold bV;generalize ix p.code n=i;generalize aC i.op=f;by_cases hm:i.imm < -8192\/i.imm>8191
 ·rw[if_pos (.inr (hm.imp id .inl))];rcases hm with hm|hm<;>(simp only[decide_eq_true hm,Bool.true_or,Bool.or_true,zaB];exact .rfl)
 have m1:¬i.imm < -8192:=fun h=>hm (.inl h)
 have m2:¬i.imm>8191:=fun h=>hm (.inr h)
 have w1:IntKind.i64.wrap ((n:Int)+i.imm)=(n:Int)+i.imm:=wrap_i64 (by omega) (by omega);simp only[w1,m1,m2,zaE,Bool.or_false,false_or];have e:(decide (¬f=6)&&decide (¬f=7)||decide ((n:Int)+i.imm<0)||decide ((n:Int)+i.imm>=(p.code.length:Int)))=decide ((¬f=6/\¬f=7)\/(n:Int)+i.imm<0\/(n:Int)+i.imm>=p.code.length):=by rw[Bool.eq_iff_iff];simp only[zaV,zaG,zaK,or_assoc]
 rw[e];by_cases hc:(¬f=6/\¬f=7)\/(n:Int)+i.imm<0\/(n:Int)+i.imm>=p.code.length
 ·rw[decide_eq_true hc,if_pos hc];exact .rfl
 ·rw[decide_eq_false hc,if_neg hc];exact .rfl
def TR3:Tab:=fW qq fX [(41,lM),(36,aFD)] [] [(82,a36)] []
def aEX (p:Prog) (n:Nat):Bool:=!((decide (aC (ix p.code n).op=6)||decide (aC (ix p.code n).op=7))&&decide (bV p n<0))
def aHI (p:Prog):Bool:=gP (aEX p) p.code.length
def bD0:List XV->Option ((XV->Prop)->Prop):=eZ (fun p:Prog=>[aJ p]) (fun p=>p.wf) (fun p=>if aHI p then(0:Int)else 4) (fun y=>.int .i64 y)
def aL (p:Prog):Bool:=decide (1<=p.code.length/\p.code.length<=2000/\0<=p.size/\p.size<=65536/\(p.data.length:Int)<=p.size)&&(gP (fun n=>bY (ix p.code n)) p.code.length&&aHI p)
def aRD:List XV->Option ((XV->Prop)->Prop):=eZ (fun p:Prog=>[aJ p]) (fun p=>p.wf) (fun p=>aL p) (fun y=>.bool y)
def TR4:Tab:=fW qq fX [(36,aFD)] [] [(37,bD0)] []
theorem a7N:bT zPr TR3:=bQ dY ⟨kC,aJ8,trivial⟩ trivial ⟨aRC,trivial⟩ trivial
theorem a9W (p:Prog) (r:XV):(goQ zPr TR3 [(.tmp 2)] r (.run kH) [] ⟨kF 0 [aJ p],[],0⟩)=(bX (Ok zPr (Tab.q TR3)) nH (XSt.mk [(3,.int .i64 0),(2,.int .i64 0),(1,.ptr 0 [] 0)] [(0,some (aJ p))] 1) [Frm.blk 0,Frm.seq rL]
 (dC [AR.tmp 2] r)):=by kernel_rfl
theorem a9X (p:Prog) (i:Nat) (r:XV) (A:XSt->Prop):(goQ zPr TR3 [(.tmp 2)] r (.run nH) [.lp nH A,.blk 0,.seq rL] ⟨[(3,.int .i64 i),(1,.ptr 0 [] 0)],[(0,some (aJ p))],1⟩)=(
 letI q1:=decide ((↑i:Int)<(↑(p.code.length):Int));
 letI q2:=aC (Ins.op (ix p.code (Int.toNat (↑i:Int))));
 letI q3:=decide (aC ((ix p.code i).op)=6);
 letI q4:=cond q3 true (decide (aC ((ix p.code i).op)=7));
 letI q5:=XSt.mk [(3,.int .i64 (IntKind.wrap .i64 ((↑i:Int)+1))),(1,.ptr 0 [] 0)] [(0,some (aJ p))] 1;cond q1 (cond q1 (cond (cond q3 true (!q3)) (cond q4 (∃(s:Prog×Nat),aI [aJ p,.int .i64 (↑i:Int)] [aJ s.1,.int .i64 (↑(s.2):Int)]/\aN (s.1.wf/\s.2<s.1.code.length)/\∀(y:Int),y=bV s.1 s.2 ->
  cond (cond q4 (decide (y<0)) false) (aA (.int .i64 4) r) (A q5)) (cond (!q4) (A q5) False)) False) False) (aA (.int .i64 0) r)):=by kernel_rfl
theorem a9Y (p:Prog) (r:XV):(goQ zPr TR4 [(.tmp 2)] r (.run gR) [] ⟨kF 0 [aJ p],[],0⟩)=(
 letI q1:=decide ((↑(p.code.length):Int)<1);
 letI q2:=cond q1 true (decide ((↑(p.code.length):Int)>2000));
 letI q3:=cond q2 true (decide (p.size<0));
 letI q4:=cond q3 true (decide (p.size>65536));cond (cond q1 true (!q1)) (cond (cond q2 true (!q2)) (cond (cond q3 true (!q3)) (cond (cond q4 true (!q4)) (cond (cond q4 true (decide ((↑(p.data.length):Int)>p.size))) (aA (.bool false) r) (bX (Ok zPr (Tab.q TR4)) jI (XSt.mk [(3,
  .int .i64 0),(2,.bool false),(1,.ptr 0 [] 0)] [(0,some (aJ p))] 1) [Frm.blk 0,Frm.seq nG] (dC [AR.tmp 2] r))) False) False) False) False)
  := by kernel_rfl 
theorem a9Z (p:Prog) (i:Nat) (r:XV) (A:XSt->Prop):(goQ zPr TR4 [(.tmp 2)] r (.run jI) [.lp jI A,.blk 0,.seq nG] ⟨[(3,.int .i64 i),(1,.ptr 0 [] 0)],[(0,some (aJ p))],1⟩)=(
 letI q1:=decide ((↑i:Int)<(↑(p.code.length):Int));cond q1 (cond q1 (cond (!bY (ix p.code i)) (aA (.bool false) r) (A (XSt.mk [(3,.int .i64 (IntKind.wrap
  .i64 ((↑i:Int)+1))),(1,.ptr 0 [] 0)] [(0,some (aJ p))] 1))) False) (∃(s:Prog),aI [aJ p] [aJ s]/\aN s.wf/\∀(y:Int),(y=if aHI s=true then
  (0:Int)else(4:Int))->aA (.bool (decide (y=0))) r)):=by kernel_rfl
theorem qL {p:Nat->Bool} {n i:Nat} (hi:i<n) (h:p i=false):gP p n=false:=by rw[<-Bool.not_eq_true,dH];intro h2;rw[h2 i hi]at h;cases h
theorem a90:eV zPr (37,bD0):=bB fun p hw=>by
 have hw:p.wf:=hw;have hl:=hw.1.2;refine j9 mix a7N wS (Nat.le_of_ble_eq_true rfl) ?_;refine Eq.mpr (a9W p _) ?_;refine gT mix a7N (fun i:Nat=>⟨[(3,.int .i64 i),(1,.ptr 0 [] 0)],[(0,some (aJ p))],1⟩) (fun i=>i<=p.code.length/\∀ j,j<i->aEX p j=true) (fun i=>p.code.length-i) 0 ⟨Nat.zero_le _,fun j hj=>by omega⟩ (.of (dL ⟨rfl,rfl,trivial⟩ ⟨rfl,trivial⟩ (zaF _))) ?_;rintro i ⟨hi,hp⟩;refine Eq.mpr (a9X p i _ _) ?_;by_cases hlt:i<p.code.length
 ·have h1:(i:Int)<(p.code.length:Int):=by omega
  have w1:IntKind.i64.wrap ((i:Int)+1)=((i+1:Nat):Int):=wrap_i64 (by omega) (by omega);simp only[g1,g2,g3,g4,g5,g6,g7,aD,zaB,zaF,zaC,cC,h1,w1];simp only[bor,tD];have next:aEX p i=true->∃ j,(j<=p.code.length/\∀ k,k<j->aEX p k=true)/\cJ 1 (XSt.st (XSt.mk [(3,.int .i64 ((i+1:Nat):Int)),(1,.ptr 0 [] 0)] [(0,some (aJ p))] 1)) (XSt.st (XSt.mk [(3,.int .i64 (j:Nat)),(1,.ptr 0 [] 0)] [(0,some (aJ p))] 1))/\p.code.length-j<p.code.length-i:=fun h=>by
   refine⟨i+1,⟨hlt,fun j hj => ?_⟩,.of (dL ⟨rfl,rfl,trivial⟩ ⟨rfl,trivial⟩ (zaF _)),by omega⟩;by_cases hji:j=i
   ·subst hji;exact h
   ·exact hp j (by omega)
  cases hc:(decide (aC (ix p.code i).op=6)||decide (aC (ix p.code i).op=7))with
  |false => simp only[zaD,zaH,zaB];exact next (by unfold aEX;rw[hc];rfl)
  |true =>
   simp only[zaB];refine⟨(p,i),.rfl,⟨hw,hlt⟩, ?_⟩;rintro y rfl;simp only[zaR];refine kX (fun h => ?_) (fun h => ?_)
   ·have:aHI p=false:=qL hlt (by unfold aEX;rw[hc];simpa using h);rw[this];exact .rfl
   ·exact next (by unfold aEX;rw[hc];simpa using h)
 ·have h1:¬(i:Int)<(p.code.length:Int):=by omega
  simp only[h1,zaE,zaD];have:aHI p=true:=dH.2 fun j hj=>hp j (by omega)
  rw[this];exact .rfl
theorem a7O:bT zPr TR4:=bQ dY ⟨aJ8,trivial⟩ trivial ⟨a90,trivial⟩ trivial
theorem aDT:eV zPr (20,aRD):=bB fun p hw=>by
 have hw:p.wf:=hw;have hl:=hw.1.2;refine j9 mix a7O pT (Nat.le_of_ble_eq_true rfl) ?_;refine Eq.mpr (a9Y p _) ?_;simp only[g1,g2,g3,g4,g5,g6,g7,aD,zaB,zaF,zaC,cC];simp only[bor];have e:(decide ((p.code.length:Int)<1)||decide ((p.code.length:Int)>2000)||decide (p.size<0)||decide (p.size>65536)||decide ((p.data.length:Int)>p.size)) = !decide (1<=p.code.length/\p.code.length<=2000/\0<=p.size/\p.size<=65536/\(p.data.length:Int)<=p.size):=by rw[Bool.eq_iff_iff];simp only[zaV,zaK,Bool.not_eq_true',zaP];omega
 rw[e];cases hd:decide (1<=p.code.length/\p.code.length<=2000/\0<=p.size/\p.size<=65536/\(p.data.length:Int)<=p.size)with
 |false => simp only[zaH,zaB];unfold aL;rw[hd];exact .rfl
 |true =>
  simp only[zaI,zaD];refine gT mix a7O (fun i:Nat=>⟨[(3,.int .i64 i),(1,.ptr 0 [] 0)],[(0,some (aJ p))],1⟩) (fun i=>i<=p.code.length/\∀ j,j<i->bY (ix p.code j)=true) (fun i=>p.code.length-i) 0 ⟨Nat.zero_le _,fun j hj=>by omega⟩ (.of (dL ⟨rfl,rfl,trivial⟩ ⟨rfl,trivial⟩ (zaF _))) ?_;rintro i ⟨hi,hp⟩;refine Eq.mpr (a9Z p i _ _) ?_;by_cases hlt:i<p.code.length
  ·have h1:(i:Int)<(p.code.length:Int):=by omega
   have w1:IntKind.i64.wrap ((i:Int)+1)=((i+1:Nat):Int):=wrap_i64 (by omega) (by omega);simp only[g1,g2,g3,g4,g5,g6,g7,aD,zaB,zaF,zaC,cC,h1,w1];refine kX (fun h => ?_) (fun h => ?_)
   ·have h2:bY (ix p.code i)=false:=by simpa using h
    have:aL p=false:=by unfold aL;rw[qL hlt h2];simp
    rw[this];exact .rfl
   ·have h2:bY (ix p.code i)=true:=by simpa using h
    refine⟨i+1,⟨hlt,fun j hj => ?_⟩,.of (dL ⟨rfl,rfl,trivial⟩ ⟨rfl,trivial⟩ (zaF _)),by omega⟩;by_cases hji:j=i
    ·subst hji;exact h2
    ·exact hp j (by omega)
  ·have h1:¬(i:Int)<(p.code.length:Int):=by omega
   simp only[h1,zaE,zaD];refine⟨p,.rfl,⟨hw⟩, ?_⟩;rintro y rfl;have e2:aL p=aHI p:=by unfold aL;rw[hd,dH.2 fun j hj=>hp j (by omega)];rfl
   rw[e2];cases aHI p<;>exact .rfl
@[irreducible] def nK:AC:=cdO (trF zPr qq 15)
@[irreducible] def gL:AC:=cdA [1,1,1,0,1,0,0] nK
@[irreducible] def lZ:AC:=cdA [1,1,1,1] nK
@[irreducible] def pH:AC:=cdA [1,0,0,1,1,0,0] gL
@[irreducible] def vN:AC:=cdA [1,1] gL
theorem aBV:trF zPr qq 15=some (80,[(.cell 4 .true 17),(.tmp 5)],nK):=by kernel_rfl
@[irreducible] def zP:AC:=cdO (trF zPr qq 17)
theorem aIX:trF zPr qq 17=some (10,[(.cell 2 .true 17),(.tmp 3)],zP):=by kernel_rfl
@[irreducible] def kI:AC:=cdO (trF zPr qq 32)
@[irreducible] def nL:AC:=cdA [1,1,0,1,0,0] kI
@[irreducible] def kD:AC:=cdA [1,1,1] kI
@[irreducible] def nM:AC:=cdA [0,1,0,0] kD
@[irreducible] def rP:AC:=cdA [1] kD
theorem wY:trF zPr qq 32=some (82,[(.tmp 4)],kI):=by kernel_rfl
@[irreducible] def oZ:AC:=cdO (trF zPr qq 33)
@[irreducible] def qM:AC:=cdA [1,1,1,0,1,0,0] oZ
@[irreducible] def wZ:AC:=cdA [1,1,1,1] oZ
theorem aEY:trF zPr qq 33=some (72,[(.tmp 2)],oZ):=by kernel_rfl
@[irreducible] def aBW:AC:=cdO (trF zPr qq 34)
theorem aLU:trF zPr qq 34=some (134,[(.tmp 8),(.tmp 9)],aBW):=by kernel_rfl
@[irreducible] def lS:AC:=cdO (trF zPr qq 35)
@[irreducible] def oH:AC:=cdA [1,1,1,0,1,0,0] lS
@[irreducible] def kY:AC:=cdA [1,1,1,1] lS
@[irreducible] def eI:AC:=cdA [0,1,0,0] kY
@[irreducible] def hJ:AC:=cdA [1] kY
@[irreducible] def fS:AC:=cdA [1,0,0,1,0,0] eI
@[irreducible] def kZ:AC:=cdA [1,1] eI
@[irreducible] def lB:AC:=cdA [1,0,0,1,1,1,1,0,1,1,0,0] fS
@[irreducible] def tF:AC:=cdA [1,1] fS
theorem zQ:trF zPr qq 35=some (86,[(.cell 2 .true 16)],lS):=by kernel_rfl
@[irreducible] def aEZ:AC:=cdO (trF zPr qq 77)
theorem aOT:trF zPr qq 77=some (13,[(.tmp 4)],aEZ):=by kernel_rfl
@[irreducible] def nN:AC:=cdO (trF zPr qq 78)
@[irreducible] def pI:AC:=cdA [1,0,1,0,0] nN
@[irreducible] def vO:AC:=cdA [1,1] nN
theorem aBX:trF zPr qq 78=some (18,[(.tmp 4)],nN):=by kernel_rfl
@[irreducible] def jQ:AC:=cdO (trF zPr qq 80)
@[irreducible] def mG:AC:=cdA [1,1,1,1,0,1,0,0] jQ
@[irreducible] def jK:AC:=cdA [1,1,1,1,1] jQ
@[irreducible] def mH:AC:=cdA [1,0,1,0,0] jK
@[irreducible] def qN:AC:=cdA [1,1] jK
theorem vP:trF zPr qq 80=some (65,[(.tmp 2)],jQ):=by kernel_rfl
@[irreducible] def nO:AC:=cdO (trF zPr qq 81)
@[irreducible] def pJ:AC:=cdA [1,0,1,0,0] nO
@[irreducible] def vQ:AC:=cdA [1,1] nO
theorem aBY:trF zPr qq 81=some (19,[(.tmp 4)],nO):=by kernel_rfl
@[irreducible] def aBZ:AC:=cdO (trF zPr qq 83)
theorem aLV:trF zPr qq 83=some (34,[(.tmp 4)],aBZ):=by kernel_rfl
@[irreducible] def rQ:AC:=cdO (trF zPr qq 84)
theorem aB0:trF zPr qq 84=some (26,[],rQ):=by kernel_rfl
@[irreducible] def qO:AC:=cdO (trF zPr qq 85)
theorem aAY:trF zPr qq 85=some (20,[],qO):=by kernel_rfl
@[irreducible] def nP:AC:=cdO (trF zPr qq 86)
@[irreducible] def pK:AC:=cdA [1,1,1,0,1,0,0] nP
@[irreducible] def vR:AC:=cdA [1,1,1,1] nP
theorem aB1:trF zPr qq 86=some (40,[(.tmp 4)],nP):=by kernel_rfl
@[irreducible] def zS:AC:=cdO (trF zPr qq 87)
theorem aIY:trF zPr qq 87=some (14,[(.tmp 4)],zS):=by kernel_rfl
@[irreducible] def rR:AC:=cdO (trF zPr qq 88)
theorem aB2:trF zPr qq 88=some (26,[],rR):=by kernel_rfl
@[irreducible] def pU:AC:=cdO (trF zPr qq 89)
theorem zD:trF zPr qq 89=some (23,[],pU):=by kernel_rfl
@[irreducible] def aB3:AC:=cdO (trF zPr qq 108)
theorem aLW:trF zPr qq 108=some (17,[(.tmp 2)],aB3):=by kernel_rfl
def kJ:oX:=[(15,80,[(.cell 4 .true 17),(.tmp 5)],nK),(17,10,[(.cell 2 .true 17),(.tmp 3)],zP),(32,82,[(.tmp 4)],kI),(33,72,[(.tmp 2)],oZ),(34,134,[(.tmp 8),(.tmp 9)],aBW),(35,86,[(.cell 2 .true 16)],lS),(77,13,[(.tmp 4)],aEZ),(78,18,[(.tmp 4)],nN),(80,65,[(.tmp 2)],jQ),(81,19,[(.tmp 4)],nO),(83,34,[(.tmp 4)],aBZ),(84,26,[],rQ),(85,20,[],qO),(86,40,[(.tmp 4)],nP),(87,14,[(.tmp 4)],zS),(88,26,[],rR),(89,23,[],pU),(108,17,[(.tmp 2)],aB3)]
theorem iR:nF (fun p=>trF zPr qq p.1=some p.2) kJ:=⟨aBV,aIX,wY,aEY,aLU,zQ,aOT,aBX,vP,aBY,aLV,aB0,aAY,aB1,aIY,aB2,zD,aLW,trivial⟩
end Go.Proofs.YtooojfbfobmkfaaGreat
