/- A program that ends in so many steps ends on the core within so many cycles. -/
import Derived.Test.YtooojfbfobmkfaaGreatRows
import Derived.WalkKit
import Derived.ProofKit
import Derived.OpenShut
import Derived.ShutString
import Derived.ChangeOld
import Derived.Below
import Derived.SizedLaws
import Derived.Test.YtooojfbfobmkfaaGreatPk6
noncomputable section
namespace Go.Proofs.YtooojfbfobmkfaaGreat
open Go.Ra
set_option linter.unusedVariables false
set_option linter.unusedSimpArgs false
theorem tZ:bK 0:=by unfold bK;omega
theorem aU8:a0B.wf:=⟨fun i _=>by show gC 0;unfold gC;omega,fun i _=>tZ,⟨tZ,tZ,tZ⟩,tZ,tZ⟩
theorem aDB {α:Type} {P:α->Prop} {k:Nat}:(∀ x∈([]:List α),P x)/\([]:List α).length*k<=140737488351232:=⟨fun x h=>(by cases h),by simp⟩
theorem bII:a5G.ok:=⟨⟨tZ,aU8,aU8,aDB,aDB,aDB,aDB,aDB,aDB,aDB,aDB,aDB,⟨tZ,tZ,tZ⟩,tZ,tZ,tZ⟩,by decide,by decide,by decide,by decide,by decide,by decide,by decide,by decide,by decide⟩
theorem a20 {p:Prog} (hw:p.wf) (hr:aL p=true):(aDY p).ok:=by
 obtain⟨⟨a1,a2,a3,a4,a5,a6,a7,a8,a9,a10,a11,a12,a13⟩,b1,b2,b3,b4,b5,b6,b7,b8,b9⟩:=bII;have hs:=vI hr;have hl:(wB p).length<=65536:=by rw[uZ];omega
 exact⟨⟨a1,a2,a3,a4,a5,a6,a7,a8,a9,a10,⟨a2N hw,by show(wB p).length*1<=_;omega⟩,a12,a13⟩,b1,b2,b3,b4,b5,b6,b7,by show(wB p).length<=_;omega,b9⟩
theorem aWY (p:Prog):Val p [] [] (aDY p) [] := ⟨fun z hz=>(by cases hz),fun z hz=>(by cases hz),fun r _ _ _=>rfl,fun r _ _=>rfl,rfl,⟨[],rfl,rfl,fun i hi=>(by cases hi),fun i hi=>(by cases hi),fun q hq=>(by cases hq)⟩,rfl,⟨[],rfl,rfl,fun i hi=>(by cases hi)⟩,⟨[],rfl,rfl⟩,rfl,fun r _ _=>Nat.zero_le _,fun q hq=>(by cases hq),fun q hq=>(by cases hq),rfl,fun i _ hi=>(by cases hi)⟩
theorem aD9 {c:Cfg} (h:cX c=true):12*(c.lat+2)+10<=cZ c/\cZ c<=1000000:=by have hg:=iG h;have m1:(c.bN+2)*(c.lat+2)<=66*1002:=Int.mul_le_mul (by omega) (by omega) (by omega) (by omega);have m2:3*(c.lat+2)<=(c.bN+2)*(c.lat+2):=Int.mul_le_mul_of_nonneg_right (by omega) (by omega);rw[aIB h];omega
theorem bHQ:bT Tryz.prog TY1:=bQ aII trivial trivial ⟨bHJ,trivial⟩ trivial
theorem bDE:eV Tryz.prog (9,bHL):=bB fun⟨c,n⟩ _=>by
 show Pure _ _ (cons [aV c,.int .i64 n]) (con (.int .i64 (aWX c n)));refine fF (u:=80) (k:=20) mix bHQ ?_;refine Eq.mpr (bHN c n _) ?_;refine⟨c,.rfl,⟨trivial⟩, ?_⟩;rintro y rfl;have hq:0<=cZ c/\cZ c<=1000000:=by
  cases h:cX c with
  |false=>unfold cZ;rw[if_pos h];omega
  |true=>have:=aD9 h;have:=iG h;omega
 have hcap:(if(if 100000<n then(100000:Int)else n)>0 then(if 100000<n then(100000:Int)else n)else 0)=wC n:=by
  unfold wC
  repeat' split
  all_goals omega
 have hc2:0<=wC n/\wC n<=100000:=by
  unfold wC
  repeat' split
  all_goals omega
 have m1:cZ c*(8*wC n+16)<=1000000*800016:=Int.mul_le_mul (by omega) (by omega) (by omega) (by omega);have m2:0<=cZ c*(8*wC n+16):=Int.mul_nonneg (by omega) (by omega);show aA (.int .i64 (IntKind.i64.wrap (cZ c*IntKind.i64.wrap (IntKind.i64.wrap (8*(if(if 100000<n then(100000:Int)else n)>0 then(if 100000<n then(100000:Int)else n)else 0))+16)))) _;rw[hcap,wrap_i64 (x:=8*wC n) (by omega) (by omega),wrap_i64 (x:=8*wC n+16) (by omega) (by omega),wrap_i64 (x:=cZ c*(8*wC n+16)) (by omega) (by omega)];exact .rfl
theorem a8Z:bT Tryz.prog TY2:=bQ aID trivial trivial ⟨a68,a69,bDD,aTX,aWE,bDE,bCG,bCI,bC4,trivial⟩ trivial
def a21 (c:Cfg) (p:Prog) (o:Nat->Int) (s:Split) (T:Nat) (M:Int) (i:Nat) (x:Stt):Prop := x.ok/\(pY c s x=true\/(Tim x (c.mul+c.div)/\∃ n k,(∀ e,n e<=201*i)/\Rch c p o T n k x/\∃ m,Pt c p o s T n k x m/\m+i<=M))
theorem bHR {c:Cfg} {p:Prog} {o:Nat->Int} {s:Split} (hs:Spl p o s) {T:Nat} {n k:Bool->Nat} {x:Stt} {m:Int} {f:Bool} (hf:n f<=T) (hc:cX c=true) (h:Rch c p o T n k x) (hp:Pt c p o s T n k x m):0<=m:=by
 obtain⟨w,h1,_,h2⟩:=hp;have hg:=iG hc;have a1:=aUK (M:=c.lat) (by omega) x.table;have a2:=aU4 (c:=c) (by omega) T x;have a3:=aD2 s x;have a4:=h.ldb;have a5:0<=(c.lat+1)*((T:Int)+66-(ld (Dn p o (gD p) false (n false) (k false)):Int)):=Int.mul_nonneg (by omega) (by omega);have a6:=aU3 hs hf h.inv;have a7:=aU5 x.a.halted;have a8:=aU5 x.e.halted;have a9:=aD9 hc;have b1:0<=lft T (Dn p o (gD p) false (n false) (k false)) (Dn p o (gD p) true (n true) (k true)) x:=by unfold lft;omega
 have b2:0<=cZ c*lft T (Dn p o (gD p) false (n false) (k false)) (Dn p o (gD p) true (n true) (k true)) x:=Int.mul_nonneg (by omega) b1;omega
theorem aKT {c:Cfg} {p:Prog} {o:Nat->Int} {s:Split} {T:Nat} {M:Int} {i:Nat} {x:Stt} (hs:Spl p o s) (hk:kQ s) (hT:wX p T) (hTb:T<=40) (hp200:p.code.length<=200) (hM:M<=2000000) (t:bF) (h:a21 c p o s T M i x) (hv:pY c s x=false) :
  a1F x/\(i:Int)<=M/\a21 c p o s T M (i+1) (lV c s t x):=by
 obtain⟨h1,h2⟩:=h;rcases h2 with h2|⟨h2,n,k,h3,h4,m,h5,h6⟩
 ·rw[hv]at h2;cases h2
 obtain⟨f,hF⟩:=a2S hs hT;have hf:=hF c n k x x.table h4.inv h4.val;have hr:=aU6 hv;have hc:=mO hr;have hg:=iG hc;have hnn:=bHR hs hf hc h4 h5;have hdl:=aU3 hs hf h4.inv;have htab:(x.table.length:Int)<=c.bN:=by simp only[aU,aPD,zaG,zaK]at hr;exact hr.2.2.2.2.1.2.2.2.2.2.2.1
 have hfit:x.writes.length+x.table.length<=900000:=by omega
 have hcok:=aMN (c:=c) (t:=t) hk ⟨h1,hfit⟩;have hnb:∀ e,n e<=800000000:=fun e=>by have:=h3 e;omega
 obtain⟨n',k',a1,a2,a3,htim⟩:=bHE hs hT hF t h4 hr hnb h2 h1 hfit hk hv;refine⟨⟨h1,hfit⟩,by omega,hcok.2.2.2.1, ?_⟩;cases hv':pY c s (lV c s t x)with
 |true=>exact .inl rfl
 |false => obtain⟨m',b1,b2⟩:=a3 hv' m h5;exact .inr ⟨htim,n',k',fun e=>by have:=a1 e;have:=h3 e;omega,a2,m',b2,by omega⟩
theorem aWZ (p:Prog) (n:Int) (c:Cfg) (t:bF) (hp:p.wf):Pure Tryz.prog 3 (cons [aJ p,.int .i64 n,aV c,bO t]) (con (.bool true)):=by
 refine j9 mix a8Z sD (Nat.le_of_ble_eq_true rfl) ?_;refine Eq.mpr (bHO p n c t _) ?_;refine⟨(),.rfl,⟨trivial⟩, ?_⟩;intro v hv;subst hv;refine⟨(p,n),.rfl,⟨hp⟩, ?_⟩;intro y hy;replace hy:y=p6 p n:=hy;refine⟨p,.rfl,⟨trivial⟩, ?_⟩;intro b hb;replace hb:b=a2Y p:=hb;cases b with
 |false=>exact .rfl
 |true =>
 by_cases g1:(t.dR.length:Int)>60
 ·simp only[g1,zaC,zaB,zaD,zaI,zaH];exact .rfl
 by_cases g2:(t.cG.length:Int)>60
 ·simp only[g1,g2,zaC,zaE,zaB,zaD,zaI,zaH];exact .rfl
 cases hy2:y.2 with
 |false => simp only[g1,g2,hy2,zaC,zaE,zaB,zaD,zaI,zaH];exact .rfl
 |true =>
 simp only[g1,g2,hy2,zaC,zaE,zaB,zaD,zaI,zaH];refine⟨c,.rfl,⟨trivial⟩, ?_⟩;intro w hw;replace hw:w=cX c:=hw;cases w with
 |false=>exact .rfl
 |true =>
 by_cases g3:c.lat>6
 ·simp only[g3,zaC,zaB,zaD,zaI,zaH];exact .rfl
 by_cases g4:c.mul>6
 ·simp only[g3,g4,zaC,zaE,zaB,zaD,zaI,zaH];exact .rfl
 by_cases g5:c.div>6
 ·simp only[g3,g4,g5,zaC,zaE,zaB,zaD,zaI,zaH];exact .rfl
 simp only[g3,g4,g5,zaC,zaE,zaB,zaD,zaI,zaH];refine⟨(p,40),.rfl,⟨hp⟩, ?_⟩;intro r hr;replace hr:r=aM4 p 40:=hr;by_cases g6:r.fin=3
 ·simp only[g6,zaC,zaB];exact .rfl
 simp only[g6,zaE,zaD];refine⟨(c,r.steps),.rfl,⟨trivial⟩, ?_⟩;intro q hq;replace hq:q=aWX c r.steps:=hq;refine⟨p,.rfl,⟨hp⟩, ?_⟩;intro x hx;replace hx:x=jZ p:=hx;subst hx;have hsp:∃ o,Spl p o y.1:=by rw[hy]at hy2 ⊢;exact aWW hy2
 obtain⟨o,hs⟩:=hsp;have hk:=hs.ok hp;have hrp:=hs.rp;have hc:=hw.symm;have hg:=iG hc;have hqr:=aD9 hc;have ef:jZ p=aDY p:=by unfold jZ;rw[if_pos hrp]
 have hp200:p.code.length<=200:=by simp only[a2Y,a8V,Bool.true_eq,zaG,zaK]at hb;omega
 have hfl:kR 40=40:=rfl;have hend:∃ T:Nat,T<40/\(∀ m,m<T->gGo p m)/\¬gGo p T/\(T:Int)<=r.steps:=by
  have h1:=(aUW hrp 40 (by omega)).2;unfold aM4 at hr;rw[if_pos hrp,hfl]at hr;by_cases hf:(itR p 40).1.fin=0
  ·rw[if_pos hf]at hr;rw[hr]at g6;exact absurd rfl g6
  ·rw[if_neg hf]at hr;rw[hr];exact h1 hf
 obtain⟨T,t1,t2,t3,t4⟩:=hend;have hT:wX p T:=⟨t2,t3⟩;have hcap:(T:Int)<=wC r.steps:=by
  unfold wC
  repeat' split
  all_goals omega
 have hQ:cZ c<=2132:=by have m1:(c.bN+2)*(c.lat+2)<=66*8:=Int.mul_le_mul (by omega) (by omega) (by omega) (by omega);rw[aIB hc];omega
 have hqM:cZ c*(8*(T:Int)+15)<q:=by
  rw[hq];unfold aWX;have m1:cZ c*(8*(T:Int)+16)<=cZ c*(8*wC r.steps+16):=Int.mul_le_mul_of_nonneg_left (by omega) (by omega);have m2:cZ c*(8*(T:Int)+16)=cZ c*(8*(T:Int)+15)+cZ c:=by rw[show 8*(T:Int)+16=(8*(T:Int)+15)+1 by omega,Int.mul_add,Int.mul_one]
  omega
 generalize hM:cZ c*(8*(T:Int)+15)=M at hqM;have hMb:M<=2000000:=by have m1:cZ c*(8*(T:Int)+15)<=2132*327:=Int.mul_le_mul (by omega) (by omega) (by omega) (by omega);omega
 have hM0:0<=M:=by rw[<-hM];exact Int.mul_nonneg (by omega) (by omega)
 have hfi:=aWL (c:=c) (gD p) hs;have hti:Tim (jZ p) (c.mul+c.div):=⟨fun r a b=>by have:=hfi.2.a r a b;omega,fun r a b=>by have:=hfi.2.e r a b;omega,by have:=hfi.2.wa;omega,by have:=hfi.2.we;omega⟩;have hst:a21 c p o y.1 T M 0 (jZ p):=by
  refine⟨ef ▸ a20 hp hrp,.inr ⟨hti,fun _=>0,fun _=>0,fun e=>Nat.zero_le _, ?_,M, ?_,by omega⟩⟩
  ·have hd:∀ e',Dn p o (gD p) e' 0 0=[]:=fun e'=>by unfold Dn;simp
   refine⟨hfi.1, ?_,fun h => ?_, ?_⟩
   ·rw[hd,hd,ef];exact aWY p
   ·rw[ef]at h;exact absurd rfl h
   ·rw[hd];exact Nat.zero_le _
  ·have hd:∀ e',Dn p o (gD p) e' 0 0=[]:=fun e'=>by unfold Dn;simp
   refine⟨0,Int.le_refl _,⟨fun _=>⟨hfi.2.a,hfi.2.wa⟩,fun _=>⟨hfi.2.e,hfi.2.we⟩⟩, ?_⟩;rw[hd,hd];have a1:eD (wgI c.lat) (jZ p).table=0:=by rw[ef];rfl
   have a2:sQ c T (jZ p)=0:=by rw[ef];exact if_pos (.inl rfl)
   have a3:=aD2 y.1 (jZ p);have a4:lft T [] [] (jZ p)=7*((T:Int)+1)+2:=by rw[ef];show 7*((T:Int)+1)+2-(0+0+0+0+0)=_;omega
   have a5:(ld ([]:List (Nat×Cell)):Int)=0:=rfl;rw[a1,a2,a4,a5,<-hM];have b1:(c.lat+1)*((T:Int)+66-0)=(c.lat+1)*T+66*(c.lat+1):=by rw[Int.sub_zero,Int.mul_add];omega
   have b2:(c.lat+1)*(T:Int)<=cZ c*(T:Int):=Int.mul_le_mul_of_nonneg_right (by omega) (by omega);have b3:cZ c*(7*((T:Int)+1)+2)=7*(cZ c*(T:Int))+9*cZ c:=by rw[show 7*((T:Int)+1)+2=7*(T:Int)+9 by omega,Int.mul_add,Int.mul_comm (cZ c) (7*(T:Int)),Int.mul_assoc,Int.mul_comm (T:Int)];omega
   have b4:cZ c*(8*(T:Int)+15)=8*(cZ c*(T:Int))+15*cZ c:=by rw[Int.mul_add,Int.mul_comm (cZ c) (8*(T:Int)),Int.mul_assoc,Int.mul_comm (T:Int)];omega
   omega
 refine gT mix a8Z (fun i:Nat×Stt=>bHM c t y.1 i.2 q i.1) (fun i=>(i.1:Int)<=q/\a21 c p o y.1 T M i.1 i.2) (fun i=>q.toNat-i.1) (0,jZ p) ⟨by show((0:Nat):Int)<=q;omega,hst⟩ (.of (dL ⟨rfl,rfl,rfl,rfl,rfl,rfl,trivial⟩ ⟨rfl,rfl,rfl,rfl,trivial⟩ (zaF _))) ?_;rintro ⟨i,x⟩ ⟨hi,hinv⟩;replace hi:(i:Int)<=q:=hi;replace hinv:a21 c p o y.1 T M i x:=hinv;refine Eq.mpr (bHP c t y.1 x q i _ _) ?_;have hqb:q<=9000000000000:=by
  rw[hq];unfold aWX;have hc2:0<=wC r.steps/\wC r.steps<=100000:=by
   unfold wC
   repeat' split
   all_goals omega
  have m1:cZ c*(8*wC r.steps+16)<=1000000*800016:=Int.mul_le_mul (by omega) (by omega) (by omega) (by omega);omega
 by_cases hlt:(i:Int)<q
 case neg =>
  simp only[hlt,zaE,zaD,zaH,zaB];refine⟨(c,y.1,x),.rfl,⟨hinv.1,hk.1⟩, ?_⟩;intro v hv;replace hv:v=pY c y.1 x:=hv;cases v with
  |true=>exact .rfl
  |false => exfalso;have:=(aKT hs hk hT (by omega) hp200 hMb t hinv hv.symm).2.1;omega
 simp only[hlt,zaC,zaB];refine⟨(c,y.1,x),.rfl,⟨hinv.1,hk.1⟩, ?_⟩;intro v hv;replace hv:v=pY c y.1 x:=hv;cases v with
 |true => simp only[zaI,zaD];refine⟨(c,y.1,x),.rfl,⟨hinv.1,hk.1⟩, ?_⟩;intro v hv2;replace hv2:v=pY c y.1 x:=hv2;rw[hv2,<-hv];exact .rfl
 |false =>
 simp only[zaH,zaB];obtain⟨s1,s2,s3⟩:=aKT hs hk hT (by omega) hp200 hMb t hinv hv.symm;refine⟨(c,y.1,t,x),.rfl,⟨s1,hk⟩, ?_⟩;intro x' hx';replace hx':x'=lV c y.1 t x:=hx';subst hx';have w1:IntKind.i64.wrap ((i:Int)+1)=((i+1:Nat):Int):=wrap_i64 (by omega) (by omega);simp only[w1];exact⟨(i+1,lV c y.1 t x),⟨by show((i+1:Nat):Int)<=q;omega,s3⟩,.of (dL ⟨rfl,rfl,rfl,rfl,rfl,rfl,trivial⟩ ⟨rfl,rfl,rfl,rfl,trivial⟩ (zaF _)),show q.toNat-(i+1)<q.toNat-i by omega⟩
end Go.Proofs.YtooojfbfobmkfaaGreat
namespace Go.Proofs.YtooojfbfobmkfaaGreat.aKU
open Go.Ra Go.ChangeShapes Go.WideShapes Go.ChangeAt Go.RowKit
open Go.ChangeMaps (open_string shut_string)
theorem own:ownKnob Tryz.prog.godebug=none:=by kernel_rfl
def Ts:List Ty:=[aRA,.int .i64,aY4,aHH]
theorem law (xs:List AV) (h:Ty.aGQ Ts xs):Pure Tryz.prog 3 xs (.sc (.bool true)):=by simp only[Ts,Ty.aGQ]at h;obtain⟨a,_,rfl,ha,b,_,rfl,hb,d,_,rfl,hd,e,_,rfl,he,rfl⟩:=h;obtain⟨p,rfl,hp⟩:=aY6 _ ha;obtain⟨n,rfl,_⟩:=has_i64' _ hb;obtain⟨c,rfl,_⟩:=a34 _ hd;obtain⟨t,rfl,_⟩:=aQ9 _ he;exact aWZ p n c t hp
set_option maxRecDepth 100000 in
theorem lifted (os:Os) (started:os.Started) (H:Type) (enc:TypeId×Value->H) :
  ReturnsInHanded {} Tryz.checked os 3 .any (Rows.boundEndsSpec.pre6 enc Tryz.prog Tryz.f3 Rows.boundEndsRow.domain false) (Rows.boundEndsSpec.post enc Tryz.prog Tryz.f3 false true false false):=by
 refine returnsInHanded_of_change_sized (C:=Tryz.checked) own started (by kernel_rfl) Tryz.func3
  (ChangeSpec.witness6 (enc:=enc) (C:=Tryz.checked) false ⟨#[],#[.agg #[.slice none 0 0,.int .i64 0,.slice none 0 0],.int .i64 0,.agg #[.int .i64 0,.int .i64 0,.int .i64 0,.int .i64 0,.int .i64 0,.int .i64 0,.int .i64 0,.int .i64 0,.int .i64 0,.int .i64 0,.int .i64 0,.int .i64 0],.agg #[.slice none 0 0,.slice none 0 0]],[]⟩ 8 (by kernel_rfl) (by kernel_rfl) (by kernel_rfl) (by kernel_rfl)) ?_
 intro W base args ds gs before hval hW hcnd hsz _;refine law_post (s:=Rows.boundEndsSpec) (n:=60) (Ts:=Ts) (ts:=[25,3,27,30]) (tb:=4) (by kernel_rfl) rfl rfl Tryz.underlying4 rfl (by kernel_rfl) (by kernel_rfl) (fun ds hds => ?_) law W base args ds gs before hval hW hsz
 match ds,hds with
 |[d1,d2,d3,d4],_=>exact⟨rfl,rfl,rfl⟩
theorem bIJ:Rows.boundEndsRow.holds Tryz.pinned (OpenSpec.ofChange Rows.boundEndsSpec) :=
 OpenClaim.holds_of_wide 3 Tryz.f3 rfl rfl rfl rfl rfl rfl rfl ⟨rfl,rfl,rfl,rfl,rfl⟩ rfl rfl rfl rfl rfl (by kernel_rfl) Tryz.func3 (by kernel_rfl)
  (of_decide_eq_true (by kernel_rfl)) (by unfold Func.isWrapper;first|(rw[if_pos (by decide +kernel)];kernel_rfl)|(rw[if_neg (by decide +kernel)];exact⟨rfl,rfl⟩))
  (fun os started H enc _=>lifted os started H enc)
theorem proved:Rows.BoundEndsSaid:=bIJ
end Go.Proofs.YtooojfbfobmkfaaGreat.aKU
namespace Go.Proofs.YtooojfbfobmkfaaGreat
theorem boundEnds_holds:Rows.BoundEndsSaid:=aKU.proved
end Go.Proofs.YtooojfbfobmkfaaGreat
#print axioms Go.Proofs.YtooojfbfobmkfaaGreat.boundEnds_holds
