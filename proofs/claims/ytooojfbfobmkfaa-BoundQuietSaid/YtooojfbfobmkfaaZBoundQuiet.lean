/- As long as the core is not over, within so many cycles something is done: a cell of either side, or a write. -/
import Derived.Test.YtooojfbfobmkfaaRows
import Derived.WalkKit
import Derived.ProofKit
import Derived.OpenShut
import Derived.ShutString
import Derived.ChangeOld
import Derived.Below
import Derived.SizedLaws
import Derived.Test.YtooojfbfobmkfaaPk6
noncomputable section
namespace Go.Proofs.Ytooojfbfobmkfaa
open Go.Ra
set_option linter.unusedVariables false
set_option linter.unusedSimpArgs false
theorem a43 : bX Try.prog TZ3:=bV aFN trivial trivial ⟨a3M,a3N,a8Y,aQ8,aTL,bCW,a8O,a8Q,trivial⟩ trivial
theorem qO : bZ 0:=by unfold bZ;omega
theorem aRU : aXN.wf:=⟨fun i _ => by show j9 0;unfold j9;omega,fun i _ => qO,⟨qO,qO,qO⟩,qO,qO⟩
theorem aA1 {α : Type} {P : α → Prop} {k : Nat} : (∀ x ∈ ([] : List α),P x) ∧ ([] : List α).length * k ≤ 140737488351232:=⟨fun x h => (by cases h),by simp⟩
theorem bDP : a1V.ok:=⟨⟨qO,aRU,aRU,aA1,aA1,aA1,aA1,aA1,aA1,aA1,aA1,aA1,⟨qO,qO,qO⟩,qO,qO,qO⟩,by decide,by decide,by decide,by decide,by decide,by decide,by decide,by decide,by decide⟩
theorem a8Z {p : Prog} (hw : p.wf) : ∀ x ∈ aJQ p,u8R x:=fun x hx => by
 obtain ⟨j,hj,rfl⟩:=List.mem_iff_getElem.1 hx
 rw [← fY hj]
 have hj' : j < p.size.toNat:=by rw [← aJR];exact hj
 unfold aJQ
 rw [pC hj']
 by_cases hd : j < p.data.length
 ·rw [decide_eq_true hd];exact hw.2.2.1 _ (cH hd)
 ·rw [decide_eq_false hd];show u8R 0;unfold u8R;omega
theorem aPG {p : Prog} (h : aX p = true) : 0 ≤ p.size ∧ p.size ≤ 65536 ∧ 1 ≤ p.code.length ∧ p.code.length ≤ 2000:=by
 simp only [aX,zaG,zaK] at h
 omega
theorem aY8 {p : Prog} (hw : p.wf) (hr : aX p = true) : (aE7 p).ok:=by
 obtain ⟨⟨a1,a2,a3,a4,a5,a6,a7,a8,a9,a10,a11,a12,a13⟩,b1,b2,b3,b4,b5,b6,b7,b8,b9⟩:=bDP
 have hs:=aPG hr
 have hl : (aJQ p).length ≤ 65536:=by rw [aJR];omega
 exact ⟨⟨a1,a2,a3,a4,a5,a6,a7,a8,a9,a10,⟨a8Z hw,by show (aJQ p).length * 1 ≤ _;omega⟩,a12,a13⟩,b1,b2,b3,b4,b5,b6,b7,by show (aJQ p).length ≤ _;omega,b9⟩
def aHY (c : Cfg) (p : Prog) (o : Nat → Int) (s : Split) (i : Nat) (x : Stt) (z : Int) : Prop :=
 i ≤ 400 ∧ x.ok ∧ x.writes.length + x.table.length ≤ 2 * i ∧ (∃ D n k,(∀ e,n e ≤ 2001 * i) ∧ Inv c p o D n k x) ∧ Tim x (c.mul + c.div) ∧ 0 ≤ z ∧ z ≤ j5 c ∧ (pO c s x = true ∨ ∃ m,Pot c s x m ∧ z + m ≤ j5 c)
theorem xU {c : Cfg} {s : Split} {x : Stt} (h : pO c s x = false) : aY c s x = true:=by
 unfold pO at h
 cases hr : aY c s x with
 | true => rfl
 | false => rw [hr] at h;simp at h
theorem aPH {c : Cfg} {p : Prog} {o : Nat → Int} {s : Split} {i : Nat} {x : Stt} {z : Int} (hs : Spl p o s) (hk : jJ s) (t : bG) (h : aHY c p o s i x z) (hi : i < 400) (hv : pO c s x = false) :
  aHY c p o s (i + 1) (fQ c s t x) 0 ∧ ((fQ c s t x).a.done = x.a.done → (fQ c s t x).e.done = x.e.done → (fQ c s t x).writes.length = x.writes.length → aHY c p o s (i + 1) (fQ c s t x) (z + 1)):=by
 obtain ⟨h1,h2,h3,⟨D,n,k,h4,h5⟩,h6,h7,h8,h9⟩:=h
 have hr:=xU hv
 have hg:=jY (n5 hr)
 have hf : aYP x:=⟨h2,by omega⟩
 have hc:=aRN (c:=c) (t:=t) hk hf
 obtain ⟨⟨D',n',k',a1,a2⟩,a3,a4⟩:=aTU hs t h5 hr (fun e => by have:=h4 e;omega) h6 h2.1
 have hD : ∃ D n k,(∀ e,n e ≤ 2001 * (i + 1)) ∧ Inv c p o D n k (fQ c s t x):=⟨D',n',k',fun e => by have:=a1 e;have:=h4 e;omega,a2⟩
 have hw : (fQ c s t x).writes.length + (fQ c s t x).table.length ≤ 2 * (i + 1):=by have:=hc.2.2.2.2;omega
 refine ⟨⟨hi,hc.2.2.2.1,hw,hD,a3,Int.le_refl _,by omega, ?_⟩,fun e1 e2 e3 => ?_⟩
 ·cases hv' : pO c s (fQ c s t x) with
  | true => exact .inl rfl
  | false => exact .inr ⟨_,aY5 a2 (xU hv') a3,by omega⟩
 ·rcases h9 with h9 | ⟨m,h9,h10⟩
  ·rw [hv] at h9;cases h9
  obtain ⟨m',g1,g2⟩:=a4 hv e1 e2 e3 m h9
  have:=g2.nn (by omega)
  exact ⟨hi,hc.2.2.2.1,hw,hD,a3,by omega,by omega,.inr ⟨m',g2,by omega⟩⟩
theorem aY9 {c : Cfg} (h : dD c = true) : j5 c ≤ 1000000:=by
 have hg:=jY h
 have m1 : (c.cA + 2) * (c.lat + 2) ≤ 66 * 1002:=Int.mul_le_mul (by omega) (by omega) (by omega) (by omega)
 unfold j5
 rw [if_neg (by rw [h];simp)]
 omega
theorem aPI (p : Prog) (n : Int) (c : Cfg) (t : bG) (m : Int) (hp : p.wf) : Pure Try.prog 3 (cons [aL p,.int .i64 n,aU c,bI t,.int .i64 m]) (con (.bool true)):=by
 refine jB mix a43 oS (Nat.le_of_ble_eq_true rfl) ?_
 refine Eq.mpr (bCZ p n c t m _) ?_
 refine ⟨(),.rfl,⟨trivial⟩, ?_⟩
 intro v hv
 subst hv
 refine ⟨(p,n),.rfl,⟨hp⟩, ?_⟩
 intro y hy
 replace hy : y = nZ p n:=hy
 refine ⟨p,.rfl,⟨trivial⟩, ?_⟩
 intro b hb
 replace hb : b = a3L p:=hb
 cases b with
 | false => exact .rfl
 | true =>
 by_cases g1 : (t.dN.length : Int) > 60
 ·simp only [g1,zaC,zaB,zaD,zaI,zaH]
  exact .rfl
 by_cases g2 : (t.cF.length : Int) > 60
 ·simp only [g1,g2,zaC,zaE,zaB,zaD,zaI,zaH]
  exact .rfl
 cases hy2 : y.2 with
 | false =>
  simp only [g1,g2,hy2,zaC,zaE,zaB,zaD,zaI,zaH]
  exact .rfl
 | true =>
 simp only [g1,g2,hy2,zaC,zaE,zaB,zaD,zaI,zaH]
 refine ⟨c,.rfl,⟨trivial⟩, ?_⟩
 intro w hw
 replace hw : w = dD c:=hw
 cases w with
 | false => exact .rfl
 | true =>
 by_cases g3 : m < 0
 ·simp only [g3,zaC,zaB,zaD,zaI,zaH]
  exact .rfl
 by_cases g4 : m > 400
 ·simp only [g3,g4,zaC,zaE,zaB,zaD,zaI,zaH]
  exact .rfl
 simp only [g3,g4,zaC,zaE,zaB,zaD,zaI,zaH]
 refine ⟨p,.rfl,⟨hp⟩, ?_⟩
 intro x hx
 replace hx : x = kS p:=hx
 subst hx
 refine ⟨c,.rfl,⟨trivial⟩, ?_⟩
 intro q hq
 replace hq : q = j5 c:=hq
 subst hq
 have hsp : ∃ o,Spl p o y.1:=by
  rw [hy] at hy2 ⊢
  exact aTX hy2
 obtain ⟨o,hs⟩:=hsp
 have hk:=hs.ok hp
 have hg:=jY hw.symm
 have hfi:=aTV (c:=c) hs
 have ef : kS p = aE7 p:=by unfold kS;rw [if_pos hs.rp]
 have hti : Tim (kS p) (c.mul + c.div):=⟨fun r a b => by have:=hfi.2.a r a b;omega,fun r a b => by have:=hfi.2.e r a b;omega,by have:=hfi.2.wa;omega,by have:=hfi.2.we;omega⟩
 have hst : aHY c p o y.1 0 (kS p) 0:=by
  refine ⟨Nat.zero_le _,ef ▸ aY8 hp hs.rp,by rw [ef];exact zaF _,⟨_,_,_,fun e => Nat.zero_le _,hfi.1⟩,hti,Int.le_refl _, ?_, ?_⟩
  ·unfold j5
   rw [if_neg (by rw [← hw];simp)]
   have m2 : 0 ≤ (c.cA + 2) * (c.lat + 2):=Int.mul_nonneg (by omega) (by omega)
   omega
  ·cases hv' : pO c y.1 (kS p) with
   | true => exact .inl rfl
   | false => exact .inr ⟨_,aY5 hfi.1 (xU hv') hti,by omega⟩
 refine fS mix a43 (fun i : Nat × Stt × Int => bCY c t y.1 i.2.1 m (j5 c) i.2.2 i.1) (fun i => i.1 ≤ m.toNat ∧ aHY c p o y.1 i.1 i.2.1 i.2.2) (fun i => m.toNat - i.1) (0,kS p,0) ⟨Nat.zero_le _,hst⟩ (.of (dG ⟨rfl,rfl,rfl,rfl,rfl,rfl,rfl,rfl,trivial⟩ ⟨rfl,rfl,rfl,rfl,trivial⟩ (zaF _))) ?_
 rintro ⟨i,x,z⟩ ⟨hi,hinv⟩
 replace hi : i ≤ m.toNat:=hi
 replace hinv : aHY c p o y.1 i x z:=hinv
 refine Eq.mpr (bC0 c t y.1 x m (j5 c) z i _ _) ?_
 by_cases hlt : (i : Int) < m
 case neg =>
  simp only [hlt,zaE,zaD,zaH,zaB]
  exact .rfl
 simp only [hlt,zaC,zaB]
 have hb:=hk.1
 refine ⟨(c,y.1,x),.rfl,⟨hinv.2.1,hb⟩, ?_⟩
 intro v hv
 replace hv : v = pO c y.1 x:=hv
 cases v with
 | true => exact .rfl
 | false =>
 simp only [zaH,zaB]
 refine ⟨(c,y.1,t,x),.rfl,⟨⟨hinv.2.1,by have:=hinv.1;have:=hinv.2.2.1;show x.writes.length + x.table.length ≤ 900000;omega⟩,hk⟩, ?_⟩
 intro x' hx'
 replace hx' : x' = fQ c y.1 t x:=hx'
 subst hx'
 obtain ⟨s1,s2⟩:=aPH hs hk t hinv (by omega) hv.symm
 have hz:=hinv.2.2.2.2.2
 have hz0 : ¬ (0 : Int) > j5 c:=by omega
 have w1 : IntKind.i64.wrap ((i : Int) + 1) = ((i + 1 : Nat) : Int):=wrap_i64 (by omega) (by omega)
 have wz : IntKind.i64.wrap (z + 1) = z + 1:=wrap_i64 (by omega) (by have:=hinv.2.2.2.2.2.2.1;have:=aY9 hw.symm;omega)
 by_cases d1 : (fQ c y.1 t x).a.done = x.a.done
 case neg =>
  simp only [w1,hz0,d1,zaM,zaC,zaE,zaB,zaD,zaI]
  exact ⟨(i + 1,fQ c y.1 t x,0),⟨show i + 1 ≤ m.toNat by omega,s1⟩,.ofL (rT ⟨bS rfl,bS rfl,bS rfl,bS rfl,bS rfl,bS rfl,bS rfl,bS rfl,trivial⟩ ⟨rfl,rfl,rfl,rfl,trivial⟩ (zaF _) rfl),show m.toNat - (i + 1) < m.toNat - i by omega⟩
 by_cases d2 : (fQ c y.1 t x).e.done = x.e.done
 case neg =>
  simp only [w1,hz0,d1,d2,zaM,zaN,zaC,zaE,zaB,zaD,zaI,zaH]
  exact ⟨(i + 1,fQ c y.1 t x,0),⟨show i + 1 ≤ m.toNat by omega,s1⟩,.ofL (rT ⟨bS rfl,bS rfl,bS rfl,bS rfl,bS rfl,bS rfl,bS rfl,bS rfl,trivial⟩ ⟨rfl,rfl,rfl,rfl,trivial⟩ (zaF _) rfl),show m.toNat - (i + 1) < m.toNat - i by omega⟩
 by_cases d3 : ((fQ c y.1 t x).writes.length : Int) = (x.writes.length : Int)
 case neg =>
  simp only [w1,hz0,d1,d2,d3,zaM,zaN,zaC,zaE,zaB,zaD,zaI,zaH]
  exact ⟨(i + 1,fQ c y.1 t x,0),⟨show i + 1 ≤ m.toNat by omega,s1⟩,.ofL (rT ⟨bS rfl,bS rfl,bS rfl,bS rfl,bS rfl,bS rfl,bS rfl,bS rfl,trivial⟩ ⟨rfl,rfl,rfl,rfl,trivial⟩ (zaF _) rfl),show m.toNat - (i + 1) < m.toNat - i by omega⟩
 have s3:=s2 d1 d2 (by omega)
 have hz1 : ¬ z + 1 > j5 c:=by have:=s3.2.2.2.2.2.2.1;omega
 simp only [w1,wz,hz1,d1,d2,d3,zaN,zaC,zaE,zaB,zaD,zaI,zaH]
 exact ⟨(i + 1,fQ c y.1 t x,z + 1),⟨show i + 1 ≤ m.toNat by omega,s3⟩,.ofL (rT ⟨bS rfl,bS rfl,bS rfl,bS rfl,bS rfl,bS rfl,bS rfl,bS rfl,trivial⟩ ⟨rfl,rfl,rfl,rfl,trivial⟩ (zaF _) rfl),show m.toNat - (i + 1) < m.toNat - i by omega⟩
end Go.Proofs.Ytooojfbfobmkfaa
namespace Go.Proofs.Ytooojfbfobmkfaa.aFR
open Go.Ra Go.ChangeShapes Go.WideShapes Go.ChangeAt Go.RowKit
open Go.ChangeMaps (open_string shut_string)
theorem own : ownKnob Try.prog.godebug = none:=by kernel_rfl
def Ts : List Ty:=[aOO,.int .i64,aWB,aEP,.int .i64]
theorem law (xs : List AV) (h : Ty.aD3 Ts xs) : Pure Try.prog 3 xs (.sc (.bool true)):=by
 simp only [Ts,Ty.aD3] at h
 obtain ⟨a,_,rfl,ha,b,_,rfl,hb,d,_,rfl,hd,e,_,rfl,he,f,_,rfl,hf,rfl⟩:=h
 obtain ⟨p,rfl,hp⟩:=aWD _ ha
 obtain ⟨n,rfl,_⟩:=has_i64' _ hb
 obtain ⟨c,rfl,_⟩:=a0H _ hd
 obtain ⟨t,rfl,_⟩:=aON _ he
 obtain ⟨m,rfl,_⟩:=has_i64' _ hf
 exact aPI p n c t m hp
set_option maxRecDepth 100000 in
theorem lifted (os : Os) (started : os.Started) (H : Type) (enc : TypeId × Value → H) :
  ReturnsInHanded {} Try.checked os 3 .any (Rows.boundQuietSpec.pre6 enc Try.prog Try.f3 Rows.boundQuietRow.domain false) (Rows.boundQuietSpec.post enc Try.prog Try.f3 false true false false):=by
 refine returnsInHanded_of_change_sized (C:=Try.checked) own started (by kernel_rfl) Try.func3
  (ChangeSpec.witness6 (enc:=enc) (C:=Try.checked) false ⟨#[],#[.agg #[.slice none 0 0,.int .i64 0,.slice none 0 0],.int .i64 0,.agg #[.int .i64 0,.int .i64 0,.int .i64 0,.int .i64 0,.int .i64 0,.int .i64 0,.int .i64 0,.int .i64 0,.int .i64 0,.int .i64 0,.int .i64 0,.int .i64 0],.agg #[.slice none 0 0,.slice none 0 0],.int .i64 0],[]⟩ 8 (by kernel_rfl) (by kernel_rfl) (by kernel_rfl) (by kernel_rfl)) ?_
 intro W base args ds gs before hval hW hcnd hsz _
 refine law_post (s:=Rows.boundQuietSpec) (n:=60) (Ts:=Ts) (ts:=[25,3,27,30,3]) (tb:=4) (by kernel_rfl) rfl rfl Try.underlying4 rfl (by kernel_rfl) (by kernel_rfl) (fun ds hds => ?_) law W base args ds gs before hval hW hsz
 match ds,hds with
 | [d1,d2,d3,d4,d5],_ => exact ⟨rfl,rfl,rfl⟩
theorem bDQ : Rows.boundQuietRow.holds Try.pinned (OpenSpec.ofChange Rows.boundQuietSpec) :=
 OpenClaim.holds_of_wide 3 Try.f3 rfl rfl rfl rfl rfl rfl rfl ⟨rfl,rfl,rfl,rfl,rfl⟩ rfl rfl rfl rfl rfl (by kernel_rfl) Try.func3 (by kernel_rfl)
  (of_decide_eq_true (by kernel_rfl)) (by unfold Func.isWrapper;first | (rw [if_pos (by decide +kernel)];kernel_rfl) | (rw [if_neg (by decide +kernel)];exact ⟨rfl,rfl⟩))
  (fun os started H enc _ => lifted os started H enc)
theorem proved : Rows.BoundQuietSaid:=bDQ
end Go.Proofs.Ytooojfbfobmkfaa.aFR
namespace Go.Proofs.Ytooojfbfobmkfaa
theorem boundQuiet_holds : Rows.BoundQuietSaid:=aFR.proved
end Go.Proofs.Ytooojfbfobmkfaa
#print axioms Go.Proofs.Ytooojfbfobmkfaa.boundQuiet_holds
