/- Texts put together. -/
import Derived.Laws.Strings
import Derived.KernelRfl
import GoSem.ClaimJoined
import Derived.ProofKit
import Derived.OpenShut
import Derived.WideShapes
import Derived.Carry
import Derived.ChangeOld
import Derived.SizedLaws
import Derived.Test.YtooojfbfobmkfaaProg
import Derived.Test.YtooojfbfobmkfaaPk1
namespace Go.Ra
open Go.RowKit (Below)
set_option linter.unusedVariables false
set_option linter.unusedSimpArgs false
def mE (q : Nat → Bool) (C : Orc) : Prop:=(∀ f args σ v τ,C f args σ v τ → q f = true → τ.hl = σ.hl ∧ τ.hb = σ.hb ∧ τ.n = σ.n) ∧
 (∀ f args σ v τ,C f args σ v τ → q (f + 1000000) = true → (∀ i,i < σ.n → τ.H i = σ.H i) ∧ σ.n ≤ τ.n) ∧
 ∀ f args σ v τ,C f args σ v τ → q f = true → ∀ (σ' : St) (G : Gh) (w : World) (U : Nat → Prop),Wf G w σ'.H U → (∀ a ∈ args,aIB a = true ∨ ∃ u,bL w G.F G.ρ a u) → (∀ i,G.ρ i ≠ none → σ.H i = none ∨ σ'.H i = σ.H i) → C f args σ' v σ'
theorem Stp.heap {q : Nat → Bool} {C : Orc} (hq : mE q C) {σ τ : St} {g : AG} {v : AV} (he : g.o.eff q = false) (h : Stp C σ g v τ) : τ.hl = σ.hl ∧ τ.hb = σ.hb ∧ τ.n = σ.n:=by
 cases h with
 | op hp hs => rw [aN1 he hs];exact ⟨rfl,rfl,rfl⟩
 | call hp hc =>
  simp only [AOp.eff,Bool.not_eq_false'] at he
  have:=hq.1 _ _ _ _ _ hc he
  exact this
 | mD hp hx hc h => exact h
 | j6 hp hc => exact ⟨rfl,rfl,rfl⟩
 | skip hp => exact ⟨rfl,rfl,rfl⟩
theorem Pass.env {σ τ : St} (h : τ.env = σ.env) {g : Option (Nat × Bool)} {y : Bool} (hp : Pass σ g y) : Pass τ g y:=by
 unfold Pass at *
 rw [h];exact hp
theorem Stp.pure {q : Nat → Bool} {C : Orc} {σ τ : St} {g : AG} {v : AV} (he : g.o.aA6 q = false) (h : Stp C σ g v τ) (hl : List (Nat × Option AV)) (hb : Nat → Option AV) (n : Nat) : Stp C ⟨σ.env,hl,hb,n⟩ g v ⟨σ.env,hl,hb,n⟩:=by
 cases h with
 | op hp hs => exact .op (Pass.env rfl hp) (aN2 he hs hl hb n)
 | call hp hc => simp [AOp.aA6,AOp.eff] at he
 | mD hp hx hc _ => simp [AOp.aA6,AOp.eff] at he
 | j6 hp hc => simp [AOp.aA6,AOp.eff] at he
 | skip hp => exact .skip (Pass.env rfl hp)
structure Trail (C : Orc) (l : List AG) (σ : St) (S : Nat → St) (V : Nat → AV) (T : Nat → St) : Prop where
 zero : S 0 = σ
 step : ∀ k g,l[k]? = some g → Stp C (S k) g (V k) (T k) ∧ S (k + 1) = (T k).put g.d (V k)
theorem aKV {C : Orc} {K : St → Prop} : ∀ {l : List AG} {σ : St},wpOps C l σ K → ∃ S V T,Trail C l σ S V T ∧ K (S l.length)
 | [],σ,h => ⟨fun _ => σ,fun _ => .unk,fun _ => σ,⟨rfl,fun k g hk => by simp at hk⟩,h⟩
 | ag :: l,σ,h => by
  obtain ⟨v,τ,h1,h2⟩:=aDI h
  obtain ⟨S,V,T,ht,hK⟩:=aKV h2
  refine ⟨fun k => match k with | 0 => σ | k + 1 => S k,fun k => match k with | 0 => v | k + 1 => V k,fun k => match k with | 0 => τ | k + 1 => T k,⟨rfl,fun k g hk => ?_⟩,hK⟩
  cases k with
  | zero =>
   simp only [List.getElem?_cons_zero,zaA] at hk
   subst hk
   exact ⟨h1,ht.zero⟩
  | succ k => exact ht.step k g (by simpa using hk)
theorem aPT {es b : Nat} {s x : AX} {σ τ : St} {v : AV} (h : aN (.app es b s x) σ = some (v,τ)) : (∃ t,τ = σ.new t) ∨ ∃ t id p o k n m,σ.ev s = .sl id p o k n m ∧ τ = (σ.n7 id none).new t:=by
 simp only [aN] at h
 split at h
 ·unfold aRW at h
  split at h
  ·split at h
   ·simp only [zaA,zaJ] at h
    exact .inl ⟨_,h.2.symm⟩
   ·cases h
  ·rename_i hev
   split at h
   ·split at h
    ·simp only [zaA,zaJ] at h
     exact .inr ⟨_,_,_,_,_,_,_,hev,h.2.symm⟩
    ·cases h
   ·cases h
  ·cases h
 ·cases h
theorem aN3 {σ : St} {k i : Nat} {t : Option AV} (h : i ≠ k) : (σ.n7 k t).H i = σ.H i:=by
 show look (sI σ.hl k t) σ.hb i = look σ.hl σ.hb i
 rw [uW,bU _ _ h]
theorem a3R {σ : St} {i : Nat} {t : AV} (h : i < σ.n) : (σ.new t).H i = σ.H i:=by
 show look ((σ.n,some t) :: σ.hl) σ.hb i = look σ.hl σ.hb i
 simp only [look]
 rw [if_neg (by omega)]
theorem Stp.apart {C : Orc} {σ τ : St} {g : AG} {v : AV} {t i : Nat} (h : Stp C σ g v τ) (he : efN g = some t) (hne : oU (get σ.env t) ≠ some i) (hi : i < σ.n) : τ.H i = σ.H i ∧ σ.n ≤ τ.n:=by
 cases h with
 | skip hp => exact ⟨rfl,zaF _⟩
 | call hp hc => simp [efN] at he
 | mD hp hx hc h => simp [efN] at he
 | j6 hp hc => simp [efN] at he
 | op hp hs =>
  unfold efN at he
  split at he
  ·rename_i n u x e
   simp only at e
   simp only [zaA] at he
   subst e he
   simp only [aN,show σ.ev (.t u) = get σ.env u from rfl] at hs
   generalize get σ.env u = a at hs hne
   generalize σ.ev x = y at hs
   cases a <;> try (cases hs;done)
   simp only at hs
   split at hs
   ·split at hs
    ·split at hs
     ·simp only [zaA,zaJ] at hs
      obtain ⟨_,rfl⟩:=hs
      exact ⟨aN3 fun h => hne (by rw [h];rfl),zaF _⟩
     ·cases hs
    ·cases hs
   ·cases hs
  ·rename_i es b u x e
   simp only at e
   simp only [zaA] at he
   subst e he
   rcases aPT hs with ⟨t,rfl⟩ | ⟨t,id,p,o,k,n,m,he2,rfl⟩
   ·exact ⟨a3R hi,Nat.le_succ _⟩
   ·simp only [St.ev] at he2
    rw [he2] at hne
    refine ⟨?_,Nat.le_succ _⟩
    rw [a3R (σ:=σ.n7 id none) hi]
    exact aN3 fun h => hne (by rw [h];rfl)
  ·rename_i es u x e
   simp only at e
   simp only [zaA] at he
   subst e he
   simp only [aN,show σ.ev (.t u) = get σ.env u from rfl] at hs
   generalize get σ.env u = a at hs hne
   generalize σ.row es (σ.ev x) = y at hs
   cases a <;> try (cases hs;done)
   split at hs
   ·rename_i hev
    simp only [AV.sl.injEq] at hev
    obtain ⟨rfl,_⟩:=hev
    split at hs
    ·split at hs
     ·simp only [zaA,zaJ] at hs
      obtain ⟨_,rfl⟩:=hs
      exact ⟨aN3 fun h => hne (by rw [h];rfl),zaF _⟩
     ·cases hs
    ·cases hs
   ·cases hs
  ·cases he
section
variable {P : Program} {z : ZM} {q : Nat → Bool} {C : Orc} {nt : Nat} {ops : Array Oper} {l : List AG} {σ : St} {S : Nat → St} {V : Nat → AV} {T : Nat → St}
theorem aPU (hm : ops.toList.mapM (gZ z P nt ops) = some l) {k : Nat} {o : Oper} (hk : ops[k]? = some o) : ∃ g,l[k]? = some g ∧ gZ z P nt ops o = some g :=
 aDP hm k o (by simpa using hk)
theorem aBX (hm : ops.toList.mapM (gZ z P nt ops) = some l) {k : Nat} {g : AG} (hk : l[k]? = some g) : ∃ o,ops[k]? = some o ∧ gZ z P nt ops o = some g:=by
 have hlt:=(List.getElem?_eq_some_iff.1 hk).1
 rw [sS hm] at hlt
 have hlt' : k < ops.size:=by simpa using hlt
 obtain ⟨g',h1,h2⟩:=aPU hm (Array.getElem?_eq_getElem hlt')
 rw [hk] at h1
 simp only [zaA] at h1
 subst h1
 exact ⟨_,Array.getElem?_eq_getElem hlt',h2⟩
theorem Trail.heap (hq : mE q C) (ht : Trail C l σ S V T) {a : Nat} : ∀ {b : Nat},a ≤ b → b ≤ l.length → (∀ j g,a ≤ j → j < b → l[j]? = some g → g.o.eff q = false) → (S b).hl = (S a).hl ∧ (S b).hb = (S a).hb ∧ (S b).n = (S a).n:=by
 intro b
 induction b with
 | zero =>
      intro h _ _;have : a = 0:=by omega
      subst this;exact ⟨rfl,rfl,rfl⟩
 | succ b ih =>
  intro h hb he
  by_cases hab : a = b + 1
  ·subst hab;exact ⟨rfl,rfl,rfl⟩
  ·obtain ⟨i1,i2,i3⟩:=ih (by omega) (by omega) fun j g h1 h2 => he j g h1 (by omega)
   have hlt : b < l.length:=by omega
   obtain ⟨h1,h2⟩:=ht.step b _ (List.getElem?_eq_getElem hlt)
   obtain ⟨j1,j2,j3⟩:=h1.heap hq (he b _ (by omega) (by omega) (List.getElem?_eq_getElem hlt))
   rw [h2,wV,wW,aDO]
   exact ⟨j1.trans i1,j2.trans i2,j3.trans i3⟩
theorem Trail.grow (hq : mE q C) (ht : Trail C l σ S V T) {a : Nat} : ∀ {b : Nat},a ≤ b → b ≤ l.length → (∀ j g,a ≤ j → j < b → l[j]? = some g → g.o.eff q = true → alC q g = true) → (∀ i,i < (S a).n → (S b).H i = (S a).H i) ∧ (S a).n ≤ (S b).n:=by
 intro b
 induction b with
 | zero =>
      intro h _ _;have : a = 0:=by omega
      subst this;exact ⟨fun _ _ => rfl,zaF _⟩
 | succ b ih =>
  intro h hb he
  by_cases hab : a = b + 1
  ·subst hab;exact ⟨fun _ _ => rfl,zaF _⟩
  ·obtain ⟨i1,i2⟩:=ih (by omega) (by omega) fun j g h1 h2 => he j g h1 (by omega)
   have hlt : b < l.length:=by omega
   have hgb:=List.getElem?_eq_getElem hlt
   obtain ⟨h1,h2⟩:=ht.step b _ hgb
   have hH : ∀ (τ : St) (d : Option Nat) (v : AV),(τ.put d v).H = τ.H:=fun τ d v => by unfold St.H;rw [wV,wW]
   have hstep : (∀ i,i < (S b).n → (T b).H i = (S b).H i) ∧ (S b).n ≤ (T b).n:=by
    cases hej : l[b].o.eff q with
    | false =>
     obtain ⟨j1,j2,j3⟩:=h1.heap hq hej
     exact ⟨fun i _ => by unfold St.H;rw [j1,j2],by rw [j3];exact zaF _⟩
    | true =>
     have hal:=he b _ (by omega) (by omega) hgb hej
     generalize l[b] = g at *
     generalize T b = τb at *
     generalize V b = vb at *
     clear h2
     obtain ⟨d,ao,gd⟩:=g
     have hnew : ∀ (t : AV) (i : Nat),i < (S b).n → ((S b).new t).H i = (S b).H i:=fun t i hi => by
      show look (((S b).n,some t) :: (S b).hl) (S b).hb i = look (S b).hl (S b).hb i
      simp only [look]
      rw [if_neg (by omega)]
     unfold alC at hal
     split at hal
     ·rename_i x e
      simp only at e
      subst e
      cases h1 with
      | op hp hs =>
       simp only [aN] at hs
       split at hs
       ·simp only [zaA,zaJ] at hs
        obtain ⟨_,rfl⟩:=hs
        exact ⟨hnew _,Nat.le_succ _⟩
       ·cases hs
      | skip hp => exact ⟨fun _ _ => rfl,zaF _⟩
     ·rename_i e
      simp only at e
      subst e
      cases h1 with
      | op hp hs =>
       simp only [aN] at hs
       split at hs
       ·split at hs
        ·simp only [zaA,zaJ] at hs
         obtain ⟨_,rfl⟩:=hs
         exact ⟨hnew _,Nat.le_succ _⟩
        ·cases hs
       ·cases hs
      | skip hp => exact ⟨fun _ _ => rfl,zaF _⟩
     ·rename_i e
      simp only at e
      subst e
      cases h1 with
      | op hp hs =>
       rcases aPT hs with ⟨t,rfl⟩ | ⟨t,id,p,o,k,n,m,he2,rfl⟩
       ·exact ⟨hnew _,Nat.le_succ _⟩
       ·cases he2
      | skip hp => exact ⟨fun _ _ => rfl,zaF _⟩
     ·rename_i f args e
      simp only at e
      subst e
      cases h1 with
      | op hp hs => simp [aN] at hs
      | call hp hc =>
       have:=hq.2.1 _ _ _ _ _ hc hal
       exact this
      | skip hp => exact ⟨fun _ _ => rfl,zaF _⟩
     ·cases hal
   rw [h2,aDO]
   refine ⟨fun i hi => ?_,by omega⟩
   rw [hH,hstep.1 i (by omega)]
   exact i1 i hi
theorem Trail.aKW (hq : mE q C) (ht : Trail C l σ S V T) {a i : Nat} (hi : i < (S a).n) : ∀ {b : Nat},a ≤ b → b ≤ l.length → (∀ j g,a ≤ j → j < b → l[j]? = some g → g.o.eff q = true → alC q g = true ∨ ∃ t,efN g = some t ∧ oU (get (S j).env t) ≠ some i) → (S b).H i = (S a).H i ∧ (S a).n ≤ (S b).n:=by
 intro b
 induction b with
 | zero =>
      intro h _ _;have : a = 0:=by omega
      subst this;exact ⟨rfl,zaF _⟩
 | succ b ih =>
  intro h hb he
  by_cases hab : a = b + 1
  ·subst hab;exact ⟨rfl,zaF _⟩
  ·obtain ⟨i1,i2⟩:=ih (by omega) (by omega) fun j g h1 h2 => he j g h1 (by omega)
   have hlt : b < l.length:=by omega
   have hgb:=List.getElem?_eq_getElem hlt
   have hone : (S (b + 1)).H i = (S b).H i ∧ (S b).n ≤ (S (b + 1)).n:=by
    cases hej : l[b].o.eff q with
    | false =>
     have:=ht.heap hq (a:=b) (b:=b + 1) (by omega) hb fun j g h1 h2 h3 => by
      have : j = b:=by omega
      subst this
      rw [hgb] at h3
      simp only [zaA] at h3
      subst h3
      exact hej
     exact ⟨by unfold St.H;rw [this.1,this.2.1],by rw [this.2.2];exact zaF _⟩
    | true =>
     rcases he b _ (by omega) (by omega) hgb hej with hal | ⟨t,h1,h2⟩
     ·have:=ht.grow hq (a:=b) (b:=b + 1) (by omega) hb fun j g h1 h2 h3 _ => by
       have : j = b:=by omega
       subst this
       rw [hgb] at h3
       simp only [zaA] at h3
       subst h3
       exact hal
      exact ⟨this.1 i (by omega),this.2⟩
     ·obtain ⟨h3,h4⟩:=ht.step b _ hgb
      obtain ⟨h5,h6⟩:=h3.apart h1 h2 (by omega)
      rw [h4,aDO]
      exact ⟨by unfold St.H;rw [wV,wW];exact h5,h6⟩
   exact ⟨hone.1.trans i1,Nat.le_trans i2 hone.2⟩
theorem Trail.stay (hm : ops.toList.mapM (gZ z P nt ops) = some l) (ht : Trail C l σ S V T) {k t : Nat} (hs : stays ops k t = true) : ∀ {b : Nat},k ≤ b → b ≤ l.length → get (S b).env t = get (S k).env t:=by
 intro b
 induction b with
 | zero =>
      intro h _;have : k = 0:=by omega
      subst this;rfl
 | succ b ih =>
  intro h hb
  by_cases hab : k = b + 1
  ·subst hab;rfl
  ·have hlt : b < l.length:=by omega
   have hgb:=List.getElem?_eq_getElem hlt
   obtain ⟨h1,h2⟩:=ht.step b _ hgb
   obtain ⟨o,ho,htr⟩:=aBX hm hgb
   rw [h2,aIC,h1.env (fG htr).1,ih (by omega) (by omega)]
   rw [if_neg]
   intro hd
   have:=mJ hs b (Array.getElem?_eq_some_iff.1 ho).1
   rw [ho] at this
   simp only [zaV,zaK,Bool.not_eq_true'] at this
   rcases this with h3 | h3
   ·omega
   ·rw [← (fG htr).2.2.1,hd] at h3
    simp [aBW] at h3
theorem Trail.env (hm : ops.toList.mapM (gZ z P nt ops) = some l) (ht : Trail C l σ S V T) (t : Nat) : ∀ {k : Nat},k ≤ l.length → (∃ j g,j < k ∧ l[j]? = some g ∧ g.d = some t ∧ get (S k).env t = V j) ∨
  ((∀ j g,j < k → l[j]? = some g → g.d ≠ some t) ∧ get (S k).env t = get σ.env t):=by
 intro k
 induction k with
 | zero => intro _;exact .inr ⟨fun j g h => by omega,by rw [ht.zero]⟩
 | succ k ih =>
  intro hk
  have hlt : k < l.length:=by omega
  have hg:=List.getElem?_eq_getElem hlt
  obtain ⟨h1,h2⟩:=ht.step k _ hg
  obtain ⟨o,ho,htr⟩:=aBX hm hg
  have henv:=h1.env (fG htr).1
  rw [h2,aIC]
  by_cases hd : l[k].d = some t
  ·rw [if_pos hd]
   exact .inl ⟨k,_,by omega,hg,hd,rfl⟩
  ·rw [if_neg hd,henv]
   rcases ih (by omega) with ⟨j,g,h3,h4,h5,h6⟩ | ⟨h3,h4⟩
   ·exact .inl ⟨j,g,by omega,h4,h5,h6⟩
   ·refine .inr ⟨fun j g hj hjg => ?_,h4⟩
    by_cases hjk : j = k
    ·subst hjk
     rw [hg] at hjg
     simp only [zaA] at hjg
     subst hjg
     exact hd
    ·exact h3 j g (by omega) hjg
def DyP (ops : Array Oper) (l : List AG) (ps : List (Nat × Nat)) (r e : Nat) : Prop :=
 ∃ x g y h p,ops[r]? = some x ∧ l[r]? = some g ∧ ops[e]? = some y ∧ l[e]? = some h ∧ aKU ops r x g e y h = some p ∧ p ∈ ps
section
variable {fr : Fr} {G : Gh} {w : World}
theorem Nxt.below {H : Nat → Option AV} {U : Nat → Prop} {w' : World} (hw : Wf G w H U) (hf : sO fr G w H) (hb : Below w.heap.size w w') {F' : Nat → Prop} (h1 : ∀ b,G.F b → F' b) (h2 : ∀ b,F' b → (G.F b ∨ w.heap.size ≤ b) ∧ b < w'.heap.size) :
  Nxt fr G w ⟨G.ρ,F'⟩ w' H U:=by
 have hx : Ext G.F w w':=⟨fun b hF => hb.block b (hw.fsz b hF),fun b cur e h => ⟨cur,by rw [hb.block b (lt_of_block h)];exact h,rfl⟩⟩
 have hs:=hf.size
 refine ⟨⟨hw.free,fun b h => (h2 b h).2,fun i t hi => ?_,hw.dis⟩,⟨hb.os.trans hf.os,hb.tape.trans hf.tape,hb.output.trans hf.output,Nat.le_trans hs hb.size,fun b hb1 hS => ?_,hf.ext.trans hx hf.f0,fun b h => h1 b (hf.f0 b h),fun b h => ?_,hf.loc⟩,hx,h1,fun _ _ h => h⟩
 ·rcases hw.blk i t hi with ⟨b,o,cs,cur,e,h3,h4,h5,h6,h7⟩ | h3
  ·have hlt:=lt_of_block h5
   refine .inl ⟨b,o,cs,cur,e,h3,h4.mono hx h1 (fun _ _ h => h),by rw [hb.block b hlt];exact h5,h6.pY (hb.block b hlt),fun h => ?_⟩
   rcases (h2 b h).1 with h | h
   ·exact h7 h
   ·omega
  ·exact .inr h3
 ·rw [hb.block b (by omega)];exact hf.same b hb1 hS
 ·rcases (h2 b h).1 with h | h
  ·exact hf.sJ b h
  ·exact .inr (.inr (by omega))
end
def FlP (q : Nat → Bool) (ops : Array Oper) (l : List AG) (B : Nat → Nat → Prop) (k : Nat) : Prop :=
 ∃ o d z,ops[k]? = some o ∧ l[k]? = some ⟨d,.box (.c z),none⟩ ∧ z.flat = true ∧ eK o = [] ∧ o.looksAt ops = [] ∧ ∀ m x,ops[m]? = some x → k ∈ eK x → ∀ j g,j < k → l[j]? = some g → g.o.eff q = true → B m j
structure OkR (q : Nat → Bool) (ops : Array Oper) (l : List AG) (ps : List (Nat × Nat)) (B : Nat → Nat → Prop) (f0 : Option Nat) : Prop where
 flo : ∀ k,f0 = some k → FlP q ops l B k
 aZU : ∀ (k : Nat) (o : Oper),ops[k]? = some o → ∀ e ∈ eK o,e < k
 bits : ∀ (k j : Nat) (y : Oper),ops[k]? = some y → j < k → B k j → ∃ e ∈ eK y,e = j ∨ (j < e ∧ B e j)
 j8 : ∀ (k j : Nat) (x y : Oper),ops[k]? = some y → ops[j]? = some x → j < k → aDK ops x y = true → B k j
 mem : ∀ (k j : Nat) (x y : Oper) (g h : AG),ops[k]? = some y → l[k]? = some h → ops[j]? = some x → l[j]? = some g → j < k → aDL q ops x g y h = true → (B k j ∨ (f0 = some k ∧ g.o.eff q = true)) ∨ DyP ops l ps j k ∨ DyP ops l ps k j
 apart : ∀ (k j : Nat) (x y : Oper),ops[k]? = some y → ops[j]? = some x → j < k → rA x.dst y.dst = true
theorem aU3 {ps : List (Nat × Nat)} (h : okR q ops l = some ps) : ∃ B f0,OkR q ops l ps B f0:=by
 refine ⟨fun k j => ((Region.before ops).getD k 0).testBit j = true,aST (aPS q ops l (Region.before ops)) ops.size, ?_⟩
 unfold okR at h
 simp only at h
 split at h
 ·rename_i hall
  generalize hf0 : aST (aPS q ops l (Region.before ops)) ops.size = f0 at h
  have h1 : ∀ k,k < ops.size → ∀ j,j < k → ∃ a,aN0 q ops l (Region.before ops) f0 k j = some a ∧ ∀ x ∈ a,x ∈ ps:=fun k hk j hj => by
   obtain ⟨a,h1,h2⟩:=aA7 h k hk
   obtain ⟨b,h3,h4⟩:=aA7 h1 j hj
   exact ⟨b,h3,fun x hx => h2 x (h4 x hx)⟩
  have h2 : ∀ (k j : Nat) (y : Oper),ops[k]? = some y → j < k → ∃ h x g,l[k]? = some h ∧ ops[j]? = some x ∧ l[j]? = some g ∧
    (((Region.before ops).getD k 0).testBit j = true → ∃ e ∈ eK y,e = j ∨ (j < e ∧ ((Region.before ops).getD e 0).testBit j = true)) ∧ (aDK ops x y = true → ((Region.before ops).getD k 0).testBit j = true) ∧
    (aDL q ops x g y h = true → (((Region.before ops).getD k 0).testBit j = true ∨ (f0 = some k ∧ g.o.eff q = true)) ∨ DyP ops l ps j k ∨ DyP ops l ps k j) ∧ rA x.dst y.dst = true:=fun k j y hy hj => by
   have hk : k < ops.size:=(Array.getElem?_eq_some_iff.1 hy).1
   obtain ⟨pl,h3,hps⟩:=h1 k hk j hj
   unfold aN0 at h3
   split at h3
   ·rename_i y' h' x g' e1 e2 e3 e4
    rw [hy] at e1
    simp only [zaA] at e1
    subst e1
    split at h3
    ·rename_i hc
     simp only [zaG,zaV,Bool.not_eq_true',List.any_eq_true,beq_iff_eq,zaK] at hc
     obtain ⟨⟨h4,h5⟩,h6⟩:=hc
     refine ⟨h',x,g',e2,e3,e4,fun hb => ?_,fun hn => ?_,fun hn => ?_,h6⟩
     ·rcases h4 with h4 | h4
      ·rw [hb] at h4;cases h4
      ·exact h4
     ·rcases h5 with h5 | h5
      ·exact h5
      ·rw [hn] at h5;cases h5
     ·split at h3
      ·rename_i hb
       simp only [zaV,Bool.not_eq_true',zaG,beq_iff_eq] at hb
       rcases hb with (hb | hb) | hb
       ·exact .inl (.inl hb)
       ·rw [hn] at hb;cases hb
       ·exact .inl (.inr hb)
      ·split at h3
       ·rename_i p hd
        simp only [zaA] at h3
        exact .inr (.inl ⟨_,_,_,_,p,e3,e4,hy,e2,hd,hps p (by rw [← h3];simp)⟩)
       ·rename_i p hd _
        simp only [zaA] at h3
        exact .inr (.inr ⟨_,_,_,_,p,hy,e2,e3,e4,hd,hps p (by rw [← h3];simp)⟩)
       ·cases h3
    ·cases h3
   ·cases h3
  refine ⟨fun k hk => ?_,fun k o ho e he => ?_,fun k j y hy hj hb => ?_,fun k j x y hy hx hj hn => ?_,fun k j x y g h hy hh hx hg hj hn => ?_,fun k j x y hy hx hj => ?_⟩
  ·have h3:=aGW (hf0.trans hk)
   unfold aPS at h3
   split at h3
   ·rename_i o d z e1 e2
    simp only [zaG,List.isEmpty_iff] at h3
    refine ⟨o,d,z,e1,e2,h3.1.1.1,h3.1.1.2,h3.1.2,fun m x hx hm j g hj hg he => ?_⟩
    have h4:=mJ h3.2 m (Array.getElem?_eq_some_iff.1 hx).1
    rw [hx] at h4
    simp only [zaV,Bool.not_eq_true',List.contains_eq_mem,zaP] at h4
    have h5:=mJ (h4.resolve_left (fun h => h hm)) j hj
    rw [hg] at h5
    simp only [he,zaI,Bool.false_or] at h5
    exact h5
   ·cases h3
  ·have hk : k < ops.size:=(Array.getElem?_eq_some_iff.1 ho).1
   have:=mJ hall k hk
   rw [ho] at this
   simp only [List.all_eq_true,zaK] at this
   exact this e he
  ·obtain ⟨_,_,_,_,_,_,h3,_⟩:=h2 k j y hy hj
   exact h3 hb
  ·obtain ⟨_,_,_,_,e2,_,_,h4,_,_⟩:=h2 k j y hy hj
   rw [hx] at e2
   simp only [zaA] at e2
   subst e2
   exact h4 hn
  ·obtain ⟨h',x',g',e1,e2,e3,_,_,h4,_⟩:=h2 k j y hy hj
   rw [hh] at e1;rw [hx] at e2;rw [hg] at e3
   simp only [zaA] at e1 e2 e3
   subst e1 e2 e3
   exact h4 hn
  ·obtain ⟨h',x',g',e1,e2,e3,_,_,_,h4⟩:=h2 k j y hy hj
   rw [hx] at e2
   simp only [zaA] at e2
   subst e2
   exact h4
 ·cases h
theorem aDQ {σ : St} : ∀ {ps : List (Nat × Nat)} {p : Nat × Nat},qR σ ps → p ∈ ps → aZB (get σ.env p.1) (get σ.env p.2)
 |(t,u) :: r,p,h,hp => by
  rcases List.mem_cons.1 hp with rfl | hp
  ·exact h.1
  ·exact aDQ h.2 hp
structure Mid (X : Nat → Prop) (xv : Value) (Z : Nat → Prop) (zc : Nat → Option Obj) (fr : Fr) (G0 : Gh) (w0 : World) (nt : Nat) (q : Nat → Bool) (ops : Array Oper) (l : List AG) (σ : St) (S : Nat → St) (V : Nat → AV) (D : Nat → Prop) (a : Act) (w : World) : Prop where
 mem : ∃ G c,c ≤ l.length ∧ (∀ j,j ≤ c → ∀ i,(S j).n ≤ i → (S j).H i = none) ∧ (∀ j g,l[j]? = some g → g.o.eff q = true → (D j ↔ j < c)) ∧ iM fr G0 w0 G w (S c) ∧ (∀ k g t,l[k]? = some g → D k → g.d = some t → bL w G.F G.ρ (V k) (a.tmps.getD t undef)) ∧
  (∀ t,¬ X t → (∀ k g,l[k]? = some g → D k → g.d ≠ some t) → bL w G.F G.ρ (get σ.env t) (a.tmps.getD t undef)) ∧
  ∀ b,Z b → b < w.heap.size ∧ w.heap[b]? = zc b ∧ ¬ G.F b ∧ ∀ i o,(S c).H i ≠ none → G.ρ i ≠ some (b,o)
 closed : ∀ k o,ops[k]? = some o → D k → ∀ e ∈ eK o,D e
 dfr : a.defers = []
 tsz : a.tmps.size = nt
 kept : ∀ t,X t → a.tmps.getD t undef = xv
theorem p3 {ps : List (Nat × Nat)} {B : Nat → Nat → Prop} {f0 : Option Nat} (hok : OkR q ops l ps B f0) {D : Nat → Prop} (hcl : ∀ k o,ops[k]? = some o → D k → ∀ e ∈ eK o,D e) : ∀ (k : Nat) (o : Oper),ops[k]? = some o → (∀ e ∈ eK o,D e) → ∀ j,j < k → B k j → D j:=by
 intro k
 induction k using Nat.strongRecOn with
 | _ k ih =>
  intro o ho he j hj hb
  obtain ⟨e,h1,h2⟩:=hok.bits k j o ho hj hb
  have hlt:=hok.aZU k o ho e h1
  rcases h2 with rfl | ⟨hje,h2⟩
  ·exact he _ h1
  ·have hk : k < ops.size:=(Array.getElem?_eq_some_iff.1 ho).1
   have hoe : ops[e]? = some ops[e]:=Array.getElem?_eq_getElem (by omega)
   exact ih e hlt _ hoe (hcl e _ hoe (he e h1)) j hje h2
def aZV (nt : Nat) (G : Gh) (w : World) (H : Nat → Option AV) : Fr:=⟨w,fun b => ∃ i o,H i ≠ none ∧ G.ρ i = some (b,o),G.F,nt⟩
theorem Own.a5N {fr : Fr} {G : Gh} {w : World} {σ : St} (h : Own fr G w σ) : Own (aZV fr.nt G w σ.H) G w σ :=
 ⟨h.1,⟨rfl,rfl,rfl,zaF _,fun _ _ _ => rfl,Ext.refl _ _,fun _ h => h,fun b hb => .inl hb,fun i b o hi hr => .inl ⟨i,o,hi,hr⟩⟩⟩
theorem iM.a5N {fr : Fr} {G G' : Gh} {w w' : World} {σ τ : St} (h : Own fr G w σ) (k : iM (aZV fr.nt G w σ.H) G w G' w' τ) : iM fr G w G' w' τ:=by
 have hsz:=h.2.size
 refine ⟨k.wf,⟨k.fr.os.trans h.2.os,k.fr.tape.trans h.2.tape,k.fr.output.trans h.2.output,Nat.le_trans hsz k.fr.size,fun b hb hS => ?_,h.2.ext.trans k.ext h.2.f0,fun b hb => k.leF b (h.2.f0 b hb),fun b hb => ?_,fun i b o hi hr => ?_⟩,k.ext,k.leF,k.leR⟩
 ·refine (k.fr.same b (Nat.lt_of_lt_of_le hb hsz) (fun ⟨i,o,hi,hr⟩ => ?_)).trans (h.2.same b hb hS)
  rcases h.2.loc i b o hi hr with h1 | h1
  ·exact hS h1
  ·omega
 ·rcases k.fr.sJ b hb with h1 | ⟨i,o,hi,hr⟩ | h1
  ·exact h.2.sJ b h1
  ·exact (h.2.loc i b o hi hr).elim (fun h => .inr (.inl h)) fun h => .inr (.inr h)
  ·exact .inr (.inr (Nat.le_trans hsz h1))
 ·rcases k.fr.loc i b o hi hr with ⟨i',o',hi',hr'⟩ | h1
  ·exact h.2.loc i' b o' hi' hr'
  ·exact .inr (Nat.le_trans hsz h1)
theorem iM.kept {nt : Nat} {G G' : Gh} {w w' : World} {H : Nat → Option AV} {τ : St} (k : iM (aZV nt G w H) G w G' w' τ) {b : Nat} {ob : Option Obj} (h : b < w.heap.size ∧ w.heap[b]? = ob ∧ ¬ G.F b ∧ ∀ i o,H i ≠ none → G.ρ i ≠ some (b,o)) :
  b < w'.heap.size ∧ w'.heap[b]? = ob ∧ ¬ G'.F b ∧ ∀ i o,τ.H i ≠ none → G'.ρ i ≠ some (b,o):=by
 obtain ⟨h1,h2,h3,h4⟩:=h
 have hS : ¬ (aZV nt G w H).S b:=fun ⟨i,o,hi,hr⟩ => h4 i o hi hr
 refine ⟨Nat.lt_of_lt_of_le h1 k.fr.size,(k.fr.same b h1 hS).trans h2,fun hf => ?_,fun i o hi hr => ?_⟩
 ·rcases k.fr.sJ b hf with h5 | h5 | h5
  ·exact h3 h5
  ·exact hS h5
  ·have h5 : w.heap.size ≤ b:=h5
   omega
 ·rcases k.fr.loc i b o hi hr with h5 | h5
  ·exact hS h5
  ·have h5 : w.heap.size ≤ b:=h5
   omega
theorem Mid.step {ps : List (Nat × Nat)} {B : Nat → Nat → Prop} {f0 : Option Nat} {X Z : Nat → Prop} {xv : Value} {zc : Nat → Option Obj} (hC : oC P C) (hq : mE q C) (hm : ops.toList.mapM (gZ z P nt ops) = some l) (hok : OkR q ops l ps B f0) (ht : Trail C l σ S V T) (hsep : qR (S l.length) ps) {fr : Fr} {G0 : Gh} {w0 : World} {D : Nat → Prop} {a : Act} {w : World}
  (h : Mid X xv Z zc fr G0 w0 nt q ops l σ S V D a w) {k : Nat} {o : Oper} (ho : ops[k]? = some o) (hD : ¬ D k) (he : ∀ e ∈ eK o,D e) (hD1 : ∀ j,D j → j < ops.size) (hX1 : ∀ t ∈ o.looksAt ops,¬ X t) (hX2 : ∀ d,o.dst = some d → ¬ X d)
  (hord : ∀ j g,f0 = some k → l[j]? = some g → j < k → g.o.eff q = true → D j) {K : Act → World → Prop} {Q : Exit → Act → World → Prop}
  (hK : ∀ a' w',Mid X xv Z zc fr G0 w0 nt q ops l σ S V (fun j => D j ∨ j = k) a' w' → K a' w') :
  if Region.wanted o (yielded ops a.tmps) = true then o.wp P a w K Q else K (a.put o.dst undef) w:=by
 obtain ⟨G,c,hc,hfr,hce,hgo,hv,hold,hZ⟩:=h.mem
 obtain ⟨g,hg,htr⟩:=aPU hm ho
 obtain ⟨t1,t2,t3,t4⟩:=fG htr
 have hkl : k < l.length:=(List.getElem?_eq_some_iff.1 hg).1
 have hbits:=p3 hok h.closed k o ho he
 have hnames : ∀ t ∈ o.looksAt ops,bL w G.F G.ρ (get (S k).env t) (a.tmps.getD t undef):=by
  intro t hto
  rcases ht.env hm t (k:=k) (by omega) with ⟨j,gj,hj,hgj,hd,hval⟩ | ⟨hno,hval⟩
  ·obtain ⟨oj,hoj,htrj⟩:=aBX hm hgj
   have hdj:=(fG htrj).2.2.1
   rw [hval]
   refine hv j gj t hgj (hbits j hj (hok.j8 k j oj o ho hoj hj ?_)) hd
   simp only [aDK,zaV]
   refine .inl ?_
   rw [← hdj,hd]
   simpa [aBW] using hto
  ·rw [hval]
   refine hold t (hX1 t hto) fun j gj hgj hDj hdj => ?_
   by_cases hjk : j < k
   ·exact hno j gj hjk hgj hdj
   ·by_cases hjk2 : j = k
    ·subst hjk2;exact hD hDj
    ·obtain ⟨oj,hoj,htrj⟩:=aBX hm hgj
     have hdj2:=(fG htrj).2.2.1
     have hb:=hok.j8 j k o oj hoj ho (by omega) (by
      simp only [aDK,zaV]
      refine .inr ?_
      rw [← hdj2,hdj]
      simpa [aBW] using hto)
     exact hD (p3 hok h.closed j oj hoj (h.closed j oj hoj hDj) k (by omega) hb)
 have hsole : ∀ j gj t,l[j]? = some gj → gj.d = some t → g.d = some t → j = k:=by
  intro j gj t hgj hdj hdk
  obtain ⟨oj,hoj,htrj⟩:=aBX hm hgj
  have hdj2:=(fG htrj).2.2.1
  rcases Nat.lt_trichotomy j k with hjk | hjk | hjk
  ·have:=hok.apart k j oj o ho hoj hjk
   rw [← hdj2,hdj,← t3,hdk] at this
   simp [rA] at this
  ·exact hjk
  ·have:=hok.apart j k o oj hoj ho hjk
   rw [← hdj2,hdj,← t3,hdk] at this
   simp [rA] at this
 obtain ⟨hstp,hnext⟩:=ht.step k g hg
 have key : ∀ (σ1 τ1 : St) (c1 : Nat),Stp C σ1 g (V k) τ1 → σ1.env = (S k).env → σ1.hl = (S c).hl → σ1.hb = (S c).hb → σ1.n = (S c).n → c1 ≤ l.length →
   τ1.hl = (S c1).hl → τ1.hb = (S c1).hb → τ1.n = (S c1).n → (∀ j,j ≤ c1 → j ≤ c ∨ ((S j).H = (S c).H ∧ (S j).n = (S c).n) ∨ ((S j).H = τ1.H ∧ (S j).n = τ1.n)) → (∀ j g,l[j]? = some g → g.o.eff q = true → ((D j ∨ j = k) ↔ j < c1)) →
   if Region.wanted o (yielded ops a.tmps) = true then o.wp P a w K Q else K (a.put o.dst undef) w:=by
  intro σ1 τ1 c1 hs1 he1 hh1 hh2 hh3 hc1 hk1 hk2 hk3 hfr1 hce1
  have hown1:=(hgo.same hh1 hh2 hh3).own
  refine aID hC htr hs1 (a:=a) hown1.a5N (fun t ht2 => by rw [he1];exact hnames t ht2) fun u w' G' hgof hrel => ?_
  have hgo1:=iM.a5N hown1 hgof
  refine hK _ _ ⟨⟨G',c1,hc1,fun j hj i hi => ?_,hce1, ?_, ?_, ?_,fun b hb => ?_⟩, ?_, ?_, ?_,fun t hXt => ?_⟩
  ·rcases hfr1 j hj with h1 | ⟨h1,h2⟩ | ⟨h1,h2⟩
   ·exact hfr j h1 i hi
   ·rw [h1];exact hfr c (zaF _) i (by rw [← h2];exact hi)
   ·rw [h1];exact (hgo1.wf.free i (by rw [← h2];exact hi)).1
  ·exact (hgo.trans hgo1).same hk1.symm hk2.symm hk3.symm
  ·intro j gj t hgj hDj hdj
   by_cases hjk : j = k
   ·subst hjk
    rw [hg] at hgj
    simp only [zaA] at hgj
    subst hgj
    rw [← t3,hdj,uY h.tsz (t4 t (by rw [← t3];exact hdj)),if_pos rfl]
    exact hrel
   ·rcases hDj with hDj | hDj
    ·have hne : g.d ≠ some t:=fun hd => hjk (hsole j gj t hgj hdj hd)
     have hold2:=hgo1.mono (hv j gj t hgj hDj hdj)
     cases hgd : o.dst with
     | none => exact hold2
     | some d =>
      rw [uY h.tsz (t4 d hgd),if_neg (fun e => hne (by rw [t3,hgd,e]))]
      exact hold2
    ·exact absurd hDj hjk
  ·intro t hXt hno
   have hne : g.d ≠ some t:=hno k g hg (.inr rfl)
   have hold2:=hgo1.mono (hold t hXt fun j gj hgj hDj => hno j gj hgj (.inl hDj))
   cases hgd : o.dst with
   | none => exact hold2
   | some d =>
    rw [uY h.tsz (t4 d hgd),if_neg (fun e => hne (by rw [t3,hgd,e]))]
    exact hold2
  ·have hH1 : σ1.H = (S c).H:=by unfold St.H;rw [hh1,hh2]
   have hH2 : τ1.H = (S c1).H:=by unfold St.H;rw [hk1,hk2]
   have hz:=iM.kept hgof (b:=b) (ob:=zc b) (by rw [hH1];exact hZ b hb)
   rw [hH2] at hz
   exact hz
  ·intro j oj hoj hDj e hej
   rcases hDj with hDj | rfl
   ·exact .inl (h.closed j oj hoj hDj e hej)
   ·rw [ho] at hoj
    simp only [zaA] at hoj
    subst hoj
    exact .inl (he e hej)
  ·rw [put_defers];exact h.dfr
  ·rw [aDN];exact h.tsz
  ·cases hgd : o.dst with
   | none => exact h.kept t hXt
   | some d =>
    rw [uY h.tsz (t4 d hgd),if_neg (fun e => hX2 d hgd (by rw [← e];exact hXt))]
    exact h.kept t hXt
 have hnoal : ∀ oj gj,AOp.eff q (AG.o gj) = true → rdC q ops oj gj = false:=by
  intro oj gj hej
  unfold rdC
  split
  ·rename_i e;rw [e] at hej;cases hej
  ·rename_i f args e
   rw [e] at hej
   simp only [AOp.eff,Bool.not_eq_true'] at hej
   rw [hej];rfl
  ·rename_i e;rw [e] at hej;cases hej
  ·rfl
 by_cases hld : rdC q ops o g = true
 ·
  have heff' : g.o.eff q = false:=by
   cases h : g.o.eff q
   ·rfl
   ·rw [hnoal o g h] at hld;cases hld
  have hsens : g.o.aA6 q = true:=by
   unfold rdC at hld
   split at hld
   ·rename_i e;rw [e];rfl
   ·rename_i e;rw [e];simp [AOp.aA6]
   ·rename_i e;rw [e];rfl
   ·cases hld
  have hkeff : efN g = none:=by
   cases he : efN g with
   | none => rfl
   | some t =>
    unfold efN at he
    split at he <;> first | (cases he;done) | (rename_i e;rw [e] at heff';cases heff')
  have hside : ∀ j gj,l[j]? = some gj → gj.o.eff q = true → alC q gj = false → ¬ DyP ops l ps k j → (j < c ↔ j < k):=by
   intro j gj hgj hej hal hndy
   obtain ⟨oj,hoj,htrj⟩:=aBX hm hgj
   have hgld:=hnoal oj gj hej
   have hndy2 : ¬ DyP ops l ps j k:=by
    rintro ⟨x,g1,y,h1,p,e1,e2,e3,e4,e5,_⟩
    rw [hg] at e4
    simp only [zaA] at e4
    subst e4
    unfold aKU at e5
    rw [hkeff] at e5
    split at e5
    ·rename_i e6;cases e6
    ·cases e5
   rw [← hce j gj hgj hej]
   constructor
   ·intro hDj
    rcases Nat.lt_trichotomy j k with hjk | hjk | hjk
    ·exact hjk
    ·subst hjk;exact absurd hDj hD
    ·have hb:=((hok.mem j k o oj g gj hoj hgj ho hg hjk (by simp [aDL,hej,hsens,uX,hal,hgld])).resolve_right (by
      rintro (h | h)
      ·exact hndy h
      ·exact hndy2 h)).resolve_right (fun h => by rw [heff'] at h;cases h.2)
     exact absurd (p3 hok h.closed j oj hoj (h.closed j oj hoj hDj) k hjk hb) hD
   ·intro hjk
    rcases (hok.mem k j oj o gj g ho hg hoj hgj hjk (by simp [aDL,hej,hsens,uX,hal,hgld])).resolve_right (by
      rintro (h | h)
      ·exact hndy2 h
      ·exact hndy h) with h | h
    ·exact hbits j hjk h
    ·exact hord j gj h.1 hgj hjk h.2
  have hal : ∀ j gj,l[j]? = some gj → gj.o.eff q = true → (c ≤ j ∧ j < k) ∨ (k ≤ j ∧ j < c) → alC q gj = true ∨ DyP ops l ps k j:=by
   intro j gj hgj hej hj
   cases hal : alC q gj
   ·by_cases hdy : DyP ops l ps k j
    ·exact .inr hdy
    ·have:=hside j gj hgj hej hal hdy
     omega
   ·exact .inl rfl
  have hsame1 : ∀ i,G.ρ i ≠ none → (∀ j,DyP ops l ps k j → ∃ gj t,l[j]? = some gj ∧ efN gj = some t ∧ oU (get (S j).env t) ≠ some i) → (S k).H i = none ∨ (S c).H i = (S k).H i:=by
   intro i hi hdy
   have hcase : ∀ j gj,l[j]? = some gj → alC q gj = true ∨ DyP ops l ps k j → alC q gj = true ∨ ∃ t,efN gj = some t ∧ oU (get (S j).env t) ≠ some i:=by
    intro j gj hgj h1
    refine h1.imp id fun h1 => ?_
    obtain ⟨gj',t,h2,h3,h4⟩:=hdy j h1
    rw [hgj] at h2
    simp only [zaA] at h2
    subst h2
    exact ⟨t,h3,h4⟩
   have hic : i < (S c).n:=by
    rcases Nat.lt_or_ge i (S c).n with h6 | h6
    ·exact h6
    ·exact absurd (hgo.wf.free i h6).2 hi
   rcases Nat.le_total c k with hck | hck
   ·exact .inr (ht.aKW hq hic hck (by omega) fun j gj h1 h2 h3 h4 => hcase j gj h3 (hal j gj h3 h4 (.inl ⟨h1,h2⟩))).1.symm
   ·rcases Nat.lt_or_ge i (S k).n with h8 | h8
    ·exact .inr (ht.aKW hq h8 hck hc fun j gj h1 h2 h3 h4 => hcase j gj h3 (hal j gj h3 h4 (.inr ⟨h1,h2⟩))).1
    ·exact .inl (hfr k hck i h8)
  have hnody : ldN g = none → ∀ j,¬ DyP ops l ps k j:=by
   rintro hld2 j ⟨x,g1,y,h1,p,e1,e2,e3,e4,e5,_⟩
   rw [hg] at e2
   simp only [zaA] at e2
   subst e2
   unfold aKU at e5
   rw [hld2] at e5
   split at e5
   ·rename_i e6 _;cases e6
   ·cases e5
  have hkk : Stp C ⟨(S k).env,(S c).hl,(S c).hb,(S c).n⟩ g (V k) ⟨(S k).env,(S c).hl,(S c).hb,(S c).n⟩:=by
   obtain ⟨d,ao,gd⟩:=g
   unfold rdC at hld
   split at hld
   ·rename_i ag n i e
    simp only at e
    subst e
    generalize V k = vk at *
    generalize T k = τk at *
    clear hnext
    cases hstp with
    | op hp hs =>
     refine .op (Pass.env rfl hp) ?_
     have hi:=hnames i (by simpa using hld)
     simp only [aN,St.ev] at hs ⊢
     generalize hgk : get (S k).env i = a at hs hi ⊢
     have hload : ∀ u,(S k).mS a = some u → St.mS ⟨(S k).env,(S c).hl,(S c).hb,(S c).n⟩ a = some u:=by
      intro u hu
      cases a <;> try exact hu
      rename_i id path off
      obtain ⟨b',o',h4,h5⟩:=hi.mP
      have hapart : ∀ j,DyP ops l ps k j → ∃ gj t,l[j]? = some gj ∧ efN gj = some t ∧ oU (get (S j).env t) ≠ some id:=by
       rintro j ⟨x,g1,y,h1,p,e1,e2,e3,e4,e5,e6⟩
       rw [hg] at e2
       simp only [zaA] at e2
       subst e2
       unfold aKU at e5
       split at e5
       ·rename_i i' a' hl1 hl2
        simp only [ldN,zaA] at hl1
        subst hl1
        split at e5
        ·rename_i hcnd
         simp only [zaG] at hcnd
         simp only [zaA] at e5
         subst e5
         refine ⟨h1,a',e4,hl2, ?_⟩
         have hs1:=aDQ hsep e6
         have hjl : j ≤ l.length:=Nat.le_of_lt (List.getElem?_eq_some_iff.1 e4).1
         rw [ht.stay hm hcnd.1.2 (Nat.le_of_lt hkl) (zaF _),ht.stay hm hcnd.2 hjl (zaF _),hgk] at hs1
         exact hs1 id rfl
        ·cases e5
       ·cases e5
      rcases hsame1 id (by rw [h4];simp) hapart with h6 | h6
      ·simp only [St.mS,h6] at hu;cases hu
      ·show (match (S c).H id with | some t => _ | none => _) = _
       rw [h6]
       exact hu
     cases hl : (S k).mS a with
     | none => rw [hl] at hs;cases hs
     | some u =>
      rw [hl] at hs
      rw [hload u hl]
      simp only at hs ⊢
      split at hs
      ·rename_i hc
       simp only [zaA,zaJ] at hs
       rw [if_pos hc,hs.1]
      ·cases hs
    | skip hp => exact .skip (Pass.env rfl hp)
   ·rename_i f args e
    simp only at e
    subst e
    simp only [zaG,List.all_eq_true] at hld
    generalize V k = vk at *
    generalize T k = τk at *
    clear hnext
    cases hstp with
    | op hp hs => simp [aN] at hs
    | call hp hc2 =>
     have h7:=hq.2.2 f _ _ _ _ hc2 hld.1 ⟨(S k).env,(S c).hl,(S c).hb,(S c).n⟩ G w _ hgo.wf (fun a ha => ?_) (fun i hi => hsame1 i hi fun j hj => absurd hj (hnody rfl j))
     ·rw [← aU2 (σ:=S k) (hl:=(S c).hl) (hb:=(S c).hb) (n:=(S c).n)] at h7
      exact .call (σ:=⟨(S k).env,(S c).hl,(S c).hb,(S c).n⟩) (τ:=⟨(S k).env,(S c).hl,(S c).hb,(S c).n⟩) (Pass.env rfl hp) h7
     ·obtain ⟨y,hy,rfl⟩:=List.mem_map.1 ha
      have h8:=hld.2 y hy
      cases y with
      | t i => exact .inr ⟨_,hnames i (by simpa using h8)⟩
      | c v => exact .inl h8
    | skip hp => exact .skip (Pass.env rfl hp)
   ·rename_i f args e
    simp only at e
    subst e
    generalize V k = vk at *
    generalize T k = τk at *
    clear hnext
    cases hstp with
    | op hp hs => simp [aN] at hs
    | j6 hp hc2 => exact .j6 (σ:=⟨(S k).env,(S c).hl,(S c).hb,(S c).n⟩) (Pass.env rfl hp) hc2
    | skip hp => exact .skip (Pass.env rfl hp)
   ·cases hld
  refine key ⟨(S k).env,(S c).hl,(S c).hb,(S c).n⟩ ⟨(S k).env,(S c).hl,(S c).hb,(S c).n⟩ c hkk rfl rfl rfl rfl hc rfl rfl rfl (fun j hj => .inl hj) fun j gj hgj hej => ?_
  rw [← hce j gj hgj hej]
  constructor
  ·rintro (h1 | rfl)
   ·exact h1
   ·rw [hg] at hgj
    simp only [zaA] at hgj
    subst hgj
    rw [heff'] at hej;cases hej
  ·exact .inl
 by_cases hsens : g.o.aA6 q = true
 ·
  have hld' : rdC q ops o g = false:=by simpa using hld
  have hexc : ∀ oj gj,AOp.eff q (AG.o gj) = true → uX q ops o g oj gj = false ∧ uX q ops oj gj o g = false:=by
   intro oj gj hej
   simp [uX,hld',hnoal oj gj hej]
  have hnodyA : ∀ j gj oj,l[j]? = some gj → ops[j]? = some oj → gj.o.eff q = true → ¬ (DyP ops l ps k j ∨ DyP ops l ps j k):=by
   rintro j gj oj hgj hoj hej (⟨x,g1,y,h1,p,e1,e2,e3,e4,e5,_⟩ | ⟨x,g1,y,h1,p,e1,e2,e3,e4,e5,_⟩)
   ·rw [hg] at e2
    rw [ho] at e1
    simp only [zaA] at e1 e2
    subst e1 e2
    unfold aKU at e5
    split at e5
    ·rename_i i' a' hl1 hl2
     split at e5
     ·rename_i hcnd
      simp only [zaG] at hcnd
      unfold ldN at hl1
      split at hl1
      ·rename_i hg2
       simp only [zaA] at hl1
       subst hl1
       unfold rdC at hld'
       rw [hg2] at hld'
       simp only at hld'
       rw [hcnd.1.1.1] at hld'
       cases hld'
      ·cases hl1
     ·cases e5
    ·cases e5
   ·rw [hgj] at e2
    simp only [zaA] at e2
    subst e2
    unfold aKU at e5
    split at e5
    ·rename_i i' a' hl1 hl2
     unfold ldN at hl1
     split at hl1
     ·rename_i hg2
      rw [hg2] at hej
      cases hej
     ·cases hl1
    ·cases e5
  have hside : ∀ j gj,l[j]? = some gj → gj.o.eff q = true → (j < c ↔ j < k):=by
   intro j gj hgj hej
   obtain ⟨oj,hoj,htrj⟩:=aBX hm hgj
   rw [← hce j gj hgj hej]
   constructor
   ·intro hDj
    rcases Nat.lt_trichotomy j k with hjk | hjk | hjk
    ·exact hjk
    ·subst hjk;exact absurd hDj hD
    ·rcases (hok.mem j k o oj g gj hoj hgj ho hg hjk (by simp [aDL,hej,hsens,hexc oj gj hej])).resolve_right (hnodyA j gj oj hgj hoj hej) with hb | hb
     ·exact absurd (p3 hok h.closed j oj hoj (h.closed j oj hoj hDj) k hjk hb) hD
     ·have h1:=(hce j gj hgj hej).1 hDj
      exact absurd ((hce k g hg hb.2).2 (by omega)) hD
   ·intro hjk
    rcases (hok.mem k j oj o gj g ho hg hoj hgj hjk (by simp [aDL,hej,hsens,hexc oj gj hej])).resolve_right (fun h => hnodyA j gj oj hgj hoj hej h.symm) with hb | hb
    ·exact hbits j hjk hb
    ·exact hord j gj hb.1 hgj hjk hb.2
  have hsame : (S k).hl = (S c).hl ∧ (S k).hb = (S c).hb ∧ (S k).n = (S c).n:=by
   rcases Nat.le_total c k with hck | hck
   ·exact ht.heap hq hck (by omega) fun j gj h1 h2 h3 => by
     cases hej : gj.o.eff q
     ·rfl
     ·have:=(hside j gj h3 hej).2 h2;omega
   ·obtain ⟨i1,i2,i3⟩:=ht.heap hq hck hc fun j gj h1 h2 h3 => by
     cases hej : gj.o.eff q
     ·rfl
     ·have:=(hside j gj h3 hej).1 h2;omega
    exact ⟨i1.symm,i2.symm,i3.symm⟩
  by_cases heff : g.o.eff q = true
  ·have hck : c ≤ k:=by
    have:=hce k g hg heff
    have h2 : ¬ k < c:=fun h => hD (this.2 h)
    omega
   refine key (S k) (T k) (k + 1) hstp rfl hsame.1 hsame.2.1 hsame.2.2 (by omega) ?_ ?_ ?_ ?_ ?_
   ·rw [hnext,wV]
   ·rw [hnext,wW]
   ·rw [hnext,aDO]
   ·intro j hj
    by_cases hjc : j ≤ c
    ·exact .inl hjc
    ·by_cases hjk : j = k + 1
     ·subst hjk
      refine .inr (.inr ⟨?_,by rw [hnext,aDO]⟩)
      rw [hnext];unfold St.H;rw [wV,wW]
     ·have:=ht.heap hq (a:=c) (b:=j) (by omega) (by omega) fun j' gj' h1 h2 h3 => by
       cases hej : gj'.o.eff q
       ·rfl
       ·have:=(hside j' gj' h3 hej).2 (by omega);omega
      exact .inr (.inl ⟨by unfold St.H;rw [this.1,this.2.1],this.2.2⟩)
   ·intro j gj hgj hej
    rw [hce j gj hgj hej,hside j gj hgj hej]
    omega
  ·have heff' : g.o.eff q = false:=by simpa using heff
   obtain ⟨i1,i2,i3⟩:=hstp.heap hq heff'
   refine key (S k) (T k) c hstp rfl hsame.1 hsame.2.1 hsame.2.2 hc (i1.trans hsame.1) (i2.trans hsame.2.1) (i3.trans hsame.2.2) (fun j hj => .inl hj) fun j gj hgj hej => ?_
   rw [← hce j gj hgj hej]
   constructor
   ·rintro (h1 | rfl)
    ·exact h1
    ·rw [hg] at hgj
     simp only [zaA] at hgj
     subst hgj
     exact absurd hej heff
   ·exact .inl
 ·have hsens' : g.o.aA6 q = false:=by simpa using hsens
  have heff' : g.o.eff q = false:=by
   simp only [AOp.aA6,Bool.or_eq_false_iff] at hsens'
   exact hsens'.1
  refine key ⟨(S k).env,(S c).hl,(S c).hb,(S c).n⟩ ⟨(S k).env,(S c).hl,(S c).hb,(S c).n⟩ c (hstp.pure hsens' _ _ _) rfl rfl rfl rfl hc rfl rfl rfl (fun j hj => .inl hj) fun j gj hgj hej => ?_
  rw [← hce j gj hgj hej]
  constructor
  ·rintro (h1 | rfl)
   ·exact h1
   ·rw [hg] at hgj
    simp only [zaA] at hgj
    subst hgj
    rw [heff'] at hej;cases hej
  ·exact .inl
mutual
theorem bK.flat {w w' : World} {F F' : Nat → Prop} {ρ ρ' : Nat → Option Loc} : ∀ {t : AV} {cs : List Value},t.flat = true → bK w F ρ t cs → bK w' F' ρ' t cs
 | .sc _,_,_,.sc h => .sc h
 | .agg _ _,_,hf,.agg h hn => .agg (dM.flat (by simpa [AV.flat] using hf) h) hn
 | .arr _ _ _,_,hf,.arr h hn => .arr (dQ.flat (by simpa [AV.flat] using hf) h) hn
 | .fro _ _ [],_,_,.gW h => .gW h
 | .fro _ _ [],_,_,.fro h1 h2 h3 h4 h5 => by
  cases h1
  exact .gW fun h => h4 h
theorem dM.flat {w w' : World} {F F' : Nat → Prop} {ρ ρ' : Nat → Option Loc} : ∀ {ts : List AV} {cs : List Value},AV.aDM ts = true → dM w F ρ ts cs → dM w' F' ρ' ts cs
 | [],_,_,.nil => .nil
 | t :: ts,_,hf,.cons h1 h2 => by
  simp only [AV.aDM,zaG] at hf
  exact .cons (bK.flat hf.1 h1) (dM.flat hf.2 h2)
theorem dQ.flat {w w' : World} {F F' : Nat → Prop} {es : Nat} : ∀ {ts : List AV} {cs : List Value},AV.aDM ts = true → dQ w F es ts cs → dQ w' F' es ts cs
 | [],_,_,.nil => .nil
 | t :: ts,_,hf,.cons h1 h2 h3 => by
  simp only [AV.aDM,zaG] at hf
  exact .cons (bK.flat hf.1 h1) h2 (dQ.flat hf.2 h3)
end
structure Early (fr : Fr) (b o0 : Nat) (z : AV) (ob : Option Obj) : Prop where
 new : fr.w0.heap.size ≤ b
 cells : ∃ (w1 : World) (F1 : Nat → Prop) (cs : List Value) (cur : Array Value) (e : TypeId),w1.heap[b]? = ob ∧ ob = some (Obj.cells cur e (0,0)) ∧ Reads w1 b o0 cs ∧ bK w1 F1 fB z cs
theorem Mid.early {ps : List (Nat × Nat)} {B : Nat → Nat → Prop} {f0 : Option Nat} (hC : oC P C) (hm : ops.toList.mapM (gZ z P nt ops) = some l) (hok : OkR q ops l ps B f0) (ht : Trail C l σ S V T) {fr : Fr} {G0 : Gh} {w0 : World} {D : Nat → Prop} {a : Act} {w : World}
  (h : Mid (fun _ => False) undef (fun _ => False) (fun _ => none) fr G0 w0 nt q ops l σ S V D a w) {k : Nat} {o : Oper} {d : Option Nat} {zv : AV} (ho : ops[k]? = some o) (hg : l[k]? = some ⟨d,.box (.c zv),none⟩) (hflat : zv.flat = true) (hlook : o.looksAt ops = []) (hD : ¬ D k) {K : Act → World → Prop} {Q : Exit → Act → World → Prop}
  (hK : ∀ a' w' b o0 ob,Early fr b o0 zv ob → Mid (fun t => d = some t) (.pointer (some ⟨b,o0,none⟩)) (fun b' => b' = b) (fun _ => ob) fr G0 w0 nt q ops l σ S V D a' w' → K a' w') :
  if Region.wanted o (yielded ops a.tmps) = true then o.wp P a w K Q else K (a.put o.dst undef) w:=by
 obtain ⟨G,c,hc,hfr,hce,hgo,hv,hold,_⟩:=h.mem
 obtain ⟨g',hg',htr⟩:=aPU hm ho
 rw [hg] at hg'
 simp only [zaA] at hg'
 subst hg'
 obtain ⟨t1,t2,t3,t4⟩:=fG htr
 simp only at t3
 obtain ⟨hstp,hnext⟩:=ht.step k _ hg
 have hst : zv.storable = true:=by
  generalize V k = vk at hstp
  generalize T k = τk at hstp
  cases hstp with
  | op hp hs =>
   simp only [aN] at hs
   split at hs
   ·rename_i h1;exact h1
   ·cases hs
  | skip hp => simp [Pass] at hp
 have hs1 : Stp C (S c) ⟨d,.box (.c zv),none⟩ (.ptr (S c).n [] 0) ((S c).new zv):=.op (by simp [Pass]) (by simp only [aN];rw [if_pos (show ((S c).ev (.c zv)).storable = true from hst)];rfl)
 have hsole : ∀ j gj t,l[j]? = some gj → gj.d = some t → d = some t → j = k:=by
  intro j gj t hgj hdj hdk
  obtain ⟨oj,hoj,htrj⟩:=aBX hm hgj
  have hdj2:=(fG htrj).2.2.1
  rcases Nat.lt_trichotomy j k with hjk | hjk | hjk
  ·have:=hok.apart k j oj o ho hoj hjk
   rw [← hdj2,hdj,← t3,hdk] at this
   simp [rA] at this
  ·exact hjk
  ·have:=hok.apart j k o oj hoj ho hjk
   rw [← hdj2,hdj,← t3,hdk] at this
   simp [rA] at this
 have hown:=hgo.own
 let frE : Fr:=⟨w,fun _ => False,G.F,fr.nt⟩
 let σE : St:=⟨(S c).env,[],fun _ => none,(S c).n⟩
 have hownE : Own frE G w σE:=⟨⟨fun i hi => ⟨rfl,(hgo.wf.free i hi).2⟩,hgo.wf.fsz,fun i t hi => (by cases hi),fun i j b o o' hi => absurd rfl hi⟩,⟨rfl,rfl,rfl,zaF _,fun _ _ _ => rfl,Ext.refl _ _,fun _ h => h,fun b hb => .inl hb,fun i b o hi => absurd rfl hi⟩⟩
 have hsE : Stp C σE ⟨d,.box (.c zv),none⟩ (.ptr (S c).n [] 0) (σE.new zv):=.op (by simp [Pass]) (by simp only [aN];rw [if_pos (show (σE.ev (.c zv)).storable = true from hst)];rfl)
 refine aID hC htr hsE (a:=a) hownE (fun t ht2 => by rw [hlook] at ht2;cases ht2) fun u w' G' hgo1 hrel => ?_
 obtain ⟨b,o0,hρ,rfl⟩:=hrel.mP
 have hH : (σE.new zv).H (S c).n = some zv:=by show look (((S c).n,some zv) :: []) _ _ = _;simp [look]
 rcases hgo1.wf.blk (S c).n zv hH with ⟨b',o',cs,cur,e,g1,g2,g3,g4,g5⟩ | g1
 case inr => rw [hρ] at g1;cases g1.1
 rw [hρ] at g1
 simp only [zaA,zaJ] at g1
 obtain ⟨rfl,rfl⟩:=g1
 have hbn : w.heap.size ≤ b:=(hgo1.fr.loc (S c).n b o0 (by rw [hH];simp) hρ).resolve_left (fun h => h)
 have hbel : Below w.heap.size w w':=⟨hgo1.fr.os,hgo1.fr.tape,hgo1.fr.output,hgo1.fr.size,fun k hk => hgo1.fr.same k hk (fun h => h)⟩
 have hnx : iM fr G w ⟨G.ρ,G.F⟩ w' (S c):=Nxt.below hown.1 hown.2 hbel (fun _ h => h) fun b hb => ⟨.inl hb,Nat.lt_of_lt_of_le (hown.1.fsz b hb) hgo1.fr.size⟩
 have n7 : ∀ t,(a.put o.dst (.pointer (some ⟨b,o0 + 0,none⟩))).tmps.getD t undef = if d = some t then .pointer (some ⟨b,o0 + 0,none⟩) else a.tmps.getD t undef:=fun t => by
  rw [← t3]
  cases hd : d with
  | none => simp [Act.put]
  | some d' =>
   rw [uY h.tsz (t4 d' (by rw [← t3,hd]))]
   by_cases e : t = d'
   ·subst e;simp
   ·rw [if_neg e,if_neg (fun h => e (by simpa using h.symm))]
 refine hK _ _ b o0 _ ⟨Nat.le_trans hown.2.size hbn,w',G'.F,cs,cur,e,rfl,g3,g4,g2.flat hflat⟩ ⟨⟨G,c,hc,hfr,hce,hgo.trans hnx,fun k' g' t hg' hD' hd' => ?_,fun t hX hno => ?_,fun b2 hb2 => ?_⟩,h.closed,by rw [put_defers];exact h.dfr,by rw [aDN];exact h.tsz,fun t hX => by rw [n7,if_pos hX];rfl⟩
 ·rw [n7,if_neg (fun e => hD (by rw [← hsole k' g' t hg' hd' e];exact hD'))]
  exact hnx.mono (hv k' g' t hg' hD' hd')
 ·rw [n7,if_neg hX]
  exact hnx.mono (hold t (fun h => h) hno)
 ·subst hb2
  refine ⟨lt_of_block g3,rfl,fun hF => ?_,fun i o hi hr => ?_⟩
  ·have:=hown.1.fsz b2 hF
   omega
  ·rcases hown.1.blk i _ (Option.ne_none_iff_exists'.1 hi).choose_spec with ⟨b3,o3,cs3,cur3,e3,k1,k2,k3,k4⟩ | ⟨k1,_⟩
   ·rw [hr] at k1
    simp only [zaA,zaJ] at k1
    have:=lt_of_block k3
    omega
   ·rw [hr] at k1;cases k1
theorem Mid.bC4 {ps : List (Nat × Nat)} {B : Nat → Nat → Prop} {f0 : Option Nat} (hq : mE q C) (hm : ops.toList.mapM (gZ z P nt ops) = some l) (hok : OkR q ops l ps B f0) (ht : Trail C l σ S V T) {fr : Fr} {G0 : Gh} {w0 : World} {D : Nat → Prop} {a : Act} {w : World} {b o0 : Nat} {ob : Option Obj} {k : Nat} {o : Oper} {d : Option Nat} {zv : AV}
  (h : Mid (fun t => d = some t) (.pointer (some ⟨b,o0,none⟩)) (fun b' => b' = b) (fun _ => ob) fr G0 w0 nt q ops l σ S V D a w) (he : Early fr b o0 zv ob) (ho : ops[k]? = some o) (hg : l[k]? = some ⟨d,.box (.c zv),none⟩) (hflat : zv.flat = true) (hedge : eK o = []) (hD : ¬ D k)
  (hall : ∀ j g,j < k → l[j]? = some g → g.o.eff q = true → D j) : Mid (fun _ => False) undef (fun _ => False) (fun _ => none) fr G0 w0 nt q ops l σ S V (fun j => D j ∨ j = k) a w:=by
 obtain ⟨G,c,hc,hfr,hce,hgo,hv,hold,hZ⟩:=h.mem
 obtain ⟨z1,z2,z3,z4⟩:=hZ b rfl
 have hkl : k < l.length:=(List.getElem?_eq_some_iff.1 hg).1
 have hck : c ≤ k:=by
  have:=hce k _ hg rfl
  have h2 : ¬ k < c:=fun h => hD (this.2 h)
  omega
 have hheap : ∀ j,c ≤ j → j ≤ k → (S j).hl = (S c).hl ∧ (S j).hb = (S c).hb ∧ (S j).n = (S c).n:=fun j h1 h2 =>
  ht.heap hq h1 (by omega) fun j' gj h3 h4 h5 => by
   cases hej : gj.o.eff q
   ·rfl
   ·have:=(hce j' gj h5 hej).1 (hall j' gj (by omega) h5 hej)
    omega
 obtain ⟨hk1,hk2,hk3⟩:=hheap k hck (zaF _)
 have hkH : (S k).H = (S c).H:=by unfold St.H;rw [hk1,hk2]
 obtain ⟨hstp,hnext⟩:=ht.step k _ hg
 have hVT : V k = .ptr (S k).n [] 0 ∧ T k = (S k).new zv:=by
  generalize V k = vk at hstp
  generalize T k = τk at hstp
  cases hstp with
  | op hp hs =>
   simp only [aN] at hs
   split at hs
   ·simp only [zaA,zaJ] at hs
    exact ⟨hs.1.symm,hs.2.symm⟩
   ·cases hs
  | skip hp => simp [Pass] at hp
 have hn:=hgo.wf.free (S c).n (zaF _)
 have hSn : (S (k + 1)).n = (S c).n + 1:=by rw [hnext,aDO,hVT.2];show (S k).n + 1 = _;rw [hk3]
 have hSH : (S (k + 1)).H = upd (S c).H (S c).n (some zv):=by
  rw [hnext]
  have : ((T k).put d (V k)).H = (T k).H:=by unfold St.H;rw [wV,wW]
  rw [this,hVT.2]
  funext j
  show look (((S k).n,some zv) :: (S k).hl) (S k).hb j = _
  simp only [look,upd,hk3]
  by_cases hj : j = (S c).n
  ·rw [if_pos hj,if_pos hj]
  ·rw [if_neg hj,if_neg hj]
   show (S k).H j = _
   rw [hkH]
 have hle : ∀ i l,G.ρ i = some l → upd G.ρ (S c).n (some (b,o0)) i = some l:=fun i l hi => by
  rw [bU _ _ (fun e => by rw [e,hn.2] at hi;cases hi)]
  exact hi
 obtain ⟨w1,F1,cs,cur,e,e1,e2,e3,e4⟩:=he.cells
 have hwb : w.heap[b]? = some (Obj.cells cur e (0,0)):=z2.trans e2
 have hgo2 : iM fr G w ⟨upd G.ρ (S c).n (some (b,o0)),G.F⟩ w (S (k + 1)):=by
  unfold iM
  rw [hSH]
  refine ⟨⟨fun i hi => ?_,hgo.wf.fsz,fun i t hi => ?_,fun i j b1 o1 o2 hi hj hri hrj => ?_⟩,⟨hgo.fr.os,hgo.fr.tape,hgo.fr.output,hgo.fr.size,hgo.fr.same,hgo.fr.ext,hgo.fr.f0,hgo.fr.sJ,fun i b1 o1 hi hri => ?_⟩,Ext.refl _ _,fun _ h => h,hle⟩
  ·have hi : (S (k + 1)).n ≤ i:=hi
   rw [hSn] at hi
   have hne : i ≠ (S c).n:=by omega
   have:=hgo.wf.free i (by show (S c).n ≤ i;omega)
   rw [bU _ _ hne]
   exact ⟨this.1,by show upd G.ρ _ _ i = none;rw [bU _ _ hne];exact this.2⟩
  ·by_cases hin : i = (S c).n
   ·subst hin
    rw [bN] at hi
    simp only [zaA] at hi
    subst hi
    exact .inl ⟨b,o0,cs,cur,e,by show upd G.ρ _ _ _ = _;rw [bN],e4.flat hflat,hwb,e3.pY (by rw [hwb,e1,e2]),z3⟩
   ·rw [bU _ _ hin] at hi
    rcases hgo.wf.blk i t hi with ⟨b1,o1,cs1,cur1,e1',k1,k2,k3,k4,k5⟩ | k1
    ·exact .inl ⟨b1,o1,cs1,cur1,e1',hle _ _ k1,k2.mono (Ext.refl _ _) (fun _ h => h) hle,k3,k4,k5⟩
    ·exact .inr ⟨by show upd G.ρ _ _ _ = _;rw [bU _ _ hin];exact k1.1,k1.2⟩
  ·change upd G.ρ _ _ i = _ at hri
   change upd G.ρ _ _ j = _ at hrj
   by_cases hin : i = (S c).n
   ·by_cases hjn : j = (S c).n
    ·rw [hin,hjn]
    ·rw [hin,bN] at hri
     rw [bU _ _ hjn] at hrj hj
     simp only [zaA,zaJ] at hri
     rw [← hri.1] at hrj
     exact absurd hrj (z4 j o2 hj)
   ·rw [bU _ _ hin] at hri hi
    by_cases hjn : j = (S c).n
    ·rw [hjn,bN] at hrj
     simp only [zaA,zaJ] at hrj
     rw [← hrj.1] at hri
     exact absurd hri (z4 i o1 hi)
    ·rw [bU _ _ hjn] at hrj hj
     exact hgo.wf.dis i j b1 o1 o2 hi hj hri hrj
  ·change upd G.ρ _ _ i = _ at hri
   by_cases hin : i = (S c).n
   ·rw [hin,bN] at hri
    simp only [zaA,zaJ] at hri
    rw [← hri.1]
    exact .inr he.new
   ·rw [bU _ _ hin] at hri hi
    exact hgo.fr.loc i b1 o1 hi hri
 refine ⟨⟨_,k + 1,hkl,fun j hj i hi => ?_,fun j gj hgj hej => ?_,hgo.trans hgo2,fun k' g' t hg' hD' hd' => ?_,fun t _ hno => ?_,fun b hb => hb.elim⟩,fun k' o' ho' hD' e' he' => ?_,h.dfr,h.tsz,fun t ht => ht.elim⟩
 ·by_cases hjc : j ≤ c
  ·exact hfr j hjc i hi
  ·by_cases hjk : j = k + 1
   ·subst hjk
    exact (hgo2.wf.free i hi).1
   ·have:=hheap j (by omega) (by omega)
    have hH : (S j).H = (S c).H:=by unfold St.H;rw [this.1,this.2.1]
    rw [hH]
    exact hfr c (zaF _) i (by rw [← this.2.2];exact hi)
 ·constructor
  ·rintro (h1 | rfl)
   ·have:=(hce j gj hgj hej).1 h1
    omega
   ·omega
  ·intro h1
   by_cases hjk : j = k
   ·exact .inr hjk
   ·exact .inl (hall j gj (by omega) hgj hej)
 ·rcases hD' with hD' | rfl
  ·exact hgo2.mono (hv k' g' t hg' hD' hd')
  ·rw [hg] at hg'
   simp only [zaA] at hg'
   subst hg'
   rw [hVT.1,h.kept t hd',hk3]
   exact .one (.ptr (o:=o0) (by show upd G.ρ _ _ _ = _;rw [bN])) rfl
 ·exact hgo2.mono (hold t (fun hX => hno k _ hg (.inr rfl) hX) fun j gj hgj hDj => hno j gj hgj (.inl hDj))
 ·rcases hD' with hD' | rfl
  ·exact .inl (h.closed k' o' ho' hD' e' he')
  ·rw [ho] at ho'
   simp only [zaA] at ho'
   subst ho'
   rw [hedge] at he'
   cases he'
theorem Mid.done (hq : mE q C) (hm : ops.toList.mapM (gZ z P nt ops) = some l) (ht : Trail C l σ S V T) {fr : Fr} {G0 : Gh} {w0 : World} {D : Nat → Prop} {a : Act} {w : World}
  {X Z : Nat → Prop} {xv : Value} {zc : Nat → Option Obj} (hX : ∀ t,¬ X t) (h : Mid X xv Z zc fr G0 w0 nt q ops l σ S V D a w) (hall : ∀ k,k < ops.size → D k) : Sim fr G0 w0 nt (S l.length) a w:=by
 obtain ⟨G,c,hc,_,hce,hgo,hv,hold,_⟩:=h.mem
 have hll : l.length = ops.size:=by rw [sS hm];simp
 obtain ⟨i1,i2,i3⟩:=ht.heap hq hc (zaF _) fun j gj h1 h2 h3 => by
  cases hej : gj.o.eff q
  ·rfl
  ·have:=(hce j gj h3 hej).1 (hall j (by omega));omega
 refine ⟨G,hgo.same i1 i2 i3,fun t => ?_,h.dfr,h.tsz⟩
 rcases ht.env hm t (k:=l.length) (zaF _) with ⟨j,gj,hj,hgj,hd,hval⟩ | ⟨hno,hval⟩
 ·rw [hval];exact hv j gj t hgj (hall j (by omega)) hd
 ·rw [hval]
  exact hold t (hX t) fun j gj hgj _ hd => hno j gj (List.getElem?_eq_some_iff.1 hgj).1 hgj hd
end
end Go.Ra
namespace Go.Ra
set_option linter.unusedVariables false
set_option linter.unusedSimpArgs false
section
variable {P : Program} {z : ZM} {q : Nat → Bool} {C : Orc} {nt : Nat} {ops : Array Oper} {l : List AG} {σ : St} {S : Nat → St} {V : Nat → AV} {T : Nat → St}
def aCM (listed : Array Bool) : Nat → Prop:=fun j => listed.getD j false = true
theorem aU4 {listed : Array Bool} {i : Nat} (hi : i < listed.size) : aCM (listed.setIfInBounds i true) = fun j => aCM listed j ∨ j = i:=by
 funext j
 unfold aCM
 simp only [Array.getD_eq_getD_getElem?,Array.getElem?_setIfInBounds]
 by_cases h : i = j
 ·subst h;simp [hi]
 ·rw [if_neg h]
  simp only [eq_iff_iff]
  exact ⟨.inl,fun h1 => h1.resolve_right (fun e => h e.symm)⟩
def aIE (fr : Fr) (G0 : Gh) (w0 : World) (nt : Nat) (q : Nat → Bool) (ops : Array Oper) (l : List AG) (σ : St) (S : Nat → St) (V : Nat → AV) (f0 : Option Nat) (D : Nat → Prop) (a : Act) (w : World) : Prop :=
 Mid (fun _ => False) undef (fun _ => False) (fun _ => none) fr G0 w0 nt q ops l σ S V D a w ∨
 ∃ k o d zv b o0 ob,f0 = some k ∧ ops[k]? = some o ∧ l[k]? = some ⟨d,.box (.c zv),none⟩ ∧ zv.flat = true ∧ eK o = [] ∧ o.looksAt ops = [] ∧ Early fr b o0 zv ob ∧ D k ∧
  Mid (fun t => d = some t) (.pointer (some ⟨b,o0,none⟩)) (fun b' => b' = b) (fun _ => ob) fr G0 w0 nt q ops l σ S V (fun j => D j ∧ j ≠ k) a w ∧ ∃ j g,j < k ∧ l[j]? = some g ∧ g.o.eff q = true ∧ ¬ D j
theorem aIE.of {ps : List (Nat × Nat)} {B : Nat → Nat → Prop} {f0 : Option Nat} (hq : mE q C) (hm : ops.toList.mapM (gZ z P nt ops) = some l) (hok : OkR q ops l ps B f0) (ht : Trail C l σ S V T) {fr : Fr} {G0 : Gh} {w0 : World} {D : Nat → Prop} {a : Act} {w : World} {b o0 : Nat} {ob : Option Obj} {k : Nat} {o : Oper} {d : Option Nat} {zv : AV}
  (hf : f0 = some k) (ho : ops[k]? = some o) (hg : l[k]? = some ⟨d,.box (.c zv),none⟩) (hflat : zv.flat = true) (hedge : eK o = []) (hlook : o.looksAt ops = []) (he : Early fr b o0 zv ob) (hD : D k)
  (h : Mid (fun t => d = some t) (.pointer (some ⟨b,o0,none⟩)) (fun b' => b' = b) (fun _ => ob) fr G0 w0 nt q ops l σ S V (fun j => D j ∧ j ≠ k) a w) : aIE fr G0 w0 nt q ops l σ S V f0 D a w:=by
 by_cases hex : ∃ j g,j < k ∧ l[j]? = some g ∧ g.o.eff q = true ∧ ¬ D j
 ·exact .inr ⟨k,o,d,zv,b,o0,ob,hf,ho,hg,hflat,hedge,hlook,he,hD,h,hex⟩
 ·have:=h.bC4 hq hm hok ht he ho hg hflat hedge (fun h => h.2 rfl) fun j g hj hgj hej => by
   refine ⟨Classical.byContradiction fun hn => hex ⟨j,g,hj,hgj,hej,hn⟩,by omega⟩
  refine .inl ?_
  have e : (fun j => (D j ∧ j ≠ k) ∨ j = k) = D:=by
   funext j
   by_cases hj : j = k
   ·subst hj;simp [hD]
   ·simp [hj]
  rw [e] at this
  exact this
theorem aIE.step {ps : List (Nat × Nat)} {B : Nat → Nat → Prop} {f0 : Option Nat} (hC : oC P C) (hq : mE q C) (hm : ops.toList.mapM (gZ z P nt ops) = some l) (hok : OkR q ops l ps B f0) (ht : Trail C l σ S V T) (hsep : qR (S l.length) ps) {fr : Fr} {G0 : Gh} {w0 : World} {D : Nat → Prop} {a : Act} {w : World}
  (h : aIE fr G0 w0 nt q ops l σ S V f0 D a w) {k : Nat} {o : Oper} (ho : ops[k]? = some o) (hD : ¬ D k) (he : ∀ e ∈ eK o,D e) (hD1 : ∀ j,D j → j < ops.size) {K : Act → World → Prop} {Q : Exit → Act → World → Prop}
  (hK : ∀ a' w',aIE fr G0 w0 nt q ops l σ S V f0 (fun j => D j ∨ j = k) a' w' → K a' w') :
  if Region.wanted o (yielded ops a.tmps) = true then o.wp P a w K Q else K (a.put o.dst undef) w:=by
 rcases h with h | ⟨k0,oa,d,zv,b,o0,ob,hf,hoa,hg,hflat,hedge,hlook,hear,hDk,h,jx,gx,hx1,hx2,hx3,hx4⟩
 ·by_cases hfl : f0 = some k ∧ ∃ j g,j < k ∧ l[j]? = some g ∧ g.o.eff q = true ∧ ¬ D j
  ·obtain ⟨hf,hex⟩:=hfl
   obtain ⟨o',d,zv,e1,e2,e3,e4,e5,_⟩:=hok.flo k hf
   rw [ho] at e1
   simp only [zaA] at e1
   subst e1
   refine h.early hC hm hok ht ho e2 e3 e5 hD fun a' w' b o0 ob hear hmid => hK _ _ ?_
   refine aIE.of hq hm hok ht hf ho e2 e3 e4 e5 hear (.inr rfl) ?_
   have e : (fun j => (D j ∨ j = k) ∧ j ≠ k) = D:=by
    funext j
    by_cases hj : j = k
    ·subst hj;simp [hD]
    ·simp [hj]
   rw [e]
   exact hmid
  ·refine h.step hC hq hm hok ht hsep ho hD he hD1 (fun _ _ h => h) (fun _ _ h => h) (fun j g hf hgj hj hej => ?_) fun a' w' hmid => hK _ _ (.inl hmid)
   exact Classical.byContradiction fun hn => hfl ⟨hf,j,g,hj,hgj,hej,hn⟩
 ·have hne : k ≠ k0:=fun e => hD (by rw [e];exact hDk)
  obtain ⟨oa',d',zv',f1,f2,f3,f4,f5,f6⟩:=hok.flo k0 hf
  rw [hoa] at f1
  simp only [zaA] at f1
  subst f1
  rw [hg] at f2
  have hclosed : ∀ j oj,ops[j]? = some oj → D j → ∀ e ∈ eK oj,D e:=fun j oj hoj hDj e hej => by
   by_cases hj : j = k0
   ·subst hj
    rw [hoa] at hoj
    simp only [zaA] at hoj
    subst hoj
    rw [hedge] at hej
    cases hej
   ·exact (h.closed j oj hoj ⟨hDj,hj⟩ e hej).1
  have hno : k0 ∉ eK o:=fun hmem => by
   have h1:=f6 k o ho hmem jx gx hx1 hx2 hx3
   have h2:=hok.aZU k o ho k0 hmem
   exact hx4 (p3 hok hclosed k o ho he jx (by omega) h1)
  have he' : ∀ e ∈ eK o,D e ∧ e ≠ k0:=fun e hm => ⟨he e hm,fun h => hno (by rw [← h];exact hm)⟩
  have hnb : ∀ m,D m ∧ m ≠ k0 → k0 < m → ¬ B m k0:=by
   intro m
   induction m using Nat.strongRecOn with
   | _ m ih =>
    intro hDm hlt hB
    have hm1 : m < ops.size:=hD1 m hDm.1
    have hom:=Array.getElem?_eq_getElem hm1
    obtain ⟨e,h1,h2⟩:=hok.bits m k0 _ hom hlt hB
    have h3:=h.closed m _ hom hDm e h1
    have h4:=hok.aZU m _ hom e h1
    rcases h2 with rfl | ⟨h2,h5⟩
    ·exact h3.2 rfl
    ·exact ih e h4 h3 h2 h5
  have hnbk : k0 < k → ¬ B k k0:=fun hlt hB => by
   obtain ⟨e,h1,h2⟩:=hok.bits k k0 o ho hlt hB
   have h3:=he' e h1
   rcases h2 with rfl | ⟨h2,h5⟩
   ·exact h3.2 rfl
   ·exact hnb e h3 h2 h5
  have hnb0 : ∀ j,j < k0 → ¬ B k0 j:=fun j hj hB => by
   obtain ⟨e,h1,_⟩:=hok.bits k0 j oa hoa hj hB
   rw [hedge] at h1
   cases h1
  have hda : oa.dst = d:=by
   obtain ⟨g',h1,h2⟩:=aPU hm hoa
   rw [hg] at h1
   simp only [zaA] at h1
   subst h1
   exact (fG h2).2.2.1.symm
  refine h.step hC hq hm hok ht hsep ho (fun hh => hD hh.1) he' (fun j hj => hD1 j hj.1) (fun t ht2 hX => ?_) (fun d2 hd2 hX => ?_) (fun j g hf2 _ _ _ => ?_) fun a' w' hmid => hK _ _ ?_
  ·have hn : aBW oa.dst (o.looksAt ops) = true:=by
    rw [hda,hX]
    simpa [aBW] using ht2
   rcases Nat.lt_trichotomy k k0 with hlt | hlt | hlt
   ·exact hnb0 k hlt (hok.j8 k0 k o oa hoa ho hlt (by simp [aDK,hn]))
   ·exact hne hlt
   ·exact hnbk hlt (hok.j8 k k0 oa o ho hoa hlt (by simp [aDK,hn]))
  ·rcases Nat.lt_trichotomy k k0 with hlt | hlt | hlt
   ·have:=hok.apart k0 k o oa hoa ho hlt
    rw [hda,hX,hd2] at this
    simp [rA] at this
   ·exact hne hlt
   ·have:=hok.apart k k0 oa o ho hoa hlt
    rw [hda,hX,hd2] at this
    simp [rA] at this
  ·rw [hf] at hf2
   simp only [zaA] at hf2
   exact absurd hf2.symm hne
  ·refine aIE.of hq hm hok ht hf hoa hg hflat hedge hlook hear (.inl hDk) ?_
   have e : (fun j => (D j ∨ j = k) ∧ j ≠ k0) = fun j => (D j ∧ j ≠ k0) ∨ j = k:=by
    funext j
    by_cases hj : j = k
    ·subst hj;simp [hne]
    ·simp [hj]
   rw [e]
   exact hmid
theorem aN4 {ps : List (Nat × Nat)} {B : Nat → Nat → Prop} (hC : oC P C) (hq : mE q C) (hm : ops.toList.mapM (gZ z P nt ops) = some l) {f0 : Option Nat} (hok : OkR q ops l ps B f0) (ht : Trail C l σ S V T) (hsep : qR (S l.length) ps) {fr : Fr} {G0 : Gh} {w0 : World} {Q : Exit → Act → World → Prop}
  (hQ : ∀ a w,Sim fr G0 w0 nt (S l.length) a w → Q .normal a w) : ∀ (fuel : Nat) (listed : Array Bool) (a : Act) (w : World),listed.size = ops.size → listed.count false ≤ fuel →
   aIE fr G0 w0 nt q ops l σ S V f0 (aCM listed) a w → wpAny P .any ops Q fuel listed a w:=by
 have hend : ∀ (listed : Array Bool) (a : Act) (w : World),listed.size = ops.size → aIE fr G0 w0 nt q ops l σ S V f0 (aCM listed) a w → Region.ready .any ops listed = [] → Q .normal a w:=by
  intro listed a w hsz hmid hr
  have hall : ∀ k,k < ops.size → aCM listed k:=?_
  ·rcases hmid with hmid | ⟨k0,_,_,_,_,_,_,_,_,_,_,_,_,_,_,_,jx,gx,hx1,hx2,hx3,hx4⟩
   ·exact hQ a w (hmid.done hq hm ht (fun _ h => h) hall)
   ·refine absurd (hall jx ?_) hx4
    have:=(List.getElem?_eq_some_iff.1 hx2).1
    rw [sS hm] at this
    simpa using this
  intro k
  induction k using Nat.strongRecOn with
  | _ k ih =>
   intro hk
   cases hl : listed.getD k true with
   | true =>
    unfold aCM
    simp only [Array.getD_eq_getD_getElem?] at hl ⊢
    rw [Array.getElem?_eq_getElem (by omega)] at hl ⊢
    simpa using hl
   | false =>
    have hmem : k ∈ Region.ready .any ops listed:=mem_ready.2 ⟨hl,ops[k],Array.getElem?_eq_getElem hk,fun e he hb => by
     have hee : e.on ∈ eK ops[k]:=by
      unfold eK
      exact List.mem_map.2 ⟨e,List.mem_filter.2 ⟨by simpa using he,hb⟩,rfl⟩
     have hlt:=hok.aZU k _ (Array.getElem?_eq_getElem hk) e.on hee
     exact ih e.on hlt (by omega)⟩
    rw [hr] at hmem
    cases hmem
 intro fuel
 induction fuel with
 | zero =>
  intro listed a w hsz hcnt hmid
  have hr : Region.ready .any ops listed = []:=by
   refine List.eq_nil_iff_forall_not_mem.2 fun k hk => ?_
   obtain ⟨h1,o,h2,_⟩:=mem_ready.1 hk
   have hlt : k < listed.size:=by rw [hsz];exact (Array.getElem?_eq_some_iff.1 h2).1
   have h3 : Array.count false listed = 0:=by omega
   rw [Array.count_eq_zero] at h3
   refine h3 ?_
   rw [Array.getD_eq_getD_getElem?,Array.getElem?_eq_getElem hlt] at h1
   simp only [Option.getD_some] at h1
   rw [← h1];exact Array.getElem_mem hlt
  exact ⟨hr,hend listed a w hsz hmid hr⟩
 | succ fuel ih =>
  intro listed a w hsz hcnt hmid
  refine ⟨hend listed a w hsz hmid,fun i hi => ?_⟩
  obtain ⟨h1,o,h2,h3⟩:=mem_ready.1 hi
  have hlt : i < listed.size:=by rw [hsz];exact (Array.getElem?_eq_some_iff.1 h2).1
  have hf : listed[i] = false:=by
   rw [Array.getD_eq_getD_getElem?,Array.getElem?_eq_getElem hlt] at h1
   simpa using h1
  have hcnt2 : (listed.setIfInBounds i true).count false ≤ fuel:=by
   rw [Array.setIfInBounds,dif_pos hlt,Array.count_set hlt,hf]
   simp
   omega
  have hnD : ¬ aCM listed i:=by
   unfold aCM
   rw [Array.getD_eq_getD_getElem?,Array.getElem?_eq_getElem hlt,hf]
   simp
  have:=hmid.step hC hq hm hok ht hsep h2 hnD (fun e he => by
   unfold eK at he
   obtain ⟨e',he1,rfl⟩:=List.mem_map.1 he
   obtain ⟨he2,he3⟩:=List.mem_filter.1 he1
   exact h3 e' (by simpa using he2) he3) (fun j hj => by
    unfold aCM at hj
    rcases Nat.lt_or_ge j listed.size with h | h
    ·omega
    ·rw [Array.getD_eq_getD_getElem?,Array.getElem?_eq_none h] at hj
     cases hj) (K:=wpAny P .any ops Q fuel (listed.setIfInBounds i true)) (Q:=Q) (fun a' w' hmid' => ih _ a' w' (by simpa using hsz) hcnt2 (by rw [aU4 hlt];exact hmid'))
  unfold wpOp
  rw [h2]
  simp only
  split
  ·rename_i hw
   rw [if_pos hw] at this
   exact .inl this
  ·rename_i hw
   rw [if_neg hw] at this
   exact this
theorem lF (hmix : P.follows .mixedOrders = true) (hC : oC P C) (hq : mE q C) {id : Nat} {draw : Bool} (hm : ops.toList.mapM (gZ z P nt ops) = some l) {ps : List (Nat × Nat)} (hok : draw = true → okR q ops l = some ps) {fr : Fr} {G0 : Gh} {w0 : World} {a : Act} {w : World} {KA : St → Prop}
  {Q : Exit → Act → World → Prop} (hs : Sim fr G0 w0 nt σ a w) (h : wpOps C l σ fun τ => qR τ ps ∧ KA τ) (hQ : ∀ σ a w,Sim fr G0 w0 nt σ a w → KA σ → Q .normal a w) : (Code.region id ops draw).wp P Q a w:=by
 cases draw with
 | false => exact wp_region_list (aGX hC (fun σ a w hs hk => hQ σ a w hs hk.2) _ _ hm σ a w hs h)
 | true =>
  obtain ⟨B,f0,hB⟩:=aU3 (hok rfl)
  obtain ⟨S,V,T,ht,hK⟩:=aKV h
  refine wp_region_any hmix (aN4 hC hq hm hB ht hK.1 (fun a w hs => hQ _ a w hs hK.2) ops.size _ a _ (by simp) (by simp [Array.count_replicate]) ?_)
  obtain ⟨G,s1,s2,s3,s4⟩:=hs
  have hno : ∀ j,¬ aCM (Array.replicate ops.size false) j:=fun j hj => by
   unfold aCM at hj
   simp only [Array.getD_eq_getD_getElem?,Array.getElem?_replicate] at hj
   split at hj <;> simp at hj
  refine .inl ⟨⟨G,0,Nat.zero_le _,fun j hj i hi => by { have hj0 : j = 0:=by { omega };subst hj0;rw [ht.zero] at hi ⊢;exact (s1.wf.free i hi).1 },fun j g _ _ => ⟨fun h => absurd h (hno j),fun h => by omega⟩, ?_,fun k g t _ hd => absurd hd (hno k),fun t _ _ => ?_,fun b hb => hb.elim⟩,fun k o _ hd => absurd hd (hno k),s3,s4,fun t ht => ht.elim⟩
  ·rw [ht.zero]
   exact s1.drew ⟨rfl,rfl,rfl,rfl⟩
  ·exact (Own.goto (fr:=fr) (σ:=σ) s1.own |>.drew (w':={ w with drawn:=w.drawn + 1 }) ⟨rfl,rfl,rfl,rfl⟩).mono (s2 t)
end
theorem Wf.aSU {G : Gh} {w : World} {σ τ : St} (h : Wf G w σ.H (fun i => σ.n ≤ i)) (hk : nF σ τ) : Wf G w τ.H (fun i => τ.n ≤ i):=by
 obtain ⟨_,h1,h2⟩:=hk
 have live : ∀ i,τ.H i ≠ none → τ.H i = σ.H i:=fun i hi => (h1 i).resolve_left hi
 refine ⟨fun i hi => ?_,h.fsz,fun i t hi => ?_,fun i j b o o' hi hj => ?_⟩
 ·have:=h.free i (Nat.le_trans h2 hi)
  refine ⟨?_,this.2⟩
  rcases h1 i with h3 | h3
  ·exact h3
  ·rw [h3];exact this.1
 ·exact h.blk i t (by rw [← live i (by rw [hi];simp)];exact hi)
 ·exact h.dis i j b o o' (by rw [← live i hi];exact hi) (by rw [← live j hj];exact hj)
theorem sO.aSU {fr : Fr} {G : Gh} {w : World} {σ τ : St} (h : sO fr G w σ.H) (hk : nF σ τ) : sO fr G w τ.H :=
 ⟨h.os,h.tape,h.output,h.size,h.same,h.ext,h.f0,h.sJ,fun i b o hi => h.loc i b o (by
  rcases hk.2.1 i with h3 | h3
  ·exact absurd h3 hi
  ·rw [← h3];exact hi)⟩
theorem aPV {w : World} {F : Nat → Prop} {ρ : Nat → Option Loc} {a b : AV} {v : Value} (h : leA a b) (hr : bL w F ρ a v) : bL w F ρ b v:=by
 rcases h with rfl | rfl | ⟨x,es,es',ts,rfl,rfl,h7⟩
 ·exact .unk
 ·exact hr
 ·cases hr with
  | agg _ h => simp [AV.isAgg] at h
  | one h8 _ =>
   cases h8 with
   | gW _ => exact .one (.gW (fun h => by cases h)) rfl
   | fro g1 g2 g3 g4 g5 =>
    rcases h7 with rfl | rfl
    ·exact .one (.fro g1 g2 g3 (fun h => by cases h) g5) rfl
    ·exact .one (.gW (fun h => by cases h)) rfl
theorem Sim.aSU {fr : Fr} {G0 : Gh} {w0 : World} {nt : Nat} {σ τ : St} {a : Act} {w : World} (h : Sim fr G0 w0 nt σ a w) (hk : nF σ τ) : Sim fr G0 w0 nt τ a w:=by
 obtain ⟨G,h1,h2,h3,h4⟩:=h
 refine ⟨G,⟨h1.wf.aSU hk,h1.fr.aSU hk,h1.ext,h1.leF,h1.leR⟩,fun t => ?_,h3,h4⟩
 exact aPV (hk.1 t) (h2 t)
theorem aGM.of {m : Nat} {σ τ : St} (h : nF σ τ) : aGM m σ τ:=⟨h.1,h.2.1,.inl h.2.2⟩
theorem Sim.low {fr : Fr} {G0 : Gh} {w0 : World} {nt : Nat} {σ τ : St} {a : Act} {w : World} {m : Nat} (h : Sim fr G0 w0 nt σ a w) (hm : ∀ i l,G0.ρ i = some l → i < m) (hk : aGM m σ τ) : Sim fr G0 w0 nt τ a w:=by
 obtain ⟨he,hH,hn | ⟨h1,h2,h3,h4⟩⟩:=hk
 ·exact h.aSU ⟨he,hH,hn⟩
 ·obtain ⟨G,g1,g2,g3,g4⟩:=h
  have live : ∀ i,τ.H i ≠ none → τ.H i = σ.H i:=fun i hi => (hH i).resolve_left hi
  have lt : ∀ i,τ.H i ≠ none → i < τ.n:=fun i hi => Nat.lt_of_not_le fun h => hi (h3 i h)
  have cut : ∀ i,i < τ.n → aA4 τ.n G.ρ i = G.ρ i:=fun i hi => by simp [aA4,hi]
  refine ⟨⟨aA4 τ.n G.ρ,G.F⟩,⟨⟨fun i hi => ⟨h3 i hi, ?_⟩,g1.wf.fsz,fun i t hi => ?_,fun i j b o o' hi hj hri hrj => ?_⟩, ?_,g1.ext,g1.leF,fun i l hi => ?_⟩,fun t => ?_,g3,g4⟩
  ·have : ¬ i < τ.n:=by omega
   simp [aA4,this]
  ·have hne : τ.H i ≠ none:=by rw [hi];simp
   have h5:=cut i (lt i hne)
   rcases g1.wf.blk i t (by rw [← live i hne];exact hi) with ⟨b,o,cs,cur,e,k1,k2,k3,k4,k5⟩ | ⟨k1,k2⟩
   ·exact .inl ⟨b,o,cs,cur,e,h5.trans k1,k2.cut (h4 i t hi),k3,k4,k5⟩
   ·exact .inr ⟨h5.trans k1,k2⟩
  ·replace hri:=(cut i (lt i hi)).symm.trans hri
   replace hrj:=(cut j (lt j hj)).symm.trans hrj
   exact g1.wf.dis i j b o o' (by rw [← live i hi];exact hi) (by rw [← live j hj];exact hj) hri hrj
  ·have hf:=g1.fr
   refine ⟨hf.os,hf.tape,hf.output,hf.size,hf.same,hf.ext,hf.f0,hf.sJ,fun i b o hi hri => ?_⟩
   replace hri:=(cut i (lt i hi)).symm.trans hri
   exact hf.loc i b o (by rw [← live i hi];exact hi) hri
  ·exact (cut i (Nat.lt_of_lt_of_le (hm i l hi) h1)).trans (g1.leR i l hi)
  ·exact (aPV (he t) (g2 t)).cut (h2 t)
theorem aIF {κ : Nat → Option Nat} {a b : AV} (h : leK κ a b) : b.isAgg = a.isAgg:=by cases h <;> rfl
mutual
theorem bK.leK {w : World} {F : Nat → Prop} {κ : Nat → Option Nat} : ∀ {ρ : Nat → Option Loc} {a b : AV} {cs : List Value},leK κ a b → bK w F ρ a cs → bK w F (fun j => (κ j).bind ρ) b cs
 | _,_,_,_,.same h,hr => (hr.cut h).mono (Ext.refl F w) (fun _ h => h) (fun i l hi => by simp [aA4] at hi)
 | _,_,_,_,.sl h,hr => by
  cases hr with
  | sl0 => exact .sl0
  | sl h1 h2 h3 h4 => exact .sl (by simp only [h];exact h1) h2 h3 h4
 | _,_,_,_,.ptr h,hr => by
  cases hr with
  | ptr h1 => exact .ptr (by simp only [h];exact h1)
 | _,_,_,_,.agg h,hr => by
  cases hr with
  | agg h1 h2 => exact .agg (dM.aA2 h h1) h2
 | ρ,_,_,_,.split (es:=es) (pre:=pre) (post:=post) (t:=t) hn h,hr => by
  cases hr with
  | arr h1 h2 =>
   obtain ⟨c1,c2,c3,rfl,e1,e2,e3,e4,e5⟩:=h1.nth (i:=pre.length) (t:=t) (by simp)
   have e6:=bK.leK h (e2.up (ρ:=ρ))
   have e4' : dQ w F es pre c1:=by simpa using e4
   have e5' : dQ w F es post c3:=by simpa using e5
   refine .agg (.cons (.arr e4' rfl) (.cons e6 (by simpa using dM.cons (.arr e5' rfl) .nil))) ?_
   rw [List.length_append,List.length_append,e1,e3,e5'.size,hn,Nat.add_mul,Nat.add_mul,Nat.one_mul]
 | _,_,_,_,.join hi hs h,hr => by
  cases hr with
  | agg h1 h2 =>
   cases h1 with
   | cons r1 h1 =>
    cases h1 with
    | cons r2 h1 =>
     cases h1 with
     | cons r3 h1 =>
      cases h1
      cases r1 with
      | arr q1 q2 =>
       cases r3 with
       | arr q3 q4 =>
        have e6:=bK.leK h r2
        have e7:=e6.size
        simp only [List.append_nil]
        exact .arr (q1.append (.cons (e6.free hi) (e7.trans hs) q3)) (by simp [q2,q4];omega)
 | _,_,_,_,.clo h,hr => by
  cases hr with
  | clo h1 => exact .clo (jM.aA2 h h1)
 | _,_,_,_,.fro h7,hr => by
  cases hr with
  | gW h => exact .gW (fun h => by cases h)
  | fro g1 g2 g3 g4 g5 =>
   rcases h7 with rfl | rfl
   ·exact .fro g1 g2 g3 (fun h => by cases h) g5
   ·exact .gW (fun h => by cases h)
 | _,_,_,_,.nil,hr => by
  cases hr with
  | gW h =>
   have:=h rfl
   subst this
   exact .sl0
  | fro g1 g2 g3 g4 g5 =>
   have:=g4 rfl
   subst this
   exact .sl0
theorem dM.aA2 {w : World} {F : Nat → Prop} {κ : Nat → Option Nat} : ∀ {ρ : Nat → Option Loc} {a b : List AV} {cs : List Value},aA2 κ a b → dM w F ρ a cs → dM w F (fun j => (κ j).bind ρ) b cs
 | _,_,_,_,.nil,.nil => .nil
 | _,_,_,_,.cons h1 h2,.cons h3 h4 => .cons (bK.leK h1 h3) (dM.aA2 h2 h4)
theorem jM.aA2 {w : World} {F : Nat → Prop} {κ : Nat → Option Nat} : ∀ {ρ : Nat → Option Loc} {a b : List AV} {cs : List Value},aA2 κ a b → jM w F ρ a cs → jM w F (fun j => (κ j).bind ρ) b cs
 | _,_,_,_,.nil,.nil => .nil
 | _,_,_,_,.cons h1 h2,.cons h3 h0 h4 => .cons (bK.leK h1 h3) ((aIF h1).trans h0) (jM.aA2 h2 h4)
end
theorem bL.leK {w : World} {F : Nat → Prop} {κ : Nat → Option Nat} {ρ : Nat → Option Loc} {a b : AV} {v : Value} (h : Ra.leK κ a b) (hr : bL w F ρ a v) : bL w F (fun j => (κ j).bind ρ) b v:=by
 cases hr with
 | one h1 h2 => exact .one (h1.leK h) ((aIF h).trans h2)
 | agg h1 h2 => exact .agg (h1.leK h) ((aIF h).trans h2)
 | tup h1 =>
  cases h with
  | same h => exact ((bL.tup h1).cut h).mono (Ext.refl F w) (fun _ h => h) (fun i l hi => by simp [aA4] at hi)
 | dV =>
  cases h with
  | same h => exact .dV
 | unk =>
  cases h with
  | same h => exact .unk
theorem Sim.a85 {fr : Fr} {G0 : Gh} {w0 : World} {nt : Nat} {σ τ : St} {a : Act} {w : World} {m : Nat} (h : Sim fr G0 w0 nt σ a w) (hm : ∀ i l,G0.ρ i = some l → i < m) (hk : a3P m σ τ) : Sim fr G0 w0 nt τ a w:=by
 obtain ⟨κ,k1,k2,k3,k4,k5,k6⟩:=hk
 ·obtain ⟨G,g1,g2,g3,g4⟩:=h
  have old : ∀ j,τ.H j ≠ none → ∀ b o,(κ j).bind G.ρ = some (b,o) → ∃ i,κ j = some i ∧ σ.H i ≠ none ∧ G.ρ i = some (b,o):=by
   intro j hj b o hb
   cases ht : τ.H j with
   | none => exact absurd ht hj
   | some t' =>
    rcases k6 j t' ht with ⟨i,t,h1,h2,h3⟩ | ⟨h1,_⟩
    ·rw [h1] at hb
     exact ⟨i,h1,by rw [h2];simp,hb⟩
    ·rw [h1] at hb;cases hb
  refine ⟨⟨fun j => (κ j).bind G.ρ,G.F⟩,⟨⟨fun j hj => ⟨(k2 j hj).1,by simp only [(k2 j hj).2];rfl⟩,g1.wf.fsz,fun j t' hj => ?_,fun i j b o o' hi hj hri hrj => ?_⟩, ?_,g1.ext,g1.leF,fun i l hi => ?_⟩,fun t => ?_,g3,g4⟩
  ·rcases k6 j t' hj with ⟨i,t,h1,h2,h3⟩ | ⟨h1,es,rfl⟩
   ·rcases g1.wf.blk i t h2 with ⟨b,o,cs,cur,e,c1,c2,c3,c4,c5⟩ | ⟨c1,es,rfl⟩
    ·exact .inl ⟨b,o,cs,cur,e,by simp only [h1];exact c1,c2.leK h3,c3,c4,c5⟩
    ·refine .inr ⟨by simp only [h1];exact c1, ?_⟩
     generalize hA : (AV.arr 0 es []) = A at h3
     cases h3 with
     | same _ => exact ⟨es,hA.symm⟩
     | split _ _ => simp at hA
     | _ => cases hA
   ·exact .inr ⟨by simp only [h1];rfl,es,rfl⟩
  ·obtain ⟨i0,a1,a2,a3⟩:=old i hi b o hri
   obtain ⟨j0,b1,b2,b3⟩:=old j hj b o' hrj
   have:=g1.wf.dis i0 j0 b o o' a2 b2 a3 b3
   subst this
   exact k4 _ _ _ hi hj a1 b1
  ·have hf:=g1.fr
   refine ⟨hf.os,hf.tape,hf.output,hf.size,hf.same,hf.ext,hf.f0,hf.sJ,fun j b o hj hrj => ?_⟩
   obtain ⟨i,a1,a2,a3⟩:=old j hj b o hrj
   exact hf.loc i b o a2 a3
  ·show (κ i).bind G.ρ = some l
   rw [k1 i (hm i l hi)]
   exact g1.leR i l hi
  ·rcases k5 t with h | h
   ·rw [h];exact .unk
   ·exact (g2 t).leK h
def FI (G : Gh) (σ : St) (L : List Nat) : Nat → Prop:=fun b => G.F b ∨ ∃ i o,i ∈ L ∧ σ.H i ≠ none ∧ G.ρ i = some (b,o)
mutual
theorem bK.leF {fr : Fr} {G : Gh} {w : World} {σ : St} {L : List Nat} (hown : Own fr G w σ) : ∀ {a b : AV} {cs : List Value},leF L σ a b → bK w G.F G.ρ a cs → bK w (FI G σ L) G.ρ b cs
 | _,_,_,.same,hr => hr.mono (Ext.refl _ w) (fun _ h => .inl h) (fun _ _ h => h)
 | _,_,_,.agg h,hr => by
  cases hr with
  | agg h1 h2 => exact .agg (dM.aH0 hown h h1) h2
 | _,_,_,.fz (id:=id) (path:=path) (off:=off) (k:=kk) (len:=len) (es:=es) (ts:=ts) hin hrow,hr => by
  obtain ⟨u,rfl⟩:=hr.single rfl
  have hv : bL w G.F G.ρ (.sl id path off kk len es) u:=.one hr rfl
  obtain ⟨ad,cap,h1,h2,h3⟩:=qY hown.1 (fun k t h => h) hrow hv
  obtain ⟨ad',cap',h4,h5,h6⟩:=hv.oA
  rw [h1] at h4
  simp only [Value.slice.injEq] at h4
  obtain ⟨rfl,h7,rfl⟩:=h4
  rw [h1]
  rcases h3 with rfl | ⟨b,o,cs,rfl,h8,h9⟩
  ·exact .gW (fun h => by cases h)
  ·rcases h6 with ⟨h10,h11⟩ | ⟨b',o',cur,e,h10,h11,_⟩
   ·have : ts = []:=List.eq_nil_of_length_eq_zero (by omega)
    subst this
    exact .gW (fun h => by cases h)
   ·simp only [zaA,Addr.mk.injEq] at h10
    obtain ⟨rfl,_⟩:=h10
    by_cases hl0 : len = 0
    ·have hts : ts = []:=by
      simp only [St.row,hl0,if_true,zaA] at hrow
      exact hrow.symm
     subst hts
     exact .gW (fun h => by cases h)
    refine .fro (h8.mono (Ext.refl _ w) (fun _ h => .inl h)) h9 (.inr ⟨id,o',hin, ?_,h11⟩) (fun h => by cases h) h2
    intro hn
    simp only [St.row,if_neg hl0,hn] at hrow
    cases hrow
theorem dM.aH0 {fr : Fr} {G : Gh} {w : World} {σ : St} {L : List Nat} (hown : Own fr G w σ) : ∀ {a b : List AV} {cs : List Value},aH0 L σ a b → dM w G.F G.ρ a cs → dM w (FI G σ L) G.ρ b cs
 | _,_,_,.nil,.nil => .nil
 | _,_,_,.cons h1 h2,.cons h3 h4 => .cons (bK.leF hown h1 h3) (dM.aH0 hown h2 h4)
end
theorem aPW {L : List Nat} {σ : St} {a b : AV} (h : leF L σ a b) : b.isAgg = a.isAgg:=by cases h <;> rfl
theorem bL.leF {fr : Fr} {G : Gh} {w : World} {σ : St} {L : List Nat} (hown : Own fr G w σ) {a b : AV} {v : Value} (h : Ra.leF L σ a b) (hr : bL w G.F G.ρ a v) : bL w (FI G σ L) G.ρ b v:=by
 cases hr with
 | one h1 h2 => exact .one (h1.leF hown h) ((aPW h).trans h2)
 | agg h1 h2 => exact .agg (h1.leF hown h) ((aPW h).trans h2)
 | tup h1 =>
  cases h with
  | same => exact (bL.tup h1).mono (Ext.refl _ w) (fun _ h => .inl h) (fun _ _ h => h)
 | dV =>
  cases h with
  | same => exact .dV
 | unk =>
  cases h with
  | same => exact .unk
theorem Sim.freeze {fr : Fr} {G0 : Gh} {w0 : World} {nt : Nat} {σ τ : St} {a : Act} {w : World} (h : Sim fr G0 w0 nt σ a w) (hf : aRX σ τ) : Sim fr G0 w0 nt τ a w:=by
 obtain ⟨G,g1,g2,g3,g4⟩:=h
 obtain ⟨L,f1,f2,f3⟩:=hf
 have hown : Own fr G w σ:=⟨g1.wf,g1.fr⟩
 have old : ∀ j,τ.H j ≠ none → j ∉ L ∧ σ.H j ≠ none:=fun j hj => by
  rcases f3 j with h | ⟨h,t,t',h1,h2,h3⟩
  ·exact absurd h hj
  ·exact ⟨h,by rw [h1];simp⟩
 refine ⟨⟨G.ρ,FI G σ L⟩,⟨⟨fun i hi => ?_,fun b hb => ?_,fun j t' hj => ?_,fun i j b o o' hi hj => ?_⟩, ?_,g1.ext,fun b hb => .inl (g1.leF b hb),g1.leR⟩,fun t => ?_,g3,g4⟩
 ·have:=g1.wf.free i (by rw [← f1];exact hi)
  refine ⟨?_,this.2⟩
  rcases f3 i with h | ⟨_,t,t',h1,_⟩
  ·exact h
  ·rw [this.1] at h1;cases h1
 ·rcases hb with hb | ⟨i,o,_,hi,hr⟩
  ·exact g1.wf.fsz b hb
  ·cases ht : σ.H i with
   | none => exact absurd ht hi
   | some t =>
    rcases g1.wf.blk i t ht with ⟨b',o',cs,cur,e,k1,k2,k3,_⟩ | ⟨k1,_⟩
    ·rw [hr] at k1
     simp only [zaA,zaJ] at k1
     rw [k1.1];exact lt_of_block k3
    ·rw [hr] at k1;cases k1
 ·rcases f3 j with h | ⟨hL,t,t2,h1,h2,h3⟩
  ·rw [h] at hj;cases hj
  ·rw [h2] at hj
   simp only [zaA] at hj
   subst hj
   rcases g1.wf.blk j t h1 with ⟨b,o,cs,cur,e,k1,k2,k3,k4,k5⟩ | ⟨k1,es,rfl⟩
   ·refine .inl ⟨b,o,cs,cur,e,k1,k2.leF hown h3,k3,k4, ?_⟩
    rintro (hb | ⟨i,o',hi,hH,hr⟩)
    ·exact k5 hb
    ·have:=g1.wf.dis i j b o' o hH (by rw [h1];simp) hr k1
     subst this
     exact hL hi
   ·refine .inr ⟨k1, ?_⟩
    cases h3 with
    | same => exact ⟨es,rfl⟩
 ·exact g1.wf.dis i j b o o' (old i hi).2 (old j hj).2
 ·have hf:=g1.fr
  refine ⟨hf.os,hf.tape,hf.output,hf.size,hf.same,hf.ext,fun b hb => .inl (hf.f0 b hb),fun b hb => ?_,fun i b o hi hr => hf.loc i b o (old i hi).2 hr⟩
  rcases hb with hb | ⟨i,o,_,hi,hr⟩
  ·exact hf.sJ b hb
  ·exact .inr (hf.loc i b o hi hr)
 ·exact (g2 t).leF hown (f2 t)
def cG (m : Nat) (σ τ : St) : Prop:=∀ fr G0 w0 nt a w,(∀ i l,G0.ρ i = some l → i < m) → Sim fr G0 w0 nt σ a w → Sim fr G0 w0 nt τ a w
theorem Sim.aKW {fr : Fr} {G0 : Gh} {w0 : World} {nt : Nat} {σ τ : St} {a : Act} {w : World} {m : Nat} (h : Sim fr G0 w0 nt σ a w) (hm : ∀ i l,G0.ρ i = some l → i < m) (hk : cG m σ τ) : Sim fr G0 w0 nt τ a w:=hk _ _ _ _ _ _ hm h
theorem cG.ofL {m : Nat} {σ τ : St} (h : aGM m σ τ) : cG m σ τ:=fun _ _ _ _ _ _ hm hs => hs.low hm h
theorem cG.of {m : Nat} {σ τ : St} (h : nF σ τ) : cG m σ τ:=fun _ _ _ _ _ _ _ hs => hs.aSU h
theorem cG.frz {m : Nat} {σ τ : St} (h : aRX σ τ) : cG m σ τ:=fun _ _ _ _ _ _ _ hs => hs.freeze h
theorem cG.trans {m : Nat} {σ τ υ : St} (h : cG m σ τ) (k : cG m τ υ) : cG m σ υ:=fun fr G0 w0 nt a w hm hs => k fr G0 w0 nt a w hm (h fr G0 w0 nt a w hm hs)
theorem cG.ofK {m : Nat} {σ τ : St} (h : a3P m σ τ) : cG m σ τ:=fun _ _ _ _ _ _ hm hs => hs.a85 hm h
def wpC (C : Orc) : AC → St → (AE → St → Prop) → Prop
 | .skip,σ,Φ => Φ .normal σ
 | .ops l,σ,Φ => wpOps C l σ (Φ .normal)
 | .aFT l ps,σ,Φ => wpOps C l σ fun τ => qR τ ps ∧ Φ .normal τ
 | .seq a b,σ,Φ => wpC C a σ (AE.then (fun σ' => wpC C b σ' Φ) Φ)
 | .cond c x y,σ,Φ =>
  match σ.ev c with
  | .sc (.bool b) => (b = true → wpC C x σ Φ) ∧ (b = false → wpC C y σ Φ)
  | .dV => wpC C x σ Φ ∧ wpC C y σ Φ
  | _ => False
 | .block id c,σ,Φ => wpC C c σ (AE.inBlock id Φ)
 | .loop c,σ,Φ => ∃ (Inv : St → Prop) (μ : St → Nat),(∃ τ,cG σ.n σ τ ∧ Inv τ) ∧
   ∀ τ,Inv τ → wpC C c τ (AE.then (fun τ' => ∃ τ'',cG σ.n τ' τ'' ∧ Inv τ'' ∧ μ τ'' < μ τ) Φ)
 | .exit id,σ,Φ => Φ (.exit id) σ
 | .ret,σ,Φ => Φ .ret σ
 | .frz,σ,Φ => ∃ τ,aRX σ τ ∧ Φ .normal τ
def aN5 (C : Orc) (v : AV) (x y : AC) (σ : St) (Φ : AE → St → Prop) : Prop:=cnd v (wpC C x σ Φ) (wpC C y σ Φ)
section
variable {C : Orc} {σ : St} {Φ : AE → St → Prop}
theorem a86 (x y : AC) : aN5 C (.sc (.bool true)) x y σ Φ = wpC C x σ Φ:=by simp [aN5,cnd]
theorem a87 (x y : AC) : aN5 C (.sc (.bool false)) x y σ Φ = wpC C y σ Φ:=by simp [aN5,cnd]
theorem aZW {x y : AC} (hp : wpC C x σ Φ) (hq : wpC C y σ Φ) : aN5 C .dV x y σ Φ:=⟨hp,hq⟩
theorem aSV {b : Bool} {x y : AC} (hp : b = true → wpC C x σ Φ) (hq : b = false → wpC C y σ Φ) : aN5 C (.sc (.bool b)) x y σ Φ:=⟨hp,hq⟩
theorem aU5 (h : Φ .normal σ) : wpC C .skip σ Φ:=h
theorem aZX {l : List AG} (h : wpOps C l σ (Φ .normal)) : wpC C (.ops l) σ Φ:=h
theorem aZY (h : Φ .ret σ) : wpC C .ret σ Φ:=h
theorem aU6 {i : Nat} (h : Φ (.exit i) σ) : wpC C (.exit i) σ Φ:=h
theorem aSW {i : Nat} {c : AC} (h : wpC C c σ (AE.inBlock i Φ)) : wpC C (.block i c) σ Φ:=h
theorem aU7 (c : AX) (x y : AC) : wpC C (.cond c x y) σ Φ = aN5 C (σ.ev c) x y σ Φ:=rfl
theorem aZZ {a b : AC} (h : ∀ K : St → Prop,KK K (fun σ => wpC C b σ Φ) → wpC C a σ (AE.then K Φ)) : wpC C (.seq a b) σ Φ:=h _ ⟨fun _ h => h⟩
theorem aKX {K : St → Prop} (h : K σ) : AE.then K Φ .normal σ:=h
theorem aU8 {K : St → Prop} (h : Φ .ret σ) : AE.then K Φ .ret σ:=h
theorem aSX {K : St → Prop} {i : Nat} (h : Φ (.exit i) σ) : AE.then K Φ (.exit i) σ:=h
theorem aDR {i : Nat} (h : Φ .normal σ) : AE.inBlock i Φ .normal σ:=h
theorem aKY {i : Nat} (h : Φ .ret σ) : AE.inBlock i Φ .ret σ:=h
theorem aIG {i : Nat} (h : Φ .normal σ) : AE.inBlock i Φ (.exit i) σ:=by simp [AE.inBlock];exact h
theorem aFX {i j : Nat} (hj : ¬ j = i) (h : Φ (.exit j) σ) : AE.inBlock i Φ (.exit j) σ:=by simp [AE.inBlock,hj];exact h
end
def post (fr : Fr) (G0 : Gh) (w0 : World) (nt : Nat) (Φ : AE → St → Prop) : Exit → Act → World → Prop
 | .normal,a,w => ∃ σ,Sim fr G0 w0 nt σ a w ∧ Φ .normal σ
 | .exit id,a,w => ∃ σ,Sim fr G0 w0 nt σ a w ∧ Φ (.exit id) σ
 | .ret,a,w => ∃ σ,Sim fr G0 w0 nt σ a w ∧ Φ .ret σ
 | _,_,_ => False
theorem least (p : Nat → Prop) (h : ∃ n,p n) : ∃ n,p n ∧ ∀ m,p m → n ≤ m:=by
 obtain ⟨n,hn⟩:=h
 induction n using Nat.strongRecOn with
 | _ n ih =>
  by_cases hm : ∃ m,m < n ∧ p m
  ·obtain ⟨m,hm,hp⟩:=hm
   exact ih m hm hp
  ·exact ⟨n,hn,fun m hp => Nat.le_of_not_lt fun hlt => hm ⟨m,hlt,hp⟩⟩
section
variable {P : Program} {q : Nat → Bool} {C : Orc} {nt : Nat}
theorem aGY (hmix : P.follows .mixedOrders = true) (hC : oC P C) (hq : mE q C) {z0 : ZM} {id : Nat} {ops : Array Oper} {draw : Bool} {ac : AC} (htr : a45 P nt (okR q) z0 ops draw = some ac) {fr : Fr} {G0 : Gh} {w0 : World} {σ : St} {a : Act} {w : World} {Φ : AE → St → Prop}
  (hs : Sim fr G0 w0 nt σ a w) (h : wpC C ac σ Φ) : (Code.region id ops draw).wp P (post fr G0 w0 nt Φ) a w:=by
 unfold a45 at htr
 have hno : ∀ {l : List AG} {K : St → Prop},wpOps C l σ K → wpOps C l σ fun τ => qR τ [] ∧ K τ:=fun h => q0 (fun τ hk => ⟨trivial,hk⟩) _ _ h
 split at htr
 ·rename_i l hl
  split at htr
  ·rename_i hdr
   split at htr
   ·rename_i hok
    simp only [zaA] at htr
    subst htr
    exact lF hmix hC hq hl (fun _ => hok) hs (hno h) fun σ a w hs hk => ⟨σ,hs,hk⟩
   ·split at htr
    ·rename_i l2 hl2
     split at htr
     ·rename_i hok
      simp only [zaA] at htr
      subst htr
      exact lF hmix hC hq hl2 (fun _ => hok) hs (hno h) fun σ a w hs hk => ⟨σ,hs,hk⟩
     ·split at htr
      ·rename_i hok
       simp only [zaA] at htr
       subst htr
       exact lF hmix hC hq hl (fun _ => hok) hs h fun σ a w hs hk => ⟨σ,hs,hk⟩
      ·rename_i hok _ _
       simp only [zaA] at htr
       subst htr
       exact lF hmix hC hq hl2 (fun _ => by assumption) hs h fun σ a w hs hk => ⟨σ,hs,hk⟩
      ·cases htr
    ·cases htr
  ·rename_i hd
   simp only [zaA] at htr
   subst htr
   refine lF (ps:=[]) hmix hC hq hl (fun hdr => absurd hdr (by simpa using hd)) hs (hno h) fun σ a w hs hk => ⟨σ,hs,hk⟩
 ·simp only [zaA] at htr
  subst htr
  exact absurd h (by simp [a81,wpC,wpOps,aN,St.ev])
theorem jN (hmix : P.follows .mixedOrders = true) (hC : oC P C) (hq : mE q C) {fz : Nat → Bool} {z0 : ZM} {fr : Fr} {G0 : Gh} {w0 : World} : ∀ (c : Code) (ac : AC) (σ : St) (a : Act) (w : World) (Φ : AE → St → Prop),
  trC P nt (okR q) fz z0 c = some ac → Sim fr G0 w0 nt σ a w → wpC C ac σ Φ → c.wp P (post fr G0 w0 nt Φ) a w
 | .skip,ac,σ,a,w,Φ,htr,hs,h => by
  simp only [trC,zaA] at htr
  subst htr
  exact wp_skip ⟨σ,hs,h⟩
 | .region id ops draw,ac,σ,a,w,Φ,htr,hs,h => by
  simp only [trC] at htr
  split at htr
  ·rename_i ac0 hreg
   simp only [zaA] at htr
   subst htr
   split at h
   ·obtain ⟨τ,h1,h2⟩:=h
    exact aGY hmix hC hq hreg (hs.freeze h1) h2
   ·exact aGY hmix hC hq hreg hs h
  ·cases htr
 | .seq x y,ac,σ,a,w,Φ,htr,hs,h => by
  simp only [trC] at htr
  split at htr
  ·rename_i ax ay hx hy
   simp only [zaA] at htr
   subst htr
   refine wp_seq (wp_mono (jN hmix hC hq x ax σ a w _ hx hs h) fun e a w he => ?_)
   cases e <;> simp only [post] at he
   case normal =>
    obtain ⟨τ,hs,hk⟩:=he
    exact jN hmix hC hq y ay τ a w _ hy hs hk
   case exit id => exact he
   case ret => exact he
  ·cases htr
 | .cond c x y,ac,σ,a,w,Φ,htr,hs,h => by
  simp only [trC] at htr
  split at htr
  ·rename_i c' ax ay hc hx hy
   simp only [zaA] at htr
   subst htr
   obtain ⟨G,s1,s2,s3,s4⟩:=hs
   have hr:=aPQ (w:=w) (G:=G) (σ:=σ) (a:=a) hc fun t _ => s2 t
   unfold wpC at h
   split at h
   ·rename_i b hb
    rw [hb] at hr
    obtain ⟨h1,_⟩:=hr.kZ
    refine wp_cond h1 ?_
    cases b with
    | true => exact jN hmix hC hq x ax σ a w _ hx ⟨G,s1,s2,s3,s4⟩ (h.1 rfl)
    | false => exact jN hmix hC hq y ay σ a w _ hy ⟨G,s1,s2,s3,s4⟩ (h.2 rfl)
   ·rename_i hb
    rw [hb] at hr
    obtain ⟨b,h1⟩:=hr.aKA
    refine wp_cond h1 ?_
    cases b with
    | true => exact jN hmix hC hq x ax σ a w _ hx ⟨G,s1,s2,s3,s4⟩ h.1
    | false => exact jN hmix hC hq y ay σ a w _ hy ⟨G,s1,s2,s3,s4⟩ h.2
   ·cases h
  ·cases htr
 | .block id c,ac,σ,a,w,Φ,htr,hs,h => by
  simp only [trC] at htr
  obtain ⟨ax,hx,rfl⟩:=fW htr
  refine wp_block (wp_mono (jN hmix hC hq c ax σ a w _ hx hs h) fun e a w he => ?_)
  cases e <;> simp only [post] at he
  case normal => exact he
  case exit i =>
   obtain ⟨τ,hs,hk⟩:=he
   simp only [AE.inBlock] at hk
   simp only [Exit.inBlock]
   split at hk
   ·rename_i hid
    rw [if_pos hid];exact ⟨τ,hs,hk⟩
   ·rename_i hid
    rw [if_neg hid];exact ⟨τ,hs,hk⟩
  case ret => exact he
 | .loop c,ac,σ,a,w,Φ,htr,hs,h => by
  simp only [trC] at htr
  obtain ⟨ax,hx,rfl⟩:=fW htr
  unfold wpC at h
  obtain ⟨Inv,μ,⟨τ0,hk0,hI0⟩,hround⟩:=h
  have hm0 : ∀ i l,G0.ρ i = some l → i < σ.n:=fun i l hi => by
   obtain ⟨G,g1,_⟩:=hs
   refine Nat.lt_of_not_le fun hge => ?_
   have:=(g1.wf.free i hge).2
   rw [g1.leR i l hi] at this
   cases this
  let p : Act → World → Nat → Prop:=fun a w n => ∃ τ,Sim fr G0 w0 nt τ a w ∧ Inv τ ∧ μ τ = n
  have hmin : ∀ a w,∃ m : Nat,(∃ n,p a w n) → p a w m ∧ ∀ n,p a w n → m ≤ n:=fun a w => by
   by_cases hex : ∃ n,p a w n
   ·obtain ⟨m,h1,h2⟩:=least _ hex
    exact ⟨m,fun _ => ⟨h1,h2⟩⟩
   ·exact ⟨0,fun h => absurd h hex⟩
  have hch : ∃ M : Act → World → Nat,∀ a w,(∃ n,p a w n) → p a w (M a w) ∧ ∀ n,p a w n → M a w ≤ n :=
   ⟨fun a w => Classical.choose (hmin a w),fun a w => Classical.choose_spec (hmin a w)⟩
  obtain ⟨M,hM⟩:=hch
  refine wp_loop (fun a w => ∃ n,p a w n) M ⟨_,τ0,hs.aKW hm0 hk0,hI0,rfl⟩ fun a w hI => ?_
  obtain ⟨⟨τ,hsτ,hIτ,hμ⟩,_⟩:=hM a w hI
  refine wp_mono (jN hmix hC hq c ax τ a w _ hx hsτ (hround τ hIτ)) fun e a' w' he => ?_
  cases e <;> simp only [post] at he
  case normal =>
   obtain ⟨τ',hs',τ'',hk,hI',hlt⟩:=he
   have hp : p a' w' (μ τ''):=⟨τ'',hs'.aKW hm0 hk,hI',rfl⟩
   refine ⟨⟨_,hp⟩, ?_⟩
   have:=(hM a' w' ⟨_,hp⟩).2 _ hp
   omega
  case exit i => exact he
  case ret => exact he
 | .exit id,ac,σ,a,w,Φ,htr,hs,h => by
  simp only [trC,zaA] at htr
  subst htr
  exact wp_exit ⟨σ,hs,h⟩
 | .ret,ac,σ,a,w,Φ,htr,hs,h => by
  simp only [trC,zaA] at htr
  subst htr
  exact wp_ret ⟨σ,hs,h⟩
 | .rangeFunc ..,ac,σ,a,w,Φ,htr,hs,h => by simp [trC] at htr
 | .scope _,ac,σ,a,w,Φ,htr,hs,h => by simp [trC] at htr
 | .label _,ac,σ,a,w,Φ,htr,hs,h => by simp [trC] at htr
 | .goto _,ac,σ,a,w,Φ,htr,hs,h => by simp [trC] at htr
end
end Go.Ra
namespace Go.Ra
set_option linter.unusedVariables false
set_option linter.unusedSimpArgs false
def qs (l : List Nat) (n : Nat) : Bool:=l.contains n
inductive AR where
 | tmp (t : Nat)
 | cell (t : Nat) (ag : Bool) (n : Nat)
 deriving Inhabited
def trR (P : Program) : ResultVar → Option AR
 | .tmp t => some (.tmp t)
 | .cell a t =>
  match qS P t,szT P t with
  | some ag,some n => some (.cell a ag n)
  | _,_ => none
def j4 {α β : Type} (f : α → Option β) : List α → Option (List β)
 | [] => some []
 | x :: xs =>
  match f x,j4 f xs with
  | some y,some ys => some (y :: ys)
  | _,_ => none
def trF (P : Program) (q : Nat → Bool) (f : Nat) : Option (Nat × List AR × AC) :=
 match P.funcs[f]? with
 | some fn =>
  if fn.name == "runtime.NumGoroutine" then none else
  match fn.body with
  | some c =>
   match trC P fn.ntmps (okR q) (fun id => q (4000000000 + f * 1000 + id)) ⟨q (f + 2000000),fun g => q (5000000000 + f * 100000 + g)⟩ c,j4 (trR P) fn.results.toList with
   | some ac,some rs => some (fn.ntmps,rs,ac)
   | _,_ => none
  | none => none
 | none => none
def aN6 (σ : St) : AR → Option AV
 | .tmp t => some (get σ.env t)
 | .cell t ag n =>
  match σ.mS (get σ.env t) with
  | some u => if u.isAgg = ag ∧ u.size = n then some u else none
  | none => none
def aFY (σ : St) : List AR → Option (List AV)
 | [] => some []
 | r :: rs =>
  match aN6 σ r,aFY σ rs with
  | some v,some vs => some (v :: vs)
  | _,_ => none
def aKZ : List AV → AV
 | [v] => v
 | vs => .tup vs
def aFZ (rs : List AR) (K : AV → St → Prop) : AE → St → Prop
 | .exit _,_ => False
 | _,σ =>
  match aFY σ rs with
  | some vs => K (aKZ vs) σ
  | none => False
def mF : Nat → List AV → List (Nat × AV)
 | _,[] => []
 | k,v :: r => (k,v) :: mF (k + 1) r
theorem aGZ : ∀ (args : List AV) (k t : Nat),get (mF k args) (k + t) = args.getD t .unk
 | [],k,t => by simp [mF,get]
 | v :: r,k,0 => by simp [mF,get]
 | v :: r,k,t + 1 => by
  simp only [mF,get]
  rw [if_neg (by omega)]
  have:=aGZ r (k + 1) t
  rw [show k + (t + 1) = k + 1 + t by omega,this]
  simp
section
variable {P : Program} {q : Nat → Bool} {C : Orc}
theorem bR.len {w : World} {F : Nat → Prop} {ρ : Nat → Option Loc} : ∀ {ts : List AV} {vs : List Value},bR w F ρ ts vs → vs.length = ts.length
 | _,_,.nil => rfl
 | _,_,.cons _ h => by simp [bR.len h]
def aSY (tmps : Array Value) (x : ResultVar) : Sem Value :=
 match x with
 | .tmp t => pure (tmps.getD t undef)
 | .cell a t => do loadVar t (← asAddr (tmps.getD a undef))
theorem aBY {fr : Fr} {G : Gh} {w : World} {σ : St} {a : Act} (hown : Own fr G w σ) (henv : Env G w σ a) : ∀ (l : List ResultVar) (rs : List AR) (vs : List AV),j4 (trR P) l = some rs → aFY σ rs = some vs →
  ∃ us : List Value,(l.mapM (aSY a.tmps)).run P w = .ok us w ∧ bR w G.F G.ρ vs us
 | [],rs,vs,h1,h2 => by
  simp only [j4,zaA] at h1
  subst h1
  simp only [aFY,zaA] at h2
  subst h2
  exact ⟨[],by simp,.nil⟩
 | x :: l,rs,vs,h1,h2 => by
  simp only [j4] at h1
  split at h1
  ·rename_i r rs' hr hrs
   simp only [zaA] at h1
   subst h1
   simp only [aFY] at h2
   split at h2
   ·rename_i v vs' hv hvs
    simp only [zaA] at h2
    subst h2
    obtain ⟨us,h3,h4⟩:=aBY hown henv l rs' vs' hrs hvs
    rw [List.mapM_cons]
    cases x with
    | tmp t =>
     simp only [trR,zaA] at hr
     subst hr
     simp only [aN6,zaA] at hv
     subst hv
     exact ⟨a.tmps.getD t undef :: us,by simp only [aSY,Sem.run_bind,Sem.run_pure,Result.andThen,h3],.cons (henv t) h4⟩
    | cell b t =>
     simp only [trR] at hr
     split at hr
     ·rename_i ag n hag hn
      simp only [zaA] at hr
      subst hr
      simp only [aN6] at hv
      split at hv
      ·rename_i u hu
       split at hv
       ·rename_i hc
        simp only [zaA] at hv
        subst hv
        obtain ⟨b',o',cs,hv2,hrel,hrd⟩:=uV hown.1 (fun k t h => h) hu (henv b)
        have hlen : cs.length = n:=by rw [hrel.size,hc.2]
        have hrun:=aBV (P:=P) hag hn hlen hrd (fun hf => hrel.single (by rw [hc.1,hf]))
        refine ⟨(if ag = true then Value.agg cs.toArray else cs.headD undef) :: us, ?_,.cons ?_ h4⟩
        ·have hadr : (asAddr (a.tmps.getD b undef)).run P w = .ok ⟨b',o',none⟩ w:=by rw [hv2];rfl
         have hone : (aSY a.tmps (.cell b t)).run P w = .ok (if ag = true then Value.agg cs.toArray else cs.headD undef) w:=by
          simp only [aSY,Sem.run_bind,hadr,Result.andThen,hrun]
         simp only [Sem.run_bind,hone,Sem.run_pure,Result.andThen,h3]
        ·cases ag with
         | true => simpa using bL.agg hrel hc.1
         | false =>
          obtain ⟨v,rfl⟩:=hrel.single hc.1
          simpa using bL.one hrel hc.1
       ·cases hv
      ·cases hv
     ·cases hr
   ·cases h2
  ·cases h1
theorem aPX {f nt : Nat} {rs : List AR} {ac : AC} (h : trF P q f = some (nt, rs, ac)) : ∃ fn c, P.funcs[f]? = some fn ∧ (fn.name == "runtime.NumGoroutine") = false ∧ fn.body = some c ∧ fn.ntmps = nt ∧ trC P nt (okR q) (fun id => q (4000000000 + f * 1000 + id)) ⟨q (f + 2000000), fun g => q (5000000000 + f * 100000 + g)⟩ c = some ac ∧ j4 (trR P) fn.results.toList = some rs := by
 unfold trF at h
 split at h
 ·rename_i fn hf
  split at h
  ·cases h
  ·rename_i hn
   split at h
   ·rename_i c hb
    split at h
    ·rename_i ac' rs' h1 h2
     simp only [zaA,zaJ] at h
     obtain ⟨rfl,rfl,rfl⟩:=h
     exact ⟨fn,c,hf,by simpa using hn,hb,rfl,h1,h2⟩
    ·cases h
   ·cases h
 ·cases h
theorem uZ {f nt : Nat} {rs : List AR} {ac : AC} (h : trF P q f = some (nt,rs,ac)) : aGV P f:=by
 obtain ⟨fn,c,h1,h2,h3,_⟩:=aPX h
 exact ⟨fn,h1,h2,by rw [h3];rfl⟩
theorem enter (hmix : P.follows .mixedOrders = true) (hC : oC P C) (hq : mE q C) {f nt : Nat} {rs : List AR} {ac : AC} (hF : trF P q f = some (nt,rs,ac)) {fr : Fr} {G : Gh} {w : World} {args : List AV} {vs : List Value}
  {hl : List (Nat × Option AV)} {hb : Nat → Option AV} {n : Nat} {K : AV → St → Prop} (hlen : args.length ≤ nt) (hown : Own fr G w ⟨mF 0 args,hl,hb,n⟩) (hr : bR w G.F G.ρ args vs) (h : wpC C ac ⟨mF 0 args,hl,hb,n⟩ (aFZ rs K)) :
  Calls P f vs.toArray w fun e w' => ∃ u G' v τ,e = .returned u ∧ iM fr G w G' w' τ ∧ bL w' G'.F G'.ρ v u ∧ K v τ:=by
 obtain ⟨fn,c,h1,h2,h3,h4,h5,h6⟩:=aPX hF
 refine calls_of_wp h1 h3 ?_
 have hvl:=hr.len
 have hs : Sim fr G w nt ⟨mF 0 args,hl,hb,n⟩ { tmps:=vs.toArray ++ Array.replicate (fn.ntmps - vs.toArray.size) undef,defers:=[] } w:=by
  refine ⟨G,hown.goto,fun t => ?_,rfl, ?_⟩
  ·have hg:=aGZ args 0 t
   rw [Nat.zero_add] at hg
   rw [hg]
   by_cases ht : t < args.length
   ·rw [List.getD_eq_getElem?_getD,List.getElem?_eq_getElem ht,Option.getD_some]
    obtain ⟨v,hv,hrel⟩:=hr.nth (List.getElem?_eq_getElem ht)
    rw [Array.getD_eq_getD_getElem?,Array.getElem?_append_left (by simp;omega)]
    simp only [List.getElem?_toArray,hv,Option.getD_some]
    exact hrel
   ·rw [List.getD_eq_getElem?_getD,List.getElem?_eq_none (by omega),Option.getD_none]
    exact .unk
  ·simp;omega
 refine wp_mono (jN hmix hC hq c ac _ _ w _ h5 hs h) fun e a w' he => ?_
 have key : ∀ σ,Sim fr G w nt σ a w' → (match aFY σ rs with | some vs => K (aKZ vs) σ | none => False) → a.defers = [] ∧ ∃ v,(results fn a.tmps).run P w' = .ok v w' ∧ ∃ u G' v' τ,Ending.returned v = .returned u ∧ iM fr G w G' w' τ ∧ bL w' G'.F G'.ρ v' u ∧ K v' τ:=by
  intro σ hs hk
  obtain ⟨G',s1,s2,s3,s4⟩:=hs
  split at hk
  ·rename_i rvs hrv
   obtain ⟨us,hrun,hrel⟩:=aBY (P:=P) s1.own s2 fn.results.toList rs rvs h6 hrv
   have hul:=hrel.len
   have hrun2 : (results fn a.tmps).run P w' = .ok (if h : us.toArray.size = 1 then us.toArray[0] else .tuple us.toArray) w':=by
    have e : results fn a.tmps = (do
      let vs ← fn.results.mapM (aSY a.tmps)
      pure (if h : vs.size = 1 then vs[0] else .tuple vs)):=rfl
    rw [e,Array.mapM_eq_mapM_toList]
    simp only [Sem.run_bind,map_eq_pure_bind,hrun,Result.andThen,Sem.run_pure]
   refine ⟨s3,_,hrun2,_,G',aKZ rvs,σ,rfl,s1, ?_,hk⟩
   cases hrel with
   | nil => simpa [aKZ] using bL.tup (.nil)
   | cons r1 r2 =>
    cases r2 with
    | nil => simpa [aKZ] using r1
    | cons r3 r4 =>
     rw [dif_neg (by simp)]
     exact .tup (.cons r1 (.cons r3 r4))
  ·cases hk
 cases e <;> simp only [post] at he
 case normal =>
  obtain ⟨σ,hs,hk⟩:=he
  exact key σ hs hk
 case exit i =>
  obtain ⟨σ,hs,hk⟩:=he
  cases hk
 case ret =>
  obtain ⟨σ,hs,hk⟩:=he
  exact key σ hs hk
end
end Go.Ra
namespace Go.Ra
open Go.RowKit (Below)
set_option linter.unusedVariables false
set_option linter.unusedSimpArgs false
def frz (σ : St) : Nat → AV → Option AV
 | 0,v => if v.eJ then some v else none
 | k + 1,v =>
  match v with
  | .sl id path off kk len es =>
   match σ.row es (.sl id path off kk len es) with
   | some ts => some (.fro false es ts)
   | none => none
  | .ptr id path off =>
   match σ.mS (.ptr id path off) with
   | some u =>
    match frz σ k u with
    | some u' => some (.cC u')
    | none => none
   | none => none
  | .agg n ts =>
   match j4 (frz σ k) ts with
   | some us => some (.agg n us)
   | none => none
  | .tup ts =>
   match j4 (frz σ k) ts with
   | some us => some (.tup us)
   | none => none
  | .clo f ts =>
   match j4 (frz σ k) ts with
   | some us => some (.clo f us)
   | none => none
  | v => if v.eJ then some v else none
def FF (G : Gh) (σ : St) : Nat → Prop:=fun b => G.F b ∨ ∃ i o,σ.H i ≠ none ∧ G.ρ i = some (b,o)
section
variable {P : Program} {w : World} {G : Gh} {σ : St} {fr : Fr}
theorem bK.up' {F F' : Nat → Prop} (hF : ∀ b,F b → F' b) {ρ ρ' : Nat → Option Loc} (hr : ∀ i l,ρ i = some l → ρ' i = some l) {t : AV} {cs : List Value} (h : bK w F ρ t cs) : bK w F' ρ' t cs:=h.mono (Ext.refl F w) hF hr
theorem aDS {ρ : Nat → Option Loc} : ∀ i l,fB i = some l → ρ i = some l:=fun i l h => by simp [fB] at h
theorem a88 {F F' : Nat → Prop} {ρ ρ' : Nat → Option Loc} {f : AV → Option AV} (hf : ∀ v v' cs,bK w F ρ v cs → f v = some v' → bK w F' ρ' v' cs) : ∀ {ts us : List AV} {cs : List Value},dM w F ρ ts cs → j4 f ts = some us → dM w F' ρ' us cs
 | _,us,_,.nil,h => by
  simp only [j4,zaA] at h
  subst h;exact .nil
 | _,us,_,.cons h1 h2,h => by
  simp only [j4] at h
  split at h
  ·rename_i y ys hy hys
   simp only [zaA] at h
   subst h
   exact .cons (hf _ _ _ h1 hy) (a88 hf h2 hys)
  ·cases h
theorem a89 {F F' : Nat → Prop} {ρ ρ' : Nat → Option Loc} {f : AV → Option AV} (hf : ∀ v v' cs,bK w F ρ v cs → f v = some v' → bK w F' ρ' v' cs ∧ v'.isAgg = v.isAgg) : ∀ {ts us : List AV} {cs : List Value},jM w F ρ ts cs → j4 f ts = some us → jM w F' ρ' us cs
 | _,us,_,.nil,h => by
  simp only [j4,zaA] at h
  subst h;exact .nil
 | _,us,_,.cons h1 h0 h2,h => by
  simp only [j4] at h
  split at h
  ·rename_i y ys hy hys
   simp only [zaA] at h
   subst h
   obtain ⟨h3,h4⟩:=hf _ _ _ h1 hy
   exact .cons h3 (h4.trans h0) (a89 hf h2 hys)
  ·cases h
theorem aU9 (hown : Own fr G w σ) : ∀ (k : Nat) (v v' : AV) (cs : List Value),bK w G.F G.ρ v cs → frz σ k v = some v' → bK w (FF G σ) fB v' cs ∧ v'.isAgg = v.isAgg
 | 0,v,v',cs,hr,h => by
  simp only [frz] at h
  split at h
  ·rename_i hi
   simp only [zaA] at h
   subst h
   exact ⟨(hr.free hi).up' (fun _ h => .inl h) aDS,rfl⟩
  ·cases h
 | k + 1,v,v',cs,hr,h => by
  unfold frz at h
  split at h
  ·rename_i id path off kk len es
   split at h
   ·rename_i ts hrow
    simp only [zaA] at h
    subst h
    refine ⟨?_,rfl⟩
    obtain ⟨u,rfl⟩:=hr.single rfl
    have hv : bL w G.F G.ρ (.sl id path off kk len es) u:=.one hr rfl
    obtain ⟨ad,cap,h1,h2,h3⟩:=qY hown.1 (fun k t h => h) hrow hv
    obtain ⟨ad',cap',h4,h5,h6⟩:=hv.oA
    rw [h1] at h4
    simp only [Value.slice.injEq] at h4
    obtain ⟨rfl,h7,rfl⟩:=h4
    rw [h1]
    rcases h3 with rfl | ⟨b,o,cs,rfl,h8,h9⟩
    ·exact .gW (fun h => by cases h)
    ·rcases h6 with ⟨h10,h11⟩ | ⟨b',o',cur,e,h10,h11,_⟩
     ·have : ts = []:=List.eq_nil_of_length_eq_zero (by omega)
      subst this
      exact .gW (fun h => by cases h)
     ·simp only [zaA,Addr.mk.injEq] at h10
      obtain ⟨rfl,_⟩:=h10
      by_cases hl0 : len = 0
      ·have hts : ts = []:=by
        simp only [St.row,hl0,if_true,zaA] at hrow
        exact hrow.symm
       subst hts
       exact .gW (fun h => by cases h)
      refine .fro (h8.mono (Ext.refl _ w) (fun _ h => .inl h)) h9 (.inr ⟨id,o', ?_,h11⟩) (fun h => by cases h) h2
      intro hn
      simp only [St.row,if_neg hl0,hn] at hrow
      cases hrow
   ·cases h
  ·rename_i id path off
   split at h
   ·rename_i u hu
    split at h
    ·rename_i u' hu'
     simp only [zaA] at h
     subst h
     refine ⟨?_,rfl⟩
     obtain ⟨x,rfl⟩:=hr.single rfl
     have hv : bL w G.F G.ρ (.ptr id path off) x:=.one hr rfl
     obtain ⟨b,o,cs,h1,h2,h3⟩:=uV hown.1 (fun k t h => h) hu hv
     obtain ⟨b',o',h4,h5⟩:=hv.mP
     rw [h1] at h5
     simp only [Value.pointer.injEq,zaA,Addr.mk.injEq] at h5
     obtain ⟨rfl,_⟩:=h5
     rw [h1]
     refine .cC (aU9 hown k u u' cs h2 hu').1 h3 (.inr ⟨id,o', ?_,h4⟩)
     intro hn
     simp only [St.mS,hn] at hu
     cases hu
    ·cases h
   ·cases h
  ·rename_i n ts
   split at h
   ·rename_i us hus
    simp only [zaA] at h
    subst h
    cases hr with
    | agg hl hn => exact ⟨.agg (a88 (fun v v' cs h1 h2 => (aU9 hown k v v' cs h1 h2).1) hl hus) hn,rfl⟩
   ·cases h
  ·cases hr
  ·rename_i g ts
   split at h
   ·rename_i us hus
    simp only [zaA] at h
    subst h
    cases hr with
    | clo hl => exact ⟨.clo (a89 (fun v v' cs h1 h2 => aU9 hown k v v' cs h1 h2) hl hus),rfl⟩
   ·cases h
  ·split at h
   ·rename_i hi
    simp only [zaA] at h
    subst h
    exact ⟨(hr.free hi).up' (fun _ h => .inl h) aDS,rfl⟩
   ·cases h
mutual
theorem a5O (hown : Own fr G w σ) : ∀ (k : Nat) (v v' : AV) (u : Value),bL w G.F G.ρ v u → frz σ k v = some v' → bL w (FF G σ) fB v' u
 | k,v,v',u,.one h ha,hf => by
  obtain ⟨h1,h2⟩:=aU9 hown k v v' [u] h hf
  exact .one h1 (h2.trans ha)
 | k,v,v',_,.agg h ha,hf => by
  obtain ⟨h1,h2⟩:=aU9 hown k v v' _ h hf
  exact .agg h1 (h2.trans ha)
 | 0,_,v',_,.tup h,hf => by simp [frz,AV.eJ] at hf
 | k + 1,_,v',_,.tup h,hf => by
  simp only [frz] at hf
  split at hf
  ·rename_i us hus
   simp only [zaA] at hf
   subst hf
   exact .tup (aPY hown k _ _ _ h hus)
  ·cases hf
 | 0,_,v',_,.dV,hf => by
  simp only [frz,AV.eJ,if_true,zaA] at hf
  subst hf;exact .dV
 | k + 1,_,v',_,.dV,hf => by
  simp only [frz,AV.eJ,if_true,zaA] at hf
  subst hf;exact .dV
 | 0,_,v',_,.unk,hf => by
  simp only [frz,AV.eJ,if_true,zaA] at hf
  subst hf;exact .unk
 | k + 1,_,v',_,.unk,hf => by
  simp only [frz,AV.eJ,if_true,zaA] at hf
  subst hf;exact .unk
theorem aPY (hown : Own fr G w σ) : ∀ (k : Nat) (vs vs' : List AV) (us : List Value),bR w G.F G.ρ vs us → j4 (frz σ k) vs = some vs' → bR w (FF G σ) fB vs' us
 | k,_,vs',_,.nil,hf => by
  simp only [j4,zaA] at hf
  subst hf;exact .nil
 | k,_,vs',_,.cons h1 h2,hf => by
  simp only [j4] at hf
  split at hf
  ·rename_i y ys hy hys
   simp only [zaA] at hf
   subst hf
   exact .cons (a5O hown k _ _ _ h1 hy) (aPY hown k _ _ _ h2 hys)
  ·cases hf
end
theorem aPZ (hown : Own fr G w σ) {b : Nat} (h : FF G σ b) : b < w.heap.size:=by
 rcases h with h | ⟨i,o,h1,h2⟩
 ·exact hown.1.fsz b h
 ·cases hi : σ.H i with
  | none => exact absurd hi h1
  | some t =>
   rcases hown.1.blk i t hi with ⟨b',o',cs,cur,e,h3,h4,h5,_⟩ | ⟨h3,_⟩
   ·rw [h2] at h3
    simp only [zaA,zaJ] at h3
    rw [h3.1];exact lt_of_block h5
   ·rw [h2] at h3;cases h3
def Pure (P : Program) (f : Nat) (args : List AV) (r : AV) : Prop :=
 aGV P f ∧ ∀ (w : World) (F : Nat → Prop) (vs : List Value),(∀ b,F b → b < w.heap.size) → bR w F fB args vs →
  Calls P f vs.toArray w fun e w' => ∃ u F',e = .returned u ∧ Below w.heap.size w w' ∧ (∀ b,F b → F' b) ∧ (∀ b,F' b → (F b ∨ w.heap.size ≤ b) ∧ b < w'.heap.size) ∧ bL w' F' fB r u
theorem aP0 {q : Nat → Bool} {C : Orc} (hmix : P.follows .mixedOrders = true) (hC : oC P C) (hq : mE q C) {f nt : Nat} {rs : List AR} {ac : AC} (hF : trF P q f = some (nt,rs,ac)) {args : List AV} {r : AV} {k : Nat} (hlen : args.length ≤ nt)
  (h : wpC C ac ⟨mF 0 args,[],fun _ => none,0⟩ (aFZ rs fun v τ => frz τ k v = some r)) : Pure P f args r:=by
 refine ⟨uZ hF,fun w F vs hFs hr => ?_⟩
 have hown : Own ⟨w,fun _ => False,F,0⟩ ⟨fB,F⟩ w ⟨mF 0 args,[],fun _ => none,0⟩ :=
  ⟨⟨fun i _ => ⟨rfl,rfl⟩,hFs,fun i t hi => (by cases hi),fun i j b o o' hi => absurd rfl hi⟩,⟨rfl,rfl,rfl,zaF _,fun _ _ _ => rfl,Ext.refl _ _,fun _ h => h,fun _ h => .inl h,fun i b o hi => absurd rfl hi⟩⟩
 refine (enter hmix hC hq hF hlen hown hr h).mono fun e w' ⟨u,G',v,τ,he,hgo,hrel,hk⟩ => ?_
 refine ⟨u,FF G' τ,he,⟨hgo.fr.os,hgo.fr.tape,hgo.fr.output,hgo.fr.size,fun b hb => hgo.fr.same b hb (fun h => h)⟩,fun b hb => .inl (hgo.leF b hb),fun b hb => ⟨?_,aPZ hgo.own hb⟩,a5O hgo.own k v r u hrel hk⟩
 rcases hb with hb | ⟨i,o,h1,h2⟩
 ·rcases hgo.fr.sJ b hb with h | h | h
  ·exact .inl h
  ·cases h
  ·exact .inr h
 ·rcases hgo.fr.loc i b o h1 h2 with h | h
  ·cases h
  ·exact .inr h
mutual
def AV.dU : AV → Bool
 | .sc _ => true
 | .agg _ ts => AV.iZ ts
 | .arr _ _ ts => AV.iZ ts
 | .tup ts => AV.iZ ts
 | .dV => true
 | .unk => true
 | .fro _ _ [] => true
 | _ => false
def AV.iZ : List AV → Bool
 | [] => true
 | t :: ts => t.dU && AV.iZ ts
end
mutual
theorem bK.dU {F F' : Nat → Prop} {ρ ρ' : Nat → Option Loc} : ∀ {t : AV} {cs : List Value},t.dU = true → bK w F ρ t cs → bK w F' ρ' t cs
 | _,_,hs,.sc h => .sc h
 | _,_,hs,.agg h hn => .agg (dM.dU (by simpa [AV.dU] using hs) h) hn
 | _,_,hs,.arr h hn => .arr (dQ.dU (by simpa [AV.dU] using hs) h) hn
 | _,_,hs,.gW h => .gW h
 | .fro x es [],_,hs,.fro h1 h2 h3 h4 h5 => .gW h4
 | .fro x es (t :: ts),_,hs,.fro h1 h2 h3 h4 h5 => by simp [AV.dU] at hs
 | _,_,hs,.cC h1 h2 h3 => by simp [AV.dU] at hs
 | _,_,hs,.sl0 => by simp [AV.dU] at hs
 | _,_,hs,.sl h1 h2 h3 h4 => by simp [AV.dU] at hs
 | _,_,hs,.ptr h => by simp [AV.dU] at hs
 | _,_,hs,.clo h => by simp [AV.dU] at hs
theorem dM.dU {F F' : Nat → Prop} {ρ ρ' : Nat → Option Loc} : ∀ {ts : List AV} {cs : List Value},AV.iZ ts = true → dM w F ρ ts cs → dM w F' ρ' ts cs
 | _,_,hs,.nil => .nil
 | _,_,hs,.cons h1 h2 => by
  simp only [AV.iZ,zaG] at hs
  exact .cons (bK.dU hs.1 h1) (dM.dU hs.2 h2)
theorem dQ.dU {F F' : Nat → Prop} {es : Nat} : ∀ {ts : List AV} {cs : List Value},AV.iZ ts = true → dQ w F es ts cs → dQ w F' es ts cs
 | _,_,hs,.nil => .nil
 | _,_,hs,.cons h1 h0 h2 => by
  simp only [AV.iZ,zaG] at hs
  exact .cons (bK.dU hs.1 h1) h0 (dQ.dU hs.2 h2)
end
mutual
theorem bL.dU {F F' : Nat → Prop} {ρ ρ' : Nat → Option Loc} : ∀ {t : AV} {u : Value},t.dU = true → bL w F ρ t u → bL w F' ρ' t u
 | _,_,hs,.one h ha => .one (h.dU hs) ha
 | _,_,hs,.agg h ha => .agg (h.dU hs) ha
 | _,_,hs,.tup h => .tup (bR.dU (by simpa [AV.dU] using hs) h)
 | _,_,hs,.dV => .dV
 | _,_,hs,.unk => .unk
theorem bR.dU {F F' : Nat → Prop} {ρ ρ' : Nat → Option Loc} : ∀ {ts : List AV} {us : List Value},AV.iZ ts = true → bR w F ρ ts us → bR w F' ρ' ts us
 | _,_,hs,.nil => .nil
 | _,_,hs,.cons h1 h2 => by
  simp only [AV.iZ,zaG] at hs
  exact .cons (bL.dU hs.1 h1) (bR.dU hs.2 h2)
end
def Gen (P : Program) (f : Nat) (args : List AV) (σ : St) (v : AV) (τ : St) : Prop :=
 aGV P f ∧ ∀ fr G w vs,Own fr G w σ → bR w G.F G.ρ args vs → Calls P f vs.toArray w fun e w' => ∃ u G',e = .returned u ∧ iM fr G w G' w' τ ∧ bL w' G'.F G'.ρ v u
theorem bL.free' {F : Nat → Prop} {ρ ρ' : Nat → Option Loc} {t : AV} {u : Value} (hi : t.eJ = true) (h : bL w F ρ t u) : bL w F ρ' t u:=by
 cases h with
 | one h ha => exact .one (h.free hi) ha
 | agg h ha => exact .agg (h.free hi) ha
 | tup h => simp [AV.eJ] at hi
 | dV => exact .dV
 | unk => exact .unk
theorem bR.free' {F : Nat → Prop} {ρ ρ' : Nat → Option Loc} : ∀ {ts : List AV} {us : List Value},AV.iW ts = true → bR w F ρ ts us → bR w F ρ' ts us
 | _,_,_,.nil => .nil
 | _,_,hi,.cons h1 h2 => by
  simp only [AV.iW,zaG] at hi
  exact .cons (h1.free' hi.1) (bR.free' hi.2 h2)
def ren (id n : Nat) : AV → Option AV
 | .sl i p off k len es => if i = id then some (.sl n p off k len es) else none
 | v => if v.eJ && v.dU then some v else none
def aIH (id n : Nat) : AV → Option AV
 | .tup ts =>
  match j4 (ren id n) ts with
  | some us => some (.tup us)
  | none => none
 | v => ren id n v
theorem aP1 {F F' : Nat → Prop} {ρ ρ' : Nat → Option Loc} {id n : Nat} (hρ : ∀ l,ρ id = some l → ρ' n = some l) : ∀ {v v' : AV} {u : Value},ren id n v = some v' → bL w F ρ v u → bL w F' ρ' v' u:=by
 intro v v' u h hr
 unfold ren at h
 split at h
 ·split at h
  ·rename_i hi
   subst hi
   simp only [zaA] at h
   subst h
   cases hr with
   | one h1 h2 =>
    cases h1 with
    | sl0 => exact .one .sl0 rfl
    | sl g1 g2 g3 g4 => exact .one (.sl (hρ _ g1) g2 g3 g4) rfl
   | agg h1 h2 => simp [AV.isAgg] at h2
  ·cases h
 ·split at h
  ·rename_i hi
   simp only [zaA] at h
   subst h
   simp only [zaG] at hi
   exact hr.dU hi.2
  ·cases h
theorem aK0 {F F' : Nat → Prop} {ρ ρ' : Nat → Option Loc} {id n : Nat} (hρ : ∀ l,ρ id = some l → ρ' n = some l) : ∀ {vs vs' : List AV} {us : List Value},j4 (ren id n) vs = some vs' → bR w F ρ vs us → bR w F' ρ' vs' us
 | _,vs',_,h,.nil => by
  simp only [j4,zaA] at h
  subst h;exact .nil
 | _,vs',_,h,.cons h1 h2 => by
  simp only [j4] at h
  split at h
  ·rename_i y ys hy hys
   simp only [zaA] at h
   subst h
   exact .cons (aP1 hρ hy h1) (aK0 hρ hys h2)
  ·cases h
theorem aK1 {F F' : Nat → Prop} {ρ ρ' : Nat → Option Loc} {id n : Nat} (hρ : ∀ l,ρ id = some l → ρ' n = some l) {v v' : AV} {u : Value} (h : aIH id n v = some v') (hr : bL w F ρ v u) : bL w F' ρ' v' u:=by
 unfold aIH at h
 split at h
 ·split at h
  ·rename_i us hus
   simp only [zaA] at h
   subst h
   obtain ⟨vs,rfl,h2⟩:=hr.aCY
   exact .tup (aK0 hρ hus h2)
  ·cases h
 ·exact aP1 hρ h hr
def aN7 (t : AV) : Nat → Option AV:=fun i => if i = 0 then some t else none
def yE (P : Program) (f : Nat) (args : List AV) (r t : AV) : Prop :=
 aGV P f ∧ t.dU = true ∧ t.eJ = true ∧ ∀ (w : World) (F : Nat → Prop) (vs : List Value),(∀ b,F b → b < w.heap.size) → bR w F fB args vs →
  Calls P f vs.toArray w fun e w' => ∃ u G',e = .returned u ∧ Below w.heap.size w w' ∧ Wf G' w' (aN7 t) (fun i => 1 ≤ i) ∧ (∀ b o,G'.ρ 0 = some (b,o) → w.heap.size ≤ b) ∧ (∀ b,F b → G'.F b) ∧ bL w' G'.F G'.ρ r u
theorem aP2 {q : Nat → Bool} {C : Orc} (hmix : P.follows .mixedOrders = true) (hC : oC P C) (hq : mE q C) {f nt : Nat} {rs : List AR} {ac : AC} (hF : trF P q f = some (nt,rs,ac)) {args : List AV} {r t : AV} (hlen : args.length ≤ nt) (hs : t.dU = true) (hi : t.eJ = true)
  (h : wpC C ac ⟨mF 0 args,[],fun _ => none,0⟩ (aFZ rs fun v τ => (∃ id,τ.H id = some t ∧ aIH id 0 v = some r) ∨ ∃ es' es,v = .fro true es' [] ∧ t = .arr 0 es [] ∧ r = .sl 0 [] 0 0 0 es)) : yE P f args r t:=by
 refine ⟨uZ hF,hs,hi,fun w F vs hFs hr => ?_⟩
 have hown : Own ⟨w,fun _ => False,F,0⟩ ⟨fB,F⟩ w ⟨mF 0 args,[],fun _ => none,0⟩ :=
  ⟨⟨fun i _ => ⟨rfl,rfl⟩,hFs,fun i t hi => (by cases hi),fun i j b o o' hi => absurd rfl hi⟩,⟨rfl,rfl,rfl,zaF _,fun _ _ _ => rfl,Ext.refl _ _,fun _ h => h,fun _ h => .inl h,fun i b o hi => absurd rfl hi⟩⟩
 refine (enter hmix hC hq hF hlen hown hr h).mono fun e w' ⟨u,G',v,τ,he,hgo,hrel,hk⟩ => ?_
 rcases hk with ⟨id,hid,hk⟩ | ⟨es',es,rfl,rfl,rfl⟩
 case inr =>
  obtain ⟨a,cap,rfl,_,hcap,_⟩:=hrel.o5
  obtain rfl:=hcap rfl
  refine ⟨_,⟨fun _ => none,G'.F⟩,he,⟨hgo.fr.os,hgo.fr.tape,hgo.fr.output,hgo.fr.size,fun b hb => hgo.fr.same b hb (fun h => h)⟩,⟨fun i hi => ⟨?_,rfl⟩,hgo.wf.fsz,fun i t' hi' => .inr ⟨rfl,es, ?_⟩,fun i j b o o' hi hj h1 => (by cases h1)⟩,fun b o hb => (by cases hb),fun b hb => hgo.leF b hb,.one .sl0 rfl⟩
  ·have : i ≠ 0:=by omega
   simp [aN7,this]
  ·unfold aN7 at hi'
   split at hi'
   ·simpa using hi'.symm
   ·cases hi'
 refine ⟨u,⟨fun i => if i = 0 then G'.ρ id else none,G'.F⟩,he,⟨hgo.fr.os,hgo.fr.tape,hgo.fr.output,hgo.fr.size,fun b hb => hgo.fr.same b hb (fun h => h)⟩,⟨fun i hi => ?_,hgo.wf.fsz,fun i t' hi' => ?_,fun i j b o o' hi hj _ _ => ?_⟩,fun b o hb => ?_,fun b hb => hgo.leF b hb,aK1 (fun l hl => by simpa using hl) hk hrel⟩
 ·have : i ≠ 0:=by omega
  exact ⟨by simp [aN7,this],by simp [this]⟩
 ·unfold aN7 at hi'
  split at hi'
  ·rename_i h0
   subst h0
   simp only [zaA] at hi'
   subst hi'
   rcases hgo.wf.blk id _ hid with ⟨b,o,cs,cur,e,g1,g2,g3,g4,g5⟩ | g1
   ·exact .inl ⟨b,o,cs,cur,e,by simpa using g1,g2.free hi,g3,g4,g5⟩
   ·exact .inr ⟨by simpa using g1.1,g1.2⟩
  ·cases hi'
 ·unfold aN7 at hi hj
  split at hi
  ·split at hj
   ·omega
   ·exact absurd rfl hj
  ·exact absurd rfl hi
 ·simp only [if_true] at hb
  rcases hgo.fr.loc id b o (by rw [hid];simp) hb with h | h
  ·cases h
  ·exact h
def Ok (P : Program) (q : Nat → Bool) : Orc:=fun f args σ v τ =>
 (τ = σ ∧ AV.iW args = true ∧ Pure P f args v) ∨ (τ = σ ∧ v.dU = true ∧ ∃ k args',j4 (frz σ k) args = some args' ∧ Pure P f args' v) ∨ (q f = false ∧ q (f + 1000000) = false ∧ Gen P f args σ v τ) ∨
 (q f = false ∧ ∃ k args' r t,j4 (frz σ k) args = some args' ∧ yE P f args' r t ∧ aIH 0 σ.n r = some v ∧ τ = σ.new t)
theorem aVA {σ σ' : St} {G : Gh} (hs : ∀ i,G.ρ i ≠ none → σ.H i = none ∨ σ'.H i = σ.H i) {es : Nat} {v : AV} {u : Value} {ts : List AV} (hr : bL w G.F G.ρ v u) (h : σ.row es v = some ts) : σ'.row es v = some ts:=by
 cases v <;> try exact h
 rename_i id path off k len es2
 simp only [St.row] at h ⊢
 split
 ·rename_i h0
  rw [if_pos h0] at h;exact h
 ·rename_i h0
  rw [if_neg h0] at h
  have hid : G.ρ id ≠ none:=by
   obtain ⟨a,cap,_,_,h3⟩:=hr.oA
   rcases h3 with ⟨h3,_⟩ | ⟨b,o,_,_,_,h4,_⟩
   ·exact absurd h3 h0
   ·rw [h4];simp
  rcases hs id hid with h1 | h1
  ·rw [h1] at h;cases h
  ·rw [h1];exact h
theorem aN8 {σ σ' : St} {G : Gh} (hs : ∀ i,G.ρ i ≠ none → σ.H i = none ∨ σ'.H i = σ.H i) {v : AV} {u : Value} {t : AV} (hr : bL w G.F G.ρ v u) (h : σ.mS v = some t) : σ'.mS v = some t:=by
 cases v <;> try exact h
 rename_i id path off
 obtain ⟨b,o,h4,_⟩:=hr.mP
 simp only [St.mS] at h ⊢
 rcases hs id (by rw [h4];simp) with h1 | h1
 ·rw [h1] at h;cases h
 ·rw [h1];exact h
theorem p4 {f g : AV → Option AV} : ∀ {l us : List AV},(∀ t ∈ l,∀ u,f t = some u → g t = some u) → j4 f l = some us → j4 g l = some us
 | [],us,hf,h => h
 | x :: l,us,hf,h => by
  simp only [j4] at h ⊢
  split at h
  ·rename_i y ys hy hys
   rw [hf x (by simp) y hy,p4 (fun t ht => hf t (by simp [ht])) hys]
   exact h
  ·cases h
theorem dM.mem {F : Nat → Prop} {ρ : Nat → Option Loc} : ∀ {ts : List AV} {cs : List Value},dM w F ρ ts cs → ∀ t ∈ ts,∃ c,bK w F ρ t c
 | _,_,.nil,t,ht => by cases ht
 | _,_,.cons h1 h2,t,ht => by
  rcases List.mem_cons.1 ht with rfl | ht
  ·exact ⟨_,h1⟩
  ·exact dM.mem h2 t ht
theorem jM.mem {F : Nat → Prop} {ρ : Nat → Option Loc} : ∀ {ts : List AV} {cs : List Value},jM w F ρ ts cs → ∀ t ∈ ts,∃ c,bK w F ρ t c
 | _,_,.nil,t,ht => by cases ht
 | _,_,.cons h1 _ h2,t,ht => by
  rcases List.mem_cons.1 ht with rfl | ht
  ·exact ⟨_,h1⟩
  ·exact jM.mem h2 t ht
theorem bR.mem {F : Nat → Prop} {ρ : Nat → Option Loc} : ∀ {ts : List AV} {vs : List Value},bR w F ρ ts vs → ∀ t ∈ ts,∃ x,bL w F ρ t x
 | _,_,.nil,t,ht => by cases ht
 | _,_,.cons h1 h2,t,ht => by
  rcases List.mem_cons.1 ht with rfl | ht
  ·exact ⟨_,h1⟩
  ·exact bR.mem h2 t ht
theorem bK.toV {F : Nat → Prop} {ρ : Nat → Option Loc} {t : AV} {cs : List Value} (h : bK w F ρ t cs) : ∃ u,bL w F ρ t u:=by
 cases ha : t.isAgg with
 | true => exact ⟨_,.agg h ha⟩
 | false =>
  obtain ⟨v,rfl⟩:=h.single ha
  exact ⟨v,.one h ha⟩
theorem aK2 {σ σ' : St} {G : Gh} {U : Nat → Prop} (hw : Wf G w σ'.H U) (hs : ∀ i,G.ρ i ≠ none → σ.H i = none ∨ σ'.H i = σ.H i) : ∀ (k : Nat) (v v' : AV) (u : Value),bL w G.F G.ρ v u → frz σ k v = some v' → frz σ' k v = some v'
 | 0,v,v',u,hr,h => h
 | k + 1,v,v',u,hr,h => by
  have ih:=aK2 hw hs k
  cases v with
  | sl id path off kk len es =>
   simp only [frz] at h ⊢
   split at h
   ·rename_i ts hrow
    rw [aVA hs hr hrow];exact h
   ·cases h
  | ptr id path off =>
   simp only [frz] at h ⊢
   split at h
   ·rename_i t ht
    have h1:=aN8 hs hr ht
    rw [h1]
    obtain ⟨b,o,cs,_,h2,_⟩:=uV hw (fun k t h => h) h1 hr
    obtain ⟨u',h3⟩:=h2.toV
    simp only
    split at h
    ·rename_i t' ht'
     rw [ih t t' u' h3 ht'];exact h
    ·cases h
   ·cases h
  | agg n ts =>
   simp only [frz] at h ⊢
   split at h
   ·rename_i us hus
    rw [p4 (fun t ht u' hu => ?_) hus]
    ·exact h
    ·cases hr with
     | one h1 h2 => simp [AV.isAgg] at h2
     | agg h1 h2 =>
      cases h1 with
      | agg hl hn =>
       obtain ⟨c,hc⟩:=hl.mem t ht
       obtain ⟨x,hx⟩:=hc.toV
       exact ih t u' x hx hu
   ·cases h
  | clo f ts =>
   simp only [frz] at h ⊢
   split at h
   ·rename_i us hus
    rw [p4 (fun t ht u' hu => ?_) hus]
    ·exact h
    ·cases hr with
     | one h1 h2 =>
      cases h1 with
      | clo hl =>
       obtain ⟨c,hc⟩:=hl.mem t ht
       obtain ⟨x,hx⟩:=hc.toV
       exact ih t u' x hx hu
     | agg h1 h2 => simp [AV.isAgg] at h2
   ·cases h
  | tup ts =>
   simp only [frz] at h ⊢
   split at h
   ·rename_i us hus
    rw [p4 (fun t ht u' hu => ?_) hus]
    ·exact h
    ·obtain ⟨vs,_,hvs⟩:=hr.aCY
     obtain ⟨x,hx⟩:=hvs.mem t ht
     exact ih t u' x hx hu
   ·cases h
  | sc v => exact h
  | arr n es ts => exact h
  | fro x es ts => exact h
  | cC t => exact h
  | dV => exact h
  | unk => exact h
theorem aSZ {σ σ' : St} {v v' : AV} {k : Nat} (hc : aIB v = true) (h : frz σ k v = some v') : frz σ' k v = some v':=by
 cases k with
 | zero => exact h
 | succ k =>
  cases v <;> first | (exact h) | (cases hc;done) | skip
  rename_i f cs
  cases cs with
  | nil => exact h
  | cons c cs => cases hc
theorem Ok.quiet {q : Nat → Bool} : mE q (Ok P q):=by
 refine ⟨fun f args σ v τ h hq => ?_,fun f args σ v τ h hq => ?_,fun f args σ v τ h hq σ' G w U hw ha hs => ?_⟩
 ·rcases h with ⟨rfl,_⟩ | ⟨rfl,_⟩ | ⟨h,_⟩ | ⟨h,_⟩
  ·exact ⟨rfl,rfl,rfl⟩
  ·exact ⟨rfl,rfl,rfl⟩
  ·rw [hq] at h;cases h
  ·rw [hq] at h;cases h
 ·rcases h with ⟨rfl,_⟩ | ⟨rfl,_⟩ | ⟨_,h,_⟩ | ⟨_,k,args',r,t,_,_,_,rfl⟩
  ·exact ⟨fun _ _ => rfl,zaF _⟩
  ·exact ⟨fun _ _ => rfl,zaF _⟩
  ·rw [hq] at h;cases h
  ·refine ⟨fun i hi => ?_,Nat.le_succ _⟩
   show look ((σ.n,some t) :: σ.hl) σ.hb i = look σ.hl σ.hb i
   simp only [look]
   rw [if_neg (by omega)]
 ·rcases h with ⟨rfl,hi,hp⟩ | ⟨rfl,hsol,k,args',hm,hp⟩ | ⟨h,_⟩ | ⟨h,_⟩
  ·exact .inl ⟨rfl,hi,hp⟩
  ·refine .inr (.inl ⟨rfl,hsol,k,args',p4 (fun t ht u hu => ?_) hm,hp⟩)
   rcases ha t ht with h1 | ⟨x,hx⟩
   ·exact aSZ h1 hu
   ·exact aK2 hw hs k t u x hx hu
  ·rw [hq] at h;cases h
  ·rw [hq] at h;cases h
theorem Ok.ok {q : Nat → Bool} : oC P (Ok P q):=by
 intro f args σ v τ h
 rcases h with ⟨rfl,hi,hk,hp⟩ | ⟨rfl,hs,k,args',hm,hk,hp⟩ | ⟨_,_,hk,hp⟩ | ⟨_,k,args',r,t,hm,⟨hk,hs,hi,hp⟩,hr0,rfl⟩
 ·refine ⟨hk,fun fr G w vs hown hr => (hp w G.F vs hown.1.fsz (hr.free' hi)).mono fun e w' ⟨u,F',he,hb,h1,h2,hrel⟩ => ?_⟩
  exact ⟨u,⟨G.ρ,F'⟩,he,Nxt.below hown.1 hown.2 hb h1 h2,hrel.mono (Ext.refl _ _) (fun _ h => h) aDS⟩
 ·refine ⟨hk,fun fr G w vs hown hr => (hp w (FF G _) vs (fun b hb => aPZ hown hb) (aPY hown k _ _ _ hr hm)).mono fun e w' ⟨u,F',he,hb,h1,h2,hrel⟩ => ?_⟩
  exact ⟨u,G,he,Nxt.below hown.1 hown.2 hb (fun _ h => h) (fun b h => ⟨.inl h,Nat.lt_of_lt_of_le (hown.1.fsz b h) hb.size⟩),hrel.dU hs⟩
 ·exact ⟨hk,fun fr G w vs hown hr => hp fr G w vs hown hr⟩
 ·refine ⟨hk,fun fr G w vs hown hr => (hp w (FF G _) vs (fun b hb => aPZ hown hb) (aPY hown k _ _ _ hr hm)).mono fun e w' ⟨u,G',he,hb,hwf,hloc,hF,hrel⟩ => ?_⟩
  have hn:=hown.1.free σ.n (zaF _)
  have hbase:=Nxt.below hown.1 hown.2 hb (fun _ h => h) (fun b h => ⟨.inl h,Nat.lt_of_lt_of_le (hown.1.fsz b h) hb.size⟩)
  have hle : ∀ i l,G.ρ i = some l → upd G.ρ σ.n (G'.ρ 0) i = some l:=fun i l hi => by
   rw [bU _ _ (fun e => by rw [e,hn.2] at hi;cases hi)]
   exact hi
  have hH : (σ.new t).H = upd σ.H σ.n (some t):=by funext j;simp [St.new,St.H,look,upd]
  have hold : ∀ (i b o : Nat),σ.H i ≠ none → G.ρ i = some (b,o) → b < w.heap.size:=fun i b o hi hr => by
   cases hi' : σ.H i with
   | none => exact absurd hi' hi
   | some t' =>
    rcases hown.1.blk i t' hi' with ⟨b',o',cs,cur,e,g1,g2,g3,_⟩ | ⟨g1,_⟩
    ·rw [hr] at g1
     simp only [zaA,zaJ] at g1
     rw [g1.1];exact lt_of_block g3
    ·rw [hr] at g1;cases g1
  refine ⟨u,⟨upd G.ρ σ.n (G'.ρ 0),G.F⟩,he, ?_,aK1 (fun l hl => by show upd G.ρ σ.n (G'.ρ 0) σ.n = some l;rw [bN];exact hl) hr0 hrel⟩
  unfold iM
  rw [hH]
  refine ⟨⟨fun i hi => ?_,hbase.wf.fsz,fun i t' hi' => ?_,fun i j b o o' hi hj hri hrj => ?_⟩,⟨hbase.fr.os,hbase.fr.tape,hbase.fr.output,hbase.fr.size,hbase.fr.same,hbase.fr.ext,hbase.fr.f0,hbase.fr.sJ,fun i b o hi hri => ?_⟩,hbase.ext,fun _ h => h,hle⟩
  ·have hi' : σ.n + 1 ≤ i:=hi
   have hne : i ≠ σ.n:=by omega
   have:=hown.1.free i (by omega : σ.n ≤ i)
   rw [bU _ _ hne]
   exact ⟨this.1,by show upd G.ρ σ.n _ i = none;rw [bU _ _ hne];exact this.2⟩
  ·by_cases hin : i = σ.n
   ·subst hin
    rw [bN] at hi'
    simp only [zaA] at hi'
    subst hi'
    rcases hwf.blk 0 t (by simp [aN7]) with ⟨b,o,cs,cur,e,g1,g2,g3,g4,g5⟩ | g1
    ·refine .inl ⟨b,o,cs,cur,e,by show upd G.ρ σ.n _ _ = _;rw [bN];exact g1,g2.dU hs,g3,g4,fun h => ?_⟩
     have h1:=hloc b o g1
     have h2:=hown.1.fsz b h
     omega
    ·exact .inr ⟨by show upd G.ρ σ.n _ _ = _;rw [bN];exact g1.1,g1.2⟩
   ·rw [bU _ _ hin] at hi'
    rcases hbase.wf.blk i t' hi' with ⟨b,o,cs,cur,e,g1,g2,g3,g4,g5⟩ | g1
    ·exact .inl ⟨b,o,cs,cur,e,hle _ _ g1,g2.mono (Ext.refl _ _) (fun _ h => h) hle,g3,g4,g5⟩
    ·exact .inr ⟨by show upd G.ρ σ.n _ _ = _;rw [bU _ _ hin];exact g1.1,g1.2⟩
  ·change upd G.ρ σ.n _ i = _ at hri
   change upd G.ρ σ.n _ j = _ at hrj
   by_cases hin : i = σ.n
   ·by_cases hjn : j = σ.n
    ·rw [hin,hjn]
    ·rw [hin,bN] at hri
     rw [bU _ _ hjn] at hrj hj
     have h1:=hloc b o hri
     have h2:=hold j b o' hj hrj
     omega
   ·rw [bU _ _ hin] at hri hi
    by_cases hjn : j = σ.n
    ·rw [hjn,bN] at hrj
     have h1:=hloc b o' hrj
     have h2:=hold i b o hi hri
     omega
    ·rw [bU _ _ hjn] at hrj hj
     exact hown.1.dis i j b o o' hi hj hri hrj
  ·change upd G.ρ σ.n _ i = _ at hri
   by_cases hin : i = σ.n
   ·rw [hin,bN] at hri
    have h1:=hloc b o hri
    have h2:=hown.2.size
    exact .inr (by omega)
   ·rw [bU _ _ hin] at hri hi
    exact hown.2.loc i b o hi hri
theorem aS0 {q : Nat → Bool} {d : Option Nat} {f : Nat} {args : List AX} {r : List AG} {K : St → Prop} {v : AV} (hp : Pure P f (args.map σ.ev) v) (hi : AV.iW (args.map σ.ev) = true) (h : wpOps (Ok P q) r (σ.put d v) K) :
  wpOps (Ok P q) (⟨d,.call f args,none⟩ :: r) σ K:=⟨v,σ,.inl ⟨rfl,hi,hp⟩,h⟩
end
theorem gQ {C : Orc} : ∀ (Ψ Ψ' : AE → St → Prop),(∀ e σ,Ψ e σ → Ψ' e σ) → ∀ (c : AC) (σ : St),wpC C c σ Ψ → wpC C c σ Ψ'
 | Ψ,Ψ',hΨ,.skip,σ,h => hΨ _ _ h
 | Ψ,Ψ',hΨ,.ops l,σ,h => q0 (hΨ .normal) l σ h
 | Ψ,Ψ',hΨ,.aFT l ps,σ,h => q0 (fun τ hk => ⟨hk.1,hΨ .normal τ hk.2⟩) l σ h
 | Ψ,Ψ',hΨ,.seq a b,σ,h => gQ _ _ (fun e τ he => by
   cases e with
   | normal => exact gQ _ _ hΨ b τ he
   | exit _ => exact hΨ _ _ he
   | ret => exact hΨ _ _ he) a σ h
 | Ψ,Ψ',hΨ,.cond c x y,σ,h => by
  unfold wpC at h ⊢
  split at h
  ·exact ⟨fun hb => gQ _ _ hΨ x σ (h.1 hb),fun hb => gQ _ _ hΨ y σ (h.2 hb)⟩
  ·exact ⟨gQ _ _ hΨ x σ h.1,gQ _ _ hΨ y σ h.2⟩
  ·cases h
 | Ψ,Ψ',hΨ,.block id c,σ,h => gQ _ _ (fun e τ he => by
   cases e with
   | normal => exact hΨ _ _ he
   | exit i =>
    simp only [AE.inBlock] at he ⊢
    split at he
    ·rename_i hi;rw [if_pos hi];exact hΨ _ _ he
    ·rename_i hi;rw [if_neg hi];exact hΨ _ _ he
   | ret => exact hΨ _ _ he) c σ h
 | Ψ,Ψ',hΨ,.loop c,σ,h => by
  unfold wpC at h ⊢
  obtain ⟨Inv,μ,h0,hr⟩:=h
  refine ⟨Inv,μ,h0,fun τ hτ => gQ _ _ (fun e τ he => ?_) c τ (hr τ hτ)⟩
  cases e with
  | normal => exact he
  | exit _ => exact hΨ _ _ he
  | ret => exact hΨ _ _ he
 | Ψ,Ψ',hΨ,.exit id,σ,h => hΨ _ _ h
 | Ψ,Ψ',hΨ,.ret,σ,h => hΨ _ _ h
 | Ψ,Ψ',hΨ,.frz,σ,h => by
  obtain ⟨τ,h1,h2⟩:=h
  exact ⟨τ,h1,hΨ _ _ h2⟩
def aA8 : List (Nat × AV) → List (Nat × AV) → Prop
 | [],_ => True
 |(k,v) :: r,e => leA (get e k) v ∧ aA8 r e
def yF : List (Nat × Option AV) → List (Nat × Option AV) → (Nat → Option AV) → Prop
 | [],_,_ => True
 |(k,v) :: r,hl,hb => look hl hb k = v ∧ yF r hl hb
theorem wX : ∀ {l e : List (Nat × AV)},aA8 l e → ∀ i,leA (get e i) (get l i)
 | [],e,h,i => .inl rfl
 |(k,v) :: r,e,h,i => by
  simp only [get]
  by_cases hi : i = k
  ·subst hi
   rw [if_pos rfl]
   exact h.1
  ·rw [if_neg hi]
   exact wX h.2 i
theorem rB : ∀ {l hl : List (Nat × Option AV)} {hb : Nat → Option AV},yF l hl hb → ∀ i,look l (fun _ => none) i = none ∨ look l (fun _ => none) i = look hl hb i
 | [],e,hb,h,i => .inl rfl
 |(k,v) :: r,e,hb,h,i => by
  simp only [look]
  by_cases hi : i = k
  ·subst hi
   rw [if_pos rfl]
   exact .inr h.1.symm
  ·rw [if_neg hi]
   exact rB h.2 i
theorem aP3 {e env : List (Nat × AV)} {hl hl' : List (Nat × Option AV)} {hb : Nat → Option AV} {n n' : Nat} (h1 : aA8 env e) (h2 : yF hl' hl hb) (h3 : n ≤ n') : nF ⟨e,hl,hb,n⟩ ⟨env,hl',fun _ => none,n'⟩ :=
 ⟨wX h1,rB h2,h3⟩
theorem aK3 {C : Orc} {c : AC} {σ : St} {Φ : AE → St → Prop} {ι : Type} (S : ι → St) (V : ι → Prop) (m : ι → Nat) (i0 : ι) (hV : V i0) (h0 : cG σ.n σ (S i0)) (hr : ∀ i,V i → wpC C c (S i) (AE.then (fun τ => ∃ j,V j ∧ cG σ.n τ (S j) ∧ m j < m i) Φ)) : wpC C (.loop c) σ Φ:=by
 have hmin : ∀ τ,∃ n : Nat,(∃ k,∃ i,V i ∧ S i = τ ∧ m i = k) → (∃ i,V i ∧ S i = τ ∧ m i = n) ∧ ∀ k,(∃ i,V i ∧ S i = τ ∧ m i = k) → n ≤ k:=fun τ => by
  by_cases hex : ∃ k,∃ i,V i ∧ S i = τ ∧ m i = k
  ·obtain ⟨n,h1,h2⟩:=least _ hex
   exact ⟨n,fun _ => ⟨h1,h2⟩⟩
  ·exact ⟨0,fun h => absurd h hex⟩
 refine ⟨fun τ => ∃ i,V i ∧ S i = τ,fun τ => Classical.choose (hmin τ),⟨S i0,h0,i0,hV,rfl⟩,fun τ hτ => ?_⟩
 obtain ⟨i,hi,hS⟩:=hτ
 obtain ⟨⟨i,hi,hS,hmi⟩,_⟩:=Classical.choose_spec (hmin τ) ⟨m i,i,hi,hS,rfl⟩
 subst hS
 have:=hr i hi
 have hmono : ∀ (Ψ Ψ' : AE → St → Prop),(∀ e σ,Ψ e σ → Ψ' e σ) → ∀ (c : AC) (σ : St),wpC C c σ Ψ → wpC C c σ Ψ':=gQ
 refine hmono _ _ (fun e τ he => ?_) c _ this
 cases e with
 | normal =>
  obtain ⟨j,hj,hw,hlt⟩:=he
  refine ⟨S j,hw,⟨j,hj,rfl⟩, ?_⟩
  have h2:=(Classical.choose_spec (hmin (S j)) ⟨m j,j,hj,rfl,rfl⟩).2 _ ⟨j,hj,rfl,rfl⟩
  show Classical.choose (hmin (S j)) < Classical.choose (hmin (S i))
  omega
 | exit _ => exact he
 | ret => exact he
theorem aVB {C : Orc} {c : AC} {σ : St} {Φ : AE → St → Prop} {ι : Type} (S : ι → St) (V : ι → Prop) (m : ι → Nat) (i0 : ι) (hV : V i0) (h0 : nF σ (S i0)) (hr : ∀ i,V i → wpC C c (S i) (AE.then (fun τ => ∃ j,V j ∧ aGM σ.n τ (S j) ∧ m j < m i) Φ)) : wpC C (.loop c) σ Φ :=
 aK3 S V m i0 hV (.of h0) fun i hi => gQ _ _ (fun e τ he => by
  cases e with
  | normal =>
   obtain ⟨j,h1,h2,h3⟩:=he
   exact ⟨j,h1,.ofL h2,h3⟩
  | exit _ => exact he
  | ret => exact he) c _ (hr i hi)
theorem aP4 {C : Orc} {c : AC} {σ : St} {Φ : AE → St → Prop} {ι : Type} (S : ι → St) (V : ι → Prop) (m : ι → Nat) (i0 : ι) (hV : V i0) (h0 : nF σ (S i0)) (hr : ∀ i,V i → wpC C c (S i) (AE.then (fun τ => ∃ j,V j ∧ nF τ (S j) ∧ m j < m i) Φ)) : wpC C (.loop c) σ Φ :=
 aVB S V m i0 hV h0 fun i hi => gQ _ _ (fun e τ he => by
  cases e with
  | normal =>
   obtain ⟨j,h1,h2,h3⟩:=he
   exact ⟨j,h1,.of h2,h3⟩
  | exit _ => exact he
  | ret => exact he) c _ (hr i hi)
end Go.Ra
namespace Go.Ra
set_option linter.unusedVariables false
set_option linter.unusedSimpArgs false
inductive XV where
 | int (k : IntKind) (n : Int)
 | bool (b : Bool)
 | str (n : Nat) (f : Nat → Int)
 | agg (n : Nat) (ts : List XV)
 | tab (n es : Nat) (f : Nat → XV)
 | row (x : Bool) (es n : Nat) (f : Nat → XV)
 | cC (t : XV)
 | sl (id : Nat) (path : List Nat) (off k len es : Nat)
 | ptr (id : Nat) (path : List Nat) (off : Nat)
 | clo (f : Nat) (caps : List XV)
 | tup (vs : List XV)
 | dV
 | tri (z b : Bool)
 | unk
 | opt (g : Bool) (v : XV)
 | raw (v : AV)
 deriving Inhabited
def dI {α : Type} (n : Nat) (f : Nat → α) : List α:=(List.range n).map f
def byt (n : Int) : UInt8:=UInt8.ofNat n.toNat
def aCN (n : Nat) (f : Nat → Int) : ByteArray:=⟨(dI n fun i => byt (f i)).toArray⟩
mutual
def con : XV → AV
 | .int k n => .sc (.int k n)
 | .bool b => .sc (.bool b)
 | .str n f => .sc (.string (aCN n f))
 | .agg n ts => .agg n (cons ts)
 | .tab n es f => .arr n es (dI n fun i => con (f i))
 | .row x es n f => .fro x es (dI n fun i => con (f i))
 | .cC t => .cC (con t)
 | .sl id p off k len es => .sl id p off k len es
 | .ptr id p off => .ptr id p off
 | .clo f cs => .clo f (cons cs)
 | .tup vs => .tup (cons vs)
 | .dV => .dV
 | .tri z b => bif z then .dV else B b
 | .unk => .unk
 | .opt g v => bif g then con v else .tup []
 | .raw v => v
def cons : List XV → List AV
 | [] => []
 | t :: ts => con t :: cons ts
end
theorem lG : ∀ ts : List XV,cons ts = ts.map con
 | [] => rfl
 | t :: ts => by simp [cons,lG ts]
theorem bH {α : Type} {n : Nat} {f : Nat → α} : (dI n f).length = n:=by simp [dI]
theorem eL {α : Type} {n i : Nat} {f : Nat → α} (h : i < n) : (dI n f)[i]? = some (f i):=by simp [dI,h]
theorem aS1 {α : Type} {n i : Nat} {f : Nat → α} (h : ¬ i < n) : (dI n f)[i]? = none:=by simp [dI];omega
theorem kJ {α : Type} {n : Nat} {f g : Nat → α} (h : ∀ i,i < n → f i = g i) : dI n f = dI n g:=by
 refine List.map_congr_left fun i hi => h i (List.mem_range.1 hi)
theorem kF {α : Type} {n : Nat} {f : Nat → α} {l : List α} (h : l.length = n) (hg : ∀ i,i < n → l[i]? = some (f i)) : l = dI n f:=by
 refine List.ext_getElem? fun i => ?_
 by_cases hi : i < n
 ·rw [hg i hi,eL hi]
 ·rw [aS1 hi,List.getElem?_eq_none (by omega)]
theorem lH {α : Type} {n : Nat} {f : Nat → α} : dI n f = [] ↔ n = 0:=by
 constructor
 ·intro h;rw [← bH (n:=n) (f:=f),h];rfl
 ·rintro rfl;rfl
def XV.size : XV → Nat
 | .agg n _ => n
 | .tab n es _ => n * es
 | .opt g v => bif g then v.size else 1
 | .raw v => v.size
 | _ => 1
def XV.isAgg : XV → Bool
 | .agg _ _ => true
 | .tab _ _ _ => true
 | .opt g v => bif g then v.isAgg else false
 | .raw v => v.isAgg
 | _ => false
def XV.aA9 : XV → Bool
 | .tup _ => false
 | .dV => false
 | .tri z _ => !z
 | .unk => false
 | .opt g v => bif g then v.aA9 else false
 | .raw v => v.storable
 | _ => true
mutual
def XV.idf : XV → Bool
 | .agg _ ts => XV.aDT ts
 | .clo _ cs => XV.aDT cs
 | .sl .. => false
 | .ptr .. => false
 | .tup _ => false
 | .opt g v => bif g then v.idf else false
 | .raw v => v.eJ
 | _ => true
def XV.aDT : List XV → Bool
 | [] => true
 | t :: ts => bif t.idf then XV.aDT ts else false
end
mutual
def XV.sol : XV → Bool
 | .agg _ ts => XV.aVC ts
 | .tab n _ f => gL (fun i => (f i).sol) n
 | .tup ts => XV.aVC ts
 | .row _ _ n _ => Nat.beq n 0
 | .opt g v => bif g then v.sol else false
 | .raw v => v.dU
 | .cC _ => false
 | .sl .. => false
 | .ptr .. => false
 | .clo .. => false
 | _ => true
def XV.aVC : List XV → Bool
 | [] => true
 | t :: ts => bif t.sol then XV.aVC ts else false
end
theorem lI : ∀ t : XV,(con t).size = t.size
 | .opt g v => by cases g;rfl;exact lI v
 | .tri z b => by cases z <;> rfl
 | .int .. => rfl
 | .bool _ => rfl
 | .str .. => rfl
 | .agg .. => rfl
 | .tab .. => rfl
 | .row .. => rfl
 | .cC _ => rfl
 | .sl .. => rfl
 | .ptr .. => rfl
 | .clo .. => rfl
 | .tup _ => rfl
 | .dV => rfl
 | .unk => rfl
 | .raw _ => rfl
theorem p5 : ∀ t : XV,(con t).isAgg = t.isAgg
 | .opt g v => by cases g;rfl;exact p5 v
 | .tri z b => by cases z <;> rfl
 | .int .. => rfl
 | .bool _ => rfl
 | .str .. => rfl
 | .agg .. => rfl
 | .tab .. => rfl
 | .row .. => rfl
 | .cC _ => rfl
 | .sl .. => rfl
 | .ptr .. => rfl
 | .clo .. => rfl
 | .tup _ => rfl
 | .dV => rfl
 | .unk => rfl
 | .raw _ => rfl
theorem p6 : ∀ t : XV,(con t).storable = t.aA9
 | .opt g v => by cases g;rfl;exact p6 v
 | .tri z b => by cases z <;> rfl
 | .int .. => rfl
 | .bool _ => rfl
 | .str .. => rfl
 | .agg .. => rfl
 | .tab .. => rfl
 | .row .. => rfl
 | .cC _ => rfl
 | .sl .. => rfl
 | .ptr .. => rfl
 | .clo .. => rfl
 | .tup _ => rfl
 | .dV => rfl
 | .unk => rfl
 | .raw _ => rfl
mutual
theorem u0 : ∀ t : XV,(con t).eJ = t.idf
 | .opt g v => by cases g;rfl;exact u0 v
 | .tri z b => by cases z <;> rfl
 | .int .. => rfl
 | .bool _ => rfl
 | .str .. => rfl
 | .agg n ts => by simp [con,AV.eJ,XV.idf,p7 ts]
 | .tab .. => rfl
 | .row .. => rfl
 | .cC _ => rfl
 | .sl .. => rfl
 | .ptr .. => rfl
 | .clo f cs => by simp [con,AV.eJ,XV.idf,p7 cs]
 | .tup _ => rfl
 | .dV => rfl
 | .unk => rfl
 | .raw _ => rfl
theorem p7 : ∀ ts : List XV,AV.iW (cons ts) = XV.aDT ts
 | [] => rfl
 | t :: ts => by simp only [cons,AV.iW,XV.aDT,u0 t,p7 ts];cases t.idf <;> rfl
end
theorem dS {f : Nat → Bool} : ∀ {n : Nat},gL f n = true ↔ ∀ i,i < n → f i = true
 | 0 => by simp [gL]
 | n + 1 => by
  simp only [gL,zaG,dS (n:=n)]
  constructor
  ·rintro ⟨h1,h2⟩ i hi
   by_cases e : i = n
   ·subst e;exact h1
   ·exact h2 i (by omega)
  ·intro h;exact ⟨h n (by omega),fun i hi => h i (by omega)⟩
theorem wY : ∀ {ts : List AV},AV.iZ ts = true ↔ ∀ t ∈ ts,t.dU = true
 | [] => by simp [AV.iZ]
 | t :: ts => by simp [AV.iZ,wY (ts:=ts)]
mutual
theorem rC : ∀ t : XV,t.sol = true → (con t).dU = true
 | .opt g v,h => by cases g <;> simp [con,XV.sol,AV.dU] at h ⊢;exact rC v h
 | .tri z b,h => by cases z <;> rfl
 | .int ..,h => rfl
 | .bool _,h => rfl
 | .str ..,h => rfl
 | .agg n ts,h => by simp only [con,AV.dU];exact aDU ts (by simpa [XV.sol] using h)
 | .tab n es f,h => by
  simp only [con,AV.dU,wY,dI,List.mem_map,List.mem_range]
  rintro t ⟨i,hi,rfl⟩
  simp only [XV.sol,dS] at h
  exact rC (f i) (h i hi)
 | .row x es n f,h => by
  simp only [XV.sol] at h
  have : n = 0:=zaL h
  subst this
  rfl
 | .cC _,h => by simp [XV.sol] at h
 | .sl ..,h => by simp [XV.sol] at h
 | .ptr ..,h => by simp [XV.sol] at h
 | .clo f cs,h => by simp [XV.sol] at h
 | .tup ts,h => by simp only [con,AV.dU];exact aDU ts (by simpa [XV.sol] using h)
 | .dV,h => rfl
 | .unk,h => rfl
 | .raw _,h => h
theorem aDU : ∀ ts : List XV,XV.aVC ts = true → AV.iZ (cons ts) = true
 | [],h => rfl
 | t :: ts,h => by
  simp only [XV.aVC] at h
  cases ht : t.sol <;> rw [ht] at h
  ·cases h
  ·simp only [cons,AV.iZ,rC t ht,aDU ts h,zaS]
end
mutual
def mrg (b : Bool) : XV → XV → XV
 | .int k x,.int k' y => if k = k' then .int k (bif b then x else y) else .raw (bif b then .sc (.int k x) else .sc (.int k' y))
 | .bool x,.bool y => .bool (bif b then x else y)
 | .agg n ts,.agg n' us => bif (Nat.beq n n' && Nat.beq ts.length us.length) then .agg n (aZ0 b ts us) else .raw (bif b then .agg n (cons ts) else .agg n' (cons us))
 | .tab n es f,.tab n' es' f' => bif (Nat.beq n n' && Nat.beq es es') then .tab n es (fun i => mrg b (f i) (f' i)) else .raw (bif b then con (.tab n es f) else con (.tab n' es' f'))
 | .row x es n f,.row x' es' n' f' => bif Nat.beq es es' then .row (bif b then x else x') es (bif b then n else n') (fun i => mrg b (f i) (f' i)) else .raw (bif b then con (.row x es n f) else con (.row x' es' n' f'))
 | .str n f,.str n' f' => .str (bif b then n else n') (fun i => bif b then f i else f' i)
 | .cC t,.cC u => .cC (mrg b t u)
 | t,u => .raw (bif b then con t else con u)
def aZ0 (b : Bool) : List XV → List XV → List XV
 | t :: ts,u :: us => mrg b t u :: aZ0 b ts us
 | _,_ => []
end
mutual
theorem mQ (b : Bool) : ∀ t u : XV,con (mrg b t u) = bif b then con t else con u
 | .int k x,.int k' y => by
  simp only [mrg]
  split
  ·rename_i h;subst h;cases b <;> rfl
  ·cases b <;> rfl
 | .bool x,.bool y => by cases b <;> rfl
 | .agg n ts,.agg n' us => by
  simp only [mrg]
  cases h : (Nat.beq n n' && Nat.beq ts.length us.length)
  ·cases b <;> rfl
  ·simp only [zaG] at h
   have h1:=zaL h.1
   have h2:=zaL h.2
   subst h1
   simp only [zaB,con,aG0 b ts us h2]
   cases b <;> rfl
 | .tab n es f,.tab n' es' f' => by
  simp only [mrg]
  cases h : (Nat.beq n n' && Nat.beq es es')
  ·cases b <;> rfl
  ·simp only [zaG] at h
   have h1:=zaL h.1
   have h2:=zaL h.2
   subst h1 h2
   simp only [zaB,con]
   have : (fun i => con (mrg b (f i) (f' i))) = fun i => bif b then con (f i) else con (f' i):=funext fun i => mQ b (f i) (f' i)
   rw [this]
   cases b <;> rfl
 | .row x es n f,.row x' es' n' f' => by
  simp only [mrg]
  cases h : Nat.beq es es'
  ·cases b <;> rfl
  ·have h2:=zaL h
   subst h2
   simp only [zaB,con]
   have : (fun i => con (mrg b (f i) (f' i))) = fun i => bif b then con (f i) else con (f' i):=funext fun i => mQ b (f i) (f' i)
   rw [this]
   cases b <;> rfl
 | .str n f,.str n' f' => by cases b <;> rfl
 | .cC t,.cC u => by
  simp only [mrg,con,mQ b t u]
  cases b <;> rfl
 | .int ..,.bool _ | .int ..,.str .. | .int ..,.agg .. | .int ..,.tab .. | .int ..,.row .. | .int ..,.cC _ | .int ..,.sl .. | .int ..,.ptr .. | .int ..,.clo .. | .int ..,.tup _ | .int ..,.dV | .int ..,.tri .. | .int ..,.unk | .int ..,.opt .. | .int ..,.raw _ => by cases b <;> rfl
 | .bool _,.int .. | .bool _,.str .. | .bool _,.agg .. | .bool _,.tab .. | .bool _,.row .. | .bool _,.cC _ | .bool _,.sl .. | .bool _,.ptr .. | .bool _,.clo .. | .bool _,.tup _ | .bool _,.dV | .bool _,.tri .. | .bool _,.unk | .bool _,.opt .. | .bool _,.raw _ => by cases b <;> rfl
 | .str ..,.int .. | .str ..,.bool _ | .str ..,.agg .. | .str ..,.tab .. | .str ..,.row .. | .str ..,.cC _ | .str ..,.sl .. | .str ..,.ptr .. | .str ..,.clo .. | .str ..,.tup _ | .str ..,.dV | .str ..,.tri .. | .str ..,.unk | .str ..,.opt .. | .str ..,.raw _ => by cases b <;> rfl
 | .agg ..,.int .. | .agg ..,.bool _ | .agg ..,.str .. | .agg ..,.tab .. | .agg ..,.row .. | .agg ..,.cC _ | .agg ..,.sl .. | .agg ..,.ptr .. | .agg ..,.clo .. | .agg ..,.tup _ | .agg ..,.dV | .agg ..,.tri .. | .agg ..,.unk | .agg ..,.opt .. | .agg ..,.raw _ => by cases b <;> rfl
 | .tab ..,.int .. | .tab ..,.bool _ | .tab ..,.str .. | .tab ..,.agg .. | .tab ..,.row .. | .tab ..,.cC _ | .tab ..,.sl .. | .tab ..,.ptr .. | .tab ..,.clo .. | .tab ..,.tup _ | .tab ..,.dV | .tab ..,.tri .. | .tab ..,.unk | .tab ..,.opt .. | .tab ..,.raw _ => by cases b <;> rfl
 | .row ..,.int .. | .row ..,.bool _ | .row ..,.str .. | .row ..,.agg .. | .row ..,.tab .. | .row ..,.cC _ | .row ..,.sl .. | .row ..,.ptr .. | .row ..,.clo .. | .row ..,.tup _ | .row ..,.dV | .row ..,.tri .. | .row ..,.unk | .row ..,.opt .. | .row ..,.raw _ => by cases b <;> rfl
 | .cC _,.int .. | .cC _,.bool _ | .cC _,.str .. | .cC _,.agg .. | .cC _,.tab .. | .cC _,.row .. | .cC _,.sl .. | .cC _,.ptr .. | .cC _,.clo .. | .cC _,.tup _ | .cC _,.dV | .cC _,.tri .. | .cC _,.unk | .cC _,.opt .. | .cC _,.raw _ => by cases b <;> rfl
 | .sl ..,u => by cases b <;> cases u <;> rfl
 | .ptr ..,u => by cases b <;> cases u <;> rfl
 | .clo ..,u => by cases b <;> cases u <;> rfl
 | .tup _,u => by cases b <;> cases u <;> rfl
 | .dV,u => by cases b <;> cases u <;> rfl
 | .tri ..,u => by cases b <;> cases u <;> rfl
 | .unk,u => by cases b <;> cases u <;> rfl
 | .opt ..,u => by cases b <;> cases u <;> rfl
 | .raw _,u => by cases b <;> cases u <;> rfl
theorem aG0 (b : Bool) : ∀ ts us : List XV,ts.length = us.length → cons (aZ0 b ts us) = bif b then cons ts else cons us
 | [],[],_ => by cases b <;> rfl
 | t :: ts,u :: us,h => by
  simp only [aZ0,cons,mQ b t u,aG0 b ts us (by simpa using h)]
  cases b <;> rfl
 | [],u :: us,h => by simp at h
 | t :: ts,[],h => by simp at h
end
def sel : List XV → Nat → XV
 | [],_ => .unk
 | [a],_ => a
 | a :: b :: r,i => mrg (Nat.beq i 0) a (sel (b :: r) (i - 1))
theorem aII : ∀ (l : List XV) (i : Nat) (a : XV),l[i]? = some a → con (sel l i) = con a
 | [],i,a,h => by simp at h
 | [x],i,a,h => by
  cases i with
  | zero => simp only [List.getElem?_cons_zero,zaA] at h;subst h;rfl
  | succ i => simp at h
 | x :: y :: r,0,a,h => by
  simp only [List.getElem?_cons_zero,zaA] at h
  subst h
  simp only [sel,mQ]
  rfl
 | x :: y :: r,i + 1,a,h => by
  simp only [sel,mQ]
  have:=aII (y :: r) i a (by simpa using h)
  rw [show Nat.beq (i + 1) 0 = false from rfl,zaD,Nat.add_sub_cancel]
  exact this
theorem yG (l : List XV) : cons l = dI l.length fun i => con (sel l i):=by
 rw [lG]
 refine kF (by simp) fun i hi => ?_
 rw [List.getElem?_map,List.getElem?_eq_getElem hi,Option.map_some,aII l i l[i] (List.getElem?_eq_getElem hi)]
def aVD : Value → Value → Bool
 | .int k n,.int k' n' => decide (k = k') && decide (n = n')
 | .bool b,.bool b' => b == b'
 | _,_ => false
theorem aVE {v w : Value} (h : aVD v w = true) : v = w:=by
 unfold aVD at h
 split at h
 ·simp only [zaG,zaK] at h
  rw [h.1,h.2]
 ·simp only [beq_iff_eq] at h
  rw [h]
 ·cases h
def aVF {α : Type} : List α → Bool
 | [] => true
 | _ => false
mutual
def mG : AV → AV → Bool
 | .sc v,.sc w => aVD v w
 | .agg n ts,.agg n' us => Nat.beq n n' && wZ ts us
 | .fro x es ts,.fro x' es' us => (x == x') && Nat.beq es es' && aVF ts && aVF us
 | .arr n es ts,.arr n' es' us => Nat.beq n n' && Nat.beq es es' && wZ ts us
 | _,_ => false
def wZ : List AV → List AV → Bool
 | [],[] => true
 | t :: ts,u :: us => mG t u && wZ ts us
 | _,_ => false
end
mutual
theorem aK4 : ∀ t u : AV,mG t u = true → t = u
 | .sc v,u,h => by
  cases u <;> first | (simp only [mG] at h;rw [aVE h]) | (simp [mG] at h)
 | .agg n ts,u,h => by
  cases u <;> first | (simp only [mG,zaG] at h;rw [zaL h.1,aBA ts _ h.2]) | (simp [mG] at h)
 | .fro x es ts,u,h => by
  cases u <;> first | (simp only [mG,zaG,beq_iff_eq] at h;cases ts <;> rename_i ts' <;> cases ts' <;> first | (rw [h.1.1.1,zaL h.1.1.2];done) | (simp [aVF] at h)) | (simp [mG] at h)
 | .arr n es ts,u,h => by
  cases u <;> first | (simp only [mG,zaG] at h;rw [zaL h.1.1,zaL h.1.2,aBA ts _ h.2]) | (simp [mG] at h)
 | .cC _,u,h => by cases u <;> simp [mG] at h
 | .sl ..,u,h => by cases u <;> simp [mG] at h
 | .ptr ..,u,h => by cases u <;> simp [mG] at h
 | .clo ..,u,h => by cases u <;> simp [mG] at h
 | .tup _,u,h => by cases u <;> simp [mG] at h
 | .dV,u,h => by cases u <;> simp [mG] at h
 | .unk,u,h => by cases u <;> simp [mG] at h
theorem aBA : ∀ ts us : List AV,wZ ts us = true → ts = us
 | [],[],_ => rfl
 | t :: ts,u :: us,h => by
  simp only [wZ,zaG] at h
  rw [aK4 t u h.1,aBA ts us h.2]
 | [],_ :: _,h => by simp [wZ] at h
 | _ :: _,[],h => by simp [wZ] at h
end
def aIJ : List AV → Bool
 | [] => true
 | t :: ts => ts.all (mG t)
mutual
def lift : AV → XV
 | .sc (.int k n) => .int k n
 | .sc (.bool b) => .bool b
 | .agg n ts => .agg n (oD ts)
 | .arr n es ts => bif Nat.beq ts.length n then (bif aIJ ts then .tab n es (fun _ => sel (oD ts) 0) else .tab n es (sel (oD ts))) else .raw (.arr n es ts)
 | .fro x es ts => bif aVF ts then .row x es 0 (fun _ => .unk) else .row x es ts.length (sel (oD ts))
 | .clo f cs => .clo f (oD cs)
 | .tup ts => .tup (oD ts)
 | v => .raw v
def oD : List AV → List XV
 | [] => []
 | t :: ts => lift t :: oD ts
end
theorem aBB : ∀ ts : List AV,(oD ts).length = ts.length
 | [] => rfl
 | t :: ts => by simp [oD,aBB ts]
mutual
theorem sU : ∀ v : AV,con (lift v) = v
 | .sc v => by cases v <;> rfl
 | .agg n ts => by simp [lift,con,kK ts]
 | .arr n es ts => by
  simp only [lift]
  cases h : Nat.beq ts.length n
  ·rfl
  ·have h1:=zaL h
   subst h1
   have h2:=yG (oD ts)
   rw [kK ts,aBB] at h2
   cases h3 : aIJ ts
   ·simp only [zaB,zaD,con]
    rw [← h2]
   ·simp only [zaB,con]
    congr 1
    refine (kF rfl fun i hi => ?_).symm
    rw [List.getElem?_eq_getElem hi]
    cases ts with
    | nil => simp at hi
    | cons t r =>
     have h4 : (t :: r)[i] = t:=by
      cases i with
      | zero => rfl
      | succ i =>
       simp only [aIJ,List.all_eq_true] at h3
       exact (aK4 t _ (h3 _ (List.getElem_mem (by simpa using hi)))).symm
     rw [h4]
     have h5:=aII (oD (t :: r)) 0 (lift t) rfl
     rw [h5,sU t]
 | .fro x es ts => by
  simp only [lift]
  cases h : aVF ts
  ·simp only [zaD,con]
   have h2:=yG (oD ts)
   rw [kK ts,aBB] at h2
   rw [← h2]
  ·cases ts with
   | nil => rfl
   | cons t r => cases h
 | .clo f cs => by simp [lift,con,kK cs]
 | .tup ts => by simp [lift,con,kK ts]
 | .cC _ => rfl
 | .sl .. => rfl
 | .ptr .. => rfl
 | .dV => rfl
 | .unk => rfl
theorem kK : ∀ ts : List AV,cons (oD ts) = ts
 | [] => rfl
 | t :: ts => by simp [oD,cons,sU t,kK ts]
end
end Go.Ra
namespace Go.Ra
set_option linter.unusedVariables false
set_option linter.unusedSimpArgs false
structure XSt where
 env : List (Nat × XV)
 hl : List (Nat × Option XV)
 n : Nat
def lJ : List (Nat × XV) → Nat → XV
 | [],_ => .unk
 |(k,v) :: l,i => bif Nat.beq i k then v else lJ l i
def iX : List (Nat × Option XV) → Nat → Option XV
 | [],_ => none
 |(k,v) :: l,i => bif Nat.beq i k then v else iX l i
def aP5 : List (Nat × Option XV) → Nat → Option XV → List (Nat × Option XV)
 | [],i,t => [(i,t)]
 |(k,v) :: l,i,t => bif Nat.beq i k then (k,t) :: l else (k,v) :: aP5 l i t
def dW (l : List (Nat × XV)) : List (Nat × AV):=l.map fun p => (p.1,con p.2)
def hO (l : List (Nat × Option XV)) : List (Nat × Option AV):=l.map fun p => (p.1,p.2.map con)
def XSt.st (σ : XSt) : St:=⟨dW σ.env,hO σ.hl,fun _ => none,σ.n⟩
def XSt.ev (σ : XSt) : AX → XV
 | .t i => lJ σ.env i
 | .c v => lift v
theorem iR {α : Type} {i k : Nat} {a b : α} : (bif Nat.beq i k then a else b) = if i = k then a else b:=by
 cases h : Nat.beq i k
 ·rw [if_neg (Nat.ne_of_beq_eq_false h)];rfl
 ·rw [if_pos (zaL h)];rfl
theorem eR : ∀ (l : List (Nat × XV)) (i : Nat),get (dW l) i = con (lJ l i)
 | [],i => rfl
 |(k,v) :: l,i => by
  simp only [dW,List.map_cons,get,lJ,iR]
  split
  ·rfl
  ·exact eR l i
theorem n0 : ∀ (l : List (Nat × Option XV)) (i : Nat),look (hO l) (fun _ => none) i = (iX l i).map con
 | [],i => rfl
 |(k,v) :: l,i => by
  simp only [hO,List.map_cons,look,iX,iR]
  split
  ·rfl
  ·exact n0 l i
theorem aG1 : ∀ (l : List (Nat × Option XV)) (i : Nat) (t : Option XV),sI (hO l) i (t.map con) = hO (aP5 l i t)
 | [],i,t => rfl
 |(k,v) :: l,i,t => by
  simp only [hO,List.map_cons,sI,aP5,iR]
  split
  ·rfl
  ·rw [List.map_cons]
   exact congrArg _ (aG1 l i t)
theorem sV (σ : XSt) (x : AX) : σ.st.ev x = con (σ.ev x):=by
 cases x with
 | t i => exact eR σ.env i
 | c v => exact (sU v).symm
theorem wU (σ : XSt) (i : Nat) : σ.st.H i = (iX σ.hl i).map con:=n0 σ.hl i
def pl (k i : Nat) : Nat:=bif Nat.beq k 0 then i else k + i
theorem cB (k i : Nat) : pl k i = k + i:=by
 unfold pl
 cases h : Nat.beq k 0
 ·rfl
 ·rw [zaL h];exact (Nat.zero_add i).symm
def nth {α : Type} : List α → Nat → Option α
 | [],_ => none
 | a :: _,0 => some a
 | _ :: l,i + 1 => nth l i
theorem aP6 {α : Type} : ∀ (l : List α) (i : Nat),nth l i = l[i]?
 | [],i => rfl
 | a :: l,0 => rfl
 | a :: l,i + 1 => by simp [nth,aP6 l i]
def gM (l : List Bool) : Prop:=∀ b ∈ l,b = true
theorem yH : gM []:=fun b h => by cases h
theorem bD {b : Bool} {l : List Bool} : gM (b :: l) ↔ b = true ∧ gM l:=by simp [gM]
theorem eM {l r : List Bool} : gM (l ++ r) ↔ gM l ∧ gM r:=by
 simp only [gM,List.mem_append]
 exact ⟨fun h => ⟨fun b hb => h b (.inl hb),fun b hb => h b (.inr hb)⟩,fun h b hb => hb.elim (h.1 b) (h.2 b)⟩
def rD : List XV → Nat
 | [] => 0
 | t :: ts => t.size + rD ts
theorem xB : ∀ ts : List XV,iV (cons ts) = rD ts
 | [] => rfl
 | t :: ts => by simp [cons,iV,rD,lI,xB ts]
theorem aG2 (ts : List XV) (i : Nat) : (cons ts).take i = cons (ts.take i):=by simp [lG]
theorem sW {ts : List XV} {i : Nat} {t : XV} (h : nth ts i = some t) : (cons ts)[i]? = some (con t):=by
 rw [aP6] at h
 rw [lG,List.getElem?_map,h];rfl
theorem aK5 (ts : List XV) (i : Nat) (v : XV) : (cons ts).set i (con v) = cons (ts.set i v):=by simp [lG,List.map_set]
def atx : XV → List Nat → Nat → Option (List Bool × Nat × XV)
 | t,[],acc => some ([],acc,t)
 | .agg _ ts,i :: p,acc =>
  match nth ts i with
  | some t => atx t p (pl acc (rD (ts.take i)))
  | none => none
 | .tab n es f,i :: p,acc =>
  match atx (f i) p (pl acc (i * es)) with
  | some (nd,o,u) => some (decide (i < n) :: nd,o,u)
  | none => none
 | _,_ :: _,_ => none
 termination_by structural _ p => p
theorem u4 : ∀ (p : List Nat) (t : XV) (acc : Nat) (nd : List Bool) (o : Nat) (u : XV),atx t p acc = some (nd,o,u) → gM nd → ∃ o',(con t).at? p = some (o',con u) ∧ o = acc + o'
 | [],t,acc,nd,o,u,h,hn => by
  simp only [atx,zaA,zaJ] at h
  obtain ⟨_,rfl,rfl⟩:=h
  exact ⟨0,by cases h : con t <;> simp [AV.at?],rfl⟩
 | i :: p,t,acc,nd,o,u,h,hn => by
  cases t <;> simp only [atx] at h <;> first | (cases h;done) | skip
  ·rename_i n ts
   split at h
   ·rename_i t' ht
    obtain ⟨o',h1,h2⟩:=u4 p t' _ nd o u h hn
    refine ⟨iV ((cons ts).take i) + o', ?_, ?_⟩
    ·simp only [con,AV.at?,sW ht,h1]
    ·rw [aG2,xB];rw [cB] at h2;omega
   ·cases h
  ·rename_i n es f
   split at h
   ·rename_i nd' o1 u1 h1
    simp only [zaA,zaJ] at h
    obtain ⟨rfl,rfl,rfl⟩:=h
    rw [bD] at hn
    obtain ⟨o',h3,h4⟩:=u4 p (f i) _ nd' o1 u1 h1 hn.2
    have hi : i < n:=by simpa using hn.1
    rw [cB] at h4
    refine ⟨i * es + o', ?_,by omega⟩
    simp only [con,AV.at?,eL hi,h3]
   ·cases h
def aS2 : XV → List Nat → XV → Option (List Bool × XV)
 | _,[],v => some ([],v)
 | .agg n ts,i :: p,v =>
  match nth ts i with
  | some t =>
   match aS2 t p v with
   | some (nd,u) => some (nd,.agg n (ts.set i u))
   | none => none
  | none => none
 | .tab n es f,i :: p,v =>
  match aS2 (f i) p v with
  | some (nd,u) => some (decide (i < n) :: v.idf :: nd,.tab n es (fun j => mrg (Nat.beq j i) u (f j)))
  | none => none
 | _,_ :: _,_ => none
 termination_by structural _ p => p
theorem aDV : ∀ (p : List Nat) (t v : XV) (nd : List Bool) (u : XV),aS2 t p v = some (nd,u) → gM nd → (con t).set? p (con v) = some (con u)
 | [],t,v,nd,u,h,hn => by
  simp only [aS2,zaA,zaJ] at h
  obtain ⟨_,rfl⟩:=h
  cases h : con t <;> simp [AV.set?]
 | i :: p,t,v,nd,u,h,hn => by
  cases t <;> simp only [aS2] at h <;> first | (cases h;done) | skip
  ·rename_i n ts
   split at h
   ·rename_i t' ht
    split at h
    ·rename_i nd' u1 h1
     simp only [zaA,zaJ] at h
     obtain ⟨rfl,rfl⟩:=h
     simp only [con,AV.set?,sW ht,aDV p t' v nd' u1 h1 hn,aK5]
    ·cases h
   ·cases h
  ·rename_i n es f
   split at h
   ·rename_i nd' u1 h1
    simp only [zaA,zaJ] at h
    obtain ⟨rfl,rfl⟩:=h
    rw [bD,bD] at hn
    have hi : i < n:=by simpa using hn.1
    simp only [con,AV.set?,eL hi,aDV p (f i) v nd' u1 h1 hn.2.2,u0,hn.2.1,if_true]
    refine congrArg some (congrArg _ (kF (by simp [bH]) fun j hj => ?_))
    rw [mQ]
    by_cases hij : j = i
    ·subst hij
     rw [zaQ,List.getElem?_set_self (by simpa [bH] using hj)]
     rfl
    ·rw [List.getElem?_set_ne (fun e => hij e.symm),eL hj]
     rw [show Nat.beq j i = false from by rw [← Bool.not_eq_true];exact fun e => hij (zaL e)]
     rfl
   ·cases h
def aF0 (H : List (Nat × Option XV)) (es : Nat) : XV → Option (List Bool × Nat × (Nat → XV))
 | .row _ es' n f => bif (Nat.beq es' es || Nat.beq n 0) then some ([],n,f) else none
 | .sl id path off k len es2 =>
  match iX H id with
  | some t =>
   match atx t path 0 with
   | some (nd,o,.tab n es' f) => bif (Nat.beq es2 es && Nat.beq es' es) then some (Nat.beq off (pl o (k * es)) :: decide (pl k len ≤ n) :: nd,len,fun i => f (pl k i)) else none
   | _ => none
  | none => none
 | _ => none
theorem mX {H : List (Nat × Option XV)} {σ : St} (hH : ∀ i,σ.H i = (iX H i).map con) {es n : Nat} {v : XV} {nd : List Bool} {f : Nat → XV} (h : aF0 H es v = some (nd,n,f)) (hn : gM nd) : σ.row es (con v) = some (dI n fun i => con (f i)):=by
 cases v <;> simp only [aF0] at h <;> first | (cases h;done) | skip
 ·rename_i x es' m g
  cases hb : (Nat.beq es' es || Nat.beq m 0) <;> rw [hb] at h
  ·cases h
  ·simp only [zaB,zaA,zaJ] at h
   obtain ⟨_,rfl,rfl⟩:=h
   simp only [con,St.row]
   rw [if_pos]
   rw [zaV] at hb
   exact hb.imp zaL (fun e => lH.2 (zaL e))
 ·rename_i id path off k len es2
  by_cases hl0 : len = 0
  ·subst hl0
   repeat' split at h
   all_goals first | (cases h;done) | skip
   revert h
   generalize (Nat.beq es2 es && Nat.beq _ es) = b
   intro h
   cases b
   ·cases h
   ·simp only [zaB,zaA,zaJ] at h
    obtain ⟨_,rfl,_⟩:=h
    simp only [con,St.row,if_true]
    rfl
  split at h
  ·rename_i t ht
   split at h
   ·rename_i nd' o m es' g ha
    cases hb : (Nat.beq es2 es && Nat.beq es' es) <;> rw [hb] at h
    ·cases h
    ·simp only [zaB,zaA,zaJ] at h
     obtain ⟨rfl,rfl,rfl⟩:=h
     rw [bD,bD] at hn
     obtain ⟨o',h1,h2⟩:=u4 path t 0 nd' o _ ha hn.2.2
     rw [zaG] at hb
     have e1:=zaL hb.1
     have e2:=zaL hb.2
     have e3:=zaL hn.1
     have e4 : k + len ≤ m:=by simpa [cB] using hn.2.1
     rw [cB] at e3
     simp only [con] at h1
     simp only [con,St.row,if_neg hl0,hH,ht,Option.map_some,h1]
     rw [if_pos ⟨e1,e2,by omega,by rw [bH];exact e4⟩]
     refine congrArg some (kF (by simp [bH];omega) fun i hi => ?_)
     rw [List.getElem?_take,if_pos hi,List.getElem?_drop,eL (by omega),cB]
   ·cases h
  ·cases h
def aK6 (H : List (Nat × Option XV)) : XV → Option (List Bool × XV)
 | .cC t => some ([],t)
 | .ptr id path off =>
  match iX H id with
  | some t =>
   match atx t path 0 with
   | some (nd,o,u) => some (Nat.beq o off :: nd,u)
   | none => none
  | none => none
 | _ => none
theorem aBC {H : List (Nat × Option XV)} {σ : St} (hH : ∀ i,σ.H i = (iX H i).map con) {v u : XV} {nd : List Bool} (h : aK6 H v = some (nd,u)) (hn : gM nd) : σ.mS (con v) = some (con u):=by
 cases v <;> simp only [aK6] at h <;> first | (cases h;done) | skip
 ·simp only [zaA,zaJ] at h
  obtain ⟨_,rfl⟩:=h
  rfl
 ·rename_i id path off
  split at h
  ·rename_i t ht
   split at h
   ·rename_i nd' o u' ha
    simp only [zaA,zaJ] at h
    obtain ⟨rfl,rfl⟩:=h
    rw [bD] at hn
    obtain ⟨o',h1,h2⟩:=u4 path t 0 nd' o _ ha hn.2
    have e3:=zaL hn.1
    simp only [con,St.mS,hH,ht,Option.map_some,h1]
    rw [if_pos (by omega)]
   ·cases h
  ·cases h
def aZ1 (op : BinOp) (k : IntKind) (a b : Int) : Option (List Bool × XV) :=
 match op with
 | .add => some ([],.int k (k.wrap (a + b)))
 | .sub => some ([],.int k (k.wrap (a - b)))
 | .mul => some ([],.int k (k.wrap (a * b)))
 | .quo => some ([!decide (b = 0)],.int k (k.wrap (a.tdiv b)))
 | .rem => some ([!decide (b = 0)],.int k (a.tmod b))
 | .and => some ([],.int k (eH .and k a b))
 | .or => some ([],.int k (eH .or k a b))
 | .xor => some ([],.int k (eH .xor k a b))
 | .andNot => some ([],.int k (eH .andNot k a b))
 | .eql => some ([],.bool (decide (a = b)))
 | .neq => some ([],.bool (decide (¬ a = b)))
 | .lss => some ([],.bool (decide (a < b)))
 | .leq => some ([],.bool (decide (a ≤ b)))
 | .gtr => some ([],.bool (decide (a > b)))
 | .geq => some ([],.bool (decide (a ≥ b)))
 | .shl => some ([decide (0 ≤ b)],.int k (k.wrap (a * 2 ^ (Nat.min b.toNat k.bits))))
 | .shr => some ([decide (0 ≤ b)],.int k (a.fdiv (2 ^ (Nat.min b.toNat k.bits))))
def aP7 (n : Nat) (f : Nat → Int) (m : Nat) (g : Nat → Int) : Bool:=bif Nat.beq n m then gL (fun i => decide (byt (f i) = byt (g i))) n else false
def a5P (op : BinOp) : XV → XV → Option (List Bool × XV)
 | .int k a,.int k' b => if qQ op = true ∨ k = k' then aZ1 op k a b else none
 | .str n f,.str m g =>
  match op with
  | .eql => some ([],.bool (aP7 n f m g))
  | .neq => some ([],.bool (!aP7 n f m g))
  | .add => some ([decide (n + m ≤ 140737488351232)],.str (n + m) (fun i => bif decide (i < n) then f i else g (i - n)))
  | _ => none
 | _,_ => none
theorem aP8 {n m : Nat} {f g : Nat → Int} : decide ((aCN n f).toList = (aCN m g).toList) = aP7 n f m g:=by
 have hl : ∀ (n : Nat) (f : Nat → Int),(aCN n f).toList = dI n fun i => byt (f i):=fun n f => by
  rw [ByteArray.toList_eq]
  unfold aCN
  simp
 rw [hl,hl]
 unfold aP7
 cases hb : Nat.beq n m
 ·rw [zaD]
  refine decide_eq_false fun e => ?_
  have:=congrArg List.length e
  rw [bH,bH] at this
  subst this
  rw [zaQ] at hb
  cases hb
 ·have e:=zaL hb
  subst e
  rw [zaB,Bool.eq_iff_iff,decide_eq_true_iff,dS]
  constructor
  ·intro h i hi
   have:=congrArg (fun l => l[i]?) h
   simp only [eL hi,zaA] at this
   simpa using this
  ·intro h
   exact kJ fun i hi => by simpa using h i hi
theorem aVG {op : BinOp} {k k' : IntKind} {a b : Int} {nd : List Bool} {v : XV} (hk : qQ op = true ∨ k = k') (h : aZ1 op k a b = some (nd,v)) (hn : gM nd) : ∃ u,aC7 op (.int k a) (.int k' b) = some u ∧ con v = .sc u:=by
 by_cases hs : qQ op = true
 ·have e : aC7 op (.int k a) (.int k' b) = shI op k a b:=by simp only [aC7,hs,if_true]
  rw [e]
  cases op <;> first | (exact absurd hs (by decide)) | skip
  all_goals
   simp only [aZ1,zaA,zaJ] at h
   obtain ⟨rfl,rfl⟩:=h
   have hb : ¬ b < 0:=by
    have : 0 ≤ b:=by simpa [gM] using hn
    omega
   exact ⟨_,by simp only [shI,hb,if_false],rfl⟩
 ·have hk' : k = k':=hk.resolve_left hs
  subst hk'
  have e : aC7 op (.int k a) (.int k b) = gY op k a b:=by simp only [aC7,hs,if_false,if_true];rfl
  rw [e]
  cases op <;> first | (exact absurd rfl hs) | skip
  all_goals
   simp only [aZ1,zaA,zaJ] at h
   obtain ⟨rfl,rfl⟩:=h
   first
    | exact ⟨_,rfl,rfl⟩
    |(have hb : ¬ b = 0:=by simpa [gM] using hn
      exact ⟨_,by simp only [gY,hb,if_false],rfl⟩)
theorem aG3 {n : Nat} {f : Nat → Int} : (aCN n f).size = n:=by
 show (dI n fun i => byt (f i)).toArray.size = n
 simp [bH]
theorem aVH {n m : Nat} {f g : Nat → Int} : aCN n f ++ aCN m g = aCN (n + m) fun i => bif decide (i < n) then f i else g (i - n):=by
 refine ByteArray.ext ?_
 rw [ByteArray.data_append]
 show (dI n fun i => byt (f i)).toArray ++ (dI m fun i => byt (g i)).toArray = (dI (n + m) _).toArray
 rw [List.append_toArray]
 congr 1
 refine kF (by simp [bH]) fun i hi => ?_
 by_cases hin : i < n
 ·rw [List.getElem?_append_left (by rw [bH];exact hin),eL hin]
  simp [hin]
 ·rw [List.getElem?_append_right (by rw [bH];omega),bH,eL (by omega)]
  simp [hin]
theorem aVI {op : BinOp} {x y v : XV} {nd : List Bool} (h : a5P op x y = some (nd,v)) (hn : gM nd) : ∃ a b u,con x = .sc a ∧ con y = .sc b ∧ aC7 op a b = some u ∧ con v = .sc u:=by
 unfold a5P at h
 split at h
 ·rename_i k a k' b
  split at h
  ·rename_i hk
   obtain ⟨u,h1,h2⟩:=aVG hk h hn
   exact ⟨_,_,u,rfl,rfl,h1,h2⟩
  ·cases h
 ·rename_i n f m g
  cases op <;> simp only [zaA,zaJ,reduceCtorEq] at h <;> obtain ⟨rfl,rfl⟩:=h
  ·have hb : n + m ≤ 140737488351232:=by simpa [gM] using hn
   refine ⟨_,_,.string (aCN n f ++ aCN m g),rfl,rfl, ?_, ?_⟩
   ·simp only [aC7,aG3,hb,if_true]
   ·simp only [con,aVH]
  ·exact ⟨_,_,_,rfl,rfl,rfl,by rw [aP8];rfl⟩
  ·exact ⟨_,_,_,rfl,rfl,rfl,by rw [aP8];rfl⟩
 ·cases h
mutual
def eqX : TS → XV → XV → Option Bool
 | .int,.int k a,.int k' b => if k = k' then some (decide (a = b)) else none
 | .bool,.bool a,.bool b => some (a == b)
 | .agg l,.agg _ ts,.agg _ us => aIK l ts us
 | .arr n es e,.tab n' es' f,.tab n'' es'' g =>
  bif (Nat.beq n' n && Nat.beq n'' n && Nat.beq es' es && Nat.beq es'' es && gL (fun i => (eqX e (f i) (g i)).isSome) n) then some (gL (fun i => (eqX e (f i) (g i)).getD false) n) else none
 | _,_,_ => none
def aIK : List (Nat × TS) → List XV → List XV → Option Bool
 | [],[],[] => some true
 |(n,e) :: l,t :: ts,u :: us =>
  bif (Nat.beq t.size n && Nat.beq u.size n) then
   match eqX e t u,aIK l ts us with
   | some a,some b => some (a && b)
   | _,_ => none
  else none
 | _,_,_ => none
end
theorem aK7 {e : TS} {F G : Nat → AV} {p : Nat → Bool} : ∀ (l : List Nat),(∀ i ∈ l,eqT e (F i) (G i) = some (p i)) → aJ7 e (l.map F) (l.map G) = some (l.all p)
 | [],_ => rfl
 | i :: l,h => by
  simp only [List.map_cons,aJ7,h i (by simp),aK7 l fun j hj => h j (by simp [hj]),List.all_cons]
mutual
theorem aIL : ∀ (s : TS) (x y : XV) (b : Bool),eqX s x y = some b → eqT s (con x) (con y) = some b
 | .int,x,y,b,h => by
  cases x <;> cases y <;> simp only [eqX,reduceCtorEq] at h
  simp only [con,eqT];exact h
 | .bool,x,y,b,h => by
  cases x <;> cases y <;> simp only [eqX,reduceCtorEq] at h
  simp only [con,eqT];exact h
 | .agg l,x,y,b,h => by
  cases x <;> cases y <;> simp only [eqX,reduceCtorEq] at h
  simp only [con,eqT];exact aK8 l _ _ b h
 | .arr n es e,x,y,b,h => by
  cases x <;> cases y <;> simp only [eqX,reduceCtorEq] at h
  rename_i n' es' f n'' es'' g
  cases hc : (Nat.beq n' n && Nat.beq n'' n && Nat.beq es' es && Nat.beq es'' es && gL (fun i => (eqX e (f i) (g i)).isSome) n) <;> rw [hc] at h
  ·cases h
  ·simp only [zaG] at hc
   obtain ⟨⟨⟨⟨h1,h2⟩,h3⟩,h4⟩,h5⟩:=hc
   have h1:=zaL h1
   have h2:=zaL h2
   have h3:=zaL h3
   have h4:=zaL h4
   subst h1 h3
   subst h2
   subst h4
   simp only [zaB,zaA] at h
   rw [dS] at h5
   simp only [con,eqT]
   rw [if_pos (by simp [bH]),dI,dI,aK7 (p:=fun i => (eqX e (f i) (g i)).getD false)]
   ·rw [← h]
    congr 1
    rw [Bool.eq_iff_iff,dS,List.all_eq_true]
    simp
   ·intro i hi
    have h6:=h5 i (List.mem_range.1 hi)
    cases h7 : eqX e (f i) (g i) with
    | none => rw [h7] at h6;cases h6
    | some c => rw [aIL e (f i) (g i) c h7];rfl
theorem aK8 : ∀ (l : List (Nat × TS)) (ts us : List XV) (b : Bool),aIK l ts us = some b → aC8 l (cons ts) (cons us) = some b
 | [],[],[],b,h => by simpa [aIK,aC8,cons] using h
 |(n,e) :: l,t :: ts,u :: us,b,h => by
  simp only [aIK] at h
  cases hc : (Nat.beq t.size n && Nat.beq u.size n) <;> rw [hc] at h
  ·cases h
  ·simp only [zaG] at hc
   have h1:=zaL hc.1
   have h2:=zaL hc.2
   rw [zaB] at h
   split at h
   ·rename_i c d h3 h4
    simp only [cons,aC8,lI,h1,h2,and_self,if_true,aIL e t u c h3,aK8 l ts us d h4]
    exact h
   ·cases h
 | [],_ :: _,_,b,h => by simp [aIK] at h
 | [],[],_ :: _,b,h => by simp [aIK] at h
 | _ :: _,[],_,b,h => by simp [aIK] at h
 | _ :: _,_ :: _,[],b,h => by simp [aIK] at h
end
def a9A : XV → Bool
 | .int .u8 _ => true
 | _ => false
def asN : XV → Int
 | .int _ n => n
 | _ => 0
theorem aBZ {f : Nat → XV} : ∀ (l : List Nat),(∀ i ∈ l,a9A (f i) = true) → bytesOf (l.map fun i => con (f i)) = some (l.map fun i => byt (asN (f i)))
 | [],_ => rfl
 | i :: l,h => by
  have h1:=h i (by simp)
  have h2:=aBZ l fun j hj => h j (by simp [hj])
  rw [List.map_cons]
  cases hf : f i <;> rw [hf] at h1 <;> first | (cases h1;done) | skip
  rename_i k n
  cases k <;> first | (cases h1;done) | skip
  simp only [con,bytesOf,h2,List.map_cons,hf,asN]
  rfl
def u5 (len : Nat) (lo hi : Option XV) : Option (List Bool × Nat × Nat) :=
 match lo,hi with
 | none,none => some ([],0,len)
 | some (.int _ l),none => some ([decide (0 ≤ l),decide (l ≤ (len : Int))],l.toNat,len)
 | none,some (.int _ h) => some ([decide (0 ≤ h),decide (h ≤ (len : Int))],0,h.toNat)
 | some (.int _ l),some (.int _ h) => some ([decide (0 ≤ l),decide (l ≤ h),decide (h ≤ (len : Int))],l.toNat,h.toNat)
 | _,_ => none
theorem o7 {len : Nat} {lo hi : Option XV} {nd : List Bool} {l h : Nat} (hb : u5 len lo hi = some (nd,l,h)) (hn : gM nd) : kE len (lo.map con) (hi.map con) = some (l,h) ∧ l ≤ h ∧ h ≤ len:=by
 unfold u5 at hb
 split at hb <;> simp only [zaA,zaJ,reduceCtorEq] at hb <;> obtain ⟨rfl,rfl,rfl⟩:=hb
 all_goals try simp only [bD,zaK] at hn
 ·simp [kE]
 ·simp only [Option.map_some,Option.map_none,kE,con,asI]
  rw [if_pos (by omega)]
  simp;omega
 ·simp only [Option.map_some,Option.map_none,kE,con,asI]
  rw [if_pos (by omega)]
  simp;omega
 ·simp only [Option.map_some,Option.map_none,kE,con,asI]
  rw [if_pos (by omega)]
  simp;omega
def asX : XV → Option Int
 | .int _ n => some n
 | _ => none
theorem u6 {v : XV} {n : Int} (h : asX v = some n) : asI (con v) = some n:=by
 cases v <;> simp only [asX,reduceCtorEq,zaA] at h
 subst h;rfl
def aDW (zero : List XV) : List (Nat × XV) → Option (List XV)
 | [] => some zero
 |(i,v) :: r =>
  match nth zero i with
  | some z => bif (Nat.beq v.size z.size && v.aA9 && (v.isAgg == z.isAgg)) then aDW (zero.set i v) r else none
  | none => none
theorem aDX : ∀ (l : List (Nat × XV)) (zero ts : List XV),aDW zero l = some ts → sN (cons zero) (l.map fun p => (p.1,con p.2)) = some (cons ts)
 | [],zero,ts,h => by
  simp only [aDW,zaA] at h
  subst h;rfl
 |(i,v) :: r,zero,ts,h => by
  simp only [aDW] at h
  split at h
  ·rename_i z hz
   cases hc : (Nat.beq v.size z.size && v.aA9 && (v.isAgg == z.isAgg)) <;> rw [hc] at h
   ·cases h
   ·simp only [zaG,beq_iff_eq] at hc
    simp only [List.map_cons,sN,sW hz,lI,p6,p5]
    rw [if_pos ⟨zaL hc.1.1,hc.1.2,hc.2⟩,aK5]
    exact aDX r _ ts h
  ·cases h
def xC (es : Nat) : List XV → Bool
 | [] => true
 | v :: r => bif (Nat.beq v.size es && v.aA9 && v.idf) then xC es r else false
theorem xD {es : Nat} : ∀ {l : List XV},xC es l = true → aBR es (cons l) = true
 | [],_ => rfl
 | v :: r,h => by
  simp only [xC] at h
  cases hc : (Nat.beq v.size es && v.aA9 && v.idf) <;> rw [hc] at h
  ·cases h
  ·simp only [zaG] at hc
   simp only [cons,aBR,lI,p6,u0,zaL hc.1.1,hc.1.2,hc.2,beq_self_eq_true,zaR]
   exact xD h
def yI : List XV → Bool
 | [] => true
 | v :: r => bif (v.aA9 && !v.isAgg) then yI r else false
theorem aB0 : ∀ {l : List XV},yI l = true → wP (cons l) = true
 | [],_ => rfl
 | v :: r,h => by
  simp only [yI] at h
  cases hc : (v.aA9 && !v.isAgg) <;> rw [hc] at h
  ·cases h
  ·simp only [zaG] at hc
   simp only [cons,wP,p6,p5,hc.1,hc.2,zaR]
   exact aB0 h
def aK9 (f : Int → Int → Int) (k : IntKind) (a : Int) : List XV → Option XV
 | [] => some (.int k a)
 | .int k' b :: l => if k = k' then aK9 f k (f a b) l else none
 | _ => none
def foldX' (f : Int → Int → Int) : List XV → Option XV
 | .int k a :: l => aK9 f k a l
 | _ => none
theorem aG4 {f : Int → Int → Int} {k : IntKind} : ∀ {l : List XV} {a : Int} {v : XV},aK9 f k a l = some v → aBS f k a (cons l) = some (con v)
 | [],a,v,h => by
  simp only [aK9,zaA] at h
  subst h;rfl
 | x :: l,a,v,h => by
  cases x <;> simp only [aK9,reduceCtorEq] at h
  split at h
  ·rename_i hk
   simp only [cons,con,aBS]
   rw [if_pos hk]
   exact aG4 h
  ·cases h
theorem foldX'_con {f : Int → Int → Int} {l : List XV} {v : XV} (h : foldX' f l = some v) : foldI f (cons l) = some (con v):=by
 cases l with
 | nil => simp [foldX'] at h
 | cons x l =>
  cases x <;> simp only [foldX',reduceCtorEq] at h
  simp only [cons,con,foldI]
  exact aG4 h
end Go.Ra
namespace Go.Ra
set_option linter.unusedVariables false
set_option linter.unusedSimpArgs false
def vX : AOp → List AX
 | .mv x => [x]
 | .pick c a b => [c,a,b]
 | .box x => [x]
 | .build _ _ ps => ps.map (·.2)
 | .bsl _ xs => xs
 | .aRV _ _ xs => xs
 | .load _ _ x => [x]
 | .store _ x v => [x,v]
 | .xV x => [x]
 | .bin _ x y => [x,y]
 | .eqs _ _ x y => [x,y]
 | .eqn _ x => [x]
 | .un _ x => [x]
 | .conv _ x => [x]
 | .b2s x => [x]
 | .slice _ x lo hi => x :: (lo.toList ++ hi.toList)
 | .qP _ _ x lo hi => x :: (lo.toList ++ hi.toList)
 | .aJ6 _ _ _ x => [x]
 | .aFS _ _ x i => [x,i]
 | .ext x _ => [x]
 | .mkf _ cs => cs
 | .mks _ _ _ x => [x]
 | .app _ _ s x => [s,x]
 | .aHZ _ _ x => [x]
 | .aM6 _ _ _ x => [x]
 | .len _ x => [x]
 | .lens x => [x]
 | .copy _ x y => [x,y]
 | .min xs => xs
 | .max xs => xs
 | .call _ xs => xs
 | .mD f xs => f :: xs
 | .j6 _ xs => xs
def aP9 (H : List (Nat × Option XV)) (e : AX → XV) : AOp → Option (List Bool × XV)
 | .mv x => some ([],e x)
 | .build n zero parts =>
  match aDW (oD zero) (parts.map fun p => (p.1,e p.2)) with
  | some ts => some ([],.agg n ts)
  | none => none
 | .aRV n es xs => bif (xC es (xs.map e) && Nat.beq xs.length n) then some ([],.tab n es (sel (xs.map e))) else none
 | .bsl es xs => bif xC es (xs.map e) then some ([],.row true es xs.length (sel (xs.map e))) else none
 | .load ag n x =>
  match aK6 H (e x) with
  | some (nd,u) => bif (u.isAgg == ag && Nat.beq u.size n) then some (nd,u) else none
  | none => none
 | .xV x =>
  match e x with
  | .ptr id p o => some ([],.ptr id p o)
  | .cC t => some ([],.cC t)
  | .clo f c => some ([],.clo f c)
  | _ => none
 | .bin op x y => a5P op (e x) (e y)
 | .eqs neg ts x y =>
  match eqX ts (e x) (e y) with
  | some b => some ([],.bool (bif neg then !b else b))
  | none => none
 | .eqn neg x =>
  match e x with
  | .row _ _ n _ => some ([],.tri (Nat.beq n 0) neg)
  | .sl _ _ _ _ len _ => some ([],.tri (Nat.beq len 0) neg)
  | _ => none
 | .un op x =>
  match op,e x with
  | .not,.bool b => some ([],.bool (!b))
  | .not,.tri z b => some ([],.tri z (!b))
  | .not,.dV => some ([],.dV)
  | .neg,.int k a => some ([],.int k (k.wrap (0 - a)))
  | .xor,.int k a => some ([],.int k (eH .xor k (if k.signed then -1 else k.max) a))
  | _,_ => none
 | .conv k x =>
  match e x with
  | .int _ a => some ([],.int k (k.wrap a))
  | _ => none
 | .b2s x =>
  match aF0 H 1 (e x) with
  | some (nd,n,f) => some (gL (fun i => a9A (f i)) n :: nd,.str n (fun i => asN (f i)))
  | none => none
 | .slice es x lo hi =>
  match e x with
  | .row _ es' n f =>
   match u5 n (lo.map e) (hi.map e) with
   | some (nd,l,h) => bif Nat.beq es' es then some (nd,.row false es (h - l) (fun i => f (pl l i))) else none
   | none => none
  | .sl id path off k len es' =>
   match u5 len (lo.map e) (hi.map e) with
   | some (nd,l,h) => bif Nat.beq es' es then some (nd,.sl id path (pl off (l * es)) (pl k l) (h - l) es) else none
   | none => none
  | _ => none
 | .qP n es x lo hi =>
  match e x with
  | .ptr id path off =>
   match u5 n (lo.map e) (hi.map e),iX H id with
   | some (nd,l,h),some t =>
    match atx t path 0 with
    | some (nd',o,.tab n' es' _) => bif (Nat.beq n' n && Nat.beq es' es && Nat.blt 0 es) then some (Nat.beq o off :: (nd ++ nd'),.sl id path (pl off (l * es)) l (h - l) es) else none
    | _ => none
   | _,_ => none
  | .cC (.tab n' es' f) =>
   match u5 n (lo.map e) (hi.map e) with
   | some (nd,l,h) => bif (Nat.beq es' es && Nat.beq n' n) then some (nd,.row false es (h - l) (fun i => f (pl l i))) else none
   | none => none
  | _ => none
 | .aJ6 i off n x =>
  match e x with
  | .ptr id path o => some ([],.ptr id (path ++ [i]) (pl o off))
  | .cC (.agg _ ts) =>
   match nth ts i with
   | some u => bif Nat.beq (rD (ts.take i)) off then some ([],.cC u) else none
   | none => none
  | _ => none
 | .aFS a es x i =>
  match a,e x,asX (e i) with
  | none,.row _ es' n f,some j => bif Nat.beq es' es then some ([decide (0 ≤ j),decide (j < (n : Int))],.cC (f j.toNat)) else none
  | none,.sl id path off k len es',some j => bif Nat.beq es' es then some ([decide (0 ≤ j),decide (j < (len : Int))],.ptr id (path ++ [pl k j.toNat]) (pl off (j.toNat * es))) else none
  | some n,.ptr id path off,some j => some ([decide (0 ≤ j),decide (j < (n : Int))],.ptr id (path ++ [j.toNat]) (pl off (j.toNat * es)))
  | some n,.cC (.tab n' es' f),some j => bif (Nat.beq es' es && Nat.beq n' n) then some ([decide (0 ≤ j),decide (j < (n : Int))],.cC (f j.toNat)) else none
  | _,_,_ => none
 | .ext x i =>
  match e x with
  | .tup vs =>
   match nth vs i with
   | some v => some ([],v)
   | none => none
  | _ => none
 | .mkf f cs => bif yI (cs.map e) then some ([],.clo f (cs.map e)) else none
 | .aM6 es bytes zero len =>
  match asX (e len) with
  | some n => bif Nat.blt 0 bytes then some ([decide (0 ≤ n),decide (n.toNat * bytes ≤ 140737488355328)],.row false es n.toNat (fun _ => lift zero)) else none
  | none => none
 | .aHZ es bytes x =>
  match aF0 H es (e x) with
  | some (nd,n,f) => bif Nat.blt 0 bytes then some (decide (n * bytes ≤ 140737488355328) :: nd,.row false es n f) else none
  | none => none
 | .len a x =>
  match a,e x with
  | some n,_ => some ([],.int .i64 n)
  | none,.row _ _ n _ => some ([],.int .i64 n)
  | none,.sl _ _ _ _ len _ => some ([],.int .i64 len)
  | _,_ => none
 | .lens x =>
  match e x with
  | .str n _ => some ([],.int .i64 n)
  | _ => none
 | .min xs =>
  match foldX' (fun a b => if b < a then b else a) (xs.map e) with
  | some v => some ([],v)
  | none => none
 | .max xs =>
  match foldX' (fun a b => if b > a then b else a) (xs.map e) with
  | some v => some ([],v)
  | none => none
 | _ => none
theorem aG5 {α : Type} {n l h : Nat} {f : Nat → α} (h1 : l ≤ h) (h2 : h ≤ n) : ((dI n f).take h).drop l = dI (h - l) fun i => f (pl l i):=by
 refine kF (by simp [bH];omega) fun i hi => ?_
 rw [List.getElem?_drop,List.getElem?_take,if_pos (by omega),eL (by omega),cB]
theorem aBD {σ : St} {e : AX → XV} : ∀ {l : List AX},(∀ x ∈ l,σ.ev x = con (e x)) → l.map σ.ev = cons (l.map e)
 | [],_ => rfl
 | x :: l,h => by
  simp only [List.map_cons,cons,h x (by simp)]
  rw [aBD fun y hy => h y (by simp [hy])]
theorem aIM {σ : St} {e : AX → XV} {x : Option AX} (h : ∀ y ∈ x.toList,σ.ev y = con (e y)) : x.map σ.ev = (x.map e).map con:=by
 cases x with
 | none => rfl
 | some y => simp [h y (by simp)]
theorem aVJ (z b : Bool) : aZA (bif z then AV.dV else B b) = some (bif z then AV.dV else B (!b)):=by cases z <;> rfl
theorem aG6 {H : List (Nat × Option XV)} {σ : St} {e : AX → XV} {o : AOp} {nd : List Bool} {v : XV} (hH : ∀ i,σ.H i = (iX H i).map con) (he : ∀ x ∈ vX o,σ.ev x = con (e x)) (h : aP9 H e o = some (nd,v)) (hn : gM nd) : aN o σ = some (con v,σ):=by
 cases o <;> simp only [aP9,reduceCtorEq] at h <;> simp only [vX,List.mem_cons,List.not_mem_nil,or_false,forall_eq_or_imp,forall_eq] at he
 case mv x =>
  simp only [zaA,zaJ] at h
  obtain ⟨_,rfl⟩:=h
  simp only [aN,he]
 case build n zero parts =>
  split at h
  ·rename_i ts ht
   simp only [zaA,zaJ] at h
   obtain ⟨_,rfl⟩:=h
   have h1:=aDX _ _ _ ht
   rw [kK,List.map_map] at h1
   have h2 : (parts.map fun p => (p.1,σ.ev p.2)) = List.map ((fun p => (p.1,con p.2)) ∘ fun p => (p.1,e p.2)) parts:=by
    refine List.map_congr_left fun p hp => ?_
    simp only [Function.comp]
    rw [he p.2 (List.mem_map.2 ⟨p,hp,rfl⟩)]
   simp only [aN,h2,h1]
   rfl
  ·cases h
 case aRV n es xs =>
  cases hc : (xC es (xs.map e) && Nat.beq xs.length n) <;> rw [hc] at h
  ·cases h
  ·simp only [zaB,zaA,zaJ] at h
   obtain ⟨_,rfl⟩:=h
   rw [zaG] at hc
   have hl:=zaL hc.2
   have h1:=aBD he
   simp only [aN,h1,xD hc.1,con]
   rw [if_pos ⟨trivial,hl⟩]
   have h2:=yG (xs.map e)
   rw [List.length_map,hl] at h2
   rw [← h2]
 case bsl es xs =>
  cases hc : xC es (xs.map e) <;> rw [hc] at h
  ·cases h
  ·simp only [zaB,zaA,zaJ] at h
   obtain ⟨_,rfl⟩:=h
   have h1:=aBD he
   simp only [aN,h1,xD hc,if_true,con]
   have h2:=yG (xs.map e)
   rw [List.length_map] at h2
   rw [← h2]
 case load ag n x =>
  split at h
  ·rename_i nd' u hl
   cases hc : (u.isAgg == ag && Nat.beq u.size n) <;> rw [hc] at h
   ·cases h
   ·simp only [zaB,zaA,zaJ] at h
    obtain ⟨rfl,rfl⟩:=h
    simp only [zaG,beq_iff_eq] at hc
    simp only [aN,he,aBC hH hl hn,p5,lI]
    rw [if_pos ⟨hc.1,zaL hc.2⟩]
  ·cases h
 case xV x =>
  split at h <;> simp only [zaA,zaJ,reduceCtorEq] at h
  all_goals
   rename_i hx
   obtain ⟨_,rfl⟩:=h
   simp only [aN,he,hx,con]
 case bin op x y =>
  obtain ⟨a,b,u,h1,h2,h3,h4⟩:=aVI h hn
  simp only [aN,he.1,he.2,h1,h2,h3,h4]
 case eqs neg ts x y =>
  split at h
  ·rename_i b hb
   simp only [zaA,zaJ] at h
   obtain ⟨_,rfl⟩:=h
   simp only [aN,he.1,he.2,aIL _ _ _ _ hb,con,B]
   cases neg <;> rfl
  ·cases h
 case eqn neg x =>
  split at h <;> simp only [zaA,zaJ,reduceCtorEq] at h
  ·rename_i x' es n f hx
   obtain ⟨_,rfl⟩:=h
   simp only [aN,he,hx,con,aTY]
   cases hz : Nat.beq n 0
   ·have : (dI n fun i => con (f i)).isEmpty = false:=by
     rw [List.isEmpty_eq_false_iff]
     exact fun e => Nat.ne_of_beq_eq_false hz (lH.1 e)
    rw [this];rfl
   ·have : (dI n fun i => con (f i)).isEmpty = true:=by
     rw [List.isEmpty_iff]
     exact lH.2 (zaL hz)
    rw [this];rfl
  ·rename_i id p off k len es hx
   obtain ⟨_,rfl⟩:=h
   simp only [aN,he,hx,con,aTY]
   cases hz : Nat.beq len 0
   ·rw [if_neg (Nat.ne_of_beq_eq_false hz)];rfl
   ·rw [if_pos (zaL hz)];rfl
 case un op x =>
  split at h <;> simp only [zaA,zaJ,reduceCtorEq] at h <;> rename_i hx <;> obtain ⟨_,rfl⟩:=h <;> simp only [aN,he,hx,con,aVJ] <;> rfl
 case conv k x =>
  split at h <;> simp only [zaA,zaJ,reduceCtorEq] at h
  rename_i hx
  obtain ⟨_,rfl⟩:=h
  simp only [aN,he,hx,con]
 case b2s x =>
  split at h <;> simp only [zaA,zaJ,reduceCtorEq] at h
  rename_i nd' n f hr
  obtain ⟨rfl,rfl⟩:=h
  rw [bD,dS] at hn
  have h1:=mX hH hr hn.2
  have h2:=aBZ (f:=f) (List.range n) fun i hi => hn.1 i (List.mem_range.1 hi)
  simp only [aN,he,h1,dI,h2,con,aCN]
 case slice es x lo hi =>
  have hlo:=aIM (σ:=σ) (e:=e) (x:=lo) fun y hy => he.2 y (by simp [hy])
  have hhi:=aIM (σ:=σ) (e:=e) (x:=hi) fun y hy => he.2 y (by simp [hy])
  split at h
  ·rename_i x' es' n f hx
   split at h
   ·rename_i nd' l r hb
    cases hc : Nat.beq es' es <;> rw [hc] at h
    ·cases h
    ·simp only [zaB,zaA,zaJ] at h
     obtain ⟨rfl,rfl⟩:=h
     obtain ⟨h1,h2,h3⟩:=o7 hb hn
     simp only [aN,he.1,hx,con,bH,hlo,hhi,h1]
     rw [if_pos (zaL hc),aG5 h2 h3]
   ·cases h
  ·rename_i id path off k len es' hx
   split at h
   ·rename_i nd' l r hb
    cases hc : Nat.beq es' es <;> rw [hc] at h
    ·cases h
    ·simp only [zaB,zaA,zaJ] at h
     obtain ⟨rfl,rfl⟩:=h
     obtain ⟨h1,h2,h3⟩:=o7 hb hn
     simp only [aN,he.1,hx,con,hlo,hhi,h1]
     rw [if_pos (zaL hc),cB,cB]
   ·cases h
  ·cases h
 case qP n es x lo hi =>
  have hlo:=aIM (σ:=σ) (e:=e) (x:=lo) fun y hy => he.2 y (by simp [hy])
  have hhi:=aIM (σ:=σ) (e:=e) (x:=hi) fun y hy => he.2 y (by simp [hy])
  split at h
  ·rename_i id path off hx
   split at h
   ·rename_i nd' l r t hb ht
    split at h
    ·rename_i nd2 o n' es' f ha
     cases hc : (Nat.beq n' n && Nat.beq es' es && Nat.blt 0 es) <;> rw [hc] at h
     ·cases h
     ·simp only [zaB,zaA,zaJ] at h
      obtain ⟨rfl,rfl⟩:=h
      rw [bD,eM] at hn
      simp only [zaG] at hc
      obtain ⟨h1,h2,h3⟩:=o7 hb hn.2.1
      obtain ⟨o',h4,h5⟩:=u4 _ _ _ _ _ _ ha hn.2.2
      simp only [con] at h4
      have e1:=zaL hn.1
      simp only [aN,he.1,hx,con,hlo,hhi,h1,hH,ht,Option.map_some,h4]
      rw [if_pos ⟨by omega,zaL hc.1.1,zaL hc.1.2,Nat.le_of_ble_eq_true hc.2⟩,cB]
    ·cases h
   ·cases h
  ·rename_i n' es' f hx
   split at h
   ·rename_i nd' l r hb
    cases hc : (Nat.beq es' es && Nat.beq n' n) <;> rw [hc] at h
    ·cases h
    ·simp only [zaB,zaA,zaJ] at h
     obtain ⟨rfl,rfl⟩:=h
     simp only [zaG] at hc
     obtain ⟨h1,h2,h3⟩:=o7 hb hn
     have e1:=zaL hc.1
     have e2:=zaL hc.2
     simp only [aN,he.1,hx,con,hlo,hhi,h1]
     rw [if_pos ⟨e1,e2⟩,aG5 h2 (by omega)]
   ·cases h
  ·cases h
 case aJ6 i off n x =>
  split at h
  ·rename_i id path o hx
   simp only [zaA,zaJ] at h
   obtain ⟨_,rfl⟩:=h
   simp only [aN,he,hx,con,cB]
  ·rename_i m ts hx
   split at h
   ·rename_i u hu
    cases hc : Nat.beq (rD (ts.take i)) off <;> rw [hc] at h
    ·cases h
    ·simp only [zaB,zaA,zaJ] at h
     obtain ⟨_,rfl⟩:=h
     simp only [aN,he,hx,con,sW hu,aG2,xB]
     rw [if_pos (zaL hc)]
   ·cases h
  ·cases h
 case aFS a es x i =>
  split at h
  ·rename_i x' es' n f j hx hj
   cases hc : Nat.beq es' es <;> rw [hc] at h
   ·cases h
   ·simp only [zaB,zaA,zaJ] at h
    obtain ⟨rfl,rfl⟩:=h
    simp only [bD,zaK] at hn
    simp only [aN,he.1,hx,con,he.2,u6 hj]
    rw [if_pos ⟨hn.1,zaL hc⟩,eL (by omega)]
  ·rename_i id path off k len es' j hx hj
   cases hc : Nat.beq es' es <;> rw [hc] at h
   ·cases h
   ·simp only [zaB,zaA,zaJ] at h
    obtain ⟨rfl,rfl⟩:=h
    simp only [bD,zaK] at hn
    simp only [aN,he.1,hx,con,he.2,u6 hj]
    rw [if_pos ⟨hn.1,hn.2.1,zaL hc⟩,cB,cB]
  ·rename_i n id path off j hx hj
   simp only [zaA,zaJ] at h
   obtain ⟨rfl,rfl⟩:=h
   simp only [bD,zaK] at hn
   simp only [aN,he.1,hx,con,he.2,u6 hj]
   rw [if_pos ⟨hn.1,hn.2.1⟩,cB]
  ·rename_i n n' es' f j hx hj
   cases hc : (Nat.beq es' es && Nat.beq n' n) <;> rw [hc] at h
   ·cases h
   ·simp only [zaB,zaA,zaJ] at h
    obtain ⟨rfl,rfl⟩:=h
    simp only [bD,zaK] at hn
    simp only [zaG] at hc
    have e1:=zaL hc.1
    have e2:=zaL hc.2
    simp only [aN,he.1,hx,con,he.2,u6 hj]
    rw [if_pos ⟨hn.1,e1,e2⟩,eL (by omega)]
  ·cases h
 case ext x i =>
  split at h
  ·rename_i vs hx
   split at h
   ·rename_i u hu
    simp only [zaA,zaJ] at h
    obtain ⟨_,rfl⟩:=h
    simp only [aN,he,hx,con,sW hu]
   ·cases h
  ·cases h
 case mkf f cs =>
  cases hc : yI (cs.map e) <;> rw [hc] at h
  ·cases h
  ·simp only [zaB,zaA,zaJ] at h
   obtain ⟨_,rfl⟩:=h
   simp only [aN,aBD he,aB0 hc,if_true,con]
 case aM6 es bytes zero len =>
  split at h
  ·rename_i n hx
   cases hc : Nat.blt 0 bytes <;> rw [hc] at h
   ·cases h
   ·simp only [zaB,zaA,zaJ] at h
    obtain ⟨rfl,rfl⟩:=h
    simp only [bD,zaK] at hn
    simp only [aN,he,u6 hx,con]
    rw [if_pos ⟨hn.1,Nat.le_of_ble_eq_true hc,hn.2.1⟩]
    have : List.replicate n.toNat zero = dI n.toNat fun _ => con (lift zero):=by
     refine kF (by simp) fun i hi => ?_
     rw [List.getElem?_replicate,if_pos hi,sU]
    rw [this]
  ·cases h
 case aHZ es bytes x =>
  split at h
  ·rename_i nd' n f hr
   cases hc : Nat.blt 0 bytes <;> rw [hc] at h
   ·cases h
   ·simp only [zaB,zaA,zaJ] at h
    obtain ⟨rfl,rfl⟩:=h
    rw [bD,zaK] at hn
    simp only [aN,he,mX hH hr hn.2,bH,con]
    rw [if_pos ⟨Nat.le_of_ble_eq_true hc,hn.1⟩]
  ·cases h
 case len a x =>
  split at h
  ·simp only [zaA,zaJ] at h
   obtain ⟨_,rfl⟩:=h
   simp only [aN,con,I]
  ·rename_i hx
   simp only [zaA,zaJ] at h
   obtain ⟨_,rfl⟩:=h
   simp only [aN,he,hx,con,I,bH]
  ·rename_i hx
   simp only [zaA,zaJ] at h
   obtain ⟨_,rfl⟩:=h
   simp only [aN,he,hx,con,I]
  ·cases h
 case lens x =>
  split at h
  ·rename_i n f hx
   simp only [zaA,zaJ] at h
   obtain ⟨_,rfl⟩:=h
   simp only [aN,he,hx,con,I,aG3]
  ·cases h
 case min xs =>
  split at h
  ·rename_i u hu
   simp only [zaA,zaJ] at h
   obtain ⟨_,rfl⟩:=h
   simp only [aN,aBD he,foldX'_con hu]
  ·cases h
 case max xs =>
  split at h
  ·rename_i u hu
   simp only [zaA,zaJ] at h
   obtain ⟨_,rfl⟩:=h
   simp only [aN,aBD he,foldX'_con hu]
  ·cases h
def aZ2 (n : Nat) (f g : Nat → XV) : Option (Nat → XV) :=
 match f 0 with
 | .unk => bif Nat.beq n 0 then some g else none
 | _ => some fun i => mrg (decide (i < n)) (f i) (g (i - n))
theorem aLA {n m : Nat} {f g k : Nat → XV} (h : aZ2 n f g = some k) : (dI (n + m) fun i => con (k i)) = (dI n fun i => con (f i)) ++ dI m fun i => con (g i):=by
 have key : ∀ k : Nat → XV,(∀ i,con (k i) = bif decide (i < n) then con (f i) else con (g (i - n))) → (dI (n + m) fun i => con (k i)) = (dI n fun i => con (f i)) ++ dI m fun i => con (g i):=by
  intro k hk
  refine (kF (by simp [bH]) fun i hi => ?_).symm
  rw [hk]
  by_cases hin : i < n
  ·rw [List.getElem?_append_left (by rw [bH];exact hin),eL hin]
   simp [hin]
  ·rw [List.getElem?_append_right (by rw [bH];omega),bH,eL (by omega)]
   simp [hin]
 unfold aZ2 at h
 split at h
 ·cases hc : Nat.beq n 0 <;> rw [hc] at h
  ·cases h
  ·simp only [zaB,zaA] at h
   subst h
   have:=zaL hc
   subst this
   exact key _ fun i => by simp
 ·simp only [zaA] at h
  subst h
  exact key _ fun i => mQ _ _ _
def XSt.put (σ : XSt) (d : Option Nat) (v : XV) : XSt :=
 match d with
 | some d => ⟨(d,v) :: σ.env,σ.hl,σ.n⟩
 | none => σ
def XSt.new (σ : XSt) (t : XV) : XSt:=⟨σ.env,(σ.n,some t) :: σ.hl,σ.n + 1⟩
def XSt.n7 (σ : XSt) (i : Nat) (t : Option XV) : XSt:=⟨σ.env,aP5 σ.hl i t,σ.n⟩
def XSt.back (σ τ : XSt) : XSt:=⟨σ.env,τ.hl,τ.n⟩
theorem xF (σ : XSt) (d : Option Nat) (v : XV) : (σ.put d v).st = σ.st.put d (con v):=by cases d <;> rfl
theorem aIN (σ : XSt) (t : XV) : (σ.new t).st = σ.st.new (con t):=rfl
theorem aIO (σ : XSt) (i : Nat) (t : Option XV) : (σ.n7 i t).st = σ.st.n7 i (t.map con):=by
 simp only [XSt.st,XSt.n7,St.n7,aG1]
theorem aQA (σ τ : XSt) : (σ.back τ).st = σ.st.back τ.st:=rfl
def aLB (σ : XSt) (e : AX → XV) : AOp → Option (List Bool × XV × XSt)
 | .box x => bif (e x).aA9 then some ([],.ptr σ.n [] 0,σ.new (e x)) else none
 | .store n x v =>
  match e x with
  | .ptr id path off =>
   match iX σ.hl id with
   | some t =>
    match atx t path 0,aS2 t path (e v) with
    | some (nd,o,u),some (nd',t') => bif (Nat.beq u.size n && Nat.beq (e v).size n && (e v).aA9) then some (Nat.beq o off :: (nd ++ nd'),.tup [],σ.n7 id (some t')) else none
    | _,_ => none
   | none => none
  | _ => none
 | .mks es bytes zero len =>
  match asX (e len) with
  | some n => bif Nat.blt 0 bytes then some ([decide (0 ≤ n),decide (n.toNat * bytes ≤ 140737488355328)],.sl σ.n [] 0 0 n.toNat es,σ.new (.tab n.toNat es (fun _ => lift zero))) else none
  | none => none
 | .app es bytes s x =>
  match aF0 σ.hl es (e x),e s with
  | some (nd,m,g),.row true es' n f =>
   match aZ2 n f g with
   | some k => bif ((Nat.beq es' es || Nat.beq n 0) && Nat.blt 0 bytes) then some (((Nat.beq n 0 || !Nat.beq m 0)) :: decide (pl n m * bytes ≤ 140737488355328) :: nd,.sl σ.n [] 0 0 (pl n m) es,σ.new (.tab (pl n m) es k)) else none
   | none => none
  | some (nd,m,g),.sl id [] off k len es' =>
   match iX σ.hl id with
   | some (.tab m' es'' f) =>
    match aZ2 len (fun i => f (pl k i)) g with
    | some h => bif (Nat.beq es'' es && Nat.beq es' es && Nat.blt 0 bytes) then
      some (Nat.beq off (k * es) :: decide (pl k len ≤ m') :: decide (pl len m * bytes ≤ 140737488355328) :: nd,.sl σ.n [] 0 0 (pl len m) es,(σ.n7 id none).new (.tab (pl len m) es h)) else none
    | none => none
   | _ => none
  | _,_ => none
 | .copy es x y =>
  match e x,aF0 σ.hl es (e y) with
  | .sl id [] off k len es',some (nd,m,g) =>
   match iX σ.hl id with
   | some (.tab n es'' f) => bif (Nat.beq es' es && Nat.beq es'' es && Nat.beq off 0 && Nat.beq k 0) then
     some (Nat.beq len n :: nd,.int .i64 (Nat.min m len : Nat),σ.n7 id (some (.tab n es (fun i => mrg (decide (i < m)) (g i) (f i))))) else none
   | _ => none
  | _,_ => none
 | _ => none
theorem aS3 {σ τ : XSt} {s : St} {e : AX → XV} {o : AOp} {nd : List Bool} {v : XV} (hs : s = σ.st) (he : ∀ x ∈ vX o,s.ev x = con (e x)) (h : aLB σ e o = some (nd,v,τ)) (hn : gM nd) : aN o s = some (con v,τ.st):=by
 subst hs
 have hH:=wU σ
 cases o <;> simp only [aLB,reduceCtorEq] at h <;> simp only [vX,List.mem_cons,List.not_mem_nil,or_false,forall_eq_or_imp,forall_eq] at he
 case box x =>
  cases hc : (e x).aA9 <;> rw [hc] at h
  ·cases h
  ·simp only [zaB,zaA,zaJ] at h
   obtain ⟨_,rfl,rfl⟩:=h
   simp only [aN,he,p6,hc,if_true,aIN,con]
   rfl
 case store n x w =>
  split at h
  ·rename_i id path off hx
   split at h
   ·rename_i t ht
    split at h
    ·rename_i nd1 o u nd2 t' h1 h2
     cases hc : (Nat.beq u.size n && Nat.beq (e w).size n && (e w).aA9) <;> rw [hc] at h
     ·cases h
     ·simp only [zaB,zaA,zaJ] at h
      obtain ⟨rfl,rfl,rfl⟩:=h
      rw [bD,eM] at hn
      simp only [zaG] at hc
      obtain ⟨o',h3,h4⟩:=u4 _ _ _ _ _ _ h1 hn.2.1
      have h5:=aDV _ _ _ _ _ h2 hn.2.2
      have e1:=zaL hn.1
      simp only [aN,he.1,he.2,hx,con,hH,ht,Option.map_some,h3,h5,lI,p6,aIO]
      rw [if_pos ⟨by omega,zaL hc.1.1,zaL hc.1.2,hc.2⟩]
      rfl
    ·cases h
   ·cases h
  ·cases h
 case mks es bytes zero len =>
  split at h
  ·rename_i n hx
   cases hc : Nat.blt 0 bytes <;> rw [hc] at h
   ·cases h
   ·simp only [zaB,zaA,zaJ] at h
    obtain ⟨rfl,rfl,rfl⟩:=h
    simp only [bD,zaK] at hn
    simp only [aN,he,u6 hx,con,aIN]
    rw [if_pos ⟨hn.1,Nat.le_of_ble_eq_true hc,hn.2.1⟩]
    have : List.replicate n.toNat zero = dI n.toNat fun _ => con (lift zero):=by
     refine kF (by simp) fun i hi => ?_
     rw [List.getElem?_replicate,if_pos hi,sU]
    rw [this]
    rfl
  ·cases h
 case app es bytes y x =>
  split at h
  ·rename_i nd1 m g es' n f h1 h2
   split at h
   ·rename_i k hk
    cases hc : ((Nat.beq es' es || Nat.beq n 0) && Nat.blt 0 bytes) <;> rw [hc] at h
    ·cases h
    ·simp only [zaB,zaA,zaJ] at h
     obtain ⟨rfl,rfl,rfl⟩:=h
     simp only [bD,zaK,cB] at hn
     simp only [zaG,zaV] at hc
     simp only [cB]
     simp only [aN,he.1,he.2,mX hH h1 hn.2.2,h2,con,aRW,bH]
     have a1:=hc.1.imp zaL (fun e => (lH (f:=fun i => con (f i))).2 (zaL e))
     have a2 : (dI n fun i => con (f i)) = [] ∨ (dI m fun i => con (g i)) ≠ []:=by
      rw [lH,ne_eq,lH]
      have:=hn.1
      simp only [zaV,Bool.not_eq_true'] at this
      exact this.imp zaL Nat.ne_of_beq_eq_false
     rw [if_pos ⟨a1,a2,Nat.le_of_ble_eq_true hc.2,hn.2.1⟩,aIN]
     simp only [con]
     rw [aLA hk]
     rfl
   ·cases h
  ·rename_i nd1 m g id off k len es' h1 h2
   split at h
   ·rename_i m' es'' f h3
    split at h
    ·rename_i h' hk
     cases hc : (Nat.beq es'' es && Nat.beq es' es && Nat.blt 0 bytes) <;> rw [hc] at h
     ·cases h
     ·simp only [zaB,zaA,zaJ] at h
      obtain ⟨rfl,rfl,rfl⟩:=h
      simp only [bD,zaK,cB] at hn
      simp only [zaG] at hc
      simp only [cB]
      simp only [aN,he.1,he.2,mX hH h1 hn.2.2.2,h2,con,aRW,bH,hH,h3,Option.map_some]
      rw [if_pos ⟨zaL hc.1.1,zaL hc.1.2,zaL hn.1,hn.2.1,Nat.le_of_ble_eq_true hc.2,hn.2.2.1⟩,aIN,aIO]
      have h4 : ((dI m' fun i => con (f i)).drop k).take len = dI len fun i => con (f (pl k i)):=by
       refine kF (by simp [bH];omega) fun i hi => ?_
       rw [List.getElem?_take,if_pos hi,List.getElem?_drop,eL (by omega),cB]
      simp only [con]
      rw [h4,aLA hk]
      rfl
    ·cases h
   ·cases h
  ·cases h
 case copy es x y =>
  split at h
  ·rename_i id off k len es' nd1 m g h1 h2
   split at h
   ·rename_i n es'' f h3
    cases hc : (Nat.beq es' es && Nat.beq es'' es && Nat.beq off 0 && Nat.beq k 0) <;> rw [hc] at h
    ·cases h
    ·simp only [zaB,zaA,zaJ] at h
     obtain ⟨rfl,rfl,rfl⟩:=h
     simp only [bD] at hn
     simp only [zaG] at hc
     have e1:=zaL hn.1
     simp only [aN,he.1,he.2,mX hH h2 hn.2,h1,con,bH,hH,h3,Option.map_some]
     rw [if_pos ⟨zaL hc.1.1.1,zaL hc.1.1.2,zaL hc.1.2,zaL hc.2,e1⟩,aIO]
     have : (dI n fun i => con (mrg (decide (i < m)) (g i) (f i))) = (dI m fun i => con (g i)).take len ++ (dI n fun i => con (f i)).drop m:=by
      refine (kF (by simp [bH];omega) fun i hi => ?_).symm
      rw [mQ]
      by_cases him : i < m
      ·rw [List.getElem?_append_left (by simp [bH];omega),List.getElem?_take,if_pos (by omega),eL him]
       simp [him]
      ·rw [List.getElem?_append_right (by simp [bH];omega),List.getElem?_drop,List.length_take,bH,eL (by omega)]
       simp only [him,zaE,zaD,zaA]
       congr 2
       omega
     simp only [Option.map_some,con]
     rw [this]
     rfl
   ·cases h
  ·cases h
end Go.Ra
namespace Go.Ra
set_option linter.unusedVariables false
set_option linter.unusedSimpArgs false
def aF1 (f : XV → Option (List Bool × XV)) : List XV → Option (List Bool × List XV)
 | [] => some ([],[])
 | v :: r =>
  match f v,aF1 f r with
  | some (nd,u),some (nd',us) => some (nd ++ nd',u :: us)
  | _,_ => none
def aCO (H : List (Nat × Option XV)) : Nat → XV → Option (List Bool × XV)
 | 0,v => bif v.idf then some ([],v) else none
 | k + 1,v =>
  match v with
  | .sl id path off kk len es =>
   match aF0 H es (.sl id path off kk len es) with
   | some (nd,n,f) => some (nd,.row false es n f)
   | none => none
  | .ptr id path off =>
   match aK6 H (.ptr id path off) with
   | some (nd,u) =>
    match aCO H k u with
    | some (nd',u') => some (nd ++ nd',.cC u')
    | none => none
   | none => none
  | .agg n ts =>
   match aF1 (aCO H k) ts with
   | some (nd,us) => some (nd,.agg n us)
   | none => none
  | .tup ts =>
   match aF1 (aCO H k) ts with
   | some (nd,us) => some (nd,.tup us)
   | none => none
  | .clo f ts =>
   match aF1 (aCO H k) ts with
   | some (nd,us) => some (nd,.clo f us)
   | none => none
  | .raw (.sc v) => some ([],.raw (.sc v))
  | .raw _ => none
  | .opt _ _ => none
  | .tri _ _ => none
  | v => bif v.idf then some ([],v) else none
theorem oE {f : XV → Option (List Bool × XV)} {g : AV → Option AV} (hf : ∀ v nd u,f v = some (nd,u) → gM nd → g (con v) = some (con u)) : ∀ {l : List XV} {nd : List Bool} {us : List XV},aF1 f l = some (nd,us) → gM nd → j4 g (cons l) = some (cons us)
 | [],nd,us,h,hn => by
  simp only [aF1,zaA,zaJ] at h
  obtain ⟨_,rfl⟩:=h;rfl
 | v :: r,nd,us,h,hn => by
  simp only [aF1] at h
  split at h
  ·rename_i nd1 u nd2 us' h1 h2
   simp only [zaA,zaJ] at h
   obtain ⟨rfl,rfl⟩:=h
   rw [eM] at hn
   simp only [cons,j4,hf _ _ _ h1 hn.1,oE hf h2 hn.2]
  ·cases h
theorem oF {H : List (Nat × Option XV)} {σ : St} (hH : ∀ i,σ.H i = (iX H i).map con) : ∀ (k : Nat) (v : XV) (nd : List Bool) (u : XV),aCO H k v = some (nd,u) → gM nd → frz σ k (con v) = some (con u)
 | 0,v,nd,u,h,hn => by
  simp only [aCO] at h
  cases hc : v.idf <;> rw [hc] at h
  ·cases h
  ·simp only [zaB,zaA,zaJ] at h
   obtain ⟨_,rfl⟩:=h
   simp only [frz,u0,hc,if_true]
 | k + 1,v,nd,u,h,hn => by
  have ih:=oF hH k
  cases v <;> simp only [aCO] at h
  case sl id path off kk len es =>
   split at h
   ·rename_i nd' n f hr
    simp only [zaA,zaJ] at h
    obtain ⟨rfl,rfl⟩:=h
    have:=mX hH hr hn
    simp only [con] at this
    simp only [con,frz,this]
   ·cases h
  case ptr id path off =>
   split at h
   ·rename_i nd' w hl
    split at h
    ·rename_i nd2 w' hw
     simp only [zaA,zaJ] at h
     obtain ⟨rfl,rfl⟩:=h
     rw [eM] at hn
     have:=aBC hH hl hn.1
     simp only [con] at this
     simp only [con,frz,this,ih _ _ _ hw hn.2]
    ·cases h
   ·cases h
  case agg n ts =>
   split at h
   ·rename_i nd' us hm
    simp only [zaA,zaJ] at h
    obtain ⟨rfl,rfl⟩:=h
    simp only [con,frz,oE ih hm hn]
   ·cases h
  case tup ts =>
   split at h
   ·rename_i nd' us hm
    simp only [zaA,zaJ] at h
    obtain ⟨rfl,rfl⟩:=h
    simp only [con,frz,oE ih hm hn]
   ·cases h
  case clo f ts =>
   split at h
   ·rename_i nd' us hm
    simp only [zaA,zaJ] at h
    obtain ⟨rfl,rfl⟩:=h
    simp only [con,frz,oE ih hm hn]
   ·cases h
  case raw w =>
   cases w <;> simp only [aCO,zaA,zaJ,reduceCtorEq] at h
   obtain ⟨_,rfl⟩:=h
   rfl
  case opt => cases h
  case tri => cases h
  all_goals
   simp only [XV.idf,zaB,zaA,zaJ] at h
   obtain ⟨_,rfl⟩:=h
   rfl
def j8 : List Bool → Prop → Prop
 | [],p => p
 | b :: l,p => cond b (j8 l p) False
theorem dJ : ∀ {l : List Bool} {p : Prop},j8 l p ↔ gM l ∧ p
 | [],p => by simp [j8,yH]
 | b :: l,p => by
  cases b
  ·simp [j8,bD]
  ·simp only [j8,zaB,dJ (l:=l),bD,true_and]
def aDY (g : Bool) : List Bool → Prop → Prop
 | [],p => p
 | b :: l,p => cond (bif b then true else !g) (aDY g l p) False
theorem aBE {g : Bool} : ∀ {l : List Bool} {p : Prop},aDY g l p ↔ (g = true → gM l) ∧ p
 | [],p => by simp [aDY,yH]
 | b :: l,p => by
  cases b
  ·cases g
   ·simp [aDY,aBE (l:=l)]
   ·simp [aDY,bD]
  ·simp only [aDY,zaB,aBE (l:=l),bD,true_and]
def strip : XV → XV
 | .opt _ v => v
 | v => v
def kG : XV → List Bool
 | .opt g _ => [g]
 | _ => []
theorem gN {v : XV} (h : gM (kG v)) : con v = con (strip v):=by
 cases v <;> try rfl
 rename_i g v
 simp only [kG,bD] at h
 simp only [con,strip,h.1,zaB]
def lK (e : AX → XV) : List AX → List Bool
 | [] => []
 | x :: l => kG (e x) ++ lK e l
theorem sX {e : AX → XV} : ∀ {l : List AX},gM (lK e l) → ∀ x ∈ l,con (e x) = con (strip (e x))
 | [],h,x,hx => by cases hx
 | y :: l,h,x,hx => by
  simp only [lK,eM] at h
  rcases List.mem_cons.1 hx with rfl | hx
  ·exact gN h.1
  ·exact sX h.2 x hx
def a3S (a b : XV) (c : Bool) : List Bool :=
 match a,b with
 | .opt ga _,.opt gb _ => [bif c then ga else gb]
 | .opt ga _,_ => [bif c then ga else true]
 | _,.opt gb _ => [bif c then true else gb]
 | _,_ => []
def aQB (c a b : XV) : Option (List Bool × XV) :=
 match strip c with
 | .bool t =>
  match a,b with
  | _,.tup [] => some (kG c ++ t :: kG a,strip a)
  | .tup [],_ => some (kG c ++ (!t) :: kG b,strip b)
  | _,_ => some (kG c ++ a3S a b t,mrg t (strip a) (strip b))
 | _ => none
theorem aG7 {σ : St} {e : AX → XV} {c a b : AX} {nd : List Bool} {v : XV} (he : ∀ x,σ.ev x = con (e x)) (h : aQB (e c) (e a) (e b) = some (nd,v)) (hn : gM nd) : aN (.pick c a b) σ = some (con v,σ):=by
 unfold aQB at h
 split at h
 ·rename_i t hc
  split at h
  ·rename_i ha hb
   simp only [zaA,zaJ] at h
   obtain ⟨rfl,rfl⟩:=h
   rw [eM,bD] at hn
   have h1:=gN hn.1
   rw [hc] at h1
   simp only [aN,he,h1,con]
   rw [hn.2.1]
   simp only [if_true]
   rw [gN hn.2.2]
  ·rename_i ha hb
   simp only [zaA,zaJ] at h
   obtain ⟨rfl,rfl⟩:=h
   rw [eM,bD] at hn
   have h1:=gN hn.1
   rw [hc] at h1
   simp only [aN,he,h1,con]
   have ht : t = false:=by simpa using hn.2.1
   rw [ht]
   simp only [zaU,if_false]
   rw [gN hn.2.2]
  ·simp only [zaA,zaJ] at h
   obtain ⟨rfl,rfl⟩:=h
   rw [eM] at hn
   have h1:=gN hn.1
   rw [hc] at h1
   simp only [aN,he,h1,con,mQ]
   have h2:=hn.2
   unfold a3S at h2
   cases t
   ·simp only [zaU,if_false,zaD]
    congr 2
    refine gN ?_
    cases ha : e a <;> cases hb : e b <;> simp only [ha,hb,kG,yH,bD,zaD] at h2 ⊢ <;> exact h2
   ·simp only [if_true,zaB]
    congr 2
    refine gN ?_
    cases ha : e a <;> cases hb : e b <;> simp only [ha,hb,kG,yH,bD,zaB] at h2 ⊢ <;> exact h2
 ·cases h
inductive XG where
 | one (d : Option Nat) (o : AOp)
 | run (t : Nat) (b : Bool) (l : List (Option Nat × AOp))
def isD (d : Option Nat) (t : Nat) : Bool :=
 match d with
 | some d => Nat.beq d t
 | none => false
def aZ3 (d : Option Nat) (o : AOp) (t : Nat) (b : Bool) : List XG → List XG
 | .run t' b' l :: gs => bif (Nat.beq t t' && (b == b') && !isD d t) then .run t b ((d,o) :: l) :: gs else .run t b [(d,o)] :: .run t' b' l :: gs
 | gs => .run t b [(d,o)] :: gs
def grp : List AG → List XG
 | [] => []
 | ⟨d,o,none⟩ :: r => .one d o :: grp r
 | ⟨d,o,some (t,b)⟩ :: r => aZ3 d o t b (grp r)
def aVK (t : Nat) (b : Bool) : List (Option Nat × AOp) → List AG → List AG
 | [],r => r
 |(d,o) :: l,r => ⟨d,o,some (t,b)⟩ :: aVK t b l r
def ung : List XG → List AG
 | [] => []
 | .one d o :: r => ⟨d,o,none⟩ :: ung r
 | .run t b l :: r => aVK t b l (ung r)
def yJ (t : Nat) : List (Option Nat × AOp) → Bool
 | [] => true
 | [_] => true
 |(d,_) :: l => !isD d t && yJ t l
def okG : List XG → Bool
 | [] => true
 | .one _ _ :: r => okG r
 | .run t _ l :: r => yJ t l && okG r
theorem aVL {d : Option Nat} {o : AOp} {t : Nat} {b : Bool} {gs : List XG} (h : okG gs = true) : ung (aZ3 d o t b gs) = ⟨d,o,some (t,b)⟩ :: ung gs ∧ okG (aZ3 d o t b gs) = true:=by
 unfold aZ3
 split
 ·rename_i t' b' l gs'
  cases hc : (Nat.beq t t' && (b == b') && !isD d t)
  ·exact ⟨rfl,by simpa [okG,yJ] using h⟩
  ·simp only [zaG,beq_iff_eq] at hc
   have:=zaL hc.1.1
   have h2:=hc.1.2
   subst this
   subst h2
   refine ⟨rfl, ?_⟩
   simp only [okG,zaG] at h
   simp only [zaB,okG,zaG]
   refine ⟨?_,h.2⟩
   cases l with
   | nil => rfl
   | cons x l => simp only [yJ,hc.2,zaR];exact h.1
 ·exact ⟨rfl,by simpa [okG,yJ] using h⟩
theorem u7 : ∀ l : List AG,ung (grp l) = l ∧ okG (grp l) = true
 | [] => ⟨rfl,rfl⟩
 | ⟨d,o,none⟩ :: r => by
  obtain ⟨h1,h2⟩:=u7 r
  exact ⟨by simp only [grp,ung,h1],by simpa [grp,okG] using h2⟩
 | ⟨d,o,some (t,b)⟩ :: r => by
  obtain ⟨h1,h2⟩:=u7 r
  obtain ⟨h3,h4⟩:=aVL (d:=d) (o:=o) (t:=t) (b:=b) h2
  exact ⟨by simp only [grp,h3,h1],by simpa [grp] using h4⟩
structure Tab where
 yK : Nat → Option (Nat × List AR × AC)
 q : Nat → Bool
 sp : Nat → List XV → Option (List Bool × XV)
 sg : Nat → List XV → XSt → Option (List Bool × XV × XSt)
 sk : Nat → List XV → Option ((XV → Prop) → Prop):=fun _ _ => none
 gk : Nat → List XV → XSt → Option ((XV → XSt → Prop) → Prop):=fun _ _ _ => none
section
variable (T : Tab)
def a5Q (H : List (Nat × Option XV)) (e : AX → XV) (o : AOp) : Option (List Bool × XV) :=
 match o with
 | .pick c a b => aQB (e c) (e a) (e b)
 | .call f args =>
  bif (T.q f && XV.aDT (args.map fun x => strip (e x))) then
   match T.sp f (args.map fun x => strip (e x)) with
   | some (nd,v) => some (lK e args ++ nd,v)
   | none => none
  else none
 | o =>
  match aP9 H (fun x => strip (e x)) o with
  | some (nd,v) => some (lK e (vX o) ++ nd,v)
  | none => none
def aLC (d : Option Nat) (v : XV) (env : List (Nat × XV)) : List (Nat × XV) :=
 match d with
 | some d => (d,v) :: env
 | none => env
def evE (env : List (Nat × XV)) : AX → XV
 | .t i => lJ env i
 | .c v => lift v
def aIP (H : List (Nat × Option XV)) : List (Option Nat × AOp) → List (Nat × XV) → Option (List Bool × List (Nat × XV))
 | [],env => some ([],env)
 |(d,o) :: l,env =>
  match a5Q T H (evE env) o with
  | some (nd,v) =>
   match aIP H l (aLC d v env) with
   | some (nd',env') => some (nd ++ nd',env')
   | none => none
  | none => none
def aN9 : List (Option Nat × AOp) → Nat
 | [] => 0
 |(some _,_) :: l => aN9 l + 1
 |(none,_) :: l => aN9 l
def wrap (g : Bool) : Nat → List (Nat × XV) → List (Nat × XV)
 | k + 1,(i,v) :: l => (i,.opt g v) :: wrap g k l
 | _,l => l
def p8 : List (Option Nat × AOp) → List (Nat × XV) → List (Nat × XV)
 | [],env => env
 |(d,_) :: l,env => p8 l (aLC d (.tup []) env)
def aDZ (v : XV) (b : Bool) : Option Bool :=
 match v with
 | .bool c => some (bif b then c else !c)
 | .opt g (.bool c) => some (bif g then (bif b then c else !c) else false)
 | .tup [] => some false
 | _ => none
variable (ci : Nat → List XV → XSt → (XV → XSt → Prop) → Prop)
def aQC (d : Option Nat) (o : AOp) (σ : XSt) (K : XSt → Prop) : Prop :=
 match o with
 | .pick c a b =>
  match aQB (σ.ev c) (σ.ev a) (σ.ev b) with
  | some (nd,v) => j8 nd (K (σ.put d v))
  | none => False
 | .call f args => j8 (lK σ.ev args) (ci f (args.map fun x => strip (σ.ev x)) σ fun v τ => K ((σ.back τ).put d v))
 | .mD x args =>
  match strip (σ.ev x) with
  | .clo f caps => cond (T.q f) (j8 (lK σ.ev (x :: args)) (ci f ((args.map fun x => strip (σ.ev x)) ++ caps) σ fun v τ => K ((σ.back τ).put d v))) False
  | _ => False
 | .j6 f args => cond (XV.aDT (args.map fun x => strip (σ.ev x))) (j8 (lK σ.ev args)
   (match T.sp f (args.map fun x => strip (σ.ev x)) with
   | some (nd,v) => j8 nd (K (σ.put d v))
   | none =>
    match T.sk f (args.map fun x => strip (σ.ev x)) with
    | some W => W fun v => K (σ.put d v)
    | none => False)) False
 | o =>
  match aP9 σ.hl (fun x => strip (σ.ev x)) o with
  | some (nd,v) => j8 (lK σ.ev (vX o)) (j8 nd (K (σ.put d v)))
  | none =>
   match aLB σ (fun x => strip (σ.ev x)) o with
   | some (nd,v,τ) => j8 (lK σ.ev (vX o)) (j8 nd (K (τ.put d v)))
   | none => False
def aQD : List (Option Nat × AOp) → XSt → (XSt → Prop) → Prop
 | [],σ,K => K σ
 |(d,o) :: l,σ,K => aQC T ci d o σ fun σ' => aQD l σ' K
def exO : List XG → XSt → (XSt → Prop) → Prop
 | [],σ,K => K σ
 | .one d o :: r,σ,K => aQC T ci d o σ fun σ' => exO r σ' K
 | .run t b l :: r,σ,K =>
  match aDZ (lJ σ.env t) b with
  | some g =>
   match aIP T σ.hl l σ.env with
   | some (nd,env) => aDY g nd (exO r ⟨wrap g (aN9 l) env,σ.hl,σ.n⟩ K)
   | none => cond g (aQD T ci l σ fun σ' => exO r σ' K) (exO r ⟨p8 l σ.env,σ.hl,σ.n⟩ K)
  | none => False
def aQE : Nat → (XSt → (AE → XSt → Prop) → Prop) → XSt → (AE → XSt → Prop) → Prop
 | 0,_,_,_ => False
 | n + 1,g,σ,K => g σ fun e σ' =>
  match e with
  | .normal => aQE n g σ' K
  | e => K e σ'
def idX : XV → Option Nat
 | .ptr id _ _ => some id
 | .sl id _ _ _ _ _ => some id
 | .opt _ v => idX v
 | .raw v => oU v
 | _ => none
def a5R (a b : XV) : List Bool :=
 match idX a,idX b with
 | some i,some j => [!Nat.beq i j]
 | _,_ => []
def aLD (σ : XSt) : List (Nat × Nat) → List Bool
 | [] => []
 |(t,u) :: r => a5R (lJ σ.env t) (lJ σ.env u) ++ aLD σ r
theorem aIQ : ∀ {v : XV} {i : Nat},oU (con v) = some i → idX v = some i
 | .opt g v,i,h => by
  cases g
  ·simp [con,oU] at h
  ·exact aIQ (v:=v) h
 | .tri z b,i,h => by cases z <;> simp [con,oU,B] at h
 | .int ..,i,h => by simp [con,oU] at h
 | .bool _,i,h => by simp [con,oU] at h
 | .str ..,i,h => by simp [con,oU] at h
 | .agg ..,i,h => by simp [con,oU] at h
 | .tab ..,i,h => by simp [con,oU] at h
 | .row ..,i,h => by simp [con,oU] at h
 | .cC _,i,h => by simp [con,oU] at h
 | .sl ..,i,h => h
 | .ptr ..,i,h => h
 | .clo ..,i,h => by simp [con,oU] at h
 | .tup _,i,h => by simp [con,oU] at h
 | .dV,i,h => by simp [con,oU] at h
 | .unk,i,h => by simp [con,oU] at h
 | .raw _,i,h => h
theorem aZ4 {a b : XV} (h : gM (a5R a b)) : aZB (con a) (con b):=by
 intro i ha hb
 unfold a5R at h
 rw [aIQ ha,aIQ hb] at h
 simp [bD] at h
mutual
def aG8 : XV → List Nat
 | .sl id _ _ _ _ _ => [id]
 | .agg _ ts => aIR ts
 | _ => []
def aIR : List XV → List Nat
 | [] => []
 | t :: ts => aG8 t ++ aIR ts
end
mutual
def fzV (H : List (Nat × Option XV)) : XV → List Bool × XV
 | .sl id path off k len es =>
  match aF0 H es (.sl id path off k len es) with
  | some (nd,n,f) => (nd,.row false es n f)
  | none => ([],.sl id path off k len es)
 | .agg n ts => ((aOA H ts).1,.agg n (aOA H ts).2)
 | v => ([],v)
def aOA (H : List (Nat × Option XV)) : List XV → List Bool × List XV
 | [] => ([],[])
 | t :: ts => ((fzV H t).1 ++ (aOA H ts).1,(fzV H t).2 :: (aOA H ts).2)
end
def fzE (H : List (Nat × Option XV)) : List (Nat × XV) → List Bool × List (Nat × XV)
 | [] => ([],[])
 |(k,v) :: r => ((fzV H v).1 ++ (fzE H r).1,(k,(fzV H v).2) :: (fzE H r).2)
def inL (i : Nat) : List Nat → Bool
 | [] => false
 | k :: l => bif Nat.beq i k then true else inL i l
def fzH (H : List (Nat × Option XV)) (L : List Nat) : List (Nat × Option XV) → List Bool × List (Nat × Option XV)
 | [] => ([],[])
 |(k,none) :: r => ((fzH H L r).1,(k,none) :: (fzH H L r).2)
 |(k,some t) :: r => bif inL k L then ((fzH H L r).1,(k,none) :: (fzH H L r).2) else ((fzV H t).1 ++ (fzH H L r).1,(k,some (fzV H t).2) :: (fzH H L r).2)
def xG : List (Nat × XV) → List Nat
 | [] => []
 |(_,v) :: r => aG8 v ++ xG r
def vN : List (Nat × Option XV) → List Nat
 | [] => []
 |(_,some t) :: r => aG8 t ++ vN r
 |(_,none) :: r => vN r
def XSt.fz (σ : XSt) : List Bool × XSt :=
 ((fzE σ.hl σ.env).1 ++ (fzH σ.hl (xG σ.env ++ vN σ.hl) σ.hl).1,⟨(fzE σ.hl σ.env).2,(fzH σ.hl (xG σ.env ++ vN σ.hl) σ.hl).2,σ.n⟩)
def exC (u : Nat) : AC → XSt → (AE → XSt → Prop) → Prop
 | .skip,σ,K => K .normal σ
 | .ops l,σ,K => exO T ci (grp l) σ (K .normal)
 | .aFT l ps,σ,K => exO T ci (grp l) σ fun σ' => j8 (aLD σ' ps) (K .normal σ')
 | .seq a b,σ,K => exC u a σ fun e σ' =>
  match e with
  | .normal => exC u b σ' K
  | e => K e σ'
 | .cond c x y,σ,K =>
  match strip (σ.ev c) with
  | .bool b => j8 (kG (σ.ev c)) (cond b (exC u x σ K) (exC u y σ K))
  | _ => False
 | .block id c,σ,K => exC u c σ fun e σ' =>
  match e with
  | .exit i => cond (Nat.beq i id) (K .normal σ') (K (.exit i) σ')
  | e => K e σ'
 | .loop c,σ,K => aQE u (exC u c) σ K
 | .exit id,σ,K => K (.exit id) σ
 | .ret,σ,K => K .ret σ
 | .frz,σ,K => j8 σ.fz.1 (K .normal σ.fz.2)
def a5S (σ : XSt) : AR → Option (List Bool × XV)
 | .tmp t => some ([],lJ σ.env t)
 | .cell t ag n =>
  match aK6 σ.hl (lJ σ.env t) with
  | some (nd,u) => bif (u.isAgg == ag && Nat.beq u.size n) then some (nd,u) else none
  | none => none
def aG9 (σ : XSt) : List AR → Option (List Bool × List XV)
 | [] => some ([],[])
 | r :: rs =>
  match a5S σ r,aG9 σ rs with
  | some (nd,v),some (nd',vs) => some (nd ++ nd',v :: vs)
  | _,_ => none
def a5T : List XV → XV
 | [v] => v
 | vs => .tup vs
def aS4 (rs : List AR) (K : XV → XSt → Prop) : AE → XSt → Prop
 | .exit _,_ => False
 | _,σ =>
  match aG9 σ rs with
  | some (nd,vs) => j8 nd (K (a5T vs) σ)
  | none => False
def jO : Nat → List XV → List (Nat × XV)
 | _,[] => []
 | k,v :: r => (k,v) :: jO (k + 1) r
end
def aS5 (K : XV → Prop) (v : XV) (τ : XSt) : Prop :=
 match aCO τ.hl 6 v with
 | some (nd,r) => j8 nd (K r)
 | none => False
def aQ (T : Tab) (u : Nat) (ci : Nat → List XV → XSt → (XV → XSt → Prop) → Prop) (f : Nat) (args : List XV) (K : XV → Prop) : Prop :=
 match T.sp f args with
 | some (nd,v) => j8 nd (K v)
 | none =>
  match T.sk f args with
  | some W => W K
  | none =>
   match T.yK f with
   | some (nt,rs,c) => cond (Nat.ble args.length nt) (exC T ci u c ⟨jO 0 args,[],0⟩ (aS4 rs (aS5 K))) False
   | none => False
def bT (T : Tab) (u : Nat) : Nat → Nat → List XV → XSt → (XV → XSt → Prop) → Prop
 | 0,_,_,_,_ => False
 | k + 1,f,args,σ,K =>
  cond (T.q f)
   (cond (XV.aDT args) (aQ T u (bT T u k) f args fun v => K v σ)
    (match aF1 (aCO σ.hl 6) args with
    | some (nd,args') => j8 nd (aQ T u (bT T u k) f args' fun v => cond v.sol (K v σ) False)
    | none => False))
   (match T.sg f args σ with
   | some (nd,v,τ) => j8 nd (K v τ)
   | none => match T.gk f args σ with
   | some W => W K
   | none =>
    match T.yK f with
    | some (nt,rs,c) => cond (Nat.ble args.length nt && !T.q (f + 1000000)) (exC T (bT T u k) u c ⟨jO 0 args,σ.hl,σ.n⟩ (aS4 rs K)) False
    | none => False)
end Go.Ra
namespace Go.Ra
set_option linter.unusedVariables false
set_option linter.unusedSimpArgs false
structure bX (P : Program) (T : Tab) : Prop where
 yK : ∀ f r,T.yK f = some r → trF P T.q f = some r
 sp : ∀ f args nd v,T.sp f args = some (nd,v) → gM nd → Pure P f (cons args) (con v)
 sg : ∀ f args σ nd v τ,T.sg f args σ = some (nd,v,τ) → gM nd → T.q f = false → Ok P T.q f (cons args) σ.st (con v) τ.st
 sk : ∀ f args W,T.sk f args = some W → ∀ K : XV → Prop,W K → ∃ v,Pure P f (cons args) (con v) ∧ K v
 gk : ∀ f args σ W,T.gk f args σ = some W → T.q f = false → ∀ K : XV → XSt → Prop,W K → ∃ v τ,Ok P T.q f (cons args) σ.st (con v) τ.st ∧ K v τ
section
variable {P : Program} {T : Tab}
abbrev aOB (P : Program) (q : Nat → Bool) (ci : Nat → List XV → XSt → (XV → XSt → Prop) → Prop) : Prop :=
 ∀ f args σ K,ci f args σ K → ∃ v τ,Ok P q f (cons args) σ.st (con v) τ.st ∧ K v τ
theorem p9 {C : Orc} {d : Option Nat} {o : AOp} {r : List AG} {s t : St} {v : AV} {K : St → Prop} (h : aN o s = some (v,t)) (hK : wpOps C r (t.put d v) K) : wpOps C (⟨d,o,none⟩ :: r) s K:=by
 unfold wpOps
 simp only
 split
 ·simp [aN] at h
 ·simp [aN] at h
 ·simp [aN] at h
 ·rw [h];exact hK
theorem sY {e : AX → XV} {σ : St} (he : ∀ x,σ.ev x = con (e x)) : ∀ {l : List AX},gM (lK e l) → l.map σ.ev = cons (l.map fun x => strip (e x))
 | [],h => rfl
 | x :: l,h => by
  simp only [lK,eM] at h
  simp only [List.map_cons,cons,he x,gN h.1,sY he h.2]
variable {ci : Nat → List XV → XSt → (XV → XSt → Prop) → Prop}
theorem aS6 {σ τ : XSt} {e : AX → XV} {o : AOp} {nd : List Bool} {v : XV} (h : aLB σ e o = some (nd,v,τ)) : τ = σ.back τ:=by
 cases o <;> simp only [aLB,reduceCtorEq] at h
 case box x =>
  cases hc : (e x).aA9 <;> rw [hc] at h
  ·cases h
  ·simp only [zaB,zaA,zaJ] at h
   obtain ⟨_,_,rfl⟩:=h;rfl
 case store n x w =>
  repeat' split at h
  all_goals first | (cases h;done) | skip
  rename_i u _ _ _ _ _
  revert h
  generalize (Nat.beq _ n && _ && _) = c
  intro h
  cases c
  ·cases h
  ·simp only [zaB,zaA,zaJ] at h
   obtain ⟨_,_,rfl⟩:=h;rfl
 case mks es bytes zero len =>
  split at h
  ·cases hc : Nat.blt 0 bytes <;> rw [hc] at h
   ·cases h
   ·simp only [zaB,zaA,zaJ] at h
    obtain ⟨_,_,rfl⟩:=h;rfl
  ·cases h
 case app es bytes y x =>
  repeat' split at h
  all_goals first | (cases h;done) | skip
  all_goals
   revert h
   generalize (_ && Nat.blt 0 bytes) = c
   intro h
   cases c
   ·cases h
   ·simp only [zaB,zaA,zaJ] at h
    obtain ⟨_,_,rfl⟩:=h;rfl
 case copy es x y =>
  repeat' split at h
  all_goals first | (cases h;done) | skip
  revert h
  generalize (_ && _ && _ && _) = c
  intro h
  cases c
  ·cases h
  ·simp only [zaB,zaA,zaJ] at h
   obtain ⟨_,_,rfl⟩:=h;rfl
theorem aLE (hT : bX P T) (hci : aOB P T.q ci) {d : Option Nat} {o : AOp} {σ : XSt} {K : XSt → Prop} (h : aQC T ci d o σ K) : ∃ σ',K σ' ∧ (∃ v τ,σ' = (σ.back τ).put d v) ∧ ∀ r Φ,wpOps (Ok P T.q) r σ'.st Φ → wpOps (Ok P T.q) (⟨d,o,none⟩ :: r) σ.st Φ:=by
 unfold aQC at h
 split at h
 ·rename_i c a b
  split at h
  ·rename_i nd v hp
   rw [dJ] at h
   exact ⟨_,h.2,⟨v,σ,rfl⟩,fun r Φ hr => p9 (aG7 (sV σ) hp h.1) (by rw [← xF];exact hr)⟩
  ·cases h
 ·rename_i f args
  rw [dJ] at h
  obtain ⟨v,τ,h1,h2⟩:=hci _ _ _ _ h.2
  refine ⟨_,h2,⟨v,τ,rfl⟩,fun r Φ hr => ?_⟩
  refine ⟨con v,τ.st, ?_,by rw [← aQA,← xF];exact hr⟩
  rw [sY (sV σ) h.1]
  exact h1
 ·rename_i x args
  split at h
  ·rename_i f caps hx
   cases hqf : T.q f <;> rw [hqf] at h
   ·exact h.elim
   rw [zaB,dJ] at h
   simp only [lK,eM] at h
   obtain ⟨v,τ,h1,h2⟩:=hci _ _ _ _ h.2
   have hsame:=Ok.quiet.1 _ _ _ _ _ h1 hqf
   refine ⟨_,h2,⟨v,τ,rfl⟩,fun r Φ hr => ?_⟩
   have hx2 : σ.st.ev x = .clo f (cons caps):=by rw [sV,gN h.1.1,hx];rfl
   unfold wpOps
   simp only [hx2]
   refine ⟨con v,τ.st, ?_,hsame,by rw [← aQA,← xF];exact hr⟩
   rw [sY (sV σ) h.1.2]
   rw [lG,List.map_append,← lG,← lG] at h1
   exact h1
  ·cases h
 ·rename_i f args
  cases hid : XV.aDT (args.map fun x => strip (σ.ev x)) <;> rw [hid] at h
  ·exact h.elim
  rw [zaB,dJ] at h
  obtain ⟨ht,h⟩:=h
  have key : ∀ v,Pure P f (cons (args.map fun x => strip (σ.ev x))) (con v) → K (σ.put d v) → ∃ σ',K σ' ∧ (∃ v τ,σ' = (σ.back τ).put d v) ∧ ∀ r Φ,wpOps (Ok P T.q) r σ'.st Φ → wpOps (Ok P T.q) (⟨d,.j6 f args,none⟩ :: r) σ.st Φ:=fun v hp hk => by
   refine ⟨_,hk,⟨v,σ,rfl⟩,fun r Φ hr => ⟨con v,fun σ' => ?_,by rw [← xF];exact hr⟩⟩
   rw [sY (sV σ) ht]
   exact .inl ⟨rfl,by rw [p7];exact hid,hp⟩
  split at h
  ·rename_i nd v hs
   rw [dJ] at h
   exact key v (hT.sp _ _ _ _ hs h.1) h.2
  ·split at h
   ·rename_i W hs
    obtain ⟨v,h1,h2⟩:=hT.sk _ _ _ hs _ h
    exact key v h1 h2
   ·exact h.elim
 ·have he : gM (lK σ.ev (vX o)) → ∀ x ∈ vX o,σ.st.ev x = con (strip (σ.ev x)):=fun ht x hx => by
   rw [sV];exact sX ht x hx
  split at h
  ·rename_i nd v hs
   rw [dJ,dJ] at h
   exact ⟨_,h.2.2,⟨v,σ,rfl⟩,fun r Φ hr => p9 (aG6 (wU σ) (he h.1) hs h.2.1) (by rw [← xF];exact hr)⟩
  ·split at h
   ·rename_i nd v τ hs
    rw [dJ,dJ] at h
    exact ⟨_,h.2.2,⟨v,τ,by rw [← aS6 hs]⟩,fun r Φ hr => p9 (aS3 rfl (he h.1) hs h.2.1) (by rw [← xF];exact hr)⟩
   ·cases h
theorem aZ5 (hT : bX P T) {σ : XSt} {o : AOp} {nd : List Bool} {v : XV} {d : Option Nat} (h : a5Q T σ.hl (evE σ.env) o = some (nd,v)) (hn : gM nd) {r : List AG} {Φ : St → Prop} (hr : wpOps (Ok P T.q) r (σ.put d v).st Φ) : wpOps (Ok P T.q) (⟨d,o,none⟩ :: r) σ.st Φ:=by
 have hev : evE σ.env = σ.ev:=by funext x;cases x <;> rfl
 rw [hev] at h
 rw [xF] at hr
 unfold a5Q at h
 split at h
 ·exact p9 (aG7 (sV σ) h hn) hr
 ·rename_i f args
  cases hc : (T.q f && XV.aDT (args.map fun x => strip (σ.ev x))) <;> rw [hc] at h
  ·cases h
  ·rw [zaB] at h
   split at h
   ·rename_i nd' v' hs
    simp only [zaA,zaJ] at h
    obtain ⟨rfl,rfl⟩:=h
    rw [eM] at hn
    simp only [zaG] at hc
    have ha:=sY (sV σ) hn.1
    exact aS0 (by rw [ha];exact hT.sp _ _ _ _ hs hn.2) (by rw [ha,p7];exact hc.2) hr
   ·cases h
 ·split at h
  ·rename_i nd' v' hs
   simp only [zaA,zaJ] at h
   obtain ⟨rfl,rfl⟩:=h
   rw [eM] at hn
   refine p9 (aG6 (wU σ) (fun x hx => ?_) hs hn.2) hr
   rw [sV];exact sX hn.1 x hx
  ·cases h
theorem aVM {σ : XSt} {d : Option Nat} {v : XV} : σ.put d v = ⟨aLC d v σ.env,σ.hl,σ.n⟩:=by cases d <;> rfl
theorem aBF {C : Orc} {d : Option Nat} {o : AOp} {t : Nat} {b : Bool} {r : List AG} {s : St} {Φ : St → Prop} (hg : get s.env t = .sc (.bool b)) (h : wpOps C (⟨d,o,none⟩ :: r) s Φ) : wpOps C (⟨d,o,some (t,b)⟩ :: r) s Φ:=by
 rw [mV,hg]
 exact ⟨fun _ => h,fun e => absurd rfl e⟩
theorem aOC {C : Orc} {d : Option Nat} {o : AOp} {t : Nat} {b : Bool} {r : List AG} {s : St} {Φ : St → Prop} (hg : get s.env t = .sc (.bool (!b)) ∨ get s.env t = .tup []) (h : wpOps C r (s.put d (.tup [])) Φ) : wpOps C (⟨d,o,some (t,b)⟩ :: r) s Φ:=by
 rw [mV]
 rcases hg with hg | hg
 ·rw [hg]
  refine ⟨fun e => ?_,fun _ => h⟩
  cases b <;> cases e
 ·rw [hg];exact h
theorem aLF (hT : bX P T) {t : Nat} {b : Bool} {H : List (Nat × Option XV)} {n : Nat} {r : List AG} {Φ : St → Prop} : ∀ (l : List (Option Nat × AOp)) (env env' : List (Nat × XV)) (nd : List Bool),aIP T H l env = some (nd,env') → gM nd → yJ t l = true →
  get (dW env) t = .sc (.bool b) → wpOps (Ok P T.q) r (XSt.st ⟨env',H,n⟩) Φ → wpOps (Ok P T.q) (aVK t b l r) (XSt.st ⟨env,H,n⟩) Φ
 | [],env,env',nd,h,hn,hok,hg,hr => by
  simp only [aIP,zaA,zaJ] at h
  obtain ⟨_,rfl⟩:=h
  exact hr
 |(d,o) :: l,env,env',nd,h,hn,hok,hg,hr => by
  simp only [aIP] at h
  split at h
  ·rename_i nd1 v h1
   split at h
   ·rename_i nd2 env2 h2
    simp only [zaA,zaJ] at h
    obtain ⟨rfl,rfl⟩:=h
    rw [eM] at hn
    refine aBF hg (aZ5 (σ:=⟨env,H,n⟩) hT h1 hn.1 ?_)
    rw [aVM]
    cases l with
    | nil =>
     simp only [aIP,zaA,zaJ] at h2
     obtain ⟨_,rfl⟩:=h2
     exact hr
    | cons x l =>
     simp only [yJ,zaG,Bool.not_eq_true'] at hok
     refine aLF hT (x :: l) (aLC d v env) env2 nd2 h2 hn.2 hok.2 ?_ hr
     rw [eR] at hg ⊢
     cases d with
     | none => exact hg
     | some d =>
      have : ¬ t = d:=fun e => by have:=hok.1;rw [e] at this;simp [isD] at this
      show con (lJ ((d,v) :: env) t) = _
      simp only [lJ,iR,if_neg this]
      exact hg
   ·cases h
  ·cases h
theorem aD0 {C : Orc} {t : Nat} {b : Bool} {H : List (Nat × Option XV)} {n : Nat} {r : List AG} {Φ : St → Prop} : ∀ (l : List (Option Nat × AOp)) (env : List (Nat × XV)),(get (dW env) t = .sc (.bool (!b)) ∨ get (dW env) t = .tup []) →
  wpOps C r (XSt.st ⟨p8 l env,H,n⟩) Φ → wpOps C (aVK t b l r) (XSt.st ⟨env,H,n⟩) Φ
 | [],env,hg,h => h
 |(d,o) :: l,env,hg,h => by
  refine aOC (s:=XSt.st ⟨env,H,n⟩) hg ?_
  have : (XSt.st ⟨env,H,n⟩).put d (.tup []) = XSt.st ⟨aLC d (.tup []) env,H,n⟩:=by cases d <;> rfl
  rw [this]
  refine aD0 l _ ?_ h
  cases d with
  | none => exact hg
  | some d =>
   show get (dW ((d,.tup []) :: env)) t = _ ∨ get (dW ((d,.tup []) :: env)) t = _
   rw [eR]
   simp only [lJ,iR]
   split
   ·exact .inr rfl
   ·rw [← eR];exact hg
theorem aHA {H : List (Nat × Option XV)} : ∀ (l : List (Option Nat × AOp)) (env env' : List (Nat × XV)) (nd : List Bool),aIP T H l env = some (nd,env') → ∃ dl,env' = dl ++ env ∧ dl.length = aN9 l ∧ dW (p8 l env) = (dl.map fun p => (p.1,AV.tup [])) ++ dW env
 | [],env,env',nd,h => by
  simp only [aIP,zaA,zaJ] at h
  obtain ⟨_,rfl⟩:=h
  exact ⟨[],rfl,rfl,rfl⟩
 |(d,o) :: l,env,env',nd,h => by
  simp only [aIP] at h
  split at h
  ·rename_i nd1 v h1
   split at h
   ·rename_i nd2 env2 h2
    simp only [zaA,zaJ] at h
    obtain ⟨rfl,rfl⟩:=h
    obtain ⟨dl,h3,h4,h5⟩:=aHA l _ _ _ h2
    cases d with
    | none =>
     refine ⟨dl,h3,h4, ?_⟩
     exact h5
    | some d =>
     refine ⟨dl ++ [(d,v)],by rw [h3];simp [aLC],by simp [aN9,h4], ?_⟩
     show dW (p8 l ((d,.tup []) :: env)) = _
     have key : ∀ (l : List (Option Nat × AOp)) (e1 e2 : List (Nat × XV)) (x : List (Nat × AV)),dW (p8 l e1) = x ++ dW e1 → dW (p8 l e2) = x ++ dW e2:=by
      intro l
      induction l with
      | nil =>
       intro e1 e2 x hx
       have : x = []:=by
        have:=congrArg List.length hx
        simp only [p8,List.length_append] at this
        exact List.eq_nil_of_length_eq_zero (by omega)
       subst this;rfl
      | cons p l ih =>
       intro e1 e2 x hx
       obtain ⟨d',o'⟩:=p
       cases d' with
       | none => exact ih e1 e2 x hx
       | some d' =>
        have hlen : ∀ (l : List (Option Nat × AOp)) (e : List (Nat × XV)),∃ y,dW (p8 l e) = y ++ dW e:=by
         intro l
         induction l with
         | nil => exact fun e => ⟨[],rfl⟩
         | cons p l ih =>
          intro e
          obtain ⟨d'',o''⟩:=p
          obtain ⟨y,hy⟩:=ih (aLC d'' (.tup []) e)
          cases d'' with
          | none => exact ⟨y,hy⟩
          | some d'' => exact ⟨y ++ [(d'',.tup [])],by show dW (p8 l _) = _;rw [hy];simp [aLC,dW,con,cons]⟩
        obtain ⟨y,hy⟩:=hlen l ((d',.tup []) :: e1)
        have hx' : x = y ++ [(d',.tup [])]:=by
         have h6 : dW (p8 l ((d',.tup []) :: e1)) = x ++ dW e1:=hx
         rw [hy] at h6
         have h7 : y ++ ((d',AV.tup []) :: dW e1) = x ++ dW e1:=h6
         have h8 : (y ++ [(d',AV.tup [])]) ++ dW e1 = x ++ dW e1:=by simpa using h7
         exact (List.append_cancel_right h8).symm
        have:=ih _ ((d',.tup []) :: e2) y hy
        show dW (p8 l ((d',.tup []) :: e2)) = _
        rw [this,hx']
        simp [dW,con,cons]
     have:=key l _ ((d,.tup []) :: env) _ h5
     rw [this]
     simp [dW,con,cons]
   ·cases h
  ·cases h
theorem aHB : ∀ (k : Nat) (env : List (Nat × XV)),dW (wrap true k env) = dW env
 | 0,env => by cases env <;> rfl
 | k + 1,[] => rfl
 | k + 1,(i,v) :: l => by
  have:=aHB k l
  simp only [dW] at this
  simp only [wrap,dW,List.map_cons,con,zaB,this]
theorem aD1 : ∀ (dl env : List (Nat × XV)),dW (wrap false dl.length (dl ++ env)) = (dl.map fun p => (p.1,AV.tup [])) ++ dW env
 | [],env => by cases env <;> rfl
 |(i,v) :: l,env => by
  have:=aD1 l env
  simp only [dW] at this
  simp only [List.cons_append,List.length_cons,wrap,dW,List.map_cons,con,zaD,this]
theorem aLG (hT : bX P T) (hci : aOB P T.q ci) {t : Nat} {b : Bool} : ∀ (l : List (Option Nat × AOp)) (σ : XSt) (K : XSt → Prop),aQD T ci l σ K → yJ t l = true → get (dW σ.env) t = .sc (.bool b) → ∃ σ',K σ' ∧ ∀ r Φ,wpOps (Ok P T.q) r σ'.st Φ → wpOps (Ok P T.q) (aVK t b l r) σ.st Φ
 | [],σ,K,h,hok,hg => ⟨σ,h,fun r Φ hr => hr⟩
 |(d,o) :: l,σ,K,h,hok,hg => by
  simp only [aQD] at h
  obtain ⟨σ1,h1,⟨v,τ,h2⟩,h3⟩:=aLE hT hci h
  cases l with
  | nil => exact ⟨σ1,h1,fun r Φ hr => aBF hg (h3 r Φ hr)⟩
  | cons x l =>
   simp only [yJ,zaG,Bool.not_eq_true'] at hok
   obtain ⟨σ',h4,h5⟩:=aLG hT hci (x :: l) σ1 K h1 hok.2 (by
    rw [h2,aVM,eR] at *
    cases d with
    | none => exact hg
    | some d =>
     have : ¬ t = d:=fun e => by have:=hok.1;rw [e] at this;simp [isD] at this
     show con (lJ ((d,v) :: σ.env) t) = _
     simp only [lJ,iR,if_neg this]
     exact hg)
   exact ⟨σ',h4,fun r Φ hr => aBF hg (h3 _ Φ (h5 r Φ hr))⟩
theorem aB1 {v : XV} {b : Bool} (h : aDZ v b = some true) : con v = .sc (.bool b):=by
 unfold aDZ at h
 split at h <;> simp only [zaA,reduceCtorEq] at h
 ·rename_i c
  cases b <;> cases c <;> first | rfl | cases h
 ·rename_i g c
  cases g <;> cases b <;> cases c <;> first | rfl | cases h
theorem yL {v : XV} {b : Bool} (h : aDZ v b = some false) : con v = .sc (.bool (!b)) ∨ con v = .tup []:=by
 unfold aDZ at h
 split at h <;> simp only [zaA,reduceCtorEq] at h
 ·rename_i c
  cases b <;> cases c <;> first | exact .inl rfl | cases h
 ·rename_i g c
  cases g <;> cases b <;> cases c <;> first | exact .inl rfl | exact .inr rfl | cases h
 ·exact .inr rfl
theorem sZ (hT : bX P T) (hci : aOB P T.q ci) : ∀ (gs : List XG) (σ : XSt) (K : XSt → Prop),exO T ci gs σ K → okG gs = true → ∃ σ',K σ' ∧ ∀ Φ,Φ σ'.st → wpOps (Ok P T.q) (ung gs) σ.st Φ
 | [],σ,K,h,hok => ⟨σ,h,fun Φ hr => hr⟩
 | .one d o :: r,σ,K,h,hok => by
  simp only [exO] at h
  obtain ⟨σ1,h1,_,h3⟩:=aLE hT hci h
  obtain ⟨σ',h4,h5⟩:=sZ hT hci r σ1 K h1 (by simpa [okG] using hok)
  exact ⟨σ',h4,fun Φ hr => h3 _ Φ (h5 Φ hr)⟩
 | .run t b l :: r,σ,K,h,hok => by
  simp only [okG,zaG] at hok
  simp only [exO] at h
  split at h
  ·rename_i g hg
   have hgt : get (dW σ.env) t = con (lJ σ.env t):=eR _ _
   split at h
   ·rename_i nd env hx
    rw [aBE] at h
    obtain ⟨σ',h4,h5⟩:=sZ hT hci r _ K h.2 hok.2
    refine ⟨σ',h4,fun Φ hr => ?_⟩
    have h6:=h5 Φ hr
    cases g with
    | true =>
     refine aLF (σ.hl |> fun _ => hT) l σ.env env nd hx (h.1 rfl) hok.1 (by rw [hgt,aB1 hg]) ?_
     have : XSt.st ⟨wrap true (aN9 l) env,σ.hl,σ.n⟩ = XSt.st ⟨env,σ.hl,σ.n⟩:=by simp only [XSt.st,aHB]
     rw [this] at h6
     exact h6
    | false =>
     refine aD0 l σ.env (by rw [hgt];exact yL hg) ?_
     obtain ⟨dl,e1,e2,e3⟩:=aHA l _ _ _ hx
     have : XSt.st ⟨wrap false (aN9 l) env,σ.hl,σ.n⟩ = XSt.st ⟨p8 l σ.env,σ.hl,σ.n⟩:=by
      simp only [XSt.st]
      rw [e3,← e2,e1,aD1]
     rw [this] at h6
     exact h6
   ·cases g with
    | true =>
     simp only [zaB] at h
     obtain ⟨σ1,h1,h2⟩:=aLG hT hci l σ _ h hok.1 (by rw [hgt,aB1 hg])
     obtain ⟨σ',h4,h5⟩:=sZ hT hci r σ1 K h1 hok.2
     exact ⟨σ',h4,fun Φ hr => h2 _ Φ (h5 Φ hr)⟩
    | false =>
     simp only [zaD] at h
     obtain ⟨σ',h4,h5⟩:=sZ hT hci r _ K h hok.2
     exact ⟨σ',h4,fun Φ hr => aD0 l σ.env (by rw [hgt];exact yL hg) (h5 Φ hr)⟩
  ·cases h
theorem nF.refl (σ : St) : nF σ σ:=⟨fun _ => .inr (.inl rfl),fun _ => .inr rfl,zaF _⟩
theorem aLH {c : AC} {g : XSt → (AE → XSt → Prop) → Prop} (hg : ∀ σ K,g σ K → ∃ e σ',K e σ' ∧ ∀ Φ,Φ e σ'.st → wpC (Ok P T.q) c σ.st Φ) : ∀ (n : Nat) (σ : XSt) (K : AE → XSt → Prop),aQE n g σ K →
  ∃ (S : Nat → XSt) (m : Nat) (e : AE) (σ' : XSt),S 0 = σ ∧ K e σ' ∧ (∀ i,i < m → ∀ Φ,Φ .normal (S (i + 1)).st → wpC (Ok P T.q) c (S i).st Φ) ∧ (∀ Φ,Φ e σ'.st → wpC (Ok P T.q) c (S m).st Φ) ∧ e ≠ .normal
 | 0,σ,K,h => h.elim
 | n + 1,σ,K,h => by
  simp only [aQE] at h
  obtain ⟨e,σ1,h1,h2⟩:=hg _ _ h
  cases e with
  | normal =>
   obtain ⟨S,m,e,σ',g1,g2,g3,g4,g5⟩:=aLH hg n σ1 K h1
   refine ⟨fun i => match i with | 0 => σ | i + 1 => S i,m + 1,e,σ',rfl,g2,fun i hi Φ hr => ?_,g4,g5⟩
   cases i with
   | zero => exact h2 Φ (by rw [← g1];exact hr)
   | succ i => exact g3 i (by omega) Φ hr
  | exit id => exact ⟨fun _ => σ,0,_,σ1,rfl,h1,fun i hi => by omega,h2,by simp⟩
  | ret => exact ⟨fun _ => σ,0,_,σ1,rfl,h1,fun i hi => by omega,h2,by simp⟩
theorem aCZ {i : Nat} : ∀ {l : List Nat},inL i l = true ↔ i ∈ l
 | [] => by simp [inL]
 | k :: l => by
  simp only [inL,iR,List.mem_cons]
  split
  ·rename_i h;simp [h]
  ·rename_i h;rw [aCZ (l:=l)];simp [h]
mutual
theorem aOD {H : List (Nat × Option XV)} {σ : St} (hH : ∀ i,σ.H i = (iX H i).map con) {L : List Nat} : ∀ v : XV,(∀ i ∈ aG8 v,i ∈ L) → gM (fzV H v).1 → leF L σ (con v) (con (fzV H v).2)
 | .sl id path off k len es,hL,hn => by
  simp only [fzV] at hn ⊢
  split at hn
  ·rename_i nd n f hr
   have:=mX hH hr hn
   simp only [hr]
   exact .fz (hL id (by simp [aG8])) this
  ·rename_i hr
   simp only [hr]
   exact .same
 | .agg n ts,hL,hn => .agg (aQF hH ts (by simpa [aG8] using hL) hn)
 | .int ..,_,_ => .same
 | .bool _,_,_ => .same
 | .str ..,_,_ => .same
 | .tab ..,_,_ => .same
 | .row ..,_,_ => .same
 | .cC _,_,_ => .same
 | .ptr ..,_,_ => .same
 | .clo ..,_,_ => .same
 | .tup _,_,_ => .same
 | .dV,_,_ => .same
 | .tri ..,_,_ => .same
 | .unk,_,_ => .same
 | .opt ..,_,_ => .same
 | .raw _,_,_ => .same
theorem aQF {H : List (Nat × Option XV)} {σ : St} (hH : ∀ i,σ.H i = (iX H i).map con) {L : List Nat} : ∀ ts : List XV,(∀ i ∈ aIR ts,i ∈ L) → gM (aOA H ts).1 → aH0 L σ (cons ts) (cons (aOA H ts).2)
 | [],_,_ => .nil
 | t :: ts,hL,hn => by
  simp only [aOA,eM] at hn
  simp only [aIR,List.mem_append] at hL
  exact .cons (aOD hH t (fun i hi => hL i (.inl hi)) hn.1) (aQF hH ts (fun i hi => hL i (.inr hi)) hn.2)
end
theorem a3T {σ : XSt} (h : gM σ.fz.1) : aRX σ.st σ.fz.2.st:=by
 simp only [XSt.fz,eM] at h
 refine ⟨xG σ.env ++ vN σ.hl,rfl,fun t => ?_,fun j => ?_⟩
 ·have key : ∀ (e : List (Nat × XV)),(∀ i ∈ xG e,i ∈ xG σ.env ++ vN σ.hl) → gM (fzE σ.hl e).1 → leF (xG σ.env ++ vN σ.hl) σ.st (get (dW e) t) (get (dW (fzE σ.hl e).2) t):=by
   intro e
   induction e with
   | nil => intro _ _;exact .same
   | cons p r ih =>
    obtain ⟨k,v⟩:=p
    intro hL hn
    simp only [fzE,eM] at hn
    simp only [xG,List.mem_append] at hL
    show leF _ _ (if t = k then con v else get (dW r) t) (if t = k then con (fzV σ.hl v).2 else get (dW (fzE σ.hl r).2) t)
    split
    ·exact aOD (wU σ) v (fun i hi => by simpa using hL i (.inl hi)) hn.1
    ·exact ih (fun i hi => by simpa using hL i (.inr hi)) hn.2
  exact key σ.env (fun i hi => List.mem_append_left _ hi) h.1
 ·have key : ∀ (e : List (Nat × Option XV)),(∀ i ∈ vN e,i ∈ xG σ.env ++ vN σ.hl) → gM (fzH σ.hl (xG σ.env ++ vN σ.hl) e).1 → look (hO (fzH σ.hl (xG σ.env ++ vN σ.hl) e).2) (fun _ => none) j = none ∨
    (j ∉ xG σ.env ++ vN σ.hl ∧ ∃ t t',look (hO e) (fun _ => none) j = some t ∧ look (hO (fzH σ.hl (xG σ.env ++ vN σ.hl) e).2) (fun _ => none) j = some t' ∧ leF (xG σ.env ++ vN σ.hl) σ.st t t'):=by
   intro e
   induction e with
   | nil => intro _ _;exact .inl rfl
   | cons p r ih =>
    obtain ⟨k,v⟩:=p
    intro hL hn
    cases v with
    | none =>
     simp only [fzH] at hn ⊢
     show (if j = k then none else look (hO _) _ j) = none ∨ _ ∧ ∃ t t',(if j = k then none else look (hO r) _ j) = some t ∧ (if j = k then none else look (hO _) _ j) = some t' ∧ _
     by_cases hjk : j = k
     ·rw [if_pos hjk];exact .inl rfl
     ·rw [if_neg hjk,if_neg hjk]
      exact ih hL hn
    | some u =>
     simp only [vN,List.mem_append] at hL
     cases hin : inL k (xG σ.env ++ vN σ.hl) with
     | true =>
      simp only [fzH,hin,zaB] at hn ⊢
      show (if j = k then none else look (hO _) _ j) = none ∨ _ ∧ ∃ t t',(if j = k then some (con u) else look (hO r) _ j) = some t ∧ (if j = k then none else look (hO _) _ j) = some t' ∧ _
      by_cases hjk : j = k
      ·rw [if_pos hjk];exact .inl rfl
      ·rw [if_neg hjk,if_neg hjk]
       exact ih (fun i hi => by simpa using hL i (.inr hi)) hn
     | false =>
      simp only [fzH,hin,zaD,eM] at hn ⊢
      show (if j = k then some (con (fzV σ.hl u).2) else look (hO _) _ j) = none ∨ _ ∧ ∃ t t',(if j = k then some (con u) else look (hO r) _ j) = some t ∧ (if j = k then some (con (fzV σ.hl u).2) else look (hO _) _ j) = some t' ∧ _
      by_cases hjk : j = k
      ·rw [if_pos hjk,if_pos hjk]
       refine .inr ⟨fun hm => ?_,_,_,rfl,rfl,aOD (wU σ) u (fun i hi => by simpa using hL i (.inl hi)) hn.1⟩
       rw [hjk,← aCZ,hin] at hm
       cases hm
      ·rw [if_neg hjk,if_neg hjk]
       exact ih (fun i hi => by simpa using hL i (.inr hi)) hn.2
  exact key σ.hl (fun i hi => List.mem_append_right _ hi) h.2
theorem aD2 {σ : XSt} : ∀ {ps : List (Nat × Nat)},gM (aLD σ ps) → qR σ.st ps
 | [],_ => trivial
 |(t,u) :: r,h => by
  simp only [aLD,eM] at h
  refine ⟨?_,aD2 h.2⟩
  show aZB (get (dW σ.env) t) (get (dW σ.env) u)
  rw [eR,eR]
  exact aZ4 h.1
theorem tB (hT : bX P T) (hci : aOB P T.q ci) {u : Nat} : ∀ (c : AC) (σ : XSt) (K : AE → XSt → Prop),exC T ci u c σ K → ∃ e σ',K e σ' ∧ ∀ Φ,Φ e σ'.st → wpC (Ok P T.q) c σ.st Φ
 | .skip,σ,K,h => ⟨_,_,h,fun Φ hr => hr⟩
 | .ops l,σ,K,h => by
  simp only [exC] at h
  obtain ⟨h1,h2⟩:=u7 l
  obtain ⟨σ',h3,h4⟩:=sZ hT hci (grp l) σ _ h h2
  rw [h1] at h4
  exact ⟨.normal,σ',h3,fun Φ hr => h4 (Φ .normal) hr⟩
 | .aFT l ps,σ,K,h => by
  simp only [exC] at h
  obtain ⟨h1,h2⟩:=u7 l
  obtain ⟨σ',h3,h4⟩:=sZ hT hci (grp l) σ _ h h2
  rw [h1] at h4
  rw [dJ] at h3
  exact ⟨.normal,σ',h3.2,fun Φ hr => h4 _ ⟨aD2 h3.1,hr⟩⟩
 | .seq a b,σ,K,h => by
  simp only [exC] at h
  obtain ⟨e,σ1,h1,h2⟩:=tB hT hci a σ _ h
  cases e with
  | normal =>
   obtain ⟨e,σ',h3,h4⟩:=tB hT hci b σ1 K h1
   exact ⟨e,σ',h3,fun Φ hr => h2 _ (h4 Φ hr)⟩
  | exit id => exact ⟨_,σ1,h1,fun Φ hr => h2 _ hr⟩
  | ret => exact ⟨_,σ1,h1,fun Φ hr => h2 _ hr⟩
 | .cond c x y,σ,K,h => by
  simp only [exC] at h
  split at h
  ·rename_i b hb
   rw [dJ] at h
   have hc : σ.st.ev c = .sc (.bool b):=by rw [sV,gN h.1,hb];rfl
   cases b with
   | true =>
    obtain ⟨e,σ',h1,h2⟩:=tB hT hci x σ K h.2
    refine ⟨e,σ',h1,fun Φ hr => ?_⟩
    unfold wpC
    rw [hc]
    exact ⟨fun _ => h2 Φ hr,fun e => by cases e⟩
   | false =>
    obtain ⟨e,σ',h1,h2⟩:=tB hT hci y σ K h.2
    refine ⟨e,σ',h1,fun Φ hr => ?_⟩
    unfold wpC
    rw [hc]
    exact ⟨fun e => by (cases e),fun _ => h2 Φ hr⟩
  ·cases h
 | .block id c,σ,K,h => by
  simp only [exC] at h
  obtain ⟨e,σ1,h1,h2⟩:=tB hT hci c σ _ h
  cases e with
  | normal => exact ⟨_,σ1,h1,fun Φ hr => h2 (AE.inBlock id Φ) hr⟩
  | exit i =>
   cases hi : Nat.beq i id <;> simp only [hi,zaB,zaD] at h1
   ·exact ⟨_,σ1,h1,fun Φ hr => h2 (AE.inBlock id Φ) (by simp only [AE.inBlock];rw [if_neg (Nat.ne_of_beq_eq_false hi)];exact hr)⟩
   ·exact ⟨_,σ1,h1,fun Φ hr => h2 (AE.inBlock id Φ) (by simp only [AE.inBlock];rw [if_pos (zaL hi)];exact hr)⟩
  | ret => exact ⟨_,σ1,h1,fun Φ hr => h2 (AE.inBlock id Φ) hr⟩
 | .loop c,σ,K,h => by
  simp only [exC] at h
  obtain ⟨S,m,e,σ',g1,g2,g3,g4,g5⟩:=aLH (c:=c) (fun σ K h => tB hT hci c σ K h) u σ K h
  refine ⟨e,σ',g2,fun Φ hr => ?_⟩
  refine aP4 (fun i => (S i).st) (fun i => i ≤ m) (fun i => m - i) 0 (Nat.zero_le _) (by rw [g1];exact nF.refl _) fun i hi => ?_
  by_cases him : i = m
  ·subst him
   refine g4 _ ?_
   cases e with
   | normal => exact absurd rfl g5
   | exit id => exact hr
   | ret => exact hr
  ·exact g3 i (by omega) _ ⟨i + 1,by omega,nF.refl _,by omega⟩
 | .exit id,σ,K,h => ⟨_,_,h,fun Φ hr => hr⟩
 | .ret,σ,K,h => ⟨_,_,h,fun Φ hr => hr⟩
 | .frz,σ,K,h => by
  simp only [exC] at h
  rw [dJ] at h
  exact ⟨_,_,h.2,fun Φ hr => ⟨_,a3T h.1,hr⟩⟩
theorem qA : ∀ (k : Nat) (args : List XV),dW (jO k args) = mF k (cons args)
 | k,[] => rfl
 | k,v :: r => by
  have:=qA (k + 1) r
  simp only [dW] at this
  simp only [jO,dW,List.map_cons,cons,mF,this]
theorem tC (l : List XV) : (cons l).length = l.length:=by simp [lG]
theorem aHC {σ : XSt} : ∀ {rs : List AR} {nd : List Bool} {vs : List XV},aG9 σ rs = some (nd,vs) → gM nd → aFY σ.st rs = some (cons vs)
 | [],nd,vs,h,hn => by
  simp only [aG9,zaA,zaJ] at h
  obtain ⟨_,rfl⟩:=h;rfl
 | r :: rs,nd,vs,h,hn => by
  simp only [aG9] at h
  split at h
  ·rename_i nd1 v nd2 vs' h1 h2
   simp only [zaA,zaJ] at h
   obtain ⟨rfl,rfl⟩:=h
   rw [eM] at hn
   have h3 : aN6 σ.st r = some (con v):=by
    cases r with
    | tmp t =>
     simp only [a5S,zaA,zaJ] at h1
     obtain ⟨_,rfl⟩:=h1
     simp only [aN6]
     exact congrArg some (eR _ _)
    | cell t ag n =>
     simp only [a5S] at h1
     split at h1
     ·rename_i nd' u hl
      cases hc : (u.isAgg == ag && Nat.beq u.size n) <;> rw [hc] at h1
      ·cases h1
      ·simp only [zaB,zaA,zaJ] at h1
       obtain ⟨rfl,rfl⟩:=h1
       simp only [zaG,beq_iff_eq] at hc
       have h4:=aBC (wU σ) hl hn.1
       rw [← eR] at h4
       simp only [aN6]
       show (match σ.st.mS (get (dW σ.env) t) with | some u => _ | none => _) = _
       rw [h4]
       simp only [p5,lI]
       rw [if_pos ⟨hc.1,zaL hc.2⟩]
     ·cases h1
   simp only [aFY,h3,aHC h2 hn.2,cons]
  ·cases h
theorem aVN : ∀ vs : List XV,aKZ (cons vs) = con (a5T vs)
 | [] => rfl
 | [v] => rfl
 | v :: w :: r => rfl
theorem yM {rs : List AR} {K : XV → XSt → Prop} {e : AE} {σ : XSt} (h : aS4 rs K e σ) : ∃ v,K v σ ∧ ∀ Φ : AV → St → Prop,Φ (con v) σ.st → aFZ rs Φ e σ.st:=by
 have key : (match aG9 σ rs with | some (nd,vs) => j8 nd (K (a5T vs) σ) | none => False) → ∃ v,K v σ ∧ ∀ Φ : AV → St → Prop,Φ (con v) σ.st → (match aFY σ.st rs with | some vs => Φ (aKZ vs) σ.st | none => False):=by
  intro h
  split at h
  ·rename_i nd vs hv
   rw [dJ] at h
   refine ⟨_,h.2,fun Φ hr => ?_⟩
   rw [aHC hv h.1]
   simp only [aVN]
   exact hr
  ·cases h
 cases e with
 | normal => exact key h
 | exit i => exact h.elim
 | ret => exact key h
theorem rE (hmix : P.follows .mixedOrders = true) (hT : bX P T) (hci : aOB P T.q ci) {u f : Nat} {args : List XV} {K : XV → Prop} (h : aQ T u ci f args K) : ∃ v,Pure P f (cons args) (con v) ∧ K v:=by
 unfold aQ at h
 split at h
 ·rename_i nd v hs
  rw [dJ] at h
  exact ⟨v,hT.sp _ _ _ _ hs h.1,h.2⟩
 ·split at h
  ·rename_i W hs
   exact hT.sk _ _ _ hs _ h
  ·split at h
   ·rename_i nt rs c hc
    cases hl : Nat.ble args.length nt <;> rw [hl] at h
    ·exact h.elim
    ·rw [zaB] at h
     obtain ⟨e,σ',h1,h2⟩:=tB hT hci c _ _ h
     obtain ⟨v,h3,h4⟩:=yM h1
     unfold aS5 at h3
     split at h3
     ·rename_i nd r hz
      rw [dJ] at h3
      refine ⟨r, ?_,h3.2⟩
      have hw:=h2 _ (h4 (fun v τ => frz τ 6 v = some (con r)) (oF (wU σ') 6 v nd r hz h3.1))
      refine aP0 (k:=6) hmix Ok.ok Ok.quiet (hT.yK _ _ hc) (by rw [tC];exact Nat.le_of_ble_eq_true hl) ?_
      simpa [XSt.st,qA,hO] using hw
     ·cases h3
   ·cases h
theorem mY (hmix : P.follows .mixedOrders = true) (hT : bX P T) {u : Nat} : ∀ k : Nat,aOB P T.q (bT T u k)
 | 0 => fun f args σ K h => h.elim
 | k + 1 => fun f args σ K h => by
  have ih:=mY hmix hT (u:=u) k
  simp only [bT] at h
  cases hq : T.q f <;> rw [hq] at h
  ·rw [zaD] at h
   split at h
   ·rename_i nd v τ hs
    rw [dJ] at h
    exact ⟨v,τ,hT.sg _ _ _ _ _ _ hs h.1 hq,h.2⟩
   ·split at h
    ·rename_i W hs
     exact hT.gk _ _ _ _ hs hq _ h
    ·split at h
     ·rename_i nt rs c hc
      cases hl' : (Nat.ble args.length nt && !T.q (f + 1000000)) <;> rw [hl'] at h
      ·exact h.elim
      ·rw [zaB] at h
       simp only [zaG,Bool.not_eq_true'] at hl'
       obtain ⟨hl,hal⟩:=hl'
       obtain ⟨e,σ',h1,h2⟩:=tB hT ih c _ _ h
       obtain ⟨v,h3,h4⟩:=yM h1
       refine ⟨v,σ',.inr (.inr (.inl ⟨hq,hal,uZ (hT.yK _ _ hc),fun fr G w vs hown hr => ?_⟩)),h3⟩
       have hw:=h2 _ (h4 (fun v' τ => v' = con v ∧ τ = σ'.st) ⟨rfl,rfl⟩)
       have hw' : wpC (Ok P T.q) c ⟨mF 0 (cons args),hO σ.hl,fun _ => none,σ.n⟩ (aFZ rs fun v' τ => v' = con v ∧ τ = σ'.st):=by
        simpa [XSt.st,qA] using hw
       refine (enter hmix Ok.ok Ok.quiet (hT.yK _ _ hc) (by rw [tC];exact Nat.le_of_ble_eq_true hl) hown hr hw').mono fun e w' ⟨u',G',v',τ,g1,g2,g3,g4,g5⟩ => ?_
       subst g4 g5
       exact ⟨u',G',g1,g2,g3⟩
     ·cases h
  ·rw [zaB] at h
   cases hi : XV.aDT args <;> rw [hi] at h
   ·rw [zaD] at h
    split at h
    ·rename_i nd args' hm
     rw [dJ] at h
     obtain ⟨v,h1,h2⟩:=rE hmix hT ih h.2
     cases hsol : v.sol <;> rw [hsol] at h2
     ·exact h2.elim
     ·exact ⟨v,σ,.inr (.inl ⟨rfl,rC v hsol,6,cons args',oE (oF (wU σ) 6) hm h.1,h1⟩),h2⟩
    ·cases h
   ·rw [zaB] at h
    obtain ⟨v,h1,h2⟩:=rE hmix hT ih h
    exact ⟨v,σ,.inl ⟨rfl,by rw [p7];exact hi,h1⟩,h2⟩
theorem fL (hmix : P.follows .mixedOrders = true) (hT : bX P T) {u k f : Nat} {args : List XV} {r : AV} (h : aQ T u (bT T u k) f args fun v => con v = r) : Pure P f (cons args) r:=by
 obtain ⟨v,h1,h2⟩:=rE hmix hT (mY hmix hT k) h
 rw [← h2];exact h1
end
end Go.Ra
namespace Go.Ra
set_option linter.unusedVariables false
def assoc {α : Type} : List (Nat × α) → Nat → Option α
 | [],_ => none
 |(k,v) :: l,i => bif Nat.beq i k then some v else assoc l i
def lL {α : Type} (p : α → Prop) : List α → Prop
 | [] => True
 | x :: l => p x ∧ lL p l
theorem jP {α : Type} {p : Nat × α → Prop} : ∀ {l : List (Nat × α)} {i : Nat} {v : α},lL p l → assoc l i = some v → p (i,v)
 | [],i,v,h,ha => by cases ha
 |(k,u) :: l,i,v,h,ha => by
  simp only [assoc,iR] at ha
  split at ha
  ·rename_i e
   subst e
   simp only [zaA] at ha
   subst ha
   exact h.1
  ·exact jP h.2 ha
theorem lL.app {α : Type} {p : α → Prop} : ∀ {l r : List α},lL p l → lL p r → lL p (l ++ r)
 | [],r,_,h => h
 | x :: l,r,h,h2 => ⟨h.1,lL.app h.2 h2⟩
abbrev mZ:=List (Nat × (Nat × List AR × AC))
abbrev SpL:=List (Nat × (List XV → Option (List Bool × XV)))
abbrev SgL:=List (Nat × (List XV → XSt → Option (List Bool × XV × XSt)))
def mkT (q : Nat → Bool) (cl : mZ) (sl : SpL) (gl : SgL) : Tab where
 yK:=assoc cl
 q:=q
 sp f args :=
  match assoc sl f with
  | some g => g args
  | none => none
 sg f args σ :=
  match assoc gl f with
  | some g => g args σ
  | none => none
def oV (P : Program) (p : Nat × (List XV → Option (List Bool × XV))) : Prop:=∀ args nd v,p.2 args = some (nd,v) → gM nd → Pure P p.1 (cons args) (con v)
def aZ6 (P : Program) (q : Nat → Bool) (p : Nat × (List XV → XSt → Option (List Bool × XV × XSt))) : Prop:=∀ args σ nd v τ,p.2 args σ = some (nd,v,τ) → gM nd → q p.1 = false → Ok P q p.1 (cons args) σ.st (con v) τ.st
abbrev SkL:=List (Nat × (List XV → Option ((XV → Prop) → Prop)))
abbrev GkL:=List (Nat × (List XV → XSt → Option ((XV → XSt → Prop) → Prop)))
def fM (q : Nat → Bool) (cl : mZ) (sl : SpL) (gl : SgL) (kl : SkL) (hl : GkL) : Tab where
 yK:=assoc cl
 q:=q
 sp f args :=
  match assoc sl f with
  | some g => g args
  | none => none
 sg f args σ :=
  match assoc gl f with
  | some g => g args σ
  | none => none
 sk f args :=
  match assoc kl f with
  | some g => g args
  | none => none
 gk f args σ :=
  match assoc hl f with
  | some g => g args σ
  | none => none
def eI (P : Program) (p : Nat × (List XV → Option ((XV → Prop) → Prop))) : Prop:=∀ args W,p.2 args = some W → ∀ K : XV → Prop,W K → ∃ v,Pure P p.1 (cons args) (con v) ∧ K v
def aZ7 (P : Program) (q : Nat → Bool) (p : Nat × (List XV → XSt → Option ((XV → XSt → Prop) → Prop))) : Prop:=∀ args σ W,p.2 args σ = some W → q p.1 = false → ∀ K : XV → XSt → Prop,W K → ∃ v τ,Ok P q p.1 (cons args) σ.st (con v) τ.st ∧ K v τ
theorem bV {P : Program} {q : Nat → Bool} {cl : mZ} {sl : SpL} {gl : SgL} {kl : SkL} {hl : GkL} (h1 : lL (fun p => trF P q p.1 = some p.2) cl) (h2 : lL (oV P) sl) (h3 : lL (aZ6 P q) gl) (h4 : lL (eI P) kl) (h5 : lL (aZ7 P q) hl) : bX P (fM q cl sl gl kl hl):=by
 refine ⟨fun f r h => jP h1 h,fun f args nd v h hn => ?_,fun f args σ nd v τ h hn hq => ?_,fun f args W h => ?_,fun f args σ W h hq => ?_⟩
 ·simp only [fM] at h
  split at h
  ·rename_i g hg
   exact jP h2 hg args nd v h hn
  ·cases h
 ·simp only [fM] at h
  split at h
  ·rename_i g hg
   exact jP h3 hg args σ nd v τ h hn hq
  ·cases h
 ·simp only [fM] at h
  split at h
  ·rename_i g hg
   exact jP h4 hg args W h
  ·cases h
 ·simp only [fM] at h
  split at h
  ·rename_i g hg
   exact jP h5 hg args σ W h hq
  ·cases h
theorem pT {P : Program} {q : Nat → Bool} {cl : mZ} {sl : SpL} {gl : SgL} (h1 : lL (fun p => trF P q p.1 = some p.2) cl) (h2 : lL (oV P) sl) (h3 : lL (aZ6 P q) gl) : bX P (mkT q cl sl gl):=by
 refine ⟨fun f r h => jP h1 h,fun f args nd v h hn => ?_,fun f args σ nd v τ h hn hq => ?_,fun f args W h => (by cases h),fun f args σ W h => (by cases h)⟩
 ·simp only [mkT] at h
  split at h
  ·rename_i g hg
   exact jP h2 hg args nd v h hn
  ·cases h
 ·simp only [mkT] at h
  split at h
  ·rename_i g hg
   exact jP h3 hg args σ nd v τ h hn hq
  ·cases h
end Go.Ra
namespace Go.Ra
set_option linter.unusedVariables false
set_option linter.unusedSimpArgs false
def aVO (es bytes : Nat) : AC:=.seq (.ops [⟨some 2,.mv (.c (.fro true 0 [])),none⟩]) (.seq (.ops [⟨some 3,.mv (.t 0),none⟩,⟨some 4,.app es bytes (.c (.fro true 0 [])) (.t 3),none⟩,⟨some 2,.mv (.t 4),none⟩]) .ret)
section
variable {P : Program} {q : Nat → Bool} {f es bytes : Nat}
theorem aOE (hmix : P.follows .mixedOrders = true) (hF : trF P q f = some (5,[.tmp 2],aVO es bytes)) (h0 : 0 < bytes) (x : Bool) (es0 : Nat) (ts : List AV) (hes : es0 = es ∨ ts = []) (hs : AV.iZ ts = true) (hb : ts.length * bytes ≤ 140737488355328) :
  yE P f [.fro x es0 ts] (.sl 0 [] 0 0 ts.length es) (.arr ts.length es ts):=by
 refine aP2 hmix Ok.ok Ok.quiet hF (Nat.le_of_ble_eq_true rfl) (by simpa [AV.dU] using hs) rfl ?_
 unfold aVO
 simp only [mF]
 have hor : (es0 = es ∨ ts = []) = True:=by simp [hes]
 clear hes
 repeat' (first
  |(with_reducible refine aZZ ?_;intro K hK)
  | with_reducible refine aZX ?_
  | with_reducible refine aZY ?_
  | with_reducible refine aU5 ?_
  | with_reducible refine aU6 ?_
  | with_reducible refine aSW ?_
  | with_reducible refine aKX ?_
  | with_reducible refine aU8 ?_
  | with_reducible refine aSX ?_
  | with_reducible refine aDR ?_
  | with_reducible refine aKY ?_
  | with_reducible refine aIG ?_
  | with_reducible refine aFX (by decide) ?_
  |(with_reducible refine hK.out _ ?_;clear hK K)
  | with_reducible refine KK.out (by assumption) _ ?_
  | simp -implicitDefEqProofs (disch:=omega) only [aUM,aNE,aR5,aKM,aR6,aNF,aKN,aKO,aR7,aR9,aR8,aUN,aNG,aSA,aKP,aH5,aNH,aNI,aSB,aSC,aSD,aSE,aNJ,aSF,aNK,aNL,aSG,aSH,mV,aR4,aUL,a5H,a5I,a5J,a5K,a83,aU7,a86,a87,aUP,aUQ,bC1,bC2,a84,aZP,a5L,aUR,aKQ,aGT,aKR,aUS,aSJ,aN,aC7,qQ,aNM,aNN,aNO,aNP,aNQ,aNR,aSK,aNS,aNT,aNU,aNV,aNW,aNX,aNY,aZA,I,U32,B,U8,if_true,if_false,ite_true,ite_false,reduceCtorEq,Nat.reduceEqDiff,Nat.succ_ne_self,zaU,↓reduceIte,zaI,zaH,zaC,zaE,zaN,zaM,St.mS,AV.at?,AV.set?,aUT,aZQ,aKS,aSL,aUU,aH6,aSM,aUV,aH7,aSN,aUW,aH8,aNZ,aSO,aFW,aUX,aZR,aKT,aSP,aUY,aH9,aSQ,aUZ,aIA,AV.eJ,AV.iW,iV,List.map_cons,List.map_nil,List.getElem?_cons_zero,List.getElem?_cons_succ,List.getElem?_nil,List.take_succ_cons,List.take_zero,List.take_nil,Nat.zero_add,Nat.add_zero,Nat.reduceAdd,and_self,and_true,true_and,List.nil_append,List.cons_append,List.append_nil,aBR,wP,BEq.rfl,beq_self_eq_true,zaT,zaR,zaS,sN,List.set_cons_zero,List.set_cons_succ,foldI,aBS,asI,zaO,aA8,yF,Option.map_some,Option.map_none,aTY,St.row,aRW,List.isEmpty_nil,List.isEmpty_cons,List.length_nil,List.length_cons,List.length_map,true_or,or_true,or_false,false_or,ne_eq,zaN,kE,Nat.sub_zero,List.drop_zero,List.length_append,List.length_set,Nat.reduceMul,Nat.reduceLT,Nat.reduceLeDiff,Int.reduceLT,Int.reduceLE,Int.reduceToNat,Nat.zero_mul,Nat.zero_le,zaF,Int.le_refl,List.take_length,Int.natCast_zero,List.drop_succ_cons,List.take_succ_cons,Nat.add_sub_cancel, *]
  | with_reducible refine aZW ?_ ?_
  |(with_reducible refine aSV (fun h => ?_) (fun h => ?_) <;> (first | simp only [zaK,zaP,Classical.not_not,zaG,zaV] at h | skip))
  |(with_reducible refine aUO (fun h => ?_) (fun h => ?_) <;> (first | simp only [zaK,zaP,Classical.not_not,zaG,zaV] at h | skip))
  |(with_reducible refine aSI (fun h => ?_) (fun h => ?_) <;> (first | simp only [zaK,zaP,Classical.not_not,zaG,zaV] at h | skip)))
 simp -implicitDefEqProofs only [aFZ,aFY,aN6,aKQ,Nat.reduceEqDiff,↓reduceIte,aKZ,reduceCtorEq,Nat.succ_ne_self,a84,aGT,aKR]
 exact .inl ⟨0,rfl,rfl⟩
def aVP (es bytes : Nat) (args : List XV) (σ : XSt) : Option (List Bool × XV × XSt) :=
 match aF1 (aCO σ.hl 6) args with
 | some (nd,[.row x es' n f]) => bif ((Nat.beq es' es || Nat.beq n 0) && Nat.blt 0 bytes) then some (decide (n * bytes ≤ 140737488355328) :: gL (fun i => (f i).sol) n :: nd,.sl σ.n [] 0 0 n es,σ.new (.tab n es f)) else none
 | _ => none
theorem aVQ (hM : ∀ (x : Bool) (es0 : Nat) (ts : List AV),(es0 = es ∨ ts = []) → AV.iZ ts = true → ts.length * bytes ≤ 140737488355328 → yE P f [.fro x es0 ts] (.sl 0 [] 0 0 ts.length es) (.arr ts.length es ts)) : aZ6 P q (f,aVP es bytes):=by
 intro args σ nd v τ h hn hq
 simp only [aVP] at h
 split at h
 ·rename_i nd' x es' n g hm
  cases hc : ((Nat.beq es' es || Nat.beq n 0) && Nat.blt 0 bytes) <;> rw [hc] at h
  ·cases h
  ·simp only [zaB,zaA,zaJ] at h
   obtain ⟨rfl,rfl,rfl⟩:=h
   simp only [bD,zaK,dS] at hn
   simp only [zaG,zaV] at hc
   have h1:=oE (oF (wU σ) 6) hm hn.2.2
   have h2:=hM x es' (dI n fun i => con (g i)) (hc.1.imp zaL (fun e => lH.2 (zaL e))) (by
    rw [wY]
    intro t ht
    simp only [dI,List.mem_map,List.mem_range] at ht
    obtain ⟨i,hi,rfl⟩:=ht
    exact rC _ (hn.2.1 i hi)) (by rw [bH];exact hn.1)
   rw [bH] at h2
   exact .inr (.inr (.inr ⟨hq,6,_,_,_,h1,h2,by simp only [aIH,ren,if_true];rfl,rfl⟩))
 ·cases h
end
end Go.Ra
namespace Go.Ra
open Go.RowKit (Below)
set_option linter.unusedVariables false
set_option linter.unusedSimpArgs false
inductive Ty where
 | int (k : IntKind)
 | bool
 | str
 | slice (es bytes : Nat) (e : Ty)
 | agg (n : Nat) (l : List Ty)
 | arr (n es : Nat) (e : Ty)
 deriving Inhabited
mutual
def Ty.has : Ty → AV → Prop
 | .int k,a => ∃ n,a = .sc (.int k n) ∧ (Lit.int k n).wf = true
 | .bool,a => ∃ b,a = .sc (.bool b)
 | .str,a => ∃ s,a = .sc (.string s) ∧ s.size ≤ maxLen
 | .slice es bytes e,a => ∃ ts,a = .fro false es ts ∧ ts.length * bytes ≤ 140737488351232 ∧ ∀ t ∈ ts,e.has t
 | .agg n l,a => ∃ ts,a = .agg n ts ∧ Ty.aD3 l ts
 | .arr n es e,a => ∃ ts,a = .arr n es ts ∧ ts.length = n ∧ ∀ t ∈ ts,e.has t
def Ty.aD3 : List Ty → List AV → Prop
 | [],ts => ts = []
 | T :: l,ts => ∃ t r,ts = t :: r ∧ T.has t ∧ Ty.aD3 l r
end
mutual
def tyT (P : Program) : Nat → TypeId → Option Ty
 | 0,_ => none
 | d + 1,t =>
  match P.underlying t with
  | some (.int k) => some (.int k)
  | some .bool => some .bool
  | some .string => some .str
  | some (.slice e) =>
   match tyT P d e with
   | some T => if P.cellsOf e = 0 then none else some (.slice (P.cellsOf e) (P.bytesOf e) T)
   | none => none
  | some (.struct fs) =>
   match aS7 P d 0 fs.toList with
   | some (l,n) => if n = P.cellsOf t then some (.agg n l) else none
   | none => none
  | some (.array n e) =>
   match tyT P d e with
   | some T => if P.cellsOf t = n * P.cellsOf e then some (.arr n (P.cellsOf e) T) else none
   | none => none
  | _ => none
def aS7 (P : Program) : Nat → Nat → List Field → Option (List Ty × Nat)
 | _,o,[] => some ([],o)
 | 0,_,_ :: _ => none
 | d + 1,o,f :: fs =>
  if f.offset = o then
   match tyT P d f.type,aS7 P d (o + P.cellsOf f.type) fs with
   | some T,some (l,n) => some (T :: l,n)
   | _,_ => none
  else none
end
section
variable {P : Program} {H : Type} {enc : TypeId × Value → H} {W : World} {base : Nat} {sp : Nat → Bool} {held : Bool}
theorem aLI {a : Addr} {n : Nat} {cs : List Value} (h : W.cells? base a n = some cs) : cs.length = n ∧ ∀ j v,cs[j]? = some v → W.cell? (a.add j) = some v:=by
 unfold World.cells? at h
 split at h
 ·have hl:=sS h
  refine ⟨by simpa using hl,fun j v hj => ?_⟩
  have hlt : j < n:=by have:=(List.getElem?_eq_some_iff.1 hj).1;rw [hl] at this;simpa using this
  obtain ⟨y,h1,h2⟩:=aDP h j j (by simp [hlt])
  rw [hj] at h1
  simp only [zaA] at h1
  subst h1
  exact h2
 ·cases h
theorem aS8 {a : Addr} {v : Value} (h : W.cell? a = some v) : a.spot = none:=by
 unfold World.cell? at h
 split at h
 ·rename_i c e f hc
  cases hs : a.spot with
  | none => rfl
  | some s => rw [hs] at h;simp at h
 ·cases h
theorem aVR {a : Addr} {v : Value} (h : W.cell? a = some v) : a.block < W.heap.size:=World.block_lt_of_cell? W a h
abbrev Low (W : World) : Nat → Prop:=fun b => b < W.heap.size
theorem aD4 {e : TypeId} {fuel es b o : Nat} {T : Ty} (hes : 0 < es) (ih : ∀ (cs : List Value) (d : DataW H) (ps : List MemPlace),DataW.trod enc P W base sp held fuel e cs = some (d,ps) → (∀ x ∈ d.weights P e,x ≤ 140737488351232) → ∃ a,bK W (Low W) fB a cs ∧ T.has a) : ∀ (n k : Nat) (xs : List (DataW H × List MemPlace)),
  xs.length = n → (∀ i,i < n → (W.cells? base ((⟨b,o,none⟩ : Addr).add ((k + i) * es)) es).bind (DataW.trod enc P W base sp held fuel e) = xs[i]?) → (∀ x ∈ DataW.weightsAll P e (xs.map (·.1)),x ≤ 140737488351232) →
  ∃ ts cs,ts.length = n ∧ dQ W (Low W) es ts cs ∧ Reads W b (o + k * es) cs ∧ ∀ t ∈ ts,T.has t
 | 0,k,xs,hn,h,hw => ⟨[],[],rfl,.nil,fun j v hj => by simp at hj,fun t ht => by cases ht⟩
 | n + 1,k,[],hn,h,hw => by simp at hn
 | n + 1,k,y :: ys,hn,h,hw => by
  have h1:=h 0 (by omega)
  simp only [List.map_cons,DataW.weightsAll,List.mem_append] at hw
  obtain ⟨ts,cs,h3,h4,h5,h6⟩:=aD4 hes ih n (k + 1) ys (by simpa using hn) (fun i hi => by
   have:=h (i + 1) (by omega)
   rw [show k + (i + 1) = k + 1 + i by omega] at this
   simpa using this) (fun x hx => hw x (.inr hx))
  simp only [Nat.add_zero,List.getElem?_cons_zero] at h1
  cases hc : W.cells? base ((⟨b,o,none⟩ : Addr).add (k * es)) es with
  | none => rw [hc] at h1;cases h1
  | some c =>
   rw [hc] at h1
   simp only [Option.bind_some] at h1
   obtain ⟨h7,h8⟩:=aLI hc
   obtain ⟨d,ps⟩:=y
   obtain ⟨a,h9,h10⟩:=ih c d ps h1 (fun x hx => hw x (.inl hx))
   refine ⟨a :: ts,c ++ cs,by simp [h3],.cons h9 h7 h4,fun j v hj => ?_,fun t ht => ?_⟩
   ·by_cases hjc : j < c.length
    ·rw [List.getElem?_append_left hjc] at hj
     have:=h8 j v hj
     rwa [add_lit,add_lit] at this
    ·rw [List.getElem?_append_right (by omega)] at hj
     have:=h5 _ v hj
     rw [Nat.add_mul,Nat.one_mul] at this
     rw [show o + k * es + j = o + (k * es + es) + (j - c.length) by omega]
     exact this
   ·rcases List.mem_cons.1 ht with rfl | ht
    ·exact h10
    ·exact h6 t ht
theorem aB2 {fuel : Nat} {whole : List Value} {D : Nat} (ih : ∀ (m : Nat),m < D → ∀ (t : TypeId) (T : Ty) (cs : List Value) (d : DataW H) (ps : List MemPlace),tyT P m t = some T → DataW.trod enc P W base sp held fuel t cs = some (d,ps) → (∀ x ∈ d.weights P t,x ≤ 140737488351232) → ∃ a,bK W (Low W) fB a cs ∧ T.has a) :
  ∀ (fs : List Field) (d o : Nat) (xs : List (DataW H × List MemPlace)) (l : List Ty) (m : Nat),d ≤ D → aS7 P d o fs = some (l,m) → xs.length = fs.length → (∀ (i : Nat) (f : Field),fs[i]? = some f → DataW.trod enc P W base sp held fuel f.type ((whole.drop f.offset).take (P.cellsOf f.type)) = xs[i]?) →
   (∀ x ∈ DataW.weightsEach P (fs.map (·.type)) (xs.map (·.1)),x ≤ 140737488351232) → m ≤ whole.length → o ≤ m ∧ ∃ ts,dM W (Low W) fB ts ((whole.drop o).take (m - o)) ∧ Ty.aD3 l ts
 | [],d,o,xs,l,m,hd,hT,hn,h,hw,hm => by
  simp only [aS7,zaA,zaJ] at hT
  obtain ⟨rfl,rfl⟩:=hT
  exact ⟨zaF _,[],by simp;exact .nil,rfl⟩
 | f :: fs,0,o,xs,l,m,hd,hT,hn,h,hw,hm => by simp [aS7] at hT
 | f :: fs,d + 1,o,[],l,m,hd,hT,hn,h,hw,hm => by simp at hn
 | f :: fs,d + 1,o,y :: ys,l,m,hd,hT,hn,h,hw,hm => by
  simp only [aS7] at hT
  split at hT
  ·rename_i hoff
   split at hT
   ·rename_i T l' m' hT1 hT2
    simp only [zaA,zaJ] at hT
    obtain ⟨rfl,rfl⟩:=hT
    simp only [List.map_cons,DataW.weightsEach,List.mem_append] at hw
    obtain ⟨h1,ts,h2,h3⟩:=aB2 ih fs d (o + P.cellsOf f.type) ys l' m' (by omega) hT2 (by simpa using hn) (fun i g hg => by simpa using h (i + 1) g (by simpa using hg)) (fun x hx => hw x (.inr hx)) hm
    have h4:=h 0 f rfl
    simp only [List.getElem?_cons_zero] at h4
    obtain ⟨dd,ps⟩:=y
    obtain ⟨a,h5,h6⟩:=ih d (by omega) f.type T _ dd ps hT1 h4 (fun x hx => hw x (.inl hx))
    refine ⟨by omega,a :: ts, ?_,⟨a,ts,rfl,h6,h3⟩⟩
    have e1 : (whole.drop o).take (m' - o) = (whole.drop f.offset).take (P.cellsOf f.type) ++ (whole.drop (o + P.cellsOf f.type)).take (m' - (o + P.cellsOf f.type)):=by
     rw [hoff,show m' - o = P.cellsOf f.type + (m' - (o + P.cellsOf f.type)) by omega,List.take_add,List.drop_drop]
    rw [e1]
    exact .cons h5 h2
   ·cases hT
  ·cases hT
theorem aD5 {e : TypeId} {fuel es : Nat} {T : Ty} {whole : List Value} (ih : ∀ (cs : List Value) (d : DataW H) (ps : List MemPlace),DataW.trod enc P W base sp held fuel e cs = some (d,ps) → (∀ x ∈ d.weights P e,x ≤ 140737488351232) → ∃ a,bK W (Low W) fB a cs ∧ T.has a) : ∀ (n k : Nat) (xs : List (DataW H × List MemPlace)),
  xs.length = n → (∀ i,i < n → DataW.trod enc P W base sp held fuel e ((whole.drop ((k + i) * es)).take es) = xs[i]?) → (k + n) * es ≤ whole.length → (∀ x ∈ DataW.weightsAll P e (xs.map (·.1)),x ≤ 140737488351232) →
  ∃ ts,ts.length = n ∧ dQ W (Low W) es ts ((whole.drop (k * es)).take (n * es)) ∧ ∀ t ∈ ts,T.has t
 | 0,k,xs,hn,h,hl,hw => ⟨[],rfl,by simp;exact .nil,fun t ht => by cases ht⟩
 | n + 1,k,[],hn,h,hl,hw => by simp at hn
 | n + 1,k,y :: ys,hn,h,hl,hw => by
  have h1:=h 0 (by omega)
  simp only [Nat.add_zero,List.getElem?_cons_zero] at h1
  simp only [List.map_cons,DataW.weightsAll,List.mem_append] at hw
  obtain ⟨ts,h3,h4,h6⟩:=aD5 ih n (k + 1) ys (by simpa using hn) (fun i hi => by
   have:=h (i + 1) (by omega)
   rw [show k + (i + 1) = k + 1 + i by omega] at this
   simpa using this) (by rw [show k + 1 + n = k + (n + 1) by omega];exact hl) (fun x hx => hw x (.inr hx))
  obtain ⟨d,ps⟩:=y
  obtain ⟨a,h9,h10⟩:=ih _ d ps h1 (fun x hx => hw x (.inl hx))
  have hlen : ((whole.drop (k * es)).take es).length = es:=by
   simp only [List.length_take,List.length_drop]
   have : (k + (n + 1)) * es = k * es + es + n * es:=by rw [Nat.add_mul,Nat.add_mul,Nat.one_mul];omega
   omega
  refine ⟨a :: ts,by simp [h3], ?_,fun t ht => ?_⟩
  ·have e1 : (whole.drop (k * es)).take ((n + 1) * es) = (whole.drop (k * es)).take es ++ (whole.drop ((k + 1) * es)).take (n * es):=by
    rw [show (n + 1) * es = es + n * es by rw [Nat.add_mul,Nat.one_mul];omega,List.take_add,List.drop_drop,show k * es + es = (k + 1) * es by rw [Nat.add_mul,Nat.one_mul]]
   rw [e1]
   exact .cons h9 hlen h4
  ·rcases List.mem_cons.1 ht with rfl | ht
   ·exact h10
   ·exact h6 t ht
theorem aS9 : ∀ (n : Nat) (t : TypeId) (T : Ty) (fuel : Nat) (cs : List Value) (d : DataW H) (ps : List MemPlace),tyT P n t = some T → DataW.trod enc P W base sp held fuel t cs = some (d,ps) →
  (∀ x ∈ d.weights P t,x ≤ 140737488351232) → ∃ a,bK W (Low W) fB a cs ∧ T.has a:=by
 intro n
 induction n using Nat.strongRecOn with
 | _ n ih =>
 intro t T fuel cs d ps hT h hw
 cases n with
 | zero => simp [tyT] at hT
 | succ n =>
  simp only [tyT] at hT
  split at hT
  ·rename_i k hu
   simp only [zaA] at hT
   subst hT
   obtain ⟨x,rfl,_,h2⟩:=DataW.trod_int hu h
   exact ⟨.sc (.int k x),.sc rfl,⟨x,rfl,h2⟩⟩
  ·rename_i hu
   simp only [zaA] at hT
   subst hT
   obtain ⟨b,rfl,_⟩:=DataW.trod_bool hu h
   exact ⟨.sc (.bool b),.sc rfl,⟨b,rfl⟩⟩
  ·rename_i hu
   simp only [zaA] at hT
   subst hT
   obtain ⟨s,rfl,_,h2⟩:=DataW.trod_string hu h
   exact ⟨.sc (.string s),.sc rfl,⟨s,rfl,h2⟩⟩
  ·rename_i e hu
   split at hT
   ·rename_i T' hT'
    split at hT
    ·cases hT
    ·rename_i hes
     simp only [zaA] at hT
     subst hT
     have hes' : 0 < P.cellsOf e:=Nat.pos_of_ne_zero hes
     rcases DataW.trod_slice hu h with ⟨rfl,hx⟩ | ⟨a,len,cap,elems,rest,m,rfl,rfl,hx,hb,hlc,hcm,hel,hat,_⟩
     ·exact ⟨.fro false (P.cellsOf e) [],.gW (fun h => by cases h),⟨[],rfl,by simp,fun t ht => by cases ht⟩⟩
     ·simp only [zaJ] at hx
      obtain ⟨rfl,rfl⟩:=hx
      simp only [DataW.weights,hu,List.mem_cons,List.mem_append] at hw
      have hw1:=hw _ (.inl rfl)
      simp only [List.length_map] at hw1
      cases len with
      | zero => exact ⟨.fro false (P.cellsOf e) [],.gW (fun h => by cases h),⟨[],rfl,by simp,fun t ht => by cases ht⟩⟩
      | succ len =>
       have h0:=hat 0 (by omega)
       rw [List.getElem?_eq_getElem (by omega),Nat.zero_mul] at h0
       cases hc : W.cells? base (a.add 0) (P.cellsOf e) with
       | none => rw [hc] at h0;cases h0
       | some c =>
        obtain ⟨h7,h8⟩:=aLI hc
        have h9:=h8 0 c[0] (List.getElem?_eq_getElem (by omega))
        have hadd : (a.add 0).add 0 = a:=by simp [Addr.add]
        rw [hadd] at h9
        have hspot:=aS8 h9
        obtain ⟨b,o,sp'⟩:=a
        simp only at hspot
        subst hspot
        obtain ⟨ts,cs,g1,g2,g3,g4⟩:=aD4 hes' (fun cs d ps h1 h2 => ih n (by omega) e T' m cs d ps hT' h1 h2) (len + 1) 0 elems hel (fun i hi => by rw [Nat.zero_add];exact hat i hi) (fun x hx => hw x (.inr (.inl hx)))
        rw [Nat.zero_mul,Nat.add_zero] at g3
        refine ⟨.fro false (P.cellsOf e) ts, ?_,⟨ts,rfl, ?_,g4⟩⟩
        ·rw [← g1]
         exact .fro g2 g3 (aVR h9) (fun h => by cases h) (by rw [g1];exact hlc)
        ·rw [g1]
         rw [hel] at hw1
         exact Nat.le_trans (Nat.mul_le_mul_right _ (by omega)) hw1
   ·cases hT
  ·rename_i fs hu
   split at hT
   ·rename_i l m hl
    split at hT
    ·rename_i hm
     simp only [zaA] at hT
     subst hT
     obtain ⟨xs,k,rfl,hx,hlen,hxl,hat⟩:=DataW.trod_struct hu h
     simp only [zaJ] at hx
     obtain ⟨rfl,rfl⟩:=hx
     simp only [DataW.weights,hu] at hw
     obtain ⟨_,ts,h2,h3⟩:=aB2 (D:=n) (whole:=cs) (fuel:=k) (fun m hm t T cs d ps h1 h2 h3 => ih m (by omega) t T k cs d ps h1 h2 h3) fs.toList n 0 xs l m (zaF _) hl (by simpa using hxl) (fun i f hf => hat i f (by simpa using hf)) hw (by omega)
     refine ⟨.agg m ts, ?_,⟨ts,rfl,h3⟩⟩
     have e1 : (cs.drop 0).take (m - 0) = cs:=by
      rw [List.drop_zero,Nat.sub_zero];exact List.take_of_length_le (by omega)
     rw [e1] at h2
     exact .agg h2 (by omega)
    ·cases hT
   ·cases hT
  ·rename_i k e hu
   split at hT
   ·rename_i T' hT'
    split at hT
    ·rename_i hsz
     simp only [zaA] at hT
     subst hT
     obtain ⟨xs,m,rfl,hx,hlen,hxl,hat⟩:=DataW.trod_array hu h
     simp only [zaJ] at hx
     obtain ⟨rfl,rfl⟩:=hx
     simp only [DataW.weights,hu] at hw
     obtain ⟨ts,g1,g2,g3⟩:=aD5 (whole:=cs) (fun cs d ps h1 h2 => ih n (by omega) e T' m cs d ps hT' h1 h2) k 0 xs hxl (fun i hi => by rw [Nat.zero_add];exact hat i hi) (by rw [Nat.zero_add];omega) hw
     refine ⟨.arr k (P.cellsOf e) ts, ?_,⟨ts,rfl,g1,g3⟩⟩
     have e1 : (cs.drop (0 * P.cellsOf e)).take (k * P.cellsOf e) = cs:=by
      rw [Nat.zero_mul,List.drop_zero];exact List.take_of_length_le (by omega)
     rw [e1] at g2
     exact .arr g2 g1
    ·cases hT
   ·cases hT
  ·cases hT
end
end Go.Ra
namespace Go.Ra
open Go.RowKit (Below)
open Go.ChangeShapes Go.WideShapes Go.ChangeAt Go.RowKit
set_option linter.unusedVariables false
set_option linter.unusedSimpArgs false
section
variable {P : Program} {H : Type} {enc : TypeId × Value → H} {W : World} {sp : Nat → Bool} {held : Bool} {base b0 : Nat}
theorem aVS {n : Nat} {t : TypeId} {T : Ty} {v : Value} {d : DataW H} {ps : List MemPlace} (hT : tyT P n t = some T) (hval : Value.okWide P W .any b0 t v) (h : DataW.Trod enc P W base sp held t v d ps) (hw : ∀ x ∈ d.weights P t,x ≤ 140737488351232) :
  ∃ a,bL W (Low W) fB a v ∧ T.has a:=by
 obtain ⟨fuel,hf⟩:=h
 obtain ⟨a,h1,h2⟩:=aS9 n t T fuel _ d ps hT hf hw
 refine ⟨a, ?_,h2⟩
 cases n with
 | zero => simp [tyT] at hT
 | succ n =>
  simp only [tyT] at hT
  split at hT
  ·rename_i k hu
   simp only [zaA] at hT
   subst hT
   obtain ⟨x,rfl⟩:=okWide_int hu hval
   obtain ⟨y,rfl,_⟩:=h2
   exact .one (by simpa [Value.cells] using h1) rfl
  ·rename_i hu
   simp only [zaA] at hT
   subst hT
   obtain ⟨x,rfl⟩:=okWide_bool hu hval
   obtain ⟨y,rfl⟩:=h2
   exact .one (by simpa [Value.cells] using h1) rfl
  ·rename_i hu
   simp only [zaA] at hT
   subst hT
   obtain ⟨x,rfl⟩:=okWide_string hu hval
   obtain ⟨y,rfl,_⟩:=h2
   exact .one (by simpa [Value.cells] using h1) rfl
  ·rename_i e hu
   obtain ⟨x,len,cap,rfl⟩:=okWide_slice hu hval
   split at hT
   ·split at hT
    ·cases hT
    ·simp only [zaA] at hT
     subst hT
     obtain ⟨ts,rfl,_⟩:=h2
     exact .one (by simpa [Value.cells] using h1) rfl
   ·cases hT
  ·rename_i fs hu
   simp only [Value.okWide,hu] at hval
   obtain ⟨cs,rfl,_⟩:=hval
   split at hT
   ·split at hT
    ·simp only [zaA] at hT
     subst hT
     obtain ⟨ts,rfl,_⟩:=h2
     simpa using bL.agg (cs:=cs.toList) (by simpa [Value.cells] using h1) rfl
    ·cases hT
   ·cases hT
  ·rename_i k e hu
   simp only [Value.okWide,hu] at hval
   obtain ⟨cs,rfl,_⟩:=hval
   split at hT
   ·split at hT
    ·simp only [zaA] at hT
     subst hT
     obtain ⟨ts,rfl,_⟩:=h2
     simpa using bL.agg (cs:=cs.toList) (by simpa [Value.cells] using h1) rfl
    ·cases hT
   ·cases hT
  ·cases hT
theorem aLJ {n : Nat} : ∀ {ts : List TypeId} {Ts : List Ty} {vs : List Value} {ds : List (DataW H)} {ps : List MemPlace},j4 (tyT P n) ts = some Ts → (∀ (j : Nat) (t : TypeId) (v : Value),ts[j]? = some t → vs[j]? = some v → Value.okWide P W .any b0 t v) →
  DataW.TrodAll enc P W base sp held ts vs ds ps → (∀ x ∈ DataW.weightsEach P ts ds,x ≤ 140737488351232) → ∃ as0,bR W (Low W) fB as0 vs ∧ Ty.aD3 Ts as0
 | [],Ts,[],[],ps,hT,hv,h,hw => by
  simp only [j4,zaA] at hT
  subst hT
  exact ⟨[],.nil,rfl⟩
 | t :: ts,Ts,v :: vs,d :: ds,ps,hT,hv,h,hw => by
  simp only [j4] at hT
  split at hT
  ·rename_i T Ts' hT1 hT2
   simp only [zaA] at hT
   subst hT
   obtain ⟨p,q,h1,h2,rfl⟩:=h
   simp only [DataW.weightsEach,List.mem_append] at hw
   obtain ⟨a,h3,h4⟩:=aVS hT1 (hv 0 t v rfl rfl) h1 (fun x hx => hw x (.inl hx))
   obtain ⟨as0,h5,h6⟩:=aLJ hT2 (fun j t' v' h7 h8 => hv (j + 1) t' v' (by simpa using h7) (by simpa using h8)) h2 (fun x hx => hw x (.inr hx))
   exact ⟨a :: as0,.cons h3 h5,⟨a,as0,rfl,h4,h6⟩⟩
  ·cases hT
 | [],Ts,v :: vs,ds,ps,hT,hv,h,hw => by cases ds <;> exact h.elim
 | [],Ts,[],d :: ds,ps,hT,hv,h,hw => h.elim
 | t :: ts,Ts,[],ds,ps,hT,hv,h,hw => by cases ds <;> exact h.elim
 | t :: ts,Ts,v :: vs,[],ps,hT,hv,h,hw => h.elim
theorem aHD (hl : laidOutB P = true) {W' : World} (hb : Below W.heap.size W W') : ∀ {ts : List TypeId} {vs : List Value} {ds : List (DataW H)} {ps : List MemPlace},ts.all (fun t => P.readableRec t && decide (t < P.types.size)) = true →
  DataW.TrodAll enc P W 0 (fun _ => true) true ts vs ds ps → (∀ x ∈ ps,x.block < W.heap.size) → DataW.TrodAll enc P W' 0 (fun b => decide (b < W.heap.size)) true ts vs ds ps
 | [],[],[],ps,hr,h,hlt => h
 | t :: ts,v :: vs,d :: ds,ps,hr,h,hlt => by
  obtain ⟨p,q,h1,h2,rfl⟩:=h
  simp only [List.all_cons,zaG,zaK] at hr
  exact ⟨p,q,Below.trod hl hr.1.1 hr.1.2 h1 hb (fun x hx => hlt x (List.mem_append_left _ hx)),aHD hl hb hr.2 h2 (fun x hx => hlt x (List.mem_append_right _ hx)),rfl⟩
 | [],v :: vs,ds,ps,hr,h,hlt => by cases ds <;> exact h.elim
 | [],[],d :: ds,ps,hr,h,hlt => h.elim
 | t :: ts,[],ds,ps,hr,h,hlt => by cases ds <;> exact h.elim
 | t :: ts,v :: vs,[],ps,hr,h,hlt => h.elim
theorem aQG : ∀ {ts : List TypeId} {vs : List Value} {ds : List (DataW H)} {ps : List MemPlace},DataW.TrodAll enc P W base sp held ts vs ds ps → ds.length = ts.length
 | [],[],[],ps,h => rfl
 | t :: ts,v :: vs,d :: ds,ps,h => by
  obtain ⟨p,q,h1,h2,rfl⟩:=h
  simp [aQG h2]
 | [],v :: vs,ds,ps,h => by cases ds <;> exact h.elim
 | [],[],d :: ds,ps,h => h.elim
 | t :: ts,[],ds,ps,h => by cases ds <;> exact h.elim
 | t :: ts,v :: vs,[],ps,h => h.elim
end
theorem law_post {P : Program} {H : Type} {enc : TypeId × Value → H} {fn : Func} {f : Nat} {s : ChangeSpec} {ts : List TypeId} {Ts : List Ty} {tb : TypeId} {n : Nat} (hl : laidOutB P = true) (hp : fn.params.toList = ts) (hr : fn.resultTypes = #[tb]) (htb : P.underlying tb = some .bool)
  (hv : s.vars = []) (hTs : j4 (tyT P n) ts = some Ts) (hread : ts.all (fun t => P.readableRec t && decide (t < P.types.size)) = true)
  (hfn : ∀ ds : List (DataW H),ds.length = ts.length → (s.fn H ds).results = [.lit (.bool true)] ∧ (s.fn H ds).args = ds ∧ (s.fn H ds).vars = [])
  (hlaw : ∀ as0,Ty.aD3 Ts as0 → Pure P f as0 (.sc (.bool true))) {apart : Bool} :
  ∀ (W : World) (base : Nat) (args : Array Value) (ds gs : List (DataW H)) (before : List MemPlace),
   (∀ (j : Nat) t v,fn.params[j]? = some t → args[j]? = some v → Value.okWide P W .any base t v) →
   DataW.Whole enc P fn.params.toList s.vars apart W args.toList ds gs before →
   (DataW.weightsEach P (fn.params.toList ++ s.plain.varTypes P) (ds ++ gs)).all (· ≤ reachBytes) = true →
   Calls P f args W fun e W' => ∃ v,e = .returned v ∧ s.post enc P fn apart true false false W args v W':=by
 intro W base args ds gs before hval hW hsz
 have hW':=hW
 obtain ⟨p,q,hA,hV,rfl,hfz,hnd⟩:=hW
 rw [hv] at hV
 have hgs : gs = [] ∧ q = []:=by
  cases gs with
  | nil => exact ⟨rfl,hV⟩
  | cons g gs => exact hV.elim
 obtain ⟨rfl,rfl⟩:=hgs
 rw [hp] at hA
 have hvt : s.plain.varTypes P = []:=by
  simp only [ChangeSpec.plain,DataSpec.varTypes,hv]
  rfl
 rw [hvt,List.append_nil,List.append_nil,hp] at hsz
 obtain ⟨as0,h1,h2⟩:=aLJ (b0:=base) hTs (fun j t v hj hvj => hval j t v (by rw [← Array.getElem?_toList,hp];exact hj) (by rw [← Array.getElem?_toList];exact hvj)) hA (fun x hx => by
  have:=List.all_eq_true.1 hsz x hx
  exact of_decide_eq_true this)
 obtain ⟨_,hc⟩:=hlaw as0 h2
 have:=hc W (Low W) args.toList (fun b hb => hb) h1
 rw [Array.toArray_toList] at this
 refine this.mono fun e W' ⟨u,F',he,hb,_,_,hrel⟩ => ?_
 obtain ⟨hu,_⟩:=hrel.kZ
 subst hu
 obtain ⟨g1,g2,g3⟩:=hfn ds (aQG hA)
 have hlt:=hA.lt
 refine ⟨_,he,ds,[],_,[],p,[],hW', ?_, ?_, ?_,hb.frame _,fun h => by cases h⟩
 ·rw [List.append_nil,g1,hr]
  exact trodAll_mk1 (shut_bool htb _)
 ·rw [List.append_nil,g2,hp]
  exact aHD hl hb hread hA hlt
 ·rw [List.append_nil,g3,hv]
  rfl
end Go.Ra
noncomputable section
namespace Go.Proofs.Ytooojfbfobmkfaa
open Go.Ra
def qq : Nat → Bool:=qs [0,1,2,3,4,5,6,7,8,9,10,11,12,13,14,15,16,17,18,19,20,21,22,23,25,26,27,28,29,31,32,33,34,35,36,37,38,39,40,41,43,44,45,46,47,48,49,51,54,55,56,58,61,62,64,65,66,67,68,69,71,72,73,74,77,78,81,82,83,84,85,86,87,88,89,90,91,92,94,95,96,98,99,100,101,102,103,104,105,106,107,108,109,110,111,112,113,114,115,116,117,118,119,1000030,1000042,1000070,1000097,4000025008,4000025016,4000025031,4000026008,4000026016,4000053006,4000053021,5000300024,5000300097,5000400024,5000400097,5000500024,5000500097,5000600024,5000600097,5001200024,5001200097,5001500024,5001500097,5001700024,5001700097,5002900070,5003100070,5003200070,5006300097,5007400070,5007700070]
theorem mix : Try.prog.follows .mixedOrders = true:=by kernel_rfl
def cdO : Option (Nat × List AR × AC) → AC
 | some (_,_,c) => c
 | none => .skip
def cdA : List Nat → AC → AC
 | k :: l,.seq a b => cdA l (match k with | 0 => a | _ => b)
 | k :: l,.cond _ a b => cdA l (match k with | 0 => a | _ => b)
 | _ :: l,.block _ a => cdA l a
 | _ :: l,.loop a => cdA l a
 | _,a => a
@[irreducible] noncomputable def fN : AC:=cdO (trF Try.prog qq 19)
@[irreducible] noncomputable def iG : AC:=cdA [1,1,0,1,0,0] fN
@[irreducible] noncomputable def lM : AC:=cdA [1,1,1] fN
theorem nT : trF Try.prog qq 19 = some (49,[(.tmp 2)],fN):=by kernel_rfl
@[irreducible] noncomputable def yN : AC:=cdO (trF Try.prog qq 20)
theorem aIS : trF Try.prog qq 20 = some (12,[(.tmp 2)],yN):=by kernel_rfl
@[irreducible] noncomputable def rS : AC:=cdO (trF Try.prog qq 33)
theorem aCP : trF Try.prog qq 33 = some (79,[(.tmp 2)],rS):=by kernel_rfl
@[irreducible] noncomputable def jA : AC:=cdO (trF Try.prog qq 34)
@[irreducible] noncomputable def lN : AC:=cdA [1,0,1,0,0] jA
@[irreducible] noncomputable def o8 : AC:=cdA [1,1] jA
theorem tD : trF Try.prog qq 34 = some (31,[(.tmp 2)],jA):=by kernel_rfl
@[irreducible] noncomputable def aHE : AC:=cdO (trF Try.prog qq 48)
theorem aTA : trF Try.prog qq 48 = some (148,[(.tmp 6),(.tmp 7)],aHE):=by kernel_rfl
@[irreducible] noncomputable def tF : AC:=cdO (trF Try.prog qq 51)
theorem aD6 : trF Try.prog qq 51 = some (31,[(.tmp 4)],tF):=by kernel_rfl
@[irreducible] noncomputable def aB3 : AC:=cdO (trF Try.prog qq 54)
theorem aLK : trF Try.prog qq 54 = some (15,[(.tmp 2)],aB3):=by kernel_rfl
@[irreducible] noncomputable def yO : AC:=cdO (trF Try.prog qq 56)
theorem aIT : trF Try.prog qq 56 = some (43,[(.tmp 6)],yO):=by kernel_rfl
@[irreducible] noncomputable def yP : AC:=cdO (trF Try.prog qq 58)
theorem aIU : trF Try.prog qq 58 = some (42,[(.tmp 6)],yP):=by kernel_rfl
@[irreducible] noncomputable def aB4 : AC:=cdO (trF Try.prog qq 62)
theorem aLL : trF Try.prog qq 62 = some (17,[(.tmp 4)],aB4):=by kernel_rfl
@[irreducible] noncomputable def aB5 : AC:=cdO (trF Try.prog qq 67)
theorem aLM : trF Try.prog qq 67 = some (31,[(.tmp 2)],aB5):=by kernel_rfl
@[irreducible] noncomputable def rF : AC:=cdO (trF Try.prog qq 70)
theorem yQ : trF Try.prog qq 70 = some (43,[(.tmp 2)],rF):=by kernel_rfl
@[irreducible] noncomputable def vY : AC:=cdO (trF Try.prog qq 73)
theorem aF2 : trF Try.prog qq 73 = some (52,[(.tmp 4)],vY):=by kernel_rfl
@[irreducible] noncomputable def aD7 : AC:=cdO (trF Try.prog qq 81)
theorem aOF : trF Try.prog qq 81 = some (19,[(.tmp 2),(.tmp 3),(.tmp 4),(.tmp 5)],aD7):=by kernel_rfl
@[irreducible] noncomputable def aD8 : AC:=cdO (trF Try.prog qq 82)
theorem aOG : trF Try.prog qq 82 = some (18,[(.tmp 4)],aD8):=by kernel_rfl
@[irreducible] noncomputable def aD9 : AC:=cdO (trF Try.prog qq 88)
theorem aOH : trF Try.prog qq 88 = some (11,[(.tmp 2)],aD9):=by kernel_rfl
@[irreducible] noncomputable def aEA : AC:=cdO (trF Try.prog qq 89)
theorem aOI : trF Try.prog qq 89 = some (4,[(.tmp 2)],aEA):=by kernel_rfl
@[irreducible] noncomputable def aEB : AC:=cdO (trF Try.prog qq 90)
theorem aOJ : trF Try.prog qq 90 = some (12,[(.tmp 4),(.tmp 5)],aEB):=by kernel_rfl
@[irreducible] noncomputable def tG : AC:=cdO (trF Try.prog qq 96)
theorem aEC : trF Try.prog qq 96 = some (42,[(.tmp 8)],tG):=by kernel_rfl
@[irreducible] noncomputable def yR : AC:=cdO (trF Try.prog qq 97)
theorem aIV : trF Try.prog qq 97 = some (64,[(.tmp 4)],yR):=by kernel_rfl
@[irreducible] noncomputable def m6 : AC:=cdO (trF Try.prog qq 98)
@[irreducible] noncomputable def oG : AC:=cdA [1,1,1,1,0,1,0,0] m6
@[irreducible] noncomputable def tH : AC:=cdA [1,1,1,1,1] m6
theorem aB6 : trF Try.prog qq 98 = some (45,[(.tmp 6)],m6):=by kernel_rfl
@[irreducible] noncomputable def vZ : AC:=cdO (trF Try.prog qq 102)
theorem aF3 : trF Try.prog qq 102 = some (8,[(.tmp 2)],vZ):=by kernel_rfl
@[irreducible] noncomputable def v3 : AC:=cdO (trF Try.prog qq 103)
theorem aF4 : trF Try.prog qq 103 = some (21,[(.tmp 4)],v3):=by kernel_rfl
def gG : mZ:=[(19,49,[(.tmp 2)],fN),(20,12,[(.tmp 2)],yN),(33,79,[(.tmp 2)],rS),(34,31,[(.tmp 2)],jA),(48,148,[(.tmp 6),(.tmp 7)],aHE),(51,31,[(.tmp 4)],tF),(54,15,[(.tmp 2)],aB3),(56,43,[(.tmp 6)],yO),(58,42,[(.tmp 6)],yP),(62,17,[(.tmp 4)],aB4),(67,31,[(.tmp 2)],aB5),(70,43,[(.tmp 2)],rF),(73,52,[(.tmp 4)],vY),(81,19,[(.tmp 2),(.tmp 3),(.tmp 4),(.tmp 5)],aD7),(82,18,[(.tmp 4)],aD8),(88,11,[(.tmp 2)],aD9),(89,4,[(.tmp 2)],aEA),(90,12,[(.tmp 4),(.tmp 5)],aEB),(96,42,[(.tmp 8)],tG),(97,64,[(.tmp 4)],yR),(98,45,[(.tmp 6)],m6),(102,8,[(.tmp 2)],vZ),(103,21,[(.tmp 4)],v3)]
theorem eC : lL (fun p => trF Try.prog qq p.1 = some p.2) gG:=⟨nT,aIS,aCP,tD,aTA,aD6,aLK,aIT,aIU,aLL,aLM,yQ,aF2,aOF,aOG,aOH,aOI,aOJ,aEC,aIV,aB6,aF3,aF4,trivial⟩
end Go.Proofs.Ytooojfbfobmkfaa
