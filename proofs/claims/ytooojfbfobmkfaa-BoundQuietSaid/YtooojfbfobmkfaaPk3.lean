/- Texts put together. -/
import Derived.Test.YtooojfbfobmkfaaPk2
namespace Go.Ra
set_option linter.unusedVariables false
set_option linter.unusedSimpArgs false
def a3U : AX → List Nat
 | .t i => [i]
 | .c _ => []
def aED (i : Nat) : List Nat → Bool
 | [] => false
 | k :: l => bif Nat.beq i k then true else aED i l
def a3V (l r : List Nat) : List Nat:=l.filter fun i => !aED i r
def aVT : List AX → List Nat
 | [] => []
 | x :: l => a3U x ++ aVT l
def a9B : Option Nat → List Nat
 | some d => [d]
 | none => []
def aVU : List AG → List Nat → List Nat
 | [],_ => []
 | ⟨d,o,g⟩ :: r,df => a3V ((match g with | some (t,_) => [t] | none => []) ++ aVT (vX o)) df ++ aVU r (a9B d ++ df)
def aVV : List AG → List Nat
 | [] => []
 | ⟨d,_,_⟩ :: r => a9B d ++ aVV r
def aVW : AC → List Nat
 | .ops l => aVV l
 | .aFT l _ => aVV l
 | .seq a b => aVW a ++ aVW b
 | _ => []
def v5 : AC → List Nat
 | .ops l => aVU l []
 | .aFT l _ => aVU l []
 | .seq a b => v5 a ++ a3V (v5 b) (aVW a)
 | .cond c x y => a3U c ++ (v5 x ++ v5 y)
 | .block _ c => v5 c
 | .loop c => v5 c
 | _ => []
def aZ8 (k : Nat) (l : List Nat) : List Nat:=l.filter fun i => !Nat.beq i k
def rG : List Nat → List (Nat × XV) → List (Nat × XV)
 | _,[] => []
 | l,(k,v) :: r => bif aED k l then (k,v) :: rG (aZ8 k l) r else rG l r
theorem aEE {i k : Nat} : ∀ {l : List Nat},aED i (aZ8 k l) = true → aED i l = true
 | [],h => h
 | a :: l,h => by
  simp only [aZ8,List.filter_cons] at h
  simp only [aED]
  cases hb : Nat.beq i a
  ·rw [zaD]
   split at h
   ·simp only [aED,hb,zaD] at h
    exact aEE (k:=k) h
   ·exact aEE (k:=k) h
  ·rfl
theorem nH {i : Nat} : ∀ (l : List Nat) (env : List (Nat × XV)),aED i l = false → lJ (rG l env) i = .unk
 | l,[],h => rfl
 | l,(k,v) :: r,h => by
  simp only [rG]
  cases hk : aED k l
  ·exact nH l r h
  ·simp only [zaB,lJ,iR]
   have : ¬ i = k:=fun e => by rw [e,hk] at h;cases h
   rw [if_neg this]
   refine nH _ r ?_
   cases hd : aED i (aZ8 k l)
   ·rfl
   ·rw [aEE hd] at h;cases h
theorem xH {i : Nat} : ∀ (l : List Nat) (env : List (Nat × XV)),lJ (rG l env) i = .unk ∨ lJ (rG l env) i = lJ env i
 | l,[] => .inl rfl
 | l,(k,v) :: r => by
  simp only [rG]
  cases hk : aED k l
  ·rw [zaD]
   by_cases hi : i = k
   ·subst hi
    exact .inl (nH l r hk)
   ·simp only [lJ,iR,if_neg hi]
    exact xH l r
  ·simp only [zaB,lJ,iR]
   by_cases hi : i = k
   ·rw [if_pos hi,if_pos hi];exact .inr rfl
   ·rw [if_neg hi,if_neg hi]
    exact xH _ r
def XSt.prune (l : List Nat) (σ : XSt) : XSt:=⟨rG l σ.env,σ.hl,σ.n⟩
theorem aEF (l : List Nat) (σ : XSt) : nF σ.st (σ.prune l).st:=by
 refine ⟨fun i => ?_,fun _ => .inr rfl,zaF _⟩
 show leA (get (dW σ.env) i) (get (dW (rG l σ.env)) i)
 rw [eR,eR]
 rcases xH l σ.env (i:=i) with h | h
 ·rw [h];exact .inl rfl
 ·rw [h];exact .inr (.inl rfl)
theorem aTB {a b c : AV} (h1 : leA a b) (h2 : leA b c) : leA a c:=by
 rcases h2 with rfl | rfl | ⟨x,es,es',ts,rfl,rfl,h⟩
 ·exact .inl rfl
 ·exact h1
 ·rcases h1 with h1 | h1 | ⟨x',e1,e2,us,rfl,h3,h4⟩
  ·cases h1
  ·subst h1;exact .inr (.inr ⟨x,es,es',ts,rfl,rfl,h⟩)
  ·simp only [AV.fro.injEq] at h3
   obtain ⟨_,rfl,rfl⟩:=h3
   refine .inr (.inr ⟨x',e1,es',ts,rfl,rfl, ?_⟩)
   rcases h with rfl | h
   ·exact h4
   ·exact .inr h
theorem nF.trans {σ τ υ : St} (h1 : nF σ τ) (h2 : nF τ υ) : nF σ υ :=
 ⟨fun i => aTB (h1.1 i) (h2.1 i),fun i => by
  rcases h2.2.1 i with h | h
  ·exact .inl h
  ·rw [h];exact h1.2.1 i,Nat.le_trans h1.2.2 h2.2.2⟩
theorem aEG {m k : Nat} {σ τ : St} (hm : m ≤ k) (h : cG k σ τ) : cG m σ τ:=fun fr G0 w0 nt a w hl hs => h fr G0 w0 nt a w (fun i l hi => Nat.lt_of_lt_of_le (hl i l hi) hm) hs
theorem aB7 {m : Nat} {σ τ υ : St} (h1 : nF σ τ) (h2 : cG m τ υ) : cG m σ υ:=(cG.of h1).trans h2
inductive Frm where
 | seq (b : AC)
 | blk (id : Nat)
 | lp (c : AC) (A : XSt → Prop)
def aLN : List Frm → List Nat
 | [] => []
 | .seq b :: s => v5 b ++ aLN s
 | .blk _ :: s => aLN s
 | .lp c _ :: s => v5 c ++ aLN s
def unwind (C : Orc) : List Frm → (AE → St → Prop) → AE → St → Prop
 | [],Φ => Φ
 | .seq b :: s,Φ => AE.then (fun σ => wpC C b σ (unwind C s Φ)) (unwind C s Φ)
 | .blk id :: s,Φ => AE.inBlock id (unwind C s Φ)
 | .lp _ A :: s,Φ => AE.then (fun t => ∃ σ : XSt,nF t σ.st ∧ A σ) (unwind C s Φ)
structure aP (C : Orc) (c : AC) (σ : XSt) (s : List Frm) (Φ : AE → St → Prop) : Prop where
 out : wpC C (.loop c) σ.st (unwind C s Φ)
inductive Job where
 | run (c : AC)
 | back (e : AE)
section
variable (T : Tab) (C : Orc) (ci : Nat → List XV → XSt → (XV → XSt → Prop) → Prop) (kp : List Nat) (fin : AE → XSt → Prop) (Φ : AE → St → Prop)
def exS : Nat → Job → List Frm → XSt → Prop
 | 0,_,_,_ => False
 | n + 1,.run c,s,σ =>
  match c with
  | .skip => exS n (.back .normal) s σ
  | .ops l => exO T ci (grp l) σ fun σ' => exS n (.back .normal) s σ'
  | .aFT l ps => exO T ci (grp l) σ fun σ' => j8 (aLD σ' ps) (exS n (.back .normal) s σ')
  | .seq a b => exS n (.run a) (.seq b :: s) σ
  | .cond c x y =>
   match strip (σ.ev c) with
   | .bool b => j8 (kG (σ.ev c)) (cond b (exS n (.run x) s σ) (exS n (.run y) s σ))
   | _ => False
  | .block id c => exS n (.run c) (.blk id :: s) σ
  | .loop c => aP C c (σ.prune (v5 c ++ (aLN s ++ kp))) s Φ
  | .exit id => exS n (.back (.exit id)) s σ
  | .ret => exS n (.back .ret) s σ
  | .frz => j8 σ.fz.1 (exS n (.back .normal) s σ.fz.2)
 | n + 1,.back e,s,σ =>
  match s with
  | [] => fin e σ
  | .seq b :: s =>
   match e with
   | .normal => exS n (.run b) s σ
   | e => exS n (.back e) s σ
  | .blk id :: s =>
   match e with
   | .exit i => cond (Nat.beq i id) (exS n (.back .normal) s σ) (exS n (.back (.exit i)) s σ)
   | e => exS n (.back e) s σ
  | .lp c A :: s =>
   match e with
   | .normal => A (σ.prune (v5 c ++ (aLN s ++ kp)))
   | e => exS n (.back e) s σ
end
section
variable {P : Program} {T : Tab} {ci : Nat → List XV → XSt → (XV → XSt → Prop) → Prop} {kp : List Nat} {fin : AE → XSt → Prop} {Φ : AE → St → Prop}
def aHF (C : Orc) (j : Job) (σ : XSt) (Ψ : AE → St → Prop) : Prop :=
 match j with
 | .run c => wpC C c σ.st Ψ
 | .back e => Ψ e σ.st
theorem aF5 {C : Orc} {c : AC} {σ τ : St} {Ψ : AE → St → Prop} (hw : nF σ τ) (h : wpC C (.loop c) τ Ψ) : wpC C (.loop c) σ Ψ:=by
 unfold wpC at h ⊢
 obtain ⟨Inv,μ,⟨υ,h1,h2⟩,h3⟩:=h
 refine ⟨Inv,μ,⟨υ,aB7 hw (aEG hw.2.2 h1),h2⟩,fun τ' hτ => gQ _ _ (fun e t he => ?_) c τ' (h3 τ' hτ)⟩
 cases e with
 | normal =>
  obtain ⟨t',g1,g2,g3⟩:=he
  exact ⟨t',aEG hw.2.2 g1,g2,g3⟩
 | exit _ => exact he
 | ret => exact he
theorem xI (hT : bX P T) (hci : aOB P T.q ci) (hfin : ∀ e σ,fin e σ → Φ e σ.st) : ∀ (n : Nat) (j : Job) (s : List Frm) (σ : XSt),exS T (Ok P T.q) ci kp fin Φ n j s σ → aHF (Ok P T.q) j σ (unwind (Ok P T.q) s Φ)
 | 0,_,_,_,h => h.elim
 | n + 1,.run c,s,σ,h => by
  have ih:=xI hT hci hfin n
  simp only [aHF]
  cases c with
  | skip => exact ih (.back .normal) s σ h
  | ops l =>
   simp only [exS] at h
   obtain ⟨h1,h2⟩:=u7 l
   obtain ⟨σ',h3,h4⟩:=sZ hT hci (grp l) σ _ h h2
   rw [h1] at h4
   exact h4 _ (ih (.back .normal) s σ' h3)
  | aFT l ps =>
   simp only [exS] at h
   obtain ⟨h1,h2⟩:=u7 l
   obtain ⟨σ',h3,h4⟩:=sZ hT hci (grp l) σ _ h h2
   rw [h1] at h4
   rw [dJ] at h3
   exact h4 _ ⟨aD2 h3.1,ih (.back .normal) s σ' h3.2⟩
  | seq a b => exact ih (.run a) (.seq b :: s) σ h
  | cond c x y =>
   simp only [exS] at h
   split at h
   ·rename_i b hb
    rw [dJ] at h
    have hc : σ.st.ev c = .sc (.bool b):=by rw [sV,gN h.1,hb];rfl
    unfold wpC
    rw [hc]
    cases b with
    | true => exact ⟨fun _ => ih (.run x) s σ h.2,fun e => by cases e⟩
    | false => exact ⟨fun e => (by cases e),fun _ => ih (.run y) s σ h.2⟩
   ·cases h
  | block id c => exact ih (.run c) (.blk id :: s) σ h
  | loop c => exact aF5 (aEF _ σ) h.out
  | exit id => exact ih (.back (.exit id)) s σ h
  | ret => exact ih (.back .ret) s σ h
  | frz =>
   simp only [exS] at h
   rw [dJ] at h
   exact ⟨_,a3T h.1,ih (.back .normal) s _ h.2⟩
 | n + 1,.back e,s,σ,h => by
  have ih:=xI hT hci hfin n
  simp only [aHF]
  cases s with
  | nil => exact hfin e σ h
  | cons f s =>
   cases f with
   | seq b =>
    cases e with
    | normal => exact ih (.run b) s σ h
    | exit i => exact ih (.back (.exit i)) s σ h
    | ret => exact ih (.back .ret) s σ h
   | blk id =>
    cases e with
    | normal => exact ih (.back .normal) s σ h
    | ret => exact ih (.back .ret) s σ h
    | exit i =>
     simp only [exS] at h
     simp only [unwind,AE.inBlock]
     cases hi : Nat.beq i id <;> rw [hi] at h
     ·rw [if_neg (Nat.ne_of_beq_eq_false hi)]
      exact ih (.back (.exit i)) s σ h
     ·rw [if_pos (zaL hi)]
      exact ih (.back .normal) s σ h
   | lp c A =>
    cases e with
    | normal => exact ⟨_,aEF _ σ,h⟩
    | exit i => exact ih (.back (.exit i)) s σ h
    | ret => exact ih (.back .ret) s σ h
def a9C (rs : List AR) (r : AV) : AE → XSt → Prop:=aS4 rs (aS5 fun v => con v = r)
def aVX (rs : List AR) (r : AV) : AE → St → Prop:=aFZ rs fun v τ => frz τ 6 v = some r
def aLO : List AR → List Nat
 | [] => []
 | .tmp t :: r => t :: aLO r
 | .cell t _ _ :: r => t :: aLO r
theorem aQH {rs : List AR} {r : AV} (e : AE) (σ : XSt) (h : a9C rs r e σ) : aVX rs r e σ.st:=by
 obtain ⟨v,h3,h4⟩:=yM h
 refine h4 (fun v τ => frz τ 6 v = some r) ?_
 unfold aS5 at h3
 split at h3
 ·rename_i nd r' hz
  rw [dJ] at h3
  rw [← h3.2]
  exact oF (wU σ) 6 v nd r' hz h3.1
 ·cases h3
abbrev goS (P : Program) (T : Tab) (rs : List AR) (r : AV) (j : Job) (s : List Frm) (σ : XSt) : Prop:=exS T (Ok P T.q) (bT T 80 20) (aLO rs) (a9C rs r) (aVX rs r) 2000 j s σ
theorem a9D (hmix : P.follows .mixedOrders = true) (hT : bX P T) {f nt : Nat} {rs : List AR} {c : AC} (hF : trF P T.q f = some (nt,rs,c)) {args : List XV} {r : AV} (hl : args.length ≤ nt) (h : goS P T rs r (.run c) [] ⟨jO 0 args,[],0⟩) : Pure P f (cons args) r:=by
 have:=xI hT (mY hmix hT 20) aQH 2000 _ _ _ h
 refine aP0 (k:=6) hmix Ok.ok Ok.quiet hF (by rw [tC];exact hl) ?_
 simpa [aHF,unwind,XSt.st,qA,hO,aVX] using this
theorem a9E (hmix : P.follows .mixedOrders = true) (hT : bX P T) {rs : List AR} {r : AV} {c : AC} {σ : XSt} {s : List Frm} {ι : Type} (S : ι → XSt) (V : ι → Prop) (m : ι → Nat) (i0 : ι) (hV : V i0) (h0 : nF σ.st (S i0).st)
  (hr : ∀ i,V i → goS P T rs r (.run c) (.lp c (fun τ => ∃ j,V j ∧ nF τ.st (S j).st ∧ m j < m i) :: s) (S i)) : aP (Ok P T.q) c σ s (aVX rs r) :=
 ⟨aP4 (fun i => (S i).st) V m i0 hV h0 fun i hi => by
  have h:=xI hT (mY hmix hT 20) aQH 2000 _ _ _ (hr i hi)
  refine gQ _ _ (fun e t he => ?_) c _ h
  cases e with
  | normal =>
   obtain ⟨τ,hw,j,h1,h2,h3⟩:=he
   exact ⟨j,h1,hw.trans h2,h3⟩
  | exit _ => exact he
  | ret => exact he⟩
theorem jQ {b : Bool} {p q : Prop} (h1 : b = true → p) (h2 : b = false → q) : cond b p q:=by
 cases b
 ·exact h2 rfl
 ·exact h1 rfl
theorem aV (b : Bool) : (bif b then b else true) = true:=by cases b <;> rfl
theorem bJ (b : Bool) : (bif b then true else !b) = true:=by cases b <;> rfl
theorem aD (n : Nat) : gL (fun _ => true) n = true:=dS.2 fun _ _ => rfl
def aOK : List (Nat × XV) → List (Nat × XV) → Prop
 | [],_ => True
 |(k,v) :: r,e => con (lJ e k) = con v ∧ aOK r e
def yS : List (Nat × Option XV) → List (Nat × Option XV) → Prop
 | [],_ => True
 |(k,v) :: r,e => (iX e k).map con = v.map con ∧ yS r e
theorem aHG : ∀ {l e : List (Nat × XV)},aOK l e → aA8 (dW l) (dW e)
 | [],e,h => trivial
 |(k,v) :: r,e,h => ⟨by rw [eR];exact .inr (.inl h.1.symm),aHG h.2⟩
theorem rH : ∀ {l e : List (Nat × Option XV)},yS l e → yF (hO l) (hO e) (fun _ => none)
 | [],e,h => trivial
 |(k,v) :: r,e,h => ⟨by rw [n0];exact h.1,rH h.2⟩
def aIW : List (Nat × XV) → List (Nat × XV) → Prop
 | [],_ => True
 |(k,v) :: r,e => leA (con (lJ e k)) (con v) ∧ aIW r e
theorem aBG : ∀ {l e : List (Nat × XV)},aIW l e → aA8 (dW l) (dW e)
 | [],e,h => trivial
 |(k,v) :: r,e,h => ⟨by rw [eR];exact h.1,aBG h.2⟩
theorem a3W {σ τ : XSt} (h1 : aIW τ.env σ.env) (h2 : yS τ.hl σ.hl) (h3 : σ.n ≤ τ.n) : nF σ.st τ.st:=aP3 (aBG h1) (rH h2) h3
theorem bS {a b : AV} (h : a = b) : leA a b:=.inr (.inl h.symm)
theorem dG {σ τ : XSt} (h1 : aOK τ.env σ.env) (h2 : yS τ.hl σ.hl) (h3 : σ.n ≤ τ.n) : nF σ.st τ.st:=aP3 (aHG h1) (rH h2) h3
mutual
def XV.low (n : Nat) : XV → Bool
 | .agg _ ts => XV.aTC n ts
 | .clo _ cs => XV.aTC n cs
 | .tup ts => XV.aTC n ts
 | .sl id _ _ _ _ _ => Nat.blt id n
 | .ptr id _ _ => Nat.blt id n
 | .opt _ v => v.low n
 | .raw v => v.pX n
 | _ => true
def XV.aTC (n : Nat) : List XV → Bool
 | [] => true
 | t :: ts => bif t.low n then XV.aTC n ts else false
end
mutual
theorem yT {n : Nat} : ∀ t : XV,t.low n = true → (con t).pX n = true
 | .opt g v,h => by
  cases g
  ·rfl
  ·exact yT v h
 | .tri z b,h => by cases z <;> rfl
 | .int ..,h => rfl
 | .bool _,h => rfl
 | .str ..,h => rfl
 | .agg m ts,h => by simp only [con,AV.pX];exact yU ts h
 | .tab ..,h => rfl
 | .row ..,h => rfl
 | .cC _,h => rfl
 | .sl ..,h => h
 | .ptr ..,h => h
 | .clo f cs,h => by simp only [con,AV.pX];exact yU cs h
 | .tup ts,h => by simp only [con,AV.pX];exact yU ts h
 | .dV,h => rfl
 | .unk,h => rfl
 | .raw _,h => h
theorem yU {n : Nat} : ∀ ts : List XV,XV.aTC n ts = true → AV.rR n (cons ts) = true
 | [],h => rfl
 | t :: ts,h => by
  simp only [XV.aTC] at h
  cases ht : t.low n <;> rw [ht] at h
  ·cases h
  ·simp only [cons,AV.rR,yT t ht,yU ts h,zaS]
end
def aVY (n : Nat) : List (Nat × XV) → Bool
 | [] => true
 |(_,v) :: r => bif v.low n then aVY n r else false
def aVZ (n : Nat) : List (Nat × Option XV) → Bool
 | [] => true
 |(k,v) :: r => bif Nat.blt k n then (bif (match v with | some t => t.low n | none => true) then aVZ n r else false) else false
def XSt.low (σ : XSt) : Bool:=bif aVY σ.n σ.env then aVZ σ.n σ.hl else false
theorem aLP {n i : Nat} : ∀ {l : List (Nat × XV)},aVY n l = true → (get (dW l) i).pX n = true
 | [],h => rfl
 |(k,v) :: r,h => by
  simp only [aVY] at h
  cases hv : v.low n <;> rw [hv] at h
  ·cases h
  ·show (if i = k then con v else get (dW r) i).pX n = true
   split
   ·exact yT v hv
   ·exact aLP h
theorem aEH {n i : Nat} : ∀ {l : List (Nat × Option XV)},aVZ n l = true → (n ≤ i → look (hO l) (fun _ => none) i = none) ∧ ∀ t,look (hO l) (fun _ => none) i = some t → t.pX n = true
 | [],h => ⟨fun _ => rfl,fun t ht => by cases ht⟩
 |(k,v) :: r,h => by
  simp only [aVZ] at h
  cases hk : Nat.blt k n <;> rw [hk] at h
  ·cases h
  ·rw [zaB] at h
   have hkn : k < n:=Nat.le_of_ble_eq_true hk
   have hr : aVZ n r = true:=by
    cases v with
    | none => exact h
    | some u =>
     simp only at h
     cases hu : u.low n <;> rw [hu] at h
     ·cases h
     ·exact h
   obtain ⟨i1,i2⟩:=aEH (i:=i) (l:=r) hr
   show (n ≤ i → (if i = k then v.map con else look (hO r) _ i) = none) ∧ ∀ t,(if i = k then v.map con else look (hO r) _ i) = some t → t.pX n = true
   by_cases hik : i = k
   ·subst hik
    refine ⟨fun hn => by omega,fun t ht => ?_⟩
    rw [if_pos rfl] at ht
    cases v with
    | none => cases ht
    | some u =>
     simp only [Option.map_some,zaA] at ht
     subst ht
     simp only at h
     cases hu : u.low n <;> rw [hu] at h
     ·cases h
     ·exact yT u hu
   ·rw [if_neg hik]
    exact ⟨i1,i2⟩
theorem a5U {m : Nat} {σ τ : XSt} (h1 : m ≤ τ.n) (h2 : τ.low = true) : a80 m σ.st τ.st:=by
 unfold XSt.low at h2
 cases he : aVY τ.n τ.env <;> rw [he] at h2
 ·cases h2
 ·rw [zaB] at h2
  exact .inr ⟨h1,fun i => aLP he,fun i hi => (aEH h2).1 hi,fun i t ht => (aEH h2).2 t ht⟩
theorem rT {m : Nat} {σ τ : XSt} (h1 : aIW τ.env σ.env) (h2 : yS τ.hl σ.hl) (h3 : m ≤ τ.n) (h4 : τ.low = true) : aGM m σ.st τ.st :=
 ⟨wX (aBG h1),rB (rH h2),a5U h3 h4⟩
def kap (l : List (Nat × Nat)) (j : Nat) : Option Nat :=
 match l with
 | [] => none
 |(k,i) :: r => bif Nat.beq j k then some i else kap r j
def aEI (n : Nat) : List (Nat × Nat) → Bool
 | [] => true
 |(k,_) :: r => bif Nat.blt k n then aEI n r else false
def aLQ (i : Nat) : List (Nat × Nat) → Bool
 | [] => true
 |(_,a) :: r => bif Nat.beq i a then false else aLQ i r
def aEJ : List (Nat × Nat) → Bool
 | [] => true
 |(_,i) :: r => bif aLQ i r then aEJ r else false
def yV (n : Nat) : List (Nat × Option XV) → Bool
 | [] => true
 |(k,_) :: r => bif Nat.blt k n then yV n r else false
def aV0 (l : List (Nat × Nat)) (m : Nat) : Bool:=gL (fun j => match kap l j with | some i => Nat.beq i j | none => false) m
theorem aEK {n j : Nat} : ∀ {l : List (Nat × Nat)},aEI n l = true → n ≤ j → kap l j = none
 | [],_,_ => rfl
 |(k,i) :: r,h,hj => by
  simp only [aEI] at h
  cases hk : Nat.blt k n <;> rw [hk] at h
  ·cases h
  ·have hkn : k < n:=Nat.le_of_ble_eq_true hk
   have : ¬ j = k:=by omega
   simp only [kap,iR,if_neg this]
   exact aEK h hj
theorem aOL {i : Nat} : ∀ {l : List (Nat × Nat)},aLQ i l = true → ∀ j,kap l j ≠ some i
 | [],_,j,h => by cases h
 |(k,a) :: r,h,j,hj => by
  simp only [aLQ,iR] at h
  split at h
  ·cases h
  ·rename_i hia
   simp only [kap,iR] at hj
   split at hj
   ·simp only [zaA] at hj
    exact hia hj.symm
   ·exact aOL h j hj
theorem aIX : ∀ {l : List (Nat × Nat)},aEJ l = true → ∀ i j j',kap l j = some i → kap l j' = some i → j = j'
 | [],_,i,j,j',h,_ => by cases h
 |(k,a) :: r,h,i,j,j',h1,h2 => by
  simp only [aEJ] at h
  cases hno : aLQ a r <;> rw [hno] at h
  ·cases h
  ·rw [zaB] at h
   simp only [kap,iR] at h1 h2
   split at h1
   ·rename_i hj
    simp only [zaA] at h1
    subst h1
    split at h2
    ·rename_i hj'
     rw [hj,hj']
    ·exact absurd h2 (aOL hno j')
   ·split at h2
    ·simp only [zaA] at h2
     subst h2
     exact absurd h1 (aOL hno j)
    ·exact aIX h i j j' h1 h2
theorem aBH {n j : Nat} : ∀ {l : List (Nat × Option XV)},yV n l = true → n ≤ j → look (hO l) (fun _ => none) j = none
 | [],_,_ => rfl
 |(k,v) :: r,h,hj => by
  simp only [yV] at h
  cases hk : Nat.blt k n <;> rw [hk] at h
  ·cases h
  ·have hkn : k < n:=Nat.le_of_ble_eq_true hk
   have : ¬ j = k:=by omega
   show (if j = k then v.map con else look (hO r) _ j) = none
   rw [if_neg this]
   exact aBH h hj
def aIY (κ : Nat → Option Nat) : List (Nat × XV) → List (Nat × XV) → Prop
 | [],_ => True
 |(k,v) :: r,e => leK κ (con (lJ e k)) (con v) ∧ aIY κ r e
def yW (κ : Nat → Option Nat) : List (Nat × Option XV) → List (Nat × Option XV) → Prop
 | [],_ => True
 |(j,some t') :: r,e => (match κ j with
   | some i => (match iX e i with | some t => leK κ (con t) (con t') | none => False)
   | none => ∃ es,con t' = .arr 0 es []) ∧ yW κ r e
 |(_,none) :: r,e => yW κ r e
theorem xJ {κ : Nat → Option Nat} {i : Nat} : ∀ {l e : List (Nat × XV)},aIY κ l e → get (dW l) i = .unk ∨ leK κ (get (dW e) i) (get (dW l) i)
 | [],e,h => .inl rfl
 |(k,v) :: r,e,h => by
  show (if i = k then con v else get (dW r) i) = .unk ∨ leK κ _ (if i = k then con v else get (dW r) i)
  by_cases hi : i = k
  ·subst hi
   rw [if_pos rfl,eR]
   exact .inr h.1
  ·rw [if_neg hi]
   exact xJ h.2
theorem o9 {κ : Nat → Option Nat} {j : Nat} {t' : AV} : ∀ {l e : List (Nat × Option XV)},yW κ l e → look (hO l) (fun _ => none) j = some t' → (∃ i t,κ j = some i ∧ look (hO e) (fun _ => none) i = some t ∧ leK κ t t') ∨ (κ j = none ∧ ∃ es,t' = .arr 0 es [])
 | [],e,h,hj => by cases hj
 |(k,v) :: r,e,h,hj => by
  have hj' : (if j = k then v.map con else look (hO r) (fun _ => none) j) = some t':=hj
  by_cases hk : j = k
  ·subst hk
   rw [if_pos rfl] at hj'
   cases v with
   | none => cases hj'
   | some t =>
    simp only [Option.map_some,zaA] at hj'
    subst hj'
    have h1:=h.1
    cases hκ : κ j with
    | none =>
     rw [hκ] at h1
     exact .inr ⟨rfl,h1⟩
    | some i =>
     rw [hκ] at h1
     simp only at h1
     cases hl : iX e i with
     | none => rw [hl] at h1;cases h1
     | some u =>
      rw [hl] at h1
      exact .inl ⟨i,con u,rfl,by rw [n0,hl];rfl,h1⟩
  ·rw [if_neg hk] at hj'
   cases v with
   | none => exact o9 (l:=r) h hj'
   | some t => exact o9 (l:=r) h.2 hj'
theorem pA {m : Nat} {σ τ : XSt} (kl : List (Nat × Nat)) (h1 : aV0 kl m = true) (h2 : aEI τ.n kl = true) (h3 : yV τ.n τ.hl = true) (h4 : Nat.ble m τ.n = true) (h5 : aEJ kl = true) (h6 : aIY (kap kl) τ.env σ.env) (h7 : yW (kap kl) τ.hl σ.hl) : cG m σ.st τ.st :=
 .ofK ⟨kap kl,(fun j hj => by
  have h8:=mJ h1 j hj
  cases hk : kap kl j with
  | none => rw [hk] at h8;cases h8
  | some i =>
   rw [hk] at h8
   rw [zaL h8]),(fun j hj => ⟨aBH h3 hj,aEK h2 hj⟩),Nat.le_of_ble_eq_true h4,(fun i j j' _ _ => aIX h5 i j j'),(fun t => xJ h6),(fun j t' hj => o9 h7 hj)⟩
theorem aJ {κ : Nat → Option Nat} {a b : XV} (h : con a = con b) (hl : b.low 0 = true) : leK κ (con a) (con b):=by
 rw [h];exact .same (yT b hl)
theorem aLR {κ : Nat → Option Nat} {x : Bool} {e es n m : Nat} {f g : Nat → XV} (hn : n = m) (he : es = e ∨ n = 0) (h : ∀ i,i < n → con (f i) = con (g i)) : leK κ (con (.row x e n f)) (con (.row false es m g)):=by
 subst hn
 show leK κ (.fro x e (dI n fun i => con (f i))) (.fro false es (dI n fun i => con (g i)))
 rw [kJ h]
 exact .fro (he.imp id fun h => lH.2 h)
theorem a3X {κ : Nat → Option Nat} {es n : Nat} {f g : Nat → XV} (h : ∀ i,i < n → con (f i) = con (g i)) : leK κ (con (.tab n es f)) (con (.tab n es g)):=by
 refine aJ ?_ rfl
 simp only [con]
 rw [kJ h]
theorem tI {κ : Nat → Option Nat} {e es j off k n : Nat} {path : List Nat} {f : Nat → XV} (hn : n = 0) : leK κ (con (.row true e n f)) (con (.sl j path off k 0 es)):=by
 subst hn
 exact .nil
end
end Go.Ra
namespace Go.Ra
set_option linter.unusedVariables false
set_option linter.unusedSimpArgs false
def asB : XV → Bool
 | .bool b => b
 | _ => false
inductive KD where
 | i (k : IntKind)
 | b
def isK : KD → XV → Bool
 | .i k,.int k' _ => decide (k = k')
 | .b,.bool _ => true
 | _,_ => false
def mkK : KD → XV → XV
 | .i k,v => .int k (asN v)
 | .b,v => .bool (asB v)
theorem a5V {k : KD} {v : XV} (h : isK k v = true) : mkK k v = v:=by
 cases k <;> cases v <;> simp only [isK,zaU,zaK] at h
 ·subst h;rfl
 ·rfl
def okE (e es n : Nat) : Bool:=Nat.beq e es || Nat.beq n 0
theorem pB {x : Bool} {es n : Nat} {f g : Nat → XV} (h : ∀ i,i < n → con (f i) = con (g i)) : con (.row x es n f) = con (.row x es n g):=by
 simp only [con]
 rw [kJ h]
def aLS (a b : AV) : Prop:=a = b ∨ ∃ x es es',a = .fro x es [] ∧ b = .fro x es' []
inductive pU : List AV → List AV → Prop
 | nil : pU [] []
 | cons {a b : AV} {l r : List AV} : aLS a b → pU l r → pU (a :: l) (b :: r)
theorem aLS.rel {w : World} {F : Nat → Prop} {ρ : Nat → Option Loc} {a b : AV} {v : Value} (h : aLS a b) (hr : bL w F ρ a v) : bL w F ρ b v:=by
 rcases h with rfl | ⟨x,es,es',rfl,rfl⟩
 ·exact hr
 ·obtain ⟨a,cap,rfl,_,hc,_⟩:=hr.o5
  exact .one (.gW fun hx => hc hx) rfl
theorem pU.rel {w : World} {F : Nat → Prop} {ρ : Nat → Option Loc} : ∀ {l r : List AV} {vs : List Value},pU l r → bR w F ρ l vs → bR w F ρ r vs
 | _,_,_,.nil,.nil => .nil
 | _,_,_,.cons h1 h2,.cons h3 h4 => .cons (h1.rel h3) (pU.rel h2 h4)
theorem Pure.pU {P : Program} {f : Nat} {l r : List AV} {v : AV} (hp : Pure P f r v) (h : pU l r) : Pure P f l v :=
 ⟨hp.1,fun w F vs hF hr => hp.2 w F vs hF (h.rel hr)⟩
theorem aZ9 {x : Bool} {e es n : Nat} {f g : Nat → XV} (ho : okE e es n = true) (h : ∀ i,i < n → con (f i) = con (g i)) : aLS (con (.row x e n f)) (con (.row x es n g)):=by
 simp only [okE,zaV] at ho
 rcases ho with ho | ho
 ·have:=zaL ho
  subst this
  exact .inl (pB h)
 ·have:=zaL ho
  subst this
  exact .inr ⟨x,e,es,rfl,rfl⟩
theorem aV1 (a : AV) : aLS a a:=.inl rfl
mutual
inductive yX : AV → AV → Prop
 | refl (a : AV) : yX a a
 | row {x : Bool} {es es' : Nat} : yX (.fro x es []) (.fro x es' [])
 | agg {n : Nat} {l r : List AV} : rU l r → yX (.agg n l) (.agg n r)
inductive rU : List AV → List AV → Prop
 | nil : rU [] []
 | cons {a b : AV} {l r : List AV} : yX a b → rU l r → rU (a :: l) (b :: r)
end
mutual
theorem yX.aF6 {w : World} {F : Nat → Prop} : ∀ {ρ : Nat → Option Loc} {a b : AV} {cs : List Value},yX a b → bK w F ρ a cs → bK w F ρ b cs
 | _,_,_,_,.refl a,h => h
 | _,_,_,_,.row,h => by
  cases h with
  | gW h => exact .gW h
  | fro h1 h2 h3 h4 h5 => exact .gW h4
 | _,_,_,_,.agg hl,h => by
  cases h with
  | agg h hn => exact .agg (rU.aV2 hl h) hn
theorem rU.aV2 {w : World} {F : Nat → Prop} : ∀ {ρ : Nat → Option Loc} {l r : List AV} {cs : List Value},rU l r → dM w F ρ l cs → dM w F ρ r cs
 | _,_,_,_,.nil,h => h
 | _,_,_,_,.cons h1 h2,.cons h3 h4 => .cons (yX.aF6 h1 h3) (rU.aV2 h2 h4)
end
theorem yX.isAgg {a b : AV} (h : yX a b) : b.isAgg = a.isAgg:=by cases h <;> rfl
theorem yX.rel {w : World} {F : Nat → Prop} {ρ : Nat → Option Loc} {a b : AV} {v : Value} (h : yX a b) (hr : bL w F ρ a v) : bL w F ρ b v:=by
 cases h with
 | refl => exact hr
 | row =>
  cases hr with
  | one h1 h2 => exact .one (yX.row.aF6 h1) rfl
  | agg h1 h2 => cases h2
 | agg hl =>
  cases hr with
  | one h1 h2 => cases h2
  | agg h1 h2 => exact .agg ((yX.agg hl).aF6 h1) rfl
theorem rU.aOM {w : World} {F : Nat → Prop} {ρ : Nat → Option Loc} : ∀ {l r : List AV} {vs : List Value},rU l r → bR w F ρ l vs → bR w F ρ r vs
 | _,_,_,.nil,.nil => .nil
 | _,_,_,.cons h1 h2,.cons h3 h4 => .cons (h1.rel h3) (rU.aOM h2 h4)
theorem Pure.yX {P : Program} {f : Nat} {l r : List AV} {v : AV} (hp : Pure P f r v) (h : rU l r) : Pure P f l v :=
 ⟨hp.1,fun w F vs hF hr => hp.2 w F vs hF (h.aOM hr)⟩
theorem aB8 : ∀ l : List AV,pU l l
 | [] => .nil
 | a :: l => .cons (aV1 a) (aB8 l)
def aIZ (es : Nat) (k : KD) (N : Nat) (g : Nat → (Nat → XV) → List XV → Option (List Bool × XV)) : List XV → Option (List Bool × XV)
 | .row _ e n f :: rest => bif okE e es n then
   match g n f rest with
   | some (nd,v) => some (decide (n ≤ N) :: gL (fun i => isK k (f i)) n :: nd,v)
   | none => none
  else none
 | _ => none
theorem aHH {P : Program} {fn es N : Nat} {k : KD} {g : Nat → (Nat → XV) → List XV → Option (List Bool × XV)}
  (h : ∀ (x : Bool) (n : Nat) (f : Nat → XV) (rest : List XV) (nd : List Bool) (v : XV),n ≤ N → g n f rest = some (nd,v) → gM nd → Pure P fn (cons (.row x es n (fun i => mkK k (f i)) :: rest)) (con v)) : oV P (fn,aIZ es k N g):=by
 intro args nd v ha hn
 simp only [aIZ] at ha
 split at ha
 ·rename_i x e n f rest
  cases hc : okE e es n <;> rw [hc] at ha
  ·cases ha
  ·rw [zaB] at ha
   split at ha
   ·rename_i nd' v' hg
    simp only [zaA,zaJ] at ha
    obtain ⟨rfl,rfl⟩:=ha
    simp only [bD,zaK,dS] at hn
    refine (h x n f rest nd' v' hn.1 hg hn.2.2).pU (.cons (aZ9 hc fun i hi => ?_) (aB8 _))
    rw [a5V (hn.2.1 i hi)]
   ·cases ha
 ·cases ha
end Go.Ra
namespace Go.Ra
set_option linter.unusedVariables false
set_option linter.unusedSimpArgs false
theorem aEL {k : IntKind} {a b : Int} (h : a = b) : con (.int k a) = con (.int k b):=by rw [h]
theorem aLT {a b : Bool} (h : a = b) : con (.bool a) = con (.bool b):=by rw [h]
theorem aQI {a b a' b' : XV} (h1 : con a = con a') (h2 : con b = con b') : con (.tup [a,b]) = con (.tup [a',b']):=by simp only [con,cons,h1,h2]
theorem a0A (n : Int) : IntKind.i64.wrap n = (n + 9223372036854775808) % 18446744073709551616 - 9223372036854775808:=by
 first | (rw [IntKind.wrap_i64];done) | (rw [IntKind.wrap_i64];omega)
theorem aV3 (n : Int) : IntKind.i32.wrap n = (n + 2147483648) % 4294967296 - 2147483648:=by
 first | (rw [IntKind.wrap_i32];done) | (rw [IntKind.wrap_i32];omega)
theorem bC5 (n : Int) : IntKind.u64.wrap n = n % 18446744073709551616:=rfl
theorem vO (n : Int) : IntKind.u32.wrap n = n % 4294967296:=rfl
theorem wU8 (n : Int) : IntKind.u8.wrap n = n % 256:=rfl
theorem gT {i k : Nat} (h : ¬ i = k) : Nat.beq i k = false:=by
 rw [← Bool.not_eq_true]
 exact fun e => h (zaL e)
theorem tJ {a b : Int} (h : 0 ≤ b) : a.fdiv b = a / b:=Int.fdiv_eq_ediv_of_nonneg a h
def aV4 (n : Nat) (f : Nat → XV) : Bool:=gL (fun i => decide (0 ≤ asN (f i)) && decide (asN (f i) ≤ 255)) n
theorem aLU {n : Nat} {f : Nat → XV} : aV4 n f = true ↔ ∀ i,i < n → 0 ≤ asN (f i) ∧ asN (f i) ≤ 255:=by
 simp only [aV4,dS,zaG,zaK]
theorem a5W {x b : Int} {k : Nat} (hx : 0 ≤ x) (hx2 : x < 2 ^ k) (hb : 0 ≤ b) (hb2 : b * 2 ^ k + x ≤ 4294967295) : eH .or .u32 x (b * 2 ^ k) = x + b * 2 ^ k:=by
 obtain ⟨m,rfl⟩:=Int.eq_ofNat_of_zero_le hx
 obtain ⟨c,rfl⟩:=Int.eq_ofNat_of_zero_le hb
 have hp : ((2 : Int) ^ k) = ((2 ^ k : Nat) : Int):=(Int.natCast_pow 2 k).symm
 rw [hp] at hx2 hb2 ⊢
 have hm : m < 2 ^ k:=by exact_mod_cast hx2
 have h2 : (c : Int) * ((2 ^ k : Nat) : Int) = ((c * 2 ^ k : Nat) : Int):=(Int.natCast_mul c (2 ^ k)).symm
 rw [h2] at hb2 ⊢
 have h1 : c * 2 ^ k + m ≤ 4294967295:=by
  generalize c * 2 ^ k = d at *
  omega
 clear hb2
 have h3:=Nat.two_pow_add_eq_or_of_lt hm c
 have h4 : m ||| c * 2 ^ k = m + c * 2 ^ k:=by rw [Nat.or_comm,Nat.mul_comm,← h3,Nat.add_comm]
 generalize c * 2 ^ k = d at *
 show IntKind.u32.wrap (((BitVec.ofInt 32 (m : Int)) ||| (BitVec.ofInt 32 (d : Int))).toNat : Int) = _
 have e1 : (BitVec.ofInt 32 (m : Int)).toNat = m:=by rw [BitVec.toNat_ofInt];omega
 have e2 : (BitVec.ofInt 32 (d : Int)).toNat = d:=by rw [BitVec.toNat_ofInt];omega
 rw [BitVec.toNat_or,e1,e2,h4,vO]
 omega
end Go.Ra
namespace Go.Ra
set_option linter.unusedVariables false
set_option linter.unusedSimpArgs false
def avs : AV → List AV
 | .agg _ ts => ts
 | .arr _ _ ts => ts
 | .fro _ _ ts => ts
 | _ => []
def avI : AV → Int
 | .sc (.int _ n) => n
 | _ => 0
def avB : AV → Bool
 | .sc (.bool b) => b
 | _ => false
def avN (a : AV) : Nat:=(avs a).length
def a5X (a : AV) (i : Nat) : AV:=(avs a).getD i .unk
mutual
def rd : Ty → AV → XV
 | .int k,a => .int k (avI a)
 | .bool,a => .bool (avB a)
 | .str,a => .raw a
 | .slice es _ T,a => .row false es (avN a) (fun i => rd T (a5X a i))
 | .agg n l,a => .agg n (rdL l a 0)
 | .arr n es T,a => .tab n es (fun i => rd T (a5X a i))
def rdL : List Ty → AV → Nat → List XV
 | [],_,_ => []
 | T :: l,a,j => rd T (a5X a j) :: rdL l a (j + 1)
end
theorem a0B {a : AV} (h : (Ty.int .i64).has a) : -9223372036854775808 ≤ avI a ∧ avI a ≤ 9223372036854775807:=by
 simp only [Ty.has] at h
 obtain ⟨n,rfl,h1⟩:=h
 simpa [Lit.wf,IntKind.min,IntKind.max,IntKind.signed,IntKind.bits,avI] using h1
theorem a5Y {a : AV} (h : (Ty.int .u8).has a) : 0 ≤ avI a ∧ avI a ≤ 255:=by
 simp only [Ty.has] at h
 obtain ⟨n,rfl,h1⟩:=h
 simpa [Lit.wf,IntKind.min,IntKind.max,IntKind.signed,IntKind.bits,avI] using h1
end Go.Ra
namespace Go.Ra
set_option linter.unusedVariables false
set_option linter.unusedSimpArgs false
mutual
inductive leQ : AV → AV → Prop
 | refl (a : AV) : leQ a a
 | row {x : Bool} {es es' : Nat} {ts us : List AV} : (es' = es ∨ ts = []) → gU ts us → leQ (.fro x es ts) (.fro false es' us)
 | agg {n : Nat} {l r : List AV} : gU l r → leQ (.agg n l) (.agg n r)
 | arr {n es : Nat} {l r : List AV} : gU l r → leQ (.arr n es l) (.arr n es r)
 | cC {a b : AV} : leQ a b → leQ (.cC a) (.cC b)
 | tup {l r : List AV} : gU l r → leQ (.tup l) (.tup r)
 | clo {f : Nat} {l r : List AV} : gU l r → leQ (.clo f l) (.clo f r)
inductive gU : List AV → List AV → Prop
 | nil : gU [] []
 | cons {a b : AV} {l r : List AV} : leQ a b → gU l r → gU (a :: l) (b :: r)
end
theorem aHI : ∀ l : List AV,gU l l
 | [] => .nil
 | a :: l => .cons (.refl a) (aHI l)
theorem gU.len : ∀ {l r : List AV},gU l r → r.length = l.length
 | _,_,.nil => rfl
 | _,_,.cons _ h => by simp [gU.len h]
theorem leQ.isAgg {a b : AV} (h : leQ a b) : b.isAgg = a.isAgg:=by cases h <;> rfl
theorem aLV {r : List AV} (h : gU [] r) : r = []:=by cases h;rfl
theorem leQs_nil' {l : List AV} (h : gU l []) : l = []:=by cases h;rfl
mutual
theorem leQ.aF6 {w : World} {F : Nat → Prop} : ∀ {ρ : Nat → Option Loc} {a b : AV} {cs : List Value},leQ a b → bK w F ρ a cs → bK w F ρ b cs
 | _,_,_,_,.refl a,h => h
 | _,_,_,_,.row he hl,h => by
  cases h with
  | gW h => rw [aLV hl];exact .gW fun h => by cases h
  | fro h1 h2 h3 h4 h5 =>
   rename_i x es es' ts us cs b o cap
   have hn:=gU.len hl
   by_cases hus : us = []
   ·subst hus
    have:=leQs_nil' hl
    subst this
    exact .gW fun h => by cases h
   ·have hts : ts ≠ []:=fun e => hus (by rw [e] at hl;exact aLV hl)
    have he' : es' = es:=he.resolve_right hts
    subst he'
    rw [← hn]
    exact .fro (gU.a5Z hl h1) h2 h3 (fun h => by cases h) (by rw [hn];exact h5)
 | _,_,_,_,.agg hl,h => by
  cases h with
  | agg h hn => exact .agg (gU.aV2 hl h) hn
 | _,_,_,_,.arr hl,h => by
  cases h with
  | arr h hn => exact .arr (gU.a5Z hl h) (by rw [gU.len hl];exact hn)
 | _,_,_,_,.cC hl,h => by
  cases h with
  | cC h1 h2 h3 => exact .cC (leQ.aF6 hl h1) h2 h3
 | _,_,_,_,.tup hl,h => by cases h
 | _,_,_,_,.clo hl,h => by
  cases h with
  | clo h => exact .clo (gU.a9F hl h)
theorem gU.aV2 {w : World} {F : Nat → Prop} : ∀ {ρ : Nat → Option Loc} {l r : List AV} {cs : List Value},gU l r → dM w F ρ l cs → dM w F ρ r cs
 | _,_,_,_,.nil,h => h
 | _,_,_,_,.cons h1 h2,.cons h3 h4 => .cons (leQ.aF6 h1 h3) (gU.aV2 h2 h4)
theorem gU.a5Z {w : World} {F : Nat → Prop} : ∀ {es : Nat} {l r : List AV} {cs : List Value},gU l r → dQ w F es l cs → dQ w F es r cs
 | _,_,_,_,.nil,.nil => .nil
 | _,_,_,_,.cons h1 h2,.cons h3 h4 h5 => .cons (leQ.aF6 h1 h3) h4 (gU.a5Z h2 h5)
theorem gU.a9F {w : World} {F : Nat → Prop} : ∀ {ρ : Nat → Option Loc} {l r : List AV} {cs : List Value},gU l r → jM w F ρ l cs → jM w F ρ r cs
 | _,_,_,_,.nil,h => h
 | _,_,_,_,.cons h1 h2,.cons h3 h4 h5 => .cons (leQ.aF6 h1 h3) ((leQ.isAgg h1).trans h4) (gU.a9F h2 h5)
end
mutual
theorem leQ.rel {w : World} {F : Nat → Prop} {ρ : Nat → Option Loc} : ∀ {a b : AV} {v : Value},leQ a b → bL w F ρ a v → bL w F ρ b v
 | _,_,_,h,.one h1 h2 => .one (h.aF6 h1) (h.isAgg.trans h2)
 | _,_,_,h,.agg h1 h2 => .agg (h.aF6 h1) (h.isAgg.trans h2)
 | _,_,_,.refl _,h => h
 | _,_,_,.tup hl,.tup h => .tup (gU.aOM hl h)
theorem gU.aOM {w : World} {F : Nat → Prop} {ρ : Nat → Option Loc} : ∀ {l r : List AV} {vs : List Value},gU l r → bR w F ρ l vs → bR w F ρ r vs
 | _,_,_,.nil,h => h
 | _,_,_,.cons h1 h2,.cons h3 h4 => .cons (leQ.rel h1 h3) (gU.aOM h2 h4)
end
theorem Pure.args {P : Program} {f : Nat} {l r : List AV} {v : AV} (hp : Pure P f r v) (h : gU l r) : Pure P f l v :=
 ⟨hp.1,fun w F vs hF hr => hp.2 w F vs hF (h.aOM hr)⟩
theorem Pure.out {P : Program} {f : Nat} {l : List AV} {v r : AV} (hp : Pure P f l v) (h : leQ v r) : Pure P f l r :=
 ⟨hp.1,fun w F vs hF hr => (hp.2 w F vs hF hr).mono fun e w' ⟨u,F',h1,h2,h3,h4,h5⟩ => ⟨u,F',h1,h2,h3,h4,h.rel h5⟩⟩
theorem aEM {a b : XV} (h : con a = con b) : leQ (con a) (con b):=by rw [h];exact .refl _
theorem a0C {a b : Bool} (h : a = b) : leQ (con (.bool a)) (con (.bool b)):=by rw [h];exact .refl _
theorem fX {n : Nat} {l r : List XV} (h : gU (cons l) (cons r)) : leQ (con (.agg n l)) (con (.agg n r)):=.agg h
theorem iH {l r : List XV} (h : gU (cons l) (cons r)) : leQ (con (.tup l)) (con (.tup r)):=.tup h
theorem bO : gU (cons []) (cons []):=.nil
theorem aF {a b : XV} {l r : List XV} (h : leQ (con a) (con b)) (h2 : gU (cons l) (cons r)) : gU (cons (a :: l)) (cons (b :: r)):=.cons h h2
theorem aV5 {n : Nat} {f g : Nat → AV} (h : ∀ i,i < n → leQ (f i) (g i)) : gU (dI n f) (dI n g):=by
 have key : ∀ l : List Nat,(∀ i ∈ l,i < n) → gU (l.map f) (l.map g):=by
  intro l
  induction l with
  | nil => intro _;exact .nil
  | cons i l ih => exact fun hl => .cons (h i (hl i (by simp))) (ih fun j hj => hl j (by simp [hj]))
 exact key _ fun i hi => List.mem_range.1 hi
theorem aI0 {x : Bool} {e es n m : Nat} {f g : Nat → XV} (hn : n = m) (he : es = e ∨ n = 0) (h : ∀ i,i < n → leQ (con (f i)) (con (g i))) : leQ (con (.row x e n f)) (con (.row false es m g)):=by
 subst hn
 exact .row (he.imp id fun h => lH.2 h) (aV5 h)
structure aC (a b : List XV) : Prop where
 out : gU (cons a) (cons b)
structure aA (a b : XV) : Prop where
 out : leQ (con a) (con b)
structure aK (p : Prop) : Prop where
 out : p
structure bDR (σ τ : XSt) : Prop where
 mem : ∀ i,τ.st.H i = none ∨ τ.st.H i = σ.st.H i
 num : σ.n ≤ τ.n
theorem aC.rfl {a : List XV} : aC a a:=⟨aHI _⟩
theorem aA.rfl {a : XV} : aA a a:=⟨.refl _⟩
def eQ {α β : Type} (en : α → List XV) (pre : α → Prop) (F : α → β) (er : β → XV) : List XV → Option ((XV → Prop) → Prop):=fun args => some fun K => ∃ s : α,aC args (en s) ∧ aK (pre s) ∧ ∀ y : β,y = F s → K (er y)
theorem bB {P : Program} {f : Nat} {α β : Type} {en : α → List XV} {pre : α → Prop} {F : α → β} {er : β → XV} (h : ∀ s,pre s → Pure P f (cons (en s)) (con (er (F s)))) : eI P (f,eQ en pre F er):=by
 intro args W hW K hK
 simp only [eQ,zaA] at hW
 subst hW
 obtain ⟨s,h1,h2,h3⟩:=hK
 exact ⟨er (F s),(h s h2.out).args h1.out,h3 _ rfl⟩
section
variable {P : Program} {T : Tab}
abbrev goX (P : Program) (T : Tab) (kp : List Nat) (fin : AE → XSt → Prop) (Φ : AE → St → Prop) (j : Job) (s : List Frm) (σ : XSt) : Prop:=exS T (Ok P T.q) (bT T 80 20) kp fin Φ 2000 j s σ
theorem a3Y (hmix : P.follows .mixedOrders = true) (hT : bX P T) {kp : List Nat} {fin : AE → XSt → Prop} {Φ : AE → St → Prop} (hfin : ∀ e σ,fin e σ → Φ e σ.st) {c : AC} {σ : XSt} {s : List Frm} {ι : Type} (S : ι → XSt) (V : ι → Prop) (m : ι → Nat) (i0 : ι) (hV : V i0) (h0 : cG σ.n σ.st (S i0).st)
  (hr : ∀ i,V i → goX P T kp fin Φ (.run c) (.lp c (fun τ => ∃ j,V j ∧ cG σ.n τ.st (S j).st ∧ m j < m i) :: s) (S i)) : aP (Ok P T.q) c σ s Φ :=
 ⟨aK3 (fun i => (S i).st) V m i0 hV h0 fun i hi => by
  have h:=xI hT (mY hmix hT 20) hfin 2000 _ _ _ (hr i hi)
  refine gQ _ _ (fun e t he => ?_) c _ h
  cases e with
  | normal =>
   obtain ⟨τ,hw,j,h1,h2,h3⟩:=he
   exact ⟨j,h1,aB7 hw h2,h3⟩
  | exit _ => exact he
  | ret => exact he⟩
def a9G (rs : List AR) (r : XV) : AE → XSt → Prop:=aS4 rs (aS5 fun v => aA v r)
def bC (rs : List AR) (r : XV) : AE → St → Prop:=aFZ rs fun v τ => ∃ r',frz τ 6 v = some r' ∧ leQ r' (con r)
theorem aQJ {rs : List AR} {r : XV} (e : AE) (σ : XSt) (h : a9G rs r e σ) : bC rs r e σ.st:=by
 obtain ⟨v,h3,h4⟩:=yM h
 refine h4 (fun v τ => ∃ r',frz τ 6 v = some r' ∧ leQ r' (con r)) ?_
 unfold aS5 at h3
 split at h3
 ·rename_i nd r' hz
  rw [dJ] at h3
  exact ⟨con r',oF (wU σ) 6 v nd r' hz h3.1,h3.2.out⟩
 ·cases h3
theorem aV6 {q : Nat → Bool} {C : Orc} (hmix : P.follows .mixedOrders = true) (hC : oC P C) (hq : mE q C) {f nt : Nat} {rs : List AR} {ac : AC} (hF : trF P q f = some (nt,rs,ac)) {args : List AV} {r : AV} {k : Nat} (hlen : args.length ≤ nt)
  (h : wpC C ac ⟨mF 0 args,[],fun _ => none,0⟩ (aFZ rs fun v τ => ∃ r',frz τ k v = some r' ∧ leQ r' r)) : Pure P f args r:=by
 refine ⟨uZ hF,fun w F vs hFs hr => ?_⟩
 have hown : Own ⟨w,fun _ => False,F,0⟩ ⟨fB,F⟩ w ⟨mF 0 args,[],fun _ => none,0⟩ :=
  ⟨⟨fun i _ => ⟨rfl,rfl⟩,hFs,fun i t hi => (by cases hi),fun i j b o o' hi => absurd rfl hi⟩,⟨rfl,rfl,rfl,zaF _,fun _ _ _ => rfl,Ext.refl _ _,fun _ h => h,fun _ h => .inl h,fun i b o hi => absurd rfl hi⟩⟩
 refine (enter hmix hC hq hF hlen hown hr h).mono fun e w' ⟨u,G',v,τ,he,hgo,hrel,r',hk,hle⟩ => ?_
 refine ⟨u,FF G' τ,he,⟨hgo.fr.os,hgo.fr.tape,hgo.fr.output,hgo.fr.size,fun b hb => hgo.fr.same b hb (fun h => h)⟩,fun b hb => .inl (hgo.leF b hb),fun b hb => ⟨?_,aPZ hgo.own hb⟩,hle.rel (a5O hgo.own k v r' u hrel hk)⟩
 rcases hb with hb | ⟨i,o,h1,h2⟩
 ·rcases hgo.fr.sJ b hb with h | h | h
  ·exact .inl h
  ·cases h
  ·exact .inr h
 ·rcases hgo.fr.loc i b o h1 h2 with h | h
  ·cases h
  ·exact .inr h
abbrev goQ (P : Program) (T : Tab) (rs : List AR) (r : XV) (j : Job) (s : List Frm) (σ : XSt) : Prop:=goX P T (aLO rs) (a9G rs r) (bC rs r) j s σ
theorem jB (hmix : P.follows .mixedOrders = true) (hT : bX P T) {f nt : Nat} {rs : List AR} {c : AC} (hF : trF P T.q f = some (nt,rs,c)) {args : List XV} {r : XV} (hl : args.length ≤ nt) (h : goQ P T rs r (.run c) [] ⟨jO 0 args,[],0⟩) : Pure P f (cons args) (con r):=by
 have:=xI hT (mY hmix hT 20) aQJ 2000 _ _ _ h
 refine aV6 (k:=6) hmix Ok.ok Ok.quiet hF (by rw [tC];exact hl) ?_
 simpa [aHF,unwind,XSt.st,qA,hO,bC] using this
theorem eS (hmix : P.follows .mixedOrders = true) (hT : bX P T) {u k f : Nat} {args : List XV} {r : XV} (h : aQ T u (bT T u k) f args fun v => aA v r) : Pure P f (cons args) (con r):=by
 obtain ⟨v,h1,h2⟩:=rE hmix hT (mY hmix hT k) h
 exact h1.out h2.out
theorem fS (hmix : P.follows .mixedOrders = true) (hT : bX P T) {rs : List AR} {r : XV} {c : AC} {σ : XSt} {s : List Frm} {ι : Type} (S : ι → XSt) (V : ι → Prop) (m : ι → Nat) (i0 : ι) (hV : V i0) (h0 : cG σ.n σ.st (S i0).st)
  (hr : ∀ i,V i → goQ P T rs r (.run c) (.lp c (fun τ => ∃ j,V j ∧ cG σ.n τ.st (S j).st ∧ m j < m i) :: s) (S i)) : aP (Ok P T.q) c σ s (bC rs r):=a3Y hmix hT aQJ S V m i0 hV h0 hr
structure bDS (m : Nat) (v' : XV) (σ : XSt) (v : XV) (τ : XSt) : Prop where
 out : cG m (XSt.st ⟨[(0,v')],σ.hl,σ.n⟩) (XSt.st ⟨[(0,v)],τ.hl,τ.n⟩)
structure rI (v : XV) (σ : XSt) (r t : XV) : Prop where
 out : (∃ id,σ.st.H id = some (con t) ∧ aIH id 0 (con v) = some (con r)) ∨ ∃ es' es,con v = .fro true es' [] ∧ con t = .arr 0 es [] ∧ con r = .sl 0 [] 0 0 0 es
def a9H (rs : List AR) (r t : XV) : AE → XSt → Prop:=aS4 rs fun v σ => rI v σ r t
def aLW (rs : List AR) (r t : XV) : AE → St → Prop:=aFZ rs fun v τ => (∃ id,τ.H id = some (con t) ∧ aIH id 0 v = some (con r)) ∨ ∃ es' es,v = .fro true es' [] ∧ con t = .arr 0 es [] ∧ con r = .sl 0 [] 0 0 0 es
theorem aQK {rs : List AR} {r t : XV} (e : AE) (σ : XSt) (h : a9H rs r t e σ) : aLW rs r t e σ.st:=by
 obtain ⟨v',h3,h4⟩:=yM h
 exact h4 (fun v τ => (∃ id,τ.H id = some (con t) ∧ aIH id 0 v = some (con r)) ∨ ∃ es' es,v = .fro true es' [] ∧ con t = .arr 0 es [] ∧ con r = .sl 0 [] 0 0 0 es) h3.out
abbrev goM (P : Program) (T : Tab) (rs : List AR) (r t : XV) (j : Job) (s : List Frm) (σ : XSt) : Prop:=goX P T (aLO rs) (a9H rs r t) (aLW rs r t) j s σ
theorem a3Z (hmix : P.follows .mixedOrders = true) (hT : bX P T) {f nt : Nat} {rs : List AR} {c : AC} (hF : trF P T.q f = some (nt,rs,c)) {args : List XV} {r t : XV} (hl : args.length ≤ nt) (hs : (con t).dU = true) (hi : (con t).eJ = true) (h : goM P T rs r t (.run c) [] ⟨jO 0 args,[],0⟩) : yE P f (cons args) (con r) (con t):=by
 have:=xI hT (mY hmix hT 20) aQK 2000 _ _ _ h
 refine aP2 hmix Ok.ok Ok.quiet hF (by rw [tC];exact hl) hs hi ?_
 simpa [aHF,unwind,XSt.st,qA,hO,aLW] using this
theorem a9I (hmix : P.follows .mixedOrders = true) (hT : bX P T) {rs : List AR} {r t : XV} {c : AC} {σ : XSt} {s : List Frm} {ι : Type} (S : ι → XSt) (V : ι → Prop) (m : ι → Nat) (i0 : ι) (hV : V i0) (h0 : cG σ.n σ.st (S i0).st)
  (hr : ∀ i,V i → goM P T rs r t (.run c) (.lp c (fun τ => ∃ j,V j ∧ cG σ.n τ.st (S j).st ∧ m j < m i) :: s) (S i)) : aP (Ok P T.q) c σ s (aLW rs r t):=a3Y hmix hT aQK S V m i0 hV h0 hr
end
theorem yE.args {P : Program} {f : Nat} {l r : List AV} {v t : AV} (hp : yE P f r v t) (h : gU l r) : yE P f l v t :=
 ⟨hp.1,hp.2.1,hp.2.2.1,fun w F vs hF hr => hp.2.2.2 w F vs hF (h.aOM hr)⟩
def a0D {α β : Type} (en : α → List XV) (pre : α → Prop) (F : α → β) (er : Nat → β → XV) (et : β → XV) : List XV → XSt → Option ((XV → XSt → Prop) → Prop):=fun args σ =>
 match aF1 (aCO σ.hl 6) args with
 | some (nd,args') => some fun K => j8 nd (∃ s : α,aC args' (en s) ∧ aK (pre s) ∧ ∀ y : β,y = F s → K (er σ.n y) (σ.new (et y)))
 | none => none
theorem aQL {P : Program} {q : Nat → Bool} {f : Nat} {α β : Type} {en : α → List XV} {pre : α → Prop} {F : α → β} {er : Nat → β → XV} {et : β → XV} (hr : ∀ n y,aIH 0 n (con (er 0 y)) = some (con (er n y)))
  (h : ∀ s,pre s → yE P f (cons (en s)) (con (er 0 (F s))) (con (et (F s)))) : aZ7 P q (f,a0D en pre F er et):=by
 intro args σ W hW hqf K hK
 simp only [a0D] at hW
 split at hW
 ·rename_i nd args' hm
  simp only [zaA] at hW
  subst hW
  rw [dJ] at hK
  obtain ⟨hn,s,h1,h2,h3⟩:=hK
  exact ⟨er σ.n (F s),σ.new (et (F s)),.inr (.inr (.inr ⟨hqf,6,cons args',_,_,oE (oF (wU σ) 6) hm hn,(h s h2.out).args h1.out,hr _ _,rfl⟩)),h3 _ rfl⟩
 ·cases hW
end Go.Ra
namespace Go.Ra
set_option linter.unusedVariables false
set_option linter.unusedSimpArgs false
def ix {α : Type} [Inhabited α] (l : List α) (i : Nat) : α:=l.getD i default
section
variable {α : Type} [Inhabited α]
theorem fY {l : List α} {i : Nat} (h : i < l.length) : ix l i = l[i]:=by simp [ix,h]
theorem aV7 {l : List α} {i : Nat} (h : l.length ≤ i) : ix l i = default:=by simp [ix,h]
theorem cH {l : List α} {i : Nat} (h : i < l.length) : ix l i ∈ l:=by rw [fY h];exact List.getElem_mem h
theorem aW {a : α} {l : List α} : ix (a :: l) 0 = a:=rfl
theorem gO {l r : List α} {i : Nat} : ix (l ++ r) i = if i < l.length then ix l i else ix r (i - l.length):=by
 unfold ix
 split
 ·rename_i h;rw [List.getD_eq_getElem?_getD,List.getElem?_append_left h,List.getD_eq_getElem?_getD]
 ·rename_i h;rw [List.getD_eq_getElem?_getD,List.getElem?_append_right (by omega),List.getD_eq_getElem?_getD]
theorem aC0 {l : List α} {i : Nat} : ix l.tail i = ix l (i + 1):=by
 cases l with
 | nil => rfl
 | cons a l => rfl
theorem aBI {l : List α} {k i : Nat} {a : α} : ix (l.set k a) i = if i = k ∧ k < l.length then a else ix l i:=by
 unfold ix
 rw [List.getD_eq_getElem?_getD,List.getElem?_set,List.getD_eq_getElem?_getD]
 by_cases h : k = i
 ·subst h
  by_cases h2 : k < l.length
  ·simp [h2]
  ·simp [h2,List.getElem?_eq_none (Nat.le_of_not_lt h2)]
 ·have : ¬ (i = k ∧ k < l.length):=fun e => h e.1.symm
  rw [if_neg this,if_neg h]
theorem a50 {l r : List α} (hl : l.length = r.length) (h : ∀ i,i < l.length → ix l i = ix r i) : l = r:=by
 refine List.ext_getElem hl fun i h1 h2 => ?_
 have:=h i h1
 rw [fY h1,fY h2] at this
 exact this
theorem pC {n i : Nat} {f : Nat → α} (h : i < n) : ix (dI n f) i = f i:=by
 unfold ix
 rw [List.getD_eq_getElem?_getD,eL h];rfl
theorem a0E (l : List α) : dI l.length (ix l) = l:=a50 bH fun i h => by rw [bH] at h;exact pC h
theorem tK {β : Type} [Inhabited β] {f : α → β} {l : List α} {i : Nat} (h : i < l.length) : ix (l.map f) i = f (ix l i):=by
 rw [fY h,fY (by simpa using h)]
 simp
end
def mK {α : Type} (p : α → Bool) (l : List α) : Int:=if l.any p then (l.findIdx p : Int) else -1
theorem u9 {α : Type} [Inhabited α] {p : α → Bool} {l : List α} {i : Nat} (hi : i < l.length) (hp : p (ix l i) = true) (hn : ∀ j,j < i → p (ix l j) = false) : mK p l = i:=by
 unfold mK
 have h1 : l.any p = true:=List.any_eq_true.2 ⟨_,cH hi,hp⟩
 rw [if_pos h1]
 have h2 : l.findIdx p = i:=by
  rw [List.findIdx_eq hi]
  refine ⟨by rw [← fY hi];exact hp,fun j hj => ?_⟩
  rw [← fY (by omega)]
  exact hn j hj
 rw [h2]
theorem vB {α : Type} [Inhabited α] {p : α → Bool} {l : List α} (hn : ∀ j,j < l.length → p (ix l j) = false) : mK p l = -1:=by
 unfold mK
 rw [if_neg]
 rw [List.any_eq_true]
 rintro ⟨x,hx,hp⟩
 obtain ⟨j,hj,rfl⟩:=List.mem_iff_getElem.1 hx
 have:=hn j hj
 rw [fY hj,hp] at this
 cases this
theorem a0F {α : Type} {p : α → Bool} {l : List α} : decide (mK p l ≥ 0) = l.any p:=by
 unfold mK
 split
 ·rename_i h;rw [h];exact decide_eq_true (by omega)
 ·rename_i h
  simp only [Bool.not_eq_true] at h
  rw [h];exact decide_eq_false (by omega)
theorem cD {α : Type} (l : List α) (x : α) : (l ++ [x]).length = l.length + 1:=by simp
theorem aBJ {α : Type} [Inhabited α] {l : List α} {x : α} {i : Nat} (h : i < l.length) : ix (l ++ [x]) i = ix l i:=by rw [gO,if_pos h]
theorem aBK {α : Type} [Inhabited α] {l : List α} {x : α} : ix (l ++ [x]) l.length = x:=by rw [gO,if_neg (Nat.lt_irrefl _),Nat.sub_self];rfl
theorem aLX {α : Type} [Inhabited α] {κ : Nat → Option Nat} {es : Nat} {f g : Nat → XV} {en : α → XV} {l : List α} {x : α} (h1 : ∀ i,i < l.length → con (f i) = con (en (ix l i))) (h2 : con (f l.length) = con (en x)) (hg : g = fun i => en (ix (l ++ [x]) i)) : leK κ (con (.tab (l.length + 1) es f)) (con (.tab (l.length + 1) es g)):=by
 subst hg
 refine a3X fun i hi => ?_
 by_cases hlt : i < l.length
 ·rw [aBJ hlt];exact h1 i hlt
 ·obtain rfl : i = l.length:=by omega
  rw [aBK];exact h2
theorem qB {n es : Nat} {f g : Nat → XV} (h : ∀ i,i < n → con (f i) = con (g i)) : con (.tab n es f) = con (.tab n es g):=by
 simp only [con]
 rw [kJ h]
theorem aEN {α : Type} {n i : Nat} {g : Nat → α} (h : i < n) : dI n g = dI i g ++ g i :: dI (n - i - 1) (fun j => g (i + 1 + j)):=by
 refine (kF (by simp [bH];omega) fun j hj => ?_).symm
 by_cases hlt : j < i
 ·rw [List.getElem?_append_left (by rw [bH];exact hlt),eL hlt]
 ·rw [List.getElem?_append_right (by rw [bH];omega),bH]
  by_cases he : j = i
  ·subst he;rw [Nat.sub_self];rfl
  ·obtain ⟨k,rfl⟩ : ∃ k,j = i + 1 + k:=⟨j - i - 1,by omega⟩
   rw [show i + 1 + k - i = k + 1 by omega,List.getElem?_cons_succ,eL (by omega)]
theorem a0G {κ : Nat → Option Nat} {n es i : Nat} {f : Nat → XV} {u : XV} (h : i < n) (hu : leK κ (con (f i)) (con u)) : leK κ (con (.tab n es f)) (con (.agg (n * es) [.tab i es f,u,.tab (n - i - 1) es (fun j => f (i + 1 + j))])):=by
 have:=leK.split (κ:=κ) (n:=n) (es:=es) (pre:=dI i fun j => con (f j)) (post:=dI (n - i - 1) fun j => con (f (i + 1 + j))) (t:=con (f i)) (u:=con u) (by simp only [bH];omega) hu
 simp only [bH] at this
 show leK κ (.arr n es (dI n fun j => con (f j))) _
 rw [aEN h]
 exact this
theorem a51 {κ : Nat → Option Nat} {n m a b es : Nat} {f g h : Nat → XV} {t u : XV} (hn : a + (1 + b) = n) (hi : u.idf = true) (hs : u.size = es) (ht : leK κ (con t) (con u)) (h1 : ∀ j,j < a → con (f j) = con (h j)) (h2 : con u = con (h a)) (h3 : ∀ j,j < b → con (g j) = con (h (a + 1 + j))) : leK κ (con (.agg m [.tab a es f,t,.tab b es g])) (con (.tab n es h)):=by
 subst hn
 have:=leK.join (κ:=κ) (m:=m) (a:=a) (b:=b) (es:=es) (pre:=dI a fun j => con (f j)) (post:=dI b fun j => con (g j)) (t:=con t) (u:=con u) ((u0 u).trans hi) ((lI u).trans hs) ht
 show leK κ (.agg m [.arr a es (dI a fun j => con (f j)),con t,.arr b es (dI b fun j => con (g j))]) (.arr (a + (1 + b)) es (dI (a + (1 + b)) fun j => con (h j)))
 rw [aEN (n:=a + (1 + b)) (i:=a) (by omega),show a + (1 + b) - a - 1 = b by omega,← h2,← kJ h1,← kJ h3]
 exact this
theorem aV8 {α : Type} [Inhabited α] {κ : Nat → Option Nat} {es n : Nat} {f : Nat → XV} {en : α → XV} {l r : List α} (hn : n = l.length + r.length) (h1 : ∀ i,i < l.length → con (f i) = con (en (ix l i))) (h2 : ∀ i,i < r.length → con (f (l.length + i)) = con (en (ix r i))) : leK κ (con (.tab n es f)) (con (.tab (l ++ r).length es (fun i => en (ix (l ++ r) i)))):=by
 rw [List.length_append,← hn]
 refine a3X fun i hi => ?_
 rw [gO]
 by_cases hlt : i < l.length
 ·rw [if_pos hlt];exact h1 i hlt
 ·rw [if_neg hlt,← h2 _ (by omega),show l.length + (i - l.length) = i by omega]
def aEO (L : List Nat) (σ : XSt) : List (Nat × Option XV) → Prop
 | [] => True
 |(_,none) :: r => aEO L σ r
 |(j,some t') :: r => inL j L = false ∧ (match iX σ.hl j with | some t => leF L σ.st (con t) (con t') | none => False) ∧ aEO L σ r
theorem rJ {L : List Nat} {σ : XSt} {j : Nat} : ∀ {l : List (Nat × Option XV)},aEO L σ l → look (hO l) (fun _ => none) j = none ∨ (j ∉ L ∧ ∃ t t',look (hO σ.hl) (fun _ => none) j = some t ∧ look (hO l) (fun _ => none) j = some t' ∧ leF L σ.st t t')
 | [],_ => .inl rfl
 |(k,v) :: r,h => by
  show (if j = k then v.map con else look (hO r) (fun _ => none) j) = none ∨ (j ∉ L ∧ ∃ t t',look (hO σ.hl) (fun _ => none) j = some t ∧ (if j = k then v.map con else look (hO r) (fun _ => none) j) = some t' ∧ leF L σ.st t t')
  by_cases hk : j = k
  ·subst hk
   simp only [if_true]
   cases v with
   | none => exact .inl rfl
   | some t' =>
    obtain ⟨h1,h2,h3⟩:=h
    cases hl : iX σ.hl j with
    | none => rw [hl] at h2;exact h2.elim
    | some t =>
     rw [hl] at h2
     refine .inr ⟨fun hj => ?_,con t,con t', ?_,rfl,h2⟩
     ·rw [aCZ.2 hj] at h1;cases h1
     ·rw [n0,hl];rfl
  ·simp only [if_neg hk]
   cases v with
   | none => exact rJ (l:=r) h
   | some t' => exact rJ (l:=r) h.2.2
theorem aV9 {L : List Nat} {σ τ : XSt} (hn : τ.n = σ.n) (he : τ.env = σ.env) (hh : aEO L σ τ.hl) : aRX σ.st τ.st:=by
 refine ⟨L,hn,fun t => ?_,fun j => rJ hh⟩
 show leF L σ.st (get (dW σ.env) t) (get (dW τ.env) t)
 rw [he];exact .same
theorem kL {σ : XSt} {L : List Nat} {id es n : Nat} {f : Nat → XV} (hin : inL id L = true) (hl : iX σ.hl id = some (.tab n es f)) : leF L σ.st (con (.sl id [] 0 0 n es)) (con (.row false es n f)):=by
 have hr : aF0 σ.hl es (.sl id [] 0 0 n es) = some ([Nat.beq 0 (pl 0 (0 * es)),decide (pl 0 n ≤ n)],n,fun i => f (pl 0 i)):=by
  simp only [aF0,hl,atx,zaQ,zaS,zaB]
 have h:=mX (σ:=σ.st) (wU σ) hr (by
  intro b hb
  simp only [List.mem_cons,List.not_mem_nil,or_false] at hb
  rcases hb with rfl | rfl
  ·simp [cB]
  ·simp [cB])
 have e : (fun i => con (f (pl 0 i))) = fun i => con (f i):=by funext i;rw [cB,Nat.zero_add]
 rw [e] at h
 exact .fz (aCZ.1 hin) h
theorem vC {i k : Nat} : Nat.beq i k = decide (i = k):=by
 by_cases h : i = k
 ·subst h;simp
 ·rw [gT h];simp [h]
theorem g1 (b : Bool) : (bif b then true else !b) = true:=by cases b <;> rfl
theorem g2 (b : Bool) : (bif b then b else true) = true:=by cases b <;> rfl
theorem g3 (p z : Bool) : (bif (bif p then (bif !z then p else false) else true) then true else !!z) = true:=by cases p <;> cases z <;> rfl
theorem g4 (z : Bool) : (bif (bif !z then true else false) then true else !!z) = true:=by cases z <;> rfl
theorem g5 (z : Bool) : (bif z then true else !!!z) = true:=by cases z <;> rfl
theorem g6 (z : Bool) : (bif !!z then true else !z) = true:=by cases z <;> rfl
theorem g7 (p z : Bool) : (bif (bif p then (bif z then p else false) else true) then true else !z) = true:=by cases p <;> cases z <;> rfl
theorem qC (a b : Bool) : (bif a then b else false) = (a && b):=by cases a <;> rfl
theorem bor (a b : Bool) : (bif a then true else b) = (a || b):=by cases a <;> rfl
def bF (n : Int) : XV:=.int .i64 n
def cU (n : Int) : XV:=.int .u32 n
def kM (n : Int) : XV:=.int .u8 n
def cJ (b : Bool) : XV:=.bool b
def aB {α : Type} [Inhabited α] (es : Nat) (en : α → XV) (l : List α) : XV:=.row false es l.length (fun i => en (ix l i))
structure Slot where
 tag : Int
 full : Bool
 val : Int
 deriving Inhabited,DecidableEq
structure Entry where
 addr : Int
 size : Int
 step : Int
 known : Bool
 val : Int
 deriving Inhabited,DecidableEq
structure Req where
 store : Bool
 op : Int
 addr : Int
 size : Int
 val : Int
 left : Int
 reg : Int
 tag : Int
 deriving Inhabited,DecidableEq
structure Wr where
 addr : Int
 size : Int
 val : Int
 deriving Inhabited,DecidableEq
structure Pos where
 block : Int
 index : Int
 base : Int
 deriving Inhabited,DecidableEq
structure Trp where
 kind : Int
 step : Int
 pc : Int
 deriving Inhabited,DecidableEq
structure cM where
 oW : Nat → Int
 ready : Nat → Int
 pos : Pos
 wait : Int
 halted : Bool
 done : Int
 deriving Inhabited
structure Stt where
 aG : Int
 a : cM
 e : cM
 ldq : List Slot
 sdq : List Int
 aeq : List Int
 abq : List Bool
 ebq : List Bool
 saq : List Entry
 table : List Req
 mem : List Int
 writes : List Wr
 bP : Trp
 dN : Int
 cF : Int
 tags : Int
 deriving Inhabited
structure Cfg where
 ldq : Int
 sdq : Int
 aeq : Int
 abq : Int
 ebq : Int
 saq : Int
 dA : Int
 cA : Int
 nI : Int
 lat : Int
 mul : Int
 div : Int
 deriving Inhabited,DecidableEq
structure bG where
 dN : List Int
 cF : List Int
 deriving Inhabited,DecidableEq
structure Ins where
 op : Int
 d : Int
 a : Int
 b : Int
 imm : Int
 deriving Inhabited,DecidableEq
structure Cell where
 kind : Int
 ins : Ins
 reg : Int
 pc : Int
 off : Int
 deriving Inhabited,DecidableEq
structure Block where
 src : Int
 dst : Int
 next : Int
 taken : Int
 a : List Cell
 e : List Cell
 deriving Inhabited,DecidableEq
structure Split where
 blocks : List Block
 owner : Nat → Int
 deriving Inhabited
structure Prog where
 code : List Ins
 size : Int
 data : List Int
 deriving Inhabited,DecidableEq
structure bDT where
 fin : Int
 bP : Trp
 steps : Int
 oW : Nat → Int
 mem : List Int
 writes : List Wr
 deriving Inhabited
def cN (s : Slot) : XV:=.agg 3 [.int .i64 s.tag,.bool s.full,.int .u32 s.val]
def bW (s : Entry) : XV:=.agg 5 [.int .i64 s.addr,.int .i64 s.size,.int .i64 s.step,.bool s.known,.int .u32 s.val]
def dK (r : Req) : XV:=.agg 8 [.bool r.store,.int .i64 r.op,.int .i64 r.addr,.int .i64 r.size,.int .u32 r.val,.int .i64 r.left,.int .i64 r.reg,.int .i64 r.tag]
def oX (w : Wr) : XV:=.agg 3 [.int .i64 w.addr,.int .i64 w.size,.int .u32 w.val]
def dH (p : Pos) : XV:=.agg 3 [.int .i64 p.block,.int .i64 p.index,.int .i64 p.base]
def oH (t : Trp) : XV:=.agg 3 [.int .i64 t.kind,.int .i64 t.step,.int .i64 t.pc]
def aR (s : cM) : XV:=.agg 38 [.tab 16 1 (fun i => .int .u32 (s.oW i)),.tab 16 1 (fun i => .int .i64 (s.ready i)),dH s.pos,.int .i64 s.wait,.bool s.halted,.int .i64 s.done]
def aO (s : Stt) : XV:=.agg 92 [.int .i64 s.aG,aR s.a,aR s.e,aB 3 cN s.ldq,aB 1 cU s.sdq,aB 1 cU s.aeq,aB 1 cJ s.abq,aB 1 cJ s.ebq,aB 5 bW s.saq,aB 8 dK s.table,aB 1 kM s.mem,aB 3 oX s.writes,oH s.bP,.int .i64 s.dN,.int .i64 s.cF,.int .i64 s.tags]
def aU (c : Cfg) : XV:=.agg 12 [.int .i64 c.ldq,.int .i64 c.sdq,.int .i64 c.aeq,.int .i64 c.abq,.int .i64 c.ebq,.int .i64 c.saq,.int .i64 c.dA,.int .i64 c.cA,.int .i64 c.nI,.int .i64 c.lat,.int .i64 c.mul,.int .i64 c.div]
def bI (s : bG) : XV:=.agg 2 [aB 1 bF s.dN,aB 1 bF s.cF]
def aZ (i : Ins) : XV:=.agg 5 [.int .i64 i.op,.int .i64 i.d,.int .i64 i.a,.int .i64 i.b,.int .i64 i.imm]
def cX (c : Cell) : XV:=.agg 9 [.int .i64 c.kind,aZ c.ins,.int .i64 c.reg,.int .i64 c.pc,.int .i64 c.off]
def aQM (b : Block) : XV:=.agg 6 [.int .i64 b.src,.int .i64 b.dst,.int .i64 b.next,.int .i64 b.taken,aB 9 cX b.a,aB 9 cX b.e]
def aH (s : Split) : XV:=.agg 17 [aB 6 aQM s.blocks,.tab 16 1 (fun i => .int .i64 (s.owner i))]
def aL (p : Prog) : XV:=.agg 3 [aB 5 aZ p.code,.int .i64 p.size,aB 1 kM p.data]
theorem aWA {α : Type} [Inhabited α] {es : Nat} {en : α → XV} {l : List α} : con (aB es en l) = .fro false es (l.map fun x => con (en x)):=by
 show AV.fro false es (dI l.length fun i => con (en (ix l i))) = _
 congr 1
 have : (dI l.length fun i => con (en (ix l i))) = (dI l.length (ix l)).map fun x => con (en x):=by simp [dI]
 rw [this,a0E]
theorem gH {α : Type} [Inhabited α] {x : Bool} {e es n : Nat} {f : Nat → XV} {en : α → XV} {l : List α} (hn : n = l.length) (he : es = e ∨ n = 0) (h : ∀ i,i < n → leQ (con (f i)) (con (en (ix l i)))) : leQ (con (.row x e n f)) (con (aB es en l)):=aI0 hn he h
theorem cQ {α : Type} [Inhabited α] {x : Bool} {e es : Nat} {f : Nat → XV} {en : α → XV} : leQ (con (.row x e 0 f)) (con (aB es en [])):=gH rfl (.inr rfl) fun j hj => absurd hj (Nat.not_lt_zero _)
theorem c0 {α : Type} [Inhabited α] {x : Bool} {es : Nat} {f : Nat → XV} {en : α → XV} {a : α} (h : leQ (con (f 0)) (con (en a))) : leQ (con (.row x es 1 f)) (con (aB es en [a])):=gH rfl (.inl rfl) fun j hj => by
 obtain rfl : j = 0:=by omega
 exact h
theorem dC {α : Type} [Inhabited α] {x : Bool} {es : Nat} {f : Nat → XV} {en : α → XV} {a b : α} (h : leQ (con (f 0)) (con (en a))) (h2 : leQ (con (f 1)) (con (en b))) : leQ (con (.row x es 2 f)) (con (aB es en [a,b])):=gH rfl (.inl rfl) fun j hj => by
 rcases (by omega : j = 0 ∨ j = 1) with rfl | rfl
 ·exact h
 ·exact h2
theorem dF {α : Type} [Inhabited α] {x : Bool} {es : Nat} {f : Nat → XV} {en : α → XV} {a b c : α} (h : leQ (con (f 0)) (con (en a))) (h2 : leQ (con (f 1)) (con (en b))) (h3 : leQ (con (f 2)) (con (en c))) : leQ (con (.row x es 3 f)) (con (aB es en [a,b,c])):=gH rfl (.inl rfl) fun j hj => by
 rcases (by omega : j = 0 ∨ j = 1 ∨ j = 2) with rfl | rfl | rfl
 ·exact h
 ·exact h2
 ·exact h3
def bZ (n : Int) : Prop:=-9223372036854775808 ≤ n ∧ n ≤ 9223372036854775807
def j9 (n : Int) : Prop:=0 ≤ n ∧ n ≤ 4294967295
def u8R (n : Int) : Prop:=0 ≤ n ∧ n ≤ 255
theorem aC1 {α : Type} [Inhabited α] {es bytes : Nat} {T : Ty} {a : AV} {en : α → XV} {wf : α → Prop} (ho : ∀ b,T.has b → ∃ x,b = con (en x) ∧ wf x) (h : (Ty.slice es bytes T).has a) : ∃ l : List α,a = con (aB es en l) ∧ (∀ x ∈ l,wf x) ∧ l.length * bytes ≤ 140737488351232:=by
 simp only [Ty.has] at h
 obtain ⟨ts,rfl,h1,h2⟩:=h
 have key : ∀ us : List AV,(∀ t ∈ us,T.has t) → ∃ l : List α,us = l.map (fun x => con (en x)) ∧ ∀ x ∈ l,wf x:=by
  intro us
  induction us with
  | nil => exact fun _ => ⟨[],rfl,fun x hx => by cases hx⟩
  | cons u us ih =>
   intro hu
   obtain ⟨x,h3,h4⟩:=ho u (hu u (by simp))
   obtain ⟨l,h5,h6⟩:=ih fun t ht => hu t (by simp [ht])
   refine ⟨x :: l,by rw [h3,h5];rfl,fun y hy => ?_⟩
   rcases List.mem_cons.1 hy with rfl | hy
   ·exact h4
   ·exact h6 y hy
 obtain ⟨l,h3,h4⟩:=key ts h2
 refine ⟨l,by rw [aWA,h3],h4, ?_⟩
 rw [h3] at h1
 simpa using h1
theorem has_i64' (a : AV) (h : (Ty.int .i64).has a) : ∃ n,a = con (.int .i64 n) ∧ bZ n:=by
 have h1:=a0B h
 simp only [Ty.has] at h
 obtain ⟨n,rfl,_⟩:=h
 exact ⟨n,rfl,h1⟩
theorem has_u8' (a : AV) (h : (Ty.int .u8).has a) : ∃ n,a = con (.int .u8 n) ∧ u8R n:=by
 have h1:=a5Y h
 simp only [Ty.has] at h
 obtain ⟨n,rfl,_⟩:=h
 exact ⟨n,rfl,h1⟩
def Slot.wf (s : Slot) : Prop:=bZ s.tag ∧ j9 s.val
def Entry.wf (s : Entry) : Prop:=bZ s.addr ∧ bZ s.size ∧ bZ s.step ∧ j9 s.val
def Req.wf (s : Req) : Prop:=bZ s.op ∧ bZ s.addr ∧ bZ s.size ∧ j9 s.val ∧ bZ s.left ∧ bZ s.reg ∧ bZ s.tag
def Wr.wf (s : Wr) : Prop:=bZ s.addr ∧ bZ s.size ∧ j9 s.val
def Pos.wf (s : Pos) : Prop:=bZ s.block ∧ bZ s.index ∧ bZ s.base
def Trp.wf (s : Trp) : Prop:=bZ s.kind ∧ bZ s.step ∧ bZ s.pc
def cM.wf (s : cM) : Prop:=(∀ i,i < 16 → j9 (s.oW i)) ∧ (∀ i,i < 16 → bZ (s.ready i)) ∧ s.pos.wf ∧ bZ s.wait ∧ bZ s.done
def Stt.wf (s : Stt) : Prop:=bZ s.aG ∧ s.a.wf ∧ s.e.wf ∧ ((∀ x ∈ s.ldq,x.wf) ∧ s.ldq.length * 16 ≤ 140737488351232) ∧ ((∀ x ∈ s.sdq,j9 x) ∧ s.sdq.length * 4 ≤ 140737488351232) ∧ ((∀ x ∈ s.aeq,j9 x) ∧ s.aeq.length * 4 ≤ 140737488351232) ∧ ((∀ x ∈ s.abq,True) ∧ s.abq.length * 1 ≤ 140737488351232) ∧ ((∀ x ∈ s.ebq,True) ∧ s.ebq.length * 1 ≤ 140737488351232) ∧ ((∀ x ∈ s.saq,x.wf) ∧ s.saq.length * 32 ≤ 140737488351232) ∧ ((∀ x ∈ s.table,x.wf) ∧ s.table.length * 64 ≤ 140737488351232) ∧ ((∀ x ∈ s.mem,u8R x) ∧ s.mem.length * 1 ≤ 140737488351232) ∧ ((∀ x ∈ s.writes,x.wf) ∧ s.writes.length * 24 ≤ 140737488351232) ∧ s.bP.wf ∧ bZ s.dN ∧ bZ s.cF ∧ bZ s.tags
def aWB : Ty:=.agg 12 [.int .i64,.int .i64,.int .i64,.int .i64,.int .i64,.int .i64,.int .i64,.int .i64,.int .i64,.int .i64,.int .i64,.int .i64]
def Cfg.wf (s : Cfg) : Prop:=bZ s.ldq ∧ bZ s.sdq ∧ bZ s.aeq ∧ bZ s.abq ∧ bZ s.ebq ∧ bZ s.saq ∧ bZ s.dA ∧ bZ s.cA ∧ bZ s.nI ∧ bZ s.lat ∧ bZ s.mul ∧ bZ s.div
theorem a0H (a : AV) (h : aWB.has a) : ∃ s : Cfg,a = con (aU s) ∧ s.wf:=by
 simp only [aWB,Ty.has,Ty.aD3] at h
 obtain ⟨_,rfl,h⟩:=h
 obtain ⟨a0,_,rfl,h0,h⟩:=h
 obtain ⟨a1,_,rfl,h1,h⟩:=h
 obtain ⟨a2,_,rfl,h2,h⟩:=h
 obtain ⟨a3,_,rfl,h3,h⟩:=h
 obtain ⟨a4,_,rfl,h4,h⟩:=h
 obtain ⟨a5,_,rfl,h5,h⟩:=h
 obtain ⟨a6,_,rfl,h6,h⟩:=h
 obtain ⟨a7,_,rfl,h7,h⟩:=h
 obtain ⟨a8,_,rfl,h8,h⟩:=h
 obtain ⟨a9,_,rfl,h9,h⟩:=h
 obtain ⟨a10,_,rfl,h10,h⟩:=h
 obtain ⟨a11,_,rfl,h11,h⟩:=h
 subst h
 obtain ⟨x0,rfl,w0⟩:=has_i64' _ (by simp only [Ty.has];exact h0)
 obtain ⟨x1,rfl,w1⟩:=has_i64' _ (by simp only [Ty.has];exact h1)
 obtain ⟨x2,rfl,w2⟩:=has_i64' _ (by simp only [Ty.has];exact h2)
 obtain ⟨x3,rfl,w3⟩:=has_i64' _ (by simp only [Ty.has];exact h3)
 obtain ⟨x4,rfl,w4⟩:=has_i64' _ (by simp only [Ty.has];exact h4)
 obtain ⟨x5,rfl,w5⟩:=has_i64' _ (by simp only [Ty.has];exact h5)
 obtain ⟨x6,rfl,w6⟩:=has_i64' _ (by simp only [Ty.has];exact h6)
 obtain ⟨x7,rfl,w7⟩:=has_i64' _ (by simp only [Ty.has];exact h7)
 obtain ⟨x8,rfl,w8⟩:=has_i64' _ (by simp only [Ty.has];exact h8)
 obtain ⟨x9,rfl,w9⟩:=has_i64' _ (by simp only [Ty.has];exact h9)
 obtain ⟨x10,rfl,w10⟩:=has_i64' _ (by simp only [Ty.has];exact h10)
 obtain ⟨x11,rfl,w11⟩:=has_i64' _ (by simp only [Ty.has];exact h11)
 exact ⟨⟨x0,x1,x2,x3,x4,x5,x6,x7,x8,x9,x10,x11⟩,rfl,⟨w0,w1,w2,w3,w4,w5,w6,w7,w8,w9,w10,w11⟩⟩
def aEP : Ty:=.agg 2 [.slice 1 8 (.int .i64),.slice 1 8 (.int .i64)]
def bG.wf (s : bG) : Prop:=((∀ x ∈ s.dN,bZ x) ∧ s.dN.length * 8 ≤ 140737488351232) ∧ ((∀ x ∈ s.cF,bZ x) ∧ s.cF.length * 8 ≤ 140737488351232)
theorem aON (a : AV) (h : aEP.has a) : ∃ s : bG,a = con (bI s) ∧ s.wf:=by
 simp only [aEP,Ty.has,Ty.aD3] at h
 obtain ⟨_,rfl,h⟩:=h
 obtain ⟨a0,_,rfl,h0,h⟩:=h
 obtain ⟨a1,_,rfl,h1,h⟩:=h
 subst h
 obtain ⟨x0,rfl,w0⟩:=aC1 (en:=bF) (wf:=bZ) has_i64' (by simp only [Ty.has];exact h0)
 obtain ⟨x1,rfl,w1⟩:=aC1 (en:=bF) (wf:=bZ) has_i64' (by simp only [Ty.has];exact h1)
 exact ⟨⟨x0,x1⟩,rfl,⟨w0,w1⟩⟩
def aWC : Ty:=.agg 5 [.int .i64,.int .i64,.int .i64,.int .i64,.int .i64]
def Ins.wf (s : Ins) : Prop:=bZ s.op ∧ bZ s.d ∧ bZ s.a ∧ bZ s.b ∧ bZ s.imm
theorem a0I (a : AV) (h : aWC.has a) : ∃ s : Ins,a = con (aZ s) ∧ s.wf:=by
 simp only [aWC,Ty.has,Ty.aD3] at h
 obtain ⟨_,rfl,h⟩:=h
 obtain ⟨a0,_,rfl,h0,h⟩:=h
 obtain ⟨a1,_,rfl,h1,h⟩:=h
 obtain ⟨a2,_,rfl,h2,h⟩:=h
 obtain ⟨a3,_,rfl,h3,h⟩:=h
 obtain ⟨a4,_,rfl,h4,h⟩:=h
 subst h
 obtain ⟨x0,rfl,w0⟩:=has_i64' _ (by simp only [Ty.has];exact h0)
 obtain ⟨x1,rfl,w1⟩:=has_i64' _ (by simp only [Ty.has];exact h1)
 obtain ⟨x2,rfl,w2⟩:=has_i64' _ (by simp only [Ty.has];exact h2)
 obtain ⟨x3,rfl,w3⟩:=has_i64' _ (by simp only [Ty.has];exact h3)
 obtain ⟨x4,rfl,w4⟩:=has_i64' _ (by simp only [Ty.has];exact h4)
 exact ⟨⟨x0,x1,x2,x3,x4⟩,rfl,⟨w0,w1,w2,w3,w4⟩⟩
def Cell.wf (s : Cell) : Prop:=bZ s.kind ∧ s.ins.wf ∧ bZ s.reg ∧ bZ s.pc ∧ bZ s.off
def Block.wf (s : Block) : Prop:=bZ s.src ∧ bZ s.dst ∧ bZ s.next ∧ bZ s.taken ∧ ((∀ x ∈ s.a,x.wf) ∧ s.a.length * 72 ≤ 140737488351232) ∧ ((∀ x ∈ s.e,x.wf) ∧ s.e.length * 72 ≤ 140737488351232)
def Split.wf (s : Split) : Prop:=((∀ x ∈ s.blocks,x.wf) ∧ s.blocks.length * 80 ≤ 140737488351232) ∧ (∀ i,i < 16 → bZ (s.owner i))
def aOO : Ty:=.agg 3 [.slice 5 40 aWC,.int .i64,.slice 1 1 (.int .u8)]
def Prog.wf (s : Prog) : Prop:=((∀ x ∈ s.code,x.wf) ∧ s.code.length * 40 ≤ 140737488351232) ∧ bZ s.size ∧ ((∀ x ∈ s.data,u8R x) ∧ s.data.length * 1 ≤ 140737488351232)
theorem aWD (a : AV) (h : aOO.has a) : ∃ s : Prog,a = con (aL s) ∧ s.wf:=by
 simp only [aOO,Ty.has,Ty.aD3] at h
 obtain ⟨_,rfl,h⟩:=h
 obtain ⟨a0,_,rfl,h0,h⟩:=h
 obtain ⟨a1,_,rfl,h1,h⟩:=h
 obtain ⟨a2,_,rfl,h2,h⟩:=h
 subst h
 obtain ⟨x0,rfl,w0⟩:=aC1 (en:=aZ) (wf:=Ins.wf) a0I (by simp only [Ty.has];exact h0)
 obtain ⟨x1,rfl,w1⟩:=has_i64' _ (by simp only [Ty.has];exact h1)
 obtain ⟨x2,rfl,w2⟩:=aC1 (en:=kM) (wf:=u8R) has_u8' (by simp only [Ty.has];exact h2)
 exact ⟨⟨x0,x1,x2⟩,rfl,⟨w0,w1,w2⟩⟩
def Stt.ok (s : Stt) : Prop:=s.wf ∧ s.ldq.length ≤ 1000000 ∧ s.sdq.length ≤ 1000000 ∧ s.aeq.length ≤ 1000000 ∧ s.abq.length ≤ 1000000 ∧ s.ebq.length ≤ 1000000 ∧ s.saq.length ≤ 1000000 ∧ s.table.length ≤ 1000000 ∧ s.mem.length ≤ 1000000 ∧ s.writes.length ≤ 1000000
end Go.Ra
noncomputable section
namespace Go.Proofs.Ytooojfbfobmkfaa
open Go.Ra
set_option linter.unusedVariables false
set_option linter.unusedSimpArgs false
def TR0 : Tab:=mkT qq gG [] []
def aI (op : Int) : Int:=if op < 1 ∨ op > 41 then 0 else if op ≤ 16 then 1 else if op ≤ 24 then 2 else if op = 25 then 3 else if op ≤ 30 then 4 else if op ≤ 33 then 5 else if op ≤ 39 then 6 else if op = 40 then 7 else 8
def kN : List XV → Option (List Bool × XV)
 | [.int .i64 op] => some ([],.int .i64 (aI op))
 | _ => none
def aI1 (f : Int) : Bool:=decide (f = 1 ∨ f = 2 ∨ f = 3 ∨ f = 4)
def mL (f : Int) : Bool:=decide (f = 1 ∨ f = 2 ∨ f = 4 ∨ f = 5 ∨ f = 6)
def hasB (f : Int) : Bool:=decide (f = 1 ∨ f = 5 ∨ f = 6)
def aBL (f : Int) : Bool:=decide (f = 2 ∨ f = 3 ∨ f = 4 ∨ f = 5 ∨ f = 6 ∨ f = 7)
def aLY : List XV → Option (List Bool × XV)
 | [.int .i64 f] => some ([],.tup [.bool (aI1 f),.bool (mL f),.bool (hasB f),.bool (aBL f)])
 | _ => none
def vP (n : Int) (t : Bool) : Bool:=decide (n = 0) || (t && (decide (n > 0) && decide (n ≤ 15)))
def aWE : List XV → Option (List Bool × XV)
 | [.int .i64 n,.bool t] => some ([],.bool (vP n t))
 | _ => none
def TR1 : Tab:=mkT qq gG [(67,kN),(81,aLY),(82,aWE)] []
def cT (i : Ins) : Bool:=decide (¬ aI i.op = 0) && (vP i.d (aI1 (aI i.op)) && (vP i.a (mL (aI i.op)) && (vP i.b (hasB (aI i.op)) && ((aBL (aI i.op) || decide (i.imm = 0)) && (if i.op = 22 ∨ i.op = 23 ∨ i.op = 24 then decide (0 ≤ i.imm ∧ i.imm ≤ 31) else decide (-8192 ≤ i.imm ∧ i.imm ≤ 8191))))))
def aCQ : List XV → Option (List Bool × XV)
 | [.agg 5 [.int .i64 op,.int .i64 d,.int .i64 a,.int .i64 b,.int .i64 m]] => some ([],.bool (cT ⟨op,d,a,b,m⟩))
 | _ => none
theorem aWF : bX Try.prog TR0:=pT eC trivial trivial
theorem a52 (a : Int) (K : XV → Prop) : (aQ TR0 80 (bT TR0 80 20) 67 [.int .i64 a] K) = (
 letI q1 : Bool:=decide (a < 1);bif bif q1 then true else !q1 then bif bif q1 then true else decide (a > 41) then K (.int .i64 0) else bif decide (a ≤ 16) then K (.int .i64 1) else
  bif decide (a ≤ 24) then K (.int .i64 2) else bif decide (a = 25) then K (.int .i64 3) else bif decide (a ≤ 30) then K (.int .i64 4) else bif decide (a ≤ 33) then K (.int .i64 5) else
  bif decide (a ≤ 39) then K (.int .i64 6) else bif decide (a = 40) then K (.int .i64 7) else K (.int .i64 8) else False):=by kernel_rfl
theorem a9J (a : Int) (K : XV → Prop) : (aQ TR0 80 (bT TR0 80 20) 81 [.int .i64 a] K) = (
 letI q1 : Bool:=decide (a = 2);
 letI q2 : XV:=.tup [.bool true,.bool true,.bool false,.bool true];
 letI q3 : Bool:=decide (a = 3);
 letI q4 : List XV:=[.bool false,.bool false,.bool true];
 letI q5 : XV:=.tup (.bool true :: q4);
 letI q6 : Bool:=decide (a = 5);
 letI q7 : XV:=.tup [.bool false,.bool true,.bool true,.bool true];
 letI q8 : Bool:=decide (a = 7);
 letI q9 : XV:=.tup (.bool false :: q4);
 letI q10 : XV:=.tup [.bool false,.bool false,.bool false,.bool false];
 letI q11 : Bool:=decide (a = 6);bif decide (a = 1) then K (.tup [.bool true,.bool true,.bool true,.bool false]) else bif q1 then bif q1 then K q2 else bif q3 then K q5 else bif
  q6 then bif q6 then K q7 else bif q8 then K q9 else K q10 else bif q11 then K q7 else bif q8 then K q9 else K q10 else bif decide (a = 4) then K q2 else bif q3 then K q5 else bif q6
  then bif q6 then K q7 else bif q8 then K q9 else K q10 else bif q11 then K q7 else bif q8 then K q9 else K q10):=by kernel_rfl
theorem a9K (a : Int) (t : Bool) (K : XV → Prop) : (aQ TR0 80 (bT TR0 80 20) 82 [.int .i64 a,.bool t] K) = (
 letI q1 : Bool:=decide (a = 0);
 letI q2 : Bool:=!q1;
 letI q3 : Bool:=!q2;
 letI q4 : Bool:=bif q2 then true else q3;
 letI q5 : Bool:=bif t then decide (a > 0) else false;bif q4 then bif bif bif t then bif q2 then t else false else true then true else q3 then bif q4 then bif bif bif q5 then bif
  q2 then q5 else false else true then true else q3 then bif bif q1 then true else q2 then K (.bool (bif q1 then true else bif q5 then decide (a ≤ 15) else false)) else False else False
  else False else False else False):=by kernel_rfl
theorem bC6 (i : Ins) (K : XV → Prop) : (aQ TR1 80 (bT TR1 80 20) 33 [aZ i] K) = (
 letI q1 : Bool:=decide (aI i.op = 0);
 letI q2 : Bool:=bif q1 then true else !vP i.d (aI1 (aI i.op));
 letI q3 : Bool:=bif q2 then true else !vP i.a (mL (aI i.op));
 letI q4 : Bool:=bif q3 then true else !vP i.b (hasB (aI i.op));
 letI q5 : Bool:=!q4;
 letI q6 : Bool:=!q5;
 letI q7 : Bool:=decide (i.op = 22);
 letI q8 : Bool:=bif q7 then true else decide (i.op = 23);
 letI q9 : Bool:=decide (i.imm ≥ 0);
 letI q10 : Bool:=decide (i.imm ≥ (-8192 : Int));bif bif q1 then true else !q1 then bif bif q2 then true else !q2 then bif bif q3 then true else !q3 then bif bif q5 then true else
  q6 then bif bif bif !aBL (aI i.op) then bif q5 then !aBL (aI i.op) else false else true then true else q6 then bif bif q4 then true else q5 then bif bif q4 then true else bif
  !aBL (aI i.op) then decide ¬i.imm = 0 else false then K (.bool false) else bif bif q7 then true else !q7 then bif bif q8 then true else !q8 then bif bif q8 then true else decide
  (i.op = 24) then bif bif q9 then q9 else true then K (.bool (bif q9 then decide (i.imm ≤ 31) else false)) else False else bif bif q10 then q10 else true then K (.bool (bif q10 then
  decide (i.imm ≤ 8191) else false)) else False else False else False else False else False else False else False else False else False):=by kernel_rfl
theorem jR : oV Try.prog (67,kN):=by
 intro args nd v ha hn
 simp only [kN] at ha
 split at ha <;> simp only [zaA,zaJ,reduceCtorEq] at ha
 obtain ⟨hnd,rfl⟩:=ha
 clear hnd hn
 rename_i a
 refine fL (u:=80) (k:=20) mix aWF ?_
 rw [a52]
 unfold aI
 simp only [g1,g2,g3,g4,g5,g6,g7,aD,zaB,zaF,zaC,cB]
 by_cases h0 : a < 1 ∨ a > 41
 ·rw [if_pos h0]
  rcases h0 with h | h <;> simp [h]
 ·rw [if_neg h0]
  have h1 : ¬ a < 1:=fun h => h0 (.inl h)
  have h2 : ¬ a > 41:=fun h => h0 (.inr h)
  simp only [h1,h2,zaE,zaD]
  by_cases h3 : a ≤ 16
  ·simp [h3]
  by_cases h4 : a ≤ 24
  ·simp [h3,h4]
  by_cases h5 : a = 25
  ·simp [h5]
  by_cases h6 : a ≤ 30
  ·simp [h3,h4,h5,h6]
  by_cases h7 : a ≤ 33
  ·simp [h3,h4,h5,h6,h7]
  by_cases h8 : a ≤ 39
  ·simp [h3,h4,h5,h6,h7,h8]
  by_cases h9 : a = 40
  ·simp [h9]
  simp [h3,h4,h5,h6,h7,h8,h9]
theorem aOP : oV Try.prog (81,aLY):=by
 intro args nd v ha hn
 simp only [aLY] at ha
 split at ha <;> simp only [zaA,zaJ,reduceCtorEq] at ha
 obtain ⟨hnd,rfl⟩:=ha
 clear hnd hn
 rename_i a
 refine fL (u:=80) (k:=20) mix aWF ?_
 rw [a9J]
 unfold aI1 mL hasB aBL
 by_cases h1 : a = 1
 ·subst h1;simp
 by_cases h2 : a = 2
 ·subst h2;simp
 by_cases h3 : a = 3
 ·subst h3;simp
 by_cases h4 : a = 4
 ·subst h4;simp
 by_cases h5 : a = 5
 ·subst h5;simp
 by_cases h6 : a = 6
 ·subst h6;simp
 by_cases h7 : a = 7
 ·subst h7;simp
 simp [h1,h2,h3,h4,h5,h6,h7]
theorem a53 : oV Try.prog (82,aWE):=by
 intro args nd v ha hn
 simp only [aWE] at ha
 split at ha <;> simp only [zaA,zaJ,reduceCtorEq] at ha
 obtain ⟨hnd,rfl⟩:=ha
 clear hnd hn
 rename_i a t
 refine fL (u:=80) (k:=20) mix aWF ?_
 rw [a9K]
 simp only [g1,g2,g3,g4,g5,g6,g7,aD,zaB,zaF,zaC,cB]
 refine aLT ?_
 unfold vP
 simp only [qC,bor,Bool.and_assoc]
theorem a9L : bX Try.prog TR1:=pT eC ⟨jR,aOP,a53,trivial⟩ trivial
theorem aHJ : oV Try.prog (33,aCQ):=by
 intro args nd v ha hn
 simp only [aCQ] at ha
 split at ha <;> simp only [zaA,zaJ,reduceCtorEq] at ha
 obtain ⟨hnd,rfl⟩:=ha
 clear hnd hn
 rename_i op d a b m
 refine fL (u:=80) (k:=20) mix a9L ?_
 refine Eq.mpr (bC6 ⟨op,d,a,b,m⟩ _) ?_
 simp only [g1,g2,g3,g4,g5,g6,g7,aD,zaB,zaF,zaC,cB]
 unfold cT
 dsimp only
 generalize aI op = f
 by_cases h0 : f = 0
 ·simp [h0]
 cases h1 : vP d (aI1 f) with
 | false => simp [h0,h1]
 | true =>
 cases h2 : vP a (mL f) with
 | false => simp [h0,h1,h2]
 | true =>
 cases h3 : vP b (hasB f) with
 | false => simp [h0,h1,h2,h3]
 | true =>
 have e : (bif !aBL f then decide (¬ m = 0) else false) = !(aBL f || decide (m = 0)):=by cases aBL f <;> by_cases h : m = 0 <;> simp [h]
 simp only [h0,h1,h2,h3,e,zaE,zaD,zaI,zaM,zaC,zaR]
 cases h4 : (aBL f || decide (m = 0)) with
 | false => simp [h4]
 | true =>
  simp only [zaI,zaD,zaR]
  simp only [bor,qC]
  have e2 : (decide (op = 22) || decide (op = 23) || decide (op = 24)) = decide (op = 22 ∨ op = 23 ∨ op = 24):=by simp [Bool.or_assoc]
  rw [e2]
  by_cases h5 : op = 22 ∨ op = 23 ∨ op = 24
  ·rw [decide_eq_true h5,zaB,if_pos h5]
   refine aLT ?_
   rw [Bool.eq_iff_iff];simp
  ·rw [decide_eq_false h5,zaD,if_neg h5]
   refine aLT ?_
   rw [Bool.eq_iff_iff];simp
def TR2 : Tab:=mkT qq gG [(67,kN),(81,aLY),(33,aCQ)] []
def aS (i : Ins) : List Int:=if cT i then (if mL (aI i.op) && decide (¬ i.a = 0) then [i.a] else []) ++ (if hasB (aI i.op) && decide (¬ i.b = 0) then [i.b] else []) else []
def aWG : List XV → Option ((XV → Prop) → Prop):=eQ (fun i : Ins => [aZ i]) (fun i => True) (fun i => aS i) (fun y => aB 1 bF y)
def bQ (p : Prog) (n : Nat) : Int:=if (¬ aI (ix p.code n).op = 6 ∧ ¬ aI (ix p.code n).op = 7) ∨ (ix p.code n).imm < -8192 ∨ (ix p.code n).imm > 8191 ∨ (n : Int) + (ix p.code n).imm < 0 ∨ (n : Int) + (ix p.code n).imm ≥ p.code.length then -1 else (n : Int) + (ix p.code n).imm
def a0J : List XV → Option ((XV → Prop) → Prop):=eQ (fun q : Prog × Nat => [aL q.1,.int .i64 q.2]) (fun q => q.1.wf ∧ q.2 < q.1.code.length) (fun q => bQ q.1 q.2) (fun y => .int .i64 y)
theorem a30 : bX Try.prog TR2:=pT eC ⟨jR,aOP,aHJ,trivial⟩ trivial
theorem a0K (i : Ins) (r : XV) : (aQ TR2 80 (bT TR2 80 20) 70 [aZ i] (fun v => aA v r)) = (
 letI q1 : XV:=.row true 0 0 fun x => .unk;
 letI q2 : Bool:=bif hasB (aI i.op) then decide ¬i.b = 0 else false;bif !cT i then aA q1 r else bif bif mL (aI i.op) then mL (aI i.op) else true then bif bif
  mL (aI i.op) then decide ¬i.a = 0 else false then bif bif hasB (aI i.op) then hasB (aI i.op) else true then bif q2 then aA (.row false 1 2 fun i_1 => .int .i64 (bif decide
  (i_1 < 1) then i.a else i.b)) r else aA (.row false 1 1 fun i_1 => .int .i64 i.a) r else False else bif bif hasB (aI i.op) then hasB (aI i.op) else true then bif q2 then aA
  (.row false 1 1 fun i_1 => .int .i64 i.b) r else aA q1 r else False else False):=by kernel_rfl
theorem a9M (p : Prog) (n : Nat) (r : XV) : (aQ TR2 80 (bT TR2 80 20) 73 [aL p,.int .i64 n] (fun v => aA v r)) = (
 letI q1 : Int:=aI (Ins.op (ix p.code (Int.toNat (↑n : Int))));
 letI q2 : Bool:=decide ¬aI ((ix p.code n).op) = 6;
 letI q3 : Bool:=bif q2 then decide ¬aI ((ix p.code n).op) = 7 else false;
 letI q4 : Bool:=bif q3 then true else decide ((ix p.code n).imm < (-8192 : Int));
 letI q5 : Bool:=bif q4 then true else decide ((ix p.code n).imm > 8191);
 letI q6 : Int:=IntKind.wrap .i64 ((↑n : Int) + (ix p.code n).imm);
 letI q7 : Int:=IntKind.wrap .i64 ((↑n : Int) + Ins.imm (ix p.code (Int.toNat (↑n : Int))));
 letI q8 : Bool:=bif q5 then true else decide (q6 < 0);bif decide ((↑n : Int) < (↑(p.code.length) : Int)) then bif bif q2 then q2 else true then bif bif q3 then true else !q3 then
  bif bif q4 then true else !q4 then bif bif q5 then true else !q5 then bif bif q8 then true else !q8 then bif bif q8 then true else decide (q6 ≥ (↑(p.code.length) : Int)) then aA
  (.int .i64 (-1 : Int)) r else aA (.int .i64 q6) r else False else False else False else False else False else False):=by kernel_rfl
theorem yY : eI Try.prog (70,aWG):=bB fun i _ => by
 refine eS (u:=80) (k:=20) mix a30 ?_
 refine Eq.mpr (a0K i _) ?_
 unfold aS
 simp only [g1,g2,g3,g4,g5,g6,g7,aD,zaB,zaF,zaC,cB]
 simp only [qC]
 show cond (!cT i) _ _
 cases cT i with
 | false => exact ⟨gH rfl (.inr rfl) fun j hj => absurd hj (Nat.not_lt_zero _)⟩
 | true =>
  simp only [zaI,zaD,if_true]
  cases (mL (aI i.op) && decide (¬ i.a = 0)) <;> cases (hasB (aI i.op) && decide (¬ i.b = 0)) <;> simp only [zaB,zaD,if_true,if_false,zaU]
  ·exact ⟨gH rfl (.inr rfl) fun j hj => absurd hj (Nat.not_lt_zero _)⟩
  ·refine ⟨gH rfl (.inl rfl) fun j hj => ?_⟩
   obtain rfl : j = 0:=by omega
   exact .refl _
  ·refine ⟨gH rfl (.inl rfl) fun j hj => ?_⟩
   obtain rfl : j = 0:=by omega
   exact .refl _
  ·refine ⟨gH rfl (.inl rfl) fun j hj => ?_⟩
   rcases (by omega : j = 0 ∨ j = 1) with rfl | rfl <;> exact .refl _
theorem aOQ : eI Try.prog (73,a0J):=bB fun ⟨p,n⟩ h => by
 obtain ⟨hw,hn⟩ : p.wf ∧ n < p.code.length:=h
 show Pure _ _ (cons [aL p,.int .i64 n]) (con (.int .i64 (bQ p n)))
 refine eS (u:=80) (k:=20) mix a30 ?_
 refine Eq.mpr (a9M p n _) ?_
 have h1 : (n : Int) < (p.code.length : Int):=by omega
 have hl:=hw.1.2
 simp only [g1,g2,g3,g4,g5,g6,g7,aD,zaB,zaF,zaC,cB,h1]
 simp only [qC,bor]
 unfold bQ
 generalize ix p.code n = i
 generalize aI i.op = f
 by_cases hm : i.imm < -8192 ∨ i.imm > 8191
 ·rw [if_pos (.inr (hm.imp id .inl))]
  rcases hm with hm | hm <;> (simp only [decide_eq_true hm,Bool.true_or,Bool.or_true,zaB];exact .rfl)
 have m1 : ¬ i.imm < -8192:=fun h => hm (.inl h)
 have m2 : ¬ i.imm > 8191:=fun h => hm (.inr h)
 have w1 : IntKind.i64.wrap ((n : Int) + i.imm) = (n : Int) + i.imm:=wrap_i64 (by omega) (by omega)
 simp only [w1,m1,m2,zaE,Bool.or_false,false_or]
 have e : (decide (¬ f = 6) && decide (¬ f = 7) || decide ((n : Int) + i.imm < 0) || decide ((n : Int) + i.imm ≥ (p.code.length : Int))) = decide ((¬ f = 6 ∧ ¬ f = 7) ∨ (n : Int) + i.imm < 0 ∨ (n : Int) + i.imm ≥ p.code.length):=by
  rw [Bool.eq_iff_iff];simp only [zaV,zaG,zaK,or_assoc]
 rw [e]
 by_cases hc : (¬ f = 6 ∧ ¬ f = 7) ∨ (n : Int) + i.imm < 0 ∨ (n : Int) + i.imm ≥ p.code.length
 ·rw [decide_eq_true hc,if_pos hc];exact .rfl
 ·rw [decide_eq_false hc,if_neg hc];exact .rfl
def TR3 : Tab:=fM qq gG [(67,kN),(33,aCQ)] [] [(73,a0J)] []
def aB9 (p : Prog) (n : Nat) : Bool:=!((decide (aI (ix p.code n).op = 6) || decide (aI (ix p.code n).op = 7)) && decide (bQ p n < 0))
def aEQ (p : Prog) : Bool:=gL (aB9 p) p.code.length
def a9N : List XV → Option ((XV → Prop) → Prop):=eQ (fun p : Prog => [aL p]) (fun p => p.wf) (fun p => if aEQ p then (0 : Int) else 4) (fun y => .int .i64 y)
def aX (p : Prog) : Bool:=decide (1 ≤ p.code.length ∧ p.code.length ≤ 2000 ∧ 0 ≤ p.size ∧ p.size ≤ 65536 ∧ (p.data.length : Int) ≤ p.size) && (gL (fun n => cT (ix p.code n)) p.code.length && aEQ p)
def aWH : List XV → Option ((XV → Prop) → Prop):=eQ (fun p : Prog => [aL p]) (fun p => p.wf) (fun p => aX p) (fun y => .bool y)
def TR4 : Tab:=fM qq gG [(33,aCQ)] [] [(34,a9N)] []
theorem a31 : bX Try.prog TR3:=bV eC ⟨jR,aHJ,trivial⟩ trivial ⟨aOQ,trivial⟩ trivial
theorem a54 (p : Prog) (r : XV) : (goQ Try.prog TR3 [(.tmp 2)] r (.run jA) [] ⟨jO 0 [aL p],[],0⟩) = (aP (Ok Try.prog (Tab.q TR3)) lN (XSt.mk [(3,.int .i64 0),(2,.int .i64 0),(1,.ptr 0 [] 0)] [(0,some (aL p))] 1) [Frm.blk 0,Frm.seq o8]
 (bC [AR.tmp 2] r)):=by kernel_rfl
theorem a55 (p : Prog) (i : Nat) (r : XV) (A : XSt → Prop) : (goQ Try.prog TR3 [(.tmp 2)] r (.run lN) [.lp lN A,.blk 0,.seq o8] ⟨[(3,.int .i64 i),(1,.ptr 0 [] 0)],[(0,some (aL p))],1⟩) = (
 letI q1 : Bool:=decide ((↑i : Int) < (↑(p.code.length) : Int));
 letI q2 : Int:=aI (Ins.op (ix p.code (Int.toNat (↑i : Int))));
 letI q3 : Bool:=decide (aI ((ix p.code i).op) = 6);
 letI q4 : Bool:=bif q3 then true else decide (aI ((ix p.code i).op) = 7);
 letI q5 : XSt:=XSt.mk [(3,.int .i64 (IntKind.wrap .i64 ((↑i : Int) + 1))),(1,.ptr 0 [] 0)] [(0,some (aL p))] 1;bif q1 then bif q1 then bif bif q3 then true else !q3 then
  bif q4 then ∃ (s : Prog × Nat),aC [aL p,.int .i64 (↑i : Int)] [aL s.1,.int .i64 (↑(s.2) : Int)] ∧ aK (s.1.wf ∧ s.2 < s.1.code.length) ∧ ∀ (y : Int),y = bQ s.1
  s.2 → bif bif q4 then decide (y < 0) else false then aA (.int .i64 4) r else A q5 else bif !q4 then A q5 else False else False else False else aA (.int .i64 0) r):=by kernel_rfl
theorem a56 (p : Prog) (r : XV) : (goQ Try.prog TR4 [(.tmp 2)] r (.run fN) [] ⟨jO 0 [aL p],[],0⟩) = (
 letI q1 : Bool:=decide ((↑(p.code.length) : Int) < 1);
 letI q2 : Bool:=bif q1 then true else decide ((↑(p.code.length) : Int) > 2000);
 letI q3 : Bool:=bif q2 then true else decide (p.size < 0);
 letI q4 : Bool:=bif q3 then true else decide (p.size > 65536);bif bif q1 then true else !q1 then bif bif q2 then true else !q2 then bif bif q3 then true else !q3 then bif bif q4
  then true else !q4 then bif bif q4 then true else decide ((↑(p.data.length) : Int) > p.size) then aA (.bool false) r else aP (Ok Try.prog (Tab.q TR4)) iG
  (XSt.mk [(3,.int .i64 0),(2,.bool false),(1,.ptr 0 [] 0)] [(0,some (aL p))] 1) [Frm.blk 0,Frm.seq lM] (bC [AR.tmp 2] r) else False else False else
  False else False):=by kernel_rfl 
theorem a57 (p : Prog) (i : Nat) (r : XV) (A : XSt → Prop) : (goQ Try.prog TR4 [(.tmp 2)] r (.run iG) [.lp iG A,.blk 0,.seq lM] ⟨[(3,.int .i64 i),(1,.ptr 0 [] 0)],[(0,some (aL p))],1⟩) = (
 letI q1 : Bool:=decide ((↑i : Int) < (↑(p.code.length) : Int));bif q1 then bif q1 then bif !cT (ix p.code i) then aA (.bool false) r else A (XSt.mk [(3,.int .i64 (IntKind.wrap
  .i64 ((↑i : Int) + 1))),(1,.ptr 0 [] 0)] [(0,some (aL p))] 1) else False else ∃ (s : Prog),aC [aL p] [aL s] ∧ aK s.wf ∧ ∀ (y : Int),(y = if aEQ s = true then
  (0 : Int) else (4 : Int)) → aA (.bool (decide (y = 0))) r):=by kernel_rfl
theorem oI {p : Nat → Bool} {n i : Nat} (hi : i < n) (h : p i = false) : gL p n = false:=by
 rw [← Bool.not_eq_true,dS]
 intro h2
 rw [h2 i hi] at h
 cases h
theorem a58 : eI Try.prog (34,a9N):=bB fun p hw => by
 have hw : p.wf:=hw
 have hl:=hw.1.2
 refine jB mix a31 tD (Nat.le_of_ble_eq_true rfl) ?_
 refine Eq.mpr (a54 p _) ?_
 refine fS mix a31 (fun i : Nat => ⟨[(3,.int .i64 i),(1,.ptr 0 [] 0)],[(0,some (aL p))],1⟩) (fun i => i ≤ p.code.length ∧ ∀ j,j < i → aB9 p j = true) (fun i => p.code.length - i) 0 ⟨Nat.zero_le _,fun j hj => by omega⟩ (.of (dG ⟨rfl,rfl,trivial⟩ ⟨rfl,trivial⟩ (zaF _))) ?_
 rintro i ⟨hi,hp⟩
 refine Eq.mpr (a55 p i _ _) ?_
 by_cases hlt : i < p.code.length
 ·have h1 : (i : Int) < (p.code.length : Int):=by omega
  have w1 : IntKind.i64.wrap ((i : Int) + 1) = ((i + 1 : Nat) : Int):=wrap_i64 (by omega) (by omega)
  simp only [g1,g2,g3,g4,g5,g6,g7,aD,zaB,zaF,zaC,cB,h1,w1]
  simp only [bor,qC]
  have next : aB9 p i = true → ∃ j,(j ≤ p.code.length ∧ ∀ k,k < j → aB9 p k = true) ∧ cG 1 (XSt.st (XSt.mk [(3,.int .i64 ((i + 1 : Nat) : Int)),(1,.ptr 0 [] 0)] [(0,some (aL p))] 1)) (XSt.st (XSt.mk [(3,.int .i64 (j : Nat)),(1,.ptr 0 [] 0)] [(0,some (aL p))] 1)) ∧ p.code.length - j < p.code.length - i:=fun h => by
   refine ⟨i + 1,⟨hlt,fun j hj => ?_⟩,.of (dG ⟨rfl,rfl,trivial⟩ ⟨rfl,trivial⟩ (zaF _)),by omega⟩
   by_cases hji : j = i
   ·subst hji;exact h
   ·exact hp j (by omega)
  cases hc : (decide (aI (ix p.code i).op = 6) || decide (aI (ix p.code i).op = 7)) with
  | false =>
   simp only [zaD,zaH,zaB]
   exact next (by unfold aB9;rw [hc];rfl)
  | true =>
   simp only [zaB]
   refine ⟨(p,i),.rfl,⟨hw,hlt⟩, ?_⟩
   rintro y rfl
   simp only [zaR]
   refine jQ (fun h => ?_) (fun h => ?_)
   ·have : aEQ p = false:=oI hlt (by unfold aB9;rw [hc];simpa using h)
    rw [this]
    exact .rfl
   ·exact next (by unfold aB9;rw [hc];simpa using h)
 ·have h1 : ¬ (i : Int) < (p.code.length : Int):=by omega
  simp only [h1,zaE,zaD]
  have : aEQ p = true:=dS.2 fun j hj => hp j (by omega)
  rw [this]
  exact .rfl
theorem a32 : bX Try.prog TR4:=bV eC ⟨aHJ,trivial⟩ trivial ⟨a58,trivial⟩ trivial
theorem aI2 : eI Try.prog (19,aWH):=bB fun p hw => by
 have hw : p.wf:=hw
 have hl:=hw.1.2
 refine jB mix a32 nT (Nat.le_of_ble_eq_true rfl) ?_
 refine Eq.mpr (a56 p _) ?_
 simp only [g1,g2,g3,g4,g5,g6,g7,aD,zaB,zaF,zaC,cB]
 simp only [bor]
 have e : (decide ((p.code.length : Int) < 1) || decide ((p.code.length : Int) > 2000) || decide (p.size < 0) || decide (p.size > 65536) || decide ((p.data.length : Int) > p.size)) = !decide (1 ≤ p.code.length ∧ p.code.length ≤ 2000 ∧ 0 ≤ p.size ∧ p.size ≤ 65536 ∧ (p.data.length : Int) ≤ p.size):=by
  rw [Bool.eq_iff_iff]
  simp only [zaV,zaK,Bool.not_eq_true',zaP]
  omega
 rw [e]
 cases hd : decide (1 ≤ p.code.length ∧ p.code.length ≤ 2000 ∧ 0 ≤ p.size ∧ p.size ≤ 65536 ∧ (p.data.length : Int) ≤ p.size) with
 | false =>
  simp only [zaH,zaB]
  unfold aX
  rw [hd]
  exact .rfl
 | true =>
  simp only [zaI,zaD]
  refine fS mix a32 (fun i : Nat => ⟨[(3,.int .i64 i),(1,.ptr 0 [] 0)],[(0,some (aL p))],1⟩) (fun i => i ≤ p.code.length ∧ ∀ j,j < i → cT (ix p.code j) = true) (fun i => p.code.length - i) 0 ⟨Nat.zero_le _,fun j hj => by omega⟩ (.of (dG ⟨rfl,rfl,trivial⟩ ⟨rfl,trivial⟩ (zaF _))) ?_
  rintro i ⟨hi,hp⟩
  refine Eq.mpr (a57 p i _ _) ?_
  by_cases hlt : i < p.code.length
  ·have h1 : (i : Int) < (p.code.length : Int):=by omega
   have w1 : IntKind.i64.wrap ((i : Int) + 1) = ((i + 1 : Nat) : Int):=wrap_i64 (by omega) (by omega)
   simp only [g1,g2,g3,g4,g5,g6,g7,aD,zaB,zaF,zaC,cB,h1,w1]
   refine jQ (fun h => ?_) (fun h => ?_)
   ·have h2 : cT (ix p.code i) = false:=by simpa using h
    have : aX p = false:=by
     unfold aX
     rw [oI hlt h2]
     simp
    rw [this]
    exact .rfl
   ·have h2 : cT (ix p.code i) = true:=by simpa using h
    refine ⟨i + 1,⟨hlt,fun j hj => ?_⟩,.of (dG ⟨rfl,rfl,trivial⟩ ⟨rfl,trivial⟩ (zaF _)),by omega⟩
    by_cases hji : j = i
    ·subst hji;exact h2
    ·exact hp j (by omega)
  ·have h1 : ¬ (i : Int) < (p.code.length : Int):=by omega
   simp only [h1,zaE,zaD]
   refine ⟨p,.rfl,⟨hw⟩, ?_⟩
   rintro y rfl
   have e2 : aX p = aEQ p:=by
    unfold aX
    rw [hd,dS.2 fun j hj => hp j (by omega)]
    rfl
   rw [e2]
   cases aEQ p <;> exact .rfl
end Go.Proofs.Ytooojfbfobmkfaa
namespace Go.Proofs.Ytooojfbfobmkfaa
open Go.Ra
@[irreducible] noncomputable def lO : AC:=cdO (trF Try.prog qq 14)
@[irreducible] noncomputable def fH : AC:=cdA [1,1,1,0,1,0,0] lO
@[irreducible] noncomputable def kH : AC:=cdA [1,1,1,1] lO
@[irreducible] noncomputable def nJ : AC:=cdA [1,0,0,1,1,0,0] fH
@[irreducible] noncomputable def rV : AC:=cdA [1,1] fH
theorem yZ : trF Try.prog qq 14 = some (80,[(.cell 4 .true 17),(.tmp 5)],lO):=by kernel_rfl
@[irreducible] noncomputable def v7 : AC:=cdO (trF Try.prog qq 16)
theorem aF7 : trF Try.prog qq 16 = some (10,[(.cell 2 .true 17),(.tmp 3)],v7):=by kernel_rfl
@[irreducible] noncomputable def jC : AC:=cdO (trF Try.prog qq 29)
@[irreducible] noncomputable def lP : AC:=cdA [1,1,0,1,0,0] jC
@[irreducible] noncomputable def iY : AC:=cdA [1,1,1] jC
@[irreducible] noncomputable def lQ : AC:=cdA [0,1,0,0] iY
@[irreducible] noncomputable def pD : AC:=cdA [1] iY
theorem tL : trF Try.prog qq 29 = some (82,[(.tmp 4)],jC):=by kernel_rfl
@[irreducible] noncomputable def m7 : AC:=cdO (trF Try.prog qq 30)
@[irreducible] noncomputable def oJ : AC:=cdA [1,1,1,0,1,0,0] m7
@[irreducible] noncomputable def tM : AC:=cdA [1,1,1,1] m7
theorem aCA : trF Try.prog qq 30 = some (72,[(.tmp 2)],m7):=by kernel_rfl
@[irreducible] noncomputable def zA : AC:=cdO (trF Try.prog qq 31)
theorem aI3 : trF Try.prog qq 31 = some (134,[(.tmp 8),(.tmp 9)],zA):=by kernel_rfl
@[irreducible] noncomputable def kB : AC:=cdO (trF Try.prog qq 32)
@[irreducible] noncomputable def mM : AC:=cdA [1,1,1,0,1,0,0] kB
@[irreducible] noncomputable def jS : AC:=cdA [1,1,1,1] kB
@[irreducible] noncomputable def dR : AC:=cdA [0,1,0,0] jS
@[irreducible] noncomputable def fU : AC:=cdA [1] jS
@[irreducible] noncomputable def eW : AC:=cdA [1,0,0,1,0,0] dR
@[irreducible] noncomputable def jT : AC:=cdA [1,1] dR
@[irreducible] noncomputable def jU : AC:=cdA [1,0,0,1,1,1,1,0,1,1,0,0] eW
@[irreducible] noncomputable def qD : AC:=cdA [1,1] eW
theorem v8 : trF Try.prog qq 32 = some (86,[(.cell 2 .true 16)],kB):=by kernel_rfl
@[irreducible] noncomputable def aCB : AC:=cdO (trF Try.prog qq 68)
theorem aLZ : trF Try.prog qq 68 = some (13,[(.tmp 4)],aCB):=by kernel_rfl
@[irreducible] noncomputable def lR : AC:=cdO (trF Try.prog qq 69)
@[irreducible] noncomputable def nK : AC:=cdA [1,0,1,0,0] lR
@[irreducible] noncomputable def rW : AC:=cdA [1,1] lR
theorem zB : trF Try.prog qq 69 = some (18,[(.tmp 4)],lR):=by kernel_rfl
@[irreducible] noncomputable def iN : AC:=cdO (trF Try.prog qq 71)
@[irreducible] noncomputable def kO : AC:=cdA [1,1,1,1,0,1,0,0] iN
@[irreducible] noncomputable def iI : AC:=cdA [1,1,1,1,1] iN
@[irreducible] noncomputable def kP : AC:=cdA [1,0,1,0,0] iI
@[irreducible] noncomputable def oK : AC:=cdA [1,1] iI
theorem rX : trF Try.prog qq 71 = some (65,[(.tmp 2)],iN):=by kernel_rfl
@[irreducible] noncomputable def lS : AC:=cdO (trF Try.prog qq 72)
@[irreducible] noncomputable def nL : AC:=cdA [1,0,1,0,0] lS
@[irreducible] noncomputable def rY : AC:=cdA [1,1] lS
theorem zC : trF Try.prog qq 72 = some (19,[(.tmp 4)],lS):=by kernel_rfl
@[irreducible] noncomputable def zD : AC:=cdO (trF Try.prog qq 74)
theorem aI4 : trF Try.prog qq 74 = some (34,[(.tmp 4)],zD):=by kernel_rfl
@[irreducible] noncomputable def pE : AC:=cdO (trF Try.prog qq 75)
theorem zE : trF Try.prog qq 75 = some (26,[],pE):=by kernel_rfl
@[irreducible] noncomputable def oL : AC:=cdO (trF Try.prog qq 76)
theorem xK : trF Try.prog qq 76 = some (20,[],oL):=by kernel_rfl
@[irreducible] noncomputable def lT : AC:=cdO (trF Try.prog qq 77)
@[irreducible] noncomputable def nM : AC:=cdA [1,1,1,0,1,0,0] lT
@[irreducible] noncomputable def rZ : AC:=cdA [1,1,1,1] lT
theorem zF : trF Try.prog qq 77 = some (40,[(.tmp 4)],lT):=by kernel_rfl
@[irreducible] noncomputable def v9 : AC:=cdO (trF Try.prog qq 78)
theorem aF8 : trF Try.prog qq 78 = some (14,[(.tmp 4)],v9):=by kernel_rfl
@[irreducible] noncomputable def pF : AC:=cdO (trF Try.prog qq 79)
theorem zG : trF Try.prog qq 79 = some (26,[],pF):=by kernel_rfl
@[irreducible] noncomputable def nU : AC:=cdO (trF Try.prog qq 80)
theorem vQ : trF Try.prog qq 80 = some (23,[],nU):=by kernel_rfl
@[irreducible] noncomputable def zH : AC:=cdO (trF Try.prog qq 100)
theorem aI5 : trF Try.prog qq 100 = some (17,[(.tmp 2)],zH):=by kernel_rfl
def jD : mZ:=[(14,80,[(.cell 4 .true 17),(.tmp 5)],lO),(16,10,[(.cell 2 .true 17),(.tmp 3)],v7),(29,82,[(.tmp 4)],jC),(30,72,[(.tmp 2)],m7),(31,134,[(.tmp 8),(.tmp 9)],zA),(32,86,[(.cell 2 .true 16)],kB),(68,13,[(.tmp 4)],aCB),(69,18,[(.tmp 4)],lR),(71,65,[(.tmp 2)],iN),(72,19,[(.tmp 4)],lS),(74,34,[(.tmp 4)],zD),(75,26,[],pE),(76,20,[],oL),(77,40,[(.tmp 4)],lT),(78,14,[(.tmp 4)],v9),(79,26,[],pF),(80,23,[],nU),(100,17,[(.tmp 2)],zH)]
theorem gV : lL (fun p => trF Try.prog qq p.1 = some p.2) jD:=⟨yZ,aF7,tL,aCA,aI3,v8,aLZ,zB,rX,zC,aI4,zE,xK,zF,aF8,zG,vQ,aI5,trivial⟩
end Go.Proofs.Ytooojfbfobmkfaa
namespace Go.Proofs.Ytooojfbfobmkfaa
open Go.Ra
set_option linter.unusedVariables false
set_option linter.unusedSimpArgs false
def cY (o : Nat → Int) : XV:=.tab 16 1 (fun i => .int .i64 (o i))
def TT0 : Tab:=fM qq jD [(67,kN)] [] [] []
def fC (i : Ins) : Bool:=decide (aI i.op = 6 ∨ aI i.op = 7 ∨ aI i.op = 8)
def aOR : List XV → Option (List Bool × XV)
 | [.agg 5 [.int .i64 op,.int .i64 d,.int .i64 a,.int .i64 b,.int .i64 m]] => some ([],.bool (fC ⟨op,d,a,b,m⟩))
 | _ => none
def vR (o : Nat → Int) (n : Int) : Bool:=decide (n > 0) && decide (o n.toNat = 2)
def a0L : List XV → Option ((XV → Prop) → Prop):=eQ (fun q : (Nat → Int) × Int => [cY q.1,.int .i64 q.2]) (fun q => q.2 ≤ 15) (fun q => vR q.1 q.2) (fun y => .bool y)
def iJ (o : Nat → Int) (n : Int) : Int:=if n < 1 ∨ n > 15 then 0 else o n.toNat
def aWI : List XV → Option ((XV → Prop) → Prop):=eQ (fun q : (Nat → Int) × Int => [cY q.1,.int .i64 q.2]) (fun q => True) (fun q => iJ q.1 q.2) (fun y => .int .i64 y)
def findF (l : List Int) (n : Int) : Int:=mK (fun x => decide (x = n)) l
def aWJ : List XV → Option ((XV → Prop) → Prop):=eQ (fun q : List Int × Int => [aB 1 bF q.1,.int .i64 q.2]) (fun q => q.1.length ≤ 1000000000) (fun q => findF q.1 q.2) (fun y => .int .i64 y)
def m8 (o : Nat → Int) (l : List Int) : Bool:=l.any (vR o)
def aQN : List XV → Option ((XV → Prop) → Prop):=eQ (fun q : (Nat → Int) × List Int => [cY q.1,aB 1 bF q.2]) (fun q => q.2.length ≤ 1000000000 ∧ ∀ x ∈ q.2,x ≤ 15) (fun q => m8 q.1 q.2) (fun y => .bool y)
def TT1 : Tab:=fM qq jD [] [] [(68,a0L)] []
theorem aL0 : bX Try.prog TT0:=bV gV ⟨jR,trivial⟩ trivial trivial trivial
theorem a59 (i : Ins) (r : XV) : (aQ TT0 80 (bT TT0 80 20) 100 [aZ i] (fun v => aA v r)) = (
 letI q1 : Bool:=decide (aI i.op = 6);
 letI q2 : Bool:=bif q1 then true else decide (aI i.op = 7);bif bif q1 then true else !q1 then bif bif q2 then true else !q2 then aA (.bool (bif q2 then true else decide (aI
  i.op = 8))) r else False else False):=by kernel_rfl
theorem a9O (o : Nat → Int) (n : Int) (r : XV) : (aQ TT0 80 (bT TT0 80 20) 68 [cY o,.int .i64 n] (fun v => aA v r)) = (
 letI q1 : Bool:=decide (n > 0);
 letI q2 : Bool:=!q1;
 letI q3 : Nat:=Int.toNat n * 1;bif bif decide (0 ≤ n) then true else q2 then bif bif decide (n < 16) then true else q2 then bif bif Nat.beq q3 q3 then true else q2 then bif bif decide
  (Int.toNat n < 16) then true else q2 then bif bif q1 then q1 else true then aA (.bool (bif q1 then decide (o (Int.toNat n) = 2) else false)) r else False else False else False else
  False else False):=by kernel_rfl
theorem a6A (o : Nat → Int) (n : Int) (r : XV) : (aQ TT0 80 (bT TT0 80 20) 78 [cY o,.int .i64 n] (fun v => aA v r)) = (
 letI q1 : Bool:=decide (n < 1);
 letI q2 : Nat:=Int.toNat n * 1;bif bif q1 then true else !q1 then bif bif q1 then true else decide (n > 15) then aA (.int .i64 0) r else bif decide (0 ≤ n) then bif decide (n
  < 16) then bif Nat.beq q2 q2 then bif decide (Int.toNat n < 16) then aA (.int .i64 (o (Int.toNat n))) r else False else False else False else False else False):=by kernel_rfl
theorem a6B (l : List Int) (n : Int) (r : XV) : (goQ Try.prog TT0 [(.tmp 4)] r (.run lS) [] ⟨jO 0 [aB 1 bF l,.int .i64 n],[],0⟩) = (aP (Ok Try.prog (Tab.q TT0)) nL (XSt.mk [(5,.int .i64 0),(4,.int .i64 0),(0,aB 1 bF l),(1,.int .i64 n)] [] 0) [Frm.blk 0,Frm.seq rY] (bC
 [AR.tmp 4] r)):=by kernel_rfl
theorem a6C (l : List Int) (n : Int) (i : Nat) (r : XV) (A : XSt → Prop) : (goQ Try.prog TT0 [(.tmp 4)] r (.run nL) [.lp nL A,.blk 0,.seq rY] ⟨[(5,.int .i64 i),(0,aB 1 bF l),(1,.int .i64 n)],[],0⟩) = (
 letI q1 : Bool:=decide ((↑i : Int) < (↑(l.length) : Int));bif q1 then bif q1 then bif decide (ix l i = n) then aA (.int .i64 (↑i : Int)) r else A (XSt.mk [(5,.int .i64 (IntKind.wrap
  .i64 ((↑i : Int) + 1))),(0,aB 1 bF l),(1,.int .i64 n)] [] 0) else False else aA (.int .i64 (-1 : Int)) r):=by kernel_rfl
theorem a0M (o : Nat → Int) (l : List Int) (r : XV) : (goQ Try.prog TT1 [(.tmp 4)] r (.run lR) [] ⟨jO 0 [cY o,aB 1 bF l],[],0⟩) = (aP (Ok Try.prog (Tab.q TT1)) nK (XSt.mk [(5,.int .i64 0),(4,.bool false),(2,.ptr 0 [] 0),(1,aB 1 bF l)] [(0,some (.tab 16 1 fun i => .int .i64 (o i)))]
 1) [Frm.blk 0,Frm.seq rW] (bC [AR.tmp 4] r)):=by kernel_rfl
theorem a0N (o : Nat → Int) (l : List Int) (i : Nat) (r : XV) (A : XSt → Prop) : (goQ Try.prog TT1 [(.tmp 4)] r (.run nK) [.lp nK A,.blk 0,.seq rW] ⟨[(5,.int .i64 i),(2,.ptr 0 [] 0),(1,aB 1 bF l)],[(0,some (cY o))],1⟩) = (
 letI q1 : Bool:=decide ((↑i : Int) < (↑(l.length) : Int));bif q1 then bif q1 then ∃ (s : (Nat → Int) × Int),aC [.tab 16 1 fun i => .int .i64 (o i),.int .i64 (ix l i)] [cY
  s.1,.int .i64 s.2] ∧ aK (s.2 ≤ 15) ∧ ∀ (y : Bool),y = vR s.1 s.2 → bif y then aA (.bool true) r else A (XSt.mk [(5,.int .i64 (IntKind.wrap .i64 ((↑i : Int) + 1))),(2,.ptr
  0 [] 0),(1,aB 1 bF l)] [(0,some (cY o))] 1) else False else aA (.bool false) r):=by kernel_rfl
theorem a0O : oV Try.prog (100,aOR):=by
 intro args nd v ha hn
 simp only [aOR] at ha
 split at ha <;> simp only [zaA,zaJ,reduceCtorEq] at ha
 obtain ⟨hnd,rfl⟩:=ha
 clear hnd hn
 rename_i op d a b m
 refine eS (u:=80) (k:=20) mix aL0 (args:=[aZ ⟨op,d,a,b,m⟩]) ?_
 refine Eq.mpr (a59 ⟨op,d,a,b,m⟩ _) ?_
 simp only [g1,g2,g3,g4,g5,g6,g7,aD,zaB,zaF,zaC,cB]
 refine ⟨a0C ?_⟩
 simp only [bor]
 unfold fC
 rw [Bool.eq_iff_iff]
 simp [or_assoc]
theorem aOS : eI Try.prog (68,a0L):=bB fun ⟨o,n⟩ h => by
 have h : n ≤ 15:=h
 show Pure _ _ (cons [cY o,.int .i64 n]) (con (.bool (vR o n)))
 refine eS (u:=80) (k:=20) mix aL0 ?_
 refine Eq.mpr (a9O o n _) ?_
 have h1 : n < 16:=by omega
 have h2 : n.toNat < 16:=by omega
 by_cases h3 : n > 0
 ·have h4 : 0 ≤ n:=by omega
  simp only [h1,h2,h3,h4,zaC,zaB,zaQ]
  unfold vR
  rw [decide_eq_true h3]
  exact .rfl
 ·simp only [h1,h2,h3,zaC,zaE,zaB,zaD,zaQ,zaH,g1,g2,g3,g4,g5,g6,g7,aD,zaB,zaF,zaC,cB]
  unfold vR
  rw [decide_eq_false h3]
  cases decide (0 ≤ n) <;> exact .rfl
theorem aQO : eI Try.prog (78,aWI):=bB fun ⟨o,n⟩ h => by
 show Pure _ _ (cons [cY o,.int .i64 n]) (con (.int .i64 (iJ o n)))
 refine eS (u:=80) (k:=20) mix aL0 ?_
 refine Eq.mpr (a6A o n _) ?_
 unfold iJ
 by_cases h1 : n < 1
 ·rw [if_pos (.inl h1)]
  simp only [h1,zaC,zaB];exact .rfl
 by_cases h2 : n > 15
 ·rw [if_pos (.inr h2)]
  simp only [h1,h2,zaC,zaE,zaB,zaD,zaH];exact .rfl
 rw [if_neg (by omega)]
 have h3 : 0 ≤ n:=by omega
 have h4 : n < 16:=by omega
 have h5 : n.toNat < 16:=by omega
 simp only [h1,h2,h3,h4,h5,zaC,zaE,zaB,zaD,zaH,zaQ]
 exact .rfl
theorem aQP : eI Try.prog (72,aWJ):=bB fun ⟨l,n⟩ h => by
 have hl : l.length ≤ 1000000000:=h
 show Pure _ _ (cons [aB 1 bF l,.int .i64 n]) (con (.int .i64 (findF l n)))
 refine jB mix aL0 zC (Nat.le_of_ble_eq_true rfl) ?_
 refine Eq.mpr (a6B l n _) ?_
 refine fS mix aL0 (fun i : Nat => ⟨[(5,.int .i64 i),(0,aB 1 bF l),(1,.int .i64 n)],[],0⟩) (fun i => i ≤ l.length ∧ ∀ j,j < i → decide (ix l j = n) = false) (fun i => l.length - i) 0 ⟨Nat.zero_le _,fun j hj => by omega⟩ (.of (dG ⟨rfl,rfl,rfl,trivial⟩ trivial (zaF _))) ?_
 rintro i ⟨hi,hp⟩
 refine Eq.mpr (a6C l n i _ _) ?_
 by_cases hlt : i < l.length
 ·have h1 : (i : Int) < (l.length : Int):=by omega
  have w1 : IntKind.i64.wrap ((i : Int) + 1) = ((i + 1 : Nat) : Int):=wrap_i64 (by omega) (by omega)
  simp only [g1,g2,g3,g4,g5,g6,g7,aD,zaB,zaF,zaC,cB,h1,w1]
  refine jQ (fun h => ?_) (fun h => ?_)
  ·unfold findF
   rw [u9 hlt h hp]
   exact .rfl
  ·refine ⟨i + 1,⟨hlt,fun j hj => ?_⟩,.of (dG ⟨rfl,rfl,rfl,trivial⟩ trivial (zaF _)),by omega⟩
   by_cases hji : j = i
   ·subst hji;exact h
   ·exact hp j (by omega)
 ·have h1 : ¬ (i : Int) < (l.length : Int):=by omega
  simp only [h1,zaE,zaD]
  unfold findF
  rw [vB fun j hj => hp j (by omega)]
  exact .rfl
theorem a33 : bX Try.prog TT1:=bV gV trivial trivial ⟨aOS,trivial⟩ trivial
theorem any_false {α : Type} [Inhabited α] {p : α → Bool} {l : List α} (hn : ∀ j,j < l.length → p (ix l j) = false) : l.any p = false:=by
 rw [← Bool.not_eq_true,List.any_eq_true]
 rintro ⟨x,hx,hp⟩
 obtain ⟨j,hj,rfl⟩:=List.mem_iff_getElem.1 hx
 have:=hn j hj
 rw [fY hj,hp] at this
 cases this
theorem aI6 : eI Try.prog (69,aQN):=bB fun ⟨o,l⟩ h => by
 obtain ⟨hl,hx⟩ : l.length ≤ 1000000000 ∧ ∀ x ∈ l,x ≤ 15:=h
 show Pure _ _ (cons [cY o,aB 1 bF l]) (con (.bool (m8 o l)))
 refine jB mix a33 zB (Nat.le_of_ble_eq_true rfl) ?_
 refine Eq.mpr (a0M o l _) ?_
 refine fS mix a33 (fun i : Nat => ⟨[(5,.int .i64 i),(2,.ptr 0 [] 0),(1,aB 1 bF l)],[(0,some (cY o))],1⟩) (fun i => i ≤ l.length ∧ ∀ j,j < i → vR o (ix l j) = false) (fun i => l.length - i) 0 ⟨Nat.zero_le _,fun j hj => by omega⟩ (.of (dG ⟨rfl,rfl,rfl,trivial⟩ ⟨rfl,trivial⟩ (zaF _))) ?_
 rintro i ⟨hi,hp⟩
 refine Eq.mpr (a0N o l i _ _) ?_
 by_cases hlt : i < l.length
 ·have h1 : (i : Int) < (l.length : Int):=by omega
  have w1 : IntKind.i64.wrap ((i : Int) + 1) = ((i + 1 : Nat) : Int):=wrap_i64 (by omega) (by omega)
  simp only [g1,g2,g3,g4,g5,g6,g7,aD,zaB,zaF,zaC,cB,h1,w1]
  refine ⟨(o,ix l i),.rfl,⟨hx _ (cH hlt)⟩, ?_⟩
  rintro y rfl
  refine jQ (fun h => ?_) (fun h => ?_)
  ·have : m8 o l = true:=List.any_eq_true.2 ⟨_,cH hlt,h⟩
   rw [this]
   exact .rfl
  ·refine ⟨i + 1,⟨hlt,fun j hj => ?_⟩,.of (dG ⟨rfl,rfl,rfl,trivial⟩ ⟨rfl,trivial⟩ (zaF _)),by omega⟩
   by_cases hji : j = i
   ·subst hji;exact h
   ·exact hp j (by omega)
 ·have h1 : ¬ (i : Int) < (l.length : Int):=by omega
  simp only [h1,zaE,zaD]
  unfold m8
  rw [any_false fun j hj => hp j (by omega)]
  exact .rfl
def TT2 : Tab:=fM qq jD [(67,kN)] [] [(69,aQN),(78,aWI),(70,aWG),(72,aWJ)] []
def aCC (i : Ins) (o : Nat → Int) : Int:=if aI i.op < 1 ∨ aI i.op > 3 then 0 else if iJ o i.d = 1 ∨ (i.d = 0 ∧ m8 o (aS i) = false) then 1 else 2
def a34 : List XV → Option ((XV → Prop) → Prop):=eQ (fun q : Ins × (Nat → Int) => [aZ q.1,cY q.2]) (fun q => True) (fun q => aCC q.1 q.2) (fun y => .int .i64 y)
def qE (o : Nat → Int) (l : List Int) : List Int:=l.foldl (fun out x => if iJ o x = 1 ∧ findF out x < 0 then out ++ [x] else out) []
def hP (i : Ins) (o : Nat → Int) : List Int:=qE o (aS i)
def a0P (l : List Int) (o : Nat → Int) (out : List Int) (i : Nat) : XSt:=⟨[(7,.int .i64 i),(6,.sl 2 [] 0 0 out.length 1),(5,aB 1 bF l),(3,.ptr 1 [] 0)],[(2,some (.tab out.length 1 (fun i => bF (ix out i)))),(1,some (cY o))],3⟩
def bC7 : List XV → Option ((XV → Prop) → Prop):=eQ (fun q : Ins × (Nat → Int) => [aZ q.1,cY q.2]) (fun q => True) (fun q => hP q.1 q.2) (fun y => aB 1 bF y)
theorem a6D (i : Ins) (o : Nat → Int) (r : XV) : (aQ TT2 80 (bT TT2 80 20) 74 [aZ i,cY o] (fun v => aA v r)) = (
 letI q1 : Bool:=decide (aI i.op < 1);
 letI q2 : XV:=.tab 16 1 fun i => .int .i64 (o i);
 letI q3 : Int → Bool:=fun y => decide (y = 1);
 letI q4 : Int → Bool:=fun y => !q3 y;
 letI q5 : Bool:=decide (i.d = 0);
 letI q6 : Int → Bool:=fun y => !q4 y;
 letI q7 : Int → Bool:=fun y => bif q4 y then true else q6 y;
 letI q8 : Int → Bool:=fun y => bif q3 y then true else q4 y;bif bif q1 then true else !q1 then bif bif q1 then true else decide (aI i.op > 3) then aA (.int .i64 0) r else ∃
  (s : Ins),aC [aZ i] [aZ s] ∧ aK True ∧ ∀ (y : List Int),y = aS s → ∃ (s : (Nat → Int) × Int),aC [q2,.int .i64 i.d] [cY s.1,.int .i64 s.2] ∧ aK True ∧
  ∀ (y_1 : Int),y_1 = iJ s.1 s.2 → bif bif q4 y_1 then q5 else false then ∃ (s : (Nat → Int) × List Int),aC [q2,aB 1 bF y] [cY s.1,aB 1 bF s.2] ∧ aK (s.2.length
  ≤ 1000000000 ∧ ∀ (x : Int),x ∈ s.2 → x ≤ 15) ∧ ∀ (y : Bool),y = m8 s.1 s.2 → bif q7 y_1 then bif q8 y_1 then bif bif q3 y_1 then true else bif q5 then !y else false then aA
  (.int .i64 1) r else aA (.int .i64 2) r else False else False else bif q7 y_1 then bif bif !q5 then true else q6 y_1 then bif q8 y_1 then bif bif q3 y_1 then true else false then
  aA (.int .i64 1) r else aA (.int .i64 2) r else False else False else False else False):=by kernel_rfl 
theorem a6E (i : Ins) (o : Nat → Int) (r : XV) : (goQ Try.prog TT2 [(.tmp 4)] r (.run lT) [] ⟨jO 0 [aZ i,cY o],[],0⟩) = (
 letI q1 : XV:=.row true 0 0 fun x => .unk;∃ (s : Ins),aC [aZ i] [aZ s] ∧ aK True ∧ ∀ (y : List Int),y = aS s → aP (Ok Try.prog (Tab.q TT2)) nM
  (XSt.mk [(7,.int .i64 0),(6,q1),(5,aB 1 bF y),(4,q1),(3,.ptr 1 [] 0)] [(1,some (.tab 16 1 fun i => .int .i64 (o i))),(0,some (aZ i))] 2) [Frm.blk 0,Frm.seq rZ]
  (bC [AR.tmp 4] r)):=by kernel_rfl
theorem a6F (l : List Int) (o : Nat → Int) (out : List Int) (i : Nat) (r : XV) (A : XSt → Prop) : (goQ Try.prog TT2 [(.tmp 4)] r (.run nM) [.lp nM A,.blk 0,.seq rZ] (a0P l o out i)) = (
 letI q1 : Bool:=decide ((↑i : Int) < (↑(l.length) : Int));
 letI q2 : Int → Bool:=fun y => decide (y = 1);
 letI q3 : Bool:=decide (out.length ≤ out.length);
 letI q4 : XV:=.int .i64 (IntKind.wrap .i64 ((↑i : Int) + 1));
 letI q5 : List (Nat × XV):=[(5,aB 1 bF l),(3,.ptr 1 [] 0)];
 letI q6 : List (Nat × Option XV):=[(1,some (cY o))];
 letI q7 : XSt:=XSt.mk ((7,q4) :: (6,.sl 2 [] 0 0 out.length 1) :: q5) ((2,some (.tab out.length 1 fun i => bF (ix out i))) :: q6) 3;bif q1 then bif q1 then ∃ (s : (Nat → Int)
  × Int),aC [.tab 16 1 fun i => .int .i64 (o i),.int .i64 (ix l i)] [cY s.1,.int .i64 s.2] ∧ aK True ∧ ∀ (y : Int),y = iJ s.1 s.2 → bif q2 y then bif q1 then bif q3
  then ∃ (s : List Int × Int),aC [aB 1 bF out,.int .i64 (ix l i)] [aB 1 bF s.1,.int .i64 s.2] ∧ aK (s.1.length ≤ 1000000000) ∧ ∀ (y_1 : Int),y_1 = findF s.1 s.2
  → bif bif q2 y then decide (y_1 < 0) else false then bif q1 then bif q3 then bif decide (pl out.length 1 * 8 ≤ 140737488355328) then A (XSt.mk ((7,q4) :: (6,.sl 3 [] 0 0 (pl out.length
  1) 1) :: q5) ((3,some (.tab (pl out.length 1) 1 fun i_1 => .int .i64 (bif decide (i_1 < out.length) then ix out i_1 else ix l i))) :: (2,none) :: q6) 4) else False else False else
  False else A q7 else False else False else bif !q2 y then A q7 else False else False else bif q3 then aA (aB 1 bF out) r else False):=by kernel_rfl
theorem aWK : bX Try.prog TT2:=bV gV ⟨jR,trivial⟩ trivial ⟨aI6,aQO,yY,aQP,trivial⟩ trivial
theorem jE {i : Ins} : (aS i).length ≤ 2 ∧ ∀ x ∈ aS i,1 ≤ x ∧ x ≤ 15:=by
 unfold aS
 cases hr : cT i with
 | false => exact ⟨Nat.zero_le _,fun x hx => by cases hx⟩
 | true =>
  simp only [cT,zaG] at hr
  obtain ⟨_,_,ha,hb,_⟩:=hr
  rw [if_pos rfl]
  have pa : (mL (aI i.op) && decide (¬ i.a = 0)) = true → 1 ≤ i.a ∧ i.a ≤ 15:=fun h => by
   simp only [zaG,zaK] at h
   simp only [vP,zaV,zaG,zaK] at ha
   omega
  have pb : (hasB (aI i.op) && decide (¬ i.b = 0)) = true → 1 ≤ i.b ∧ i.b ≤ 15:=fun h => by
   simp only [zaG,zaK] at h
   simp only [vP,zaV,zaG,zaK] at hb
   omega
  generalize (mL (aI i.op) && decide (¬ i.a = 0)) = p at pa
  generalize (hasB (aI i.op) && decide (¬ i.b = 0)) = q at pb
  cases p <;> cases q <;> simp only [if_true,if_false,zaU,List.nil_append,List.append_nil,List.cons_append]
  ·exact ⟨Nat.zero_le _,fun x hx => by cases hx⟩
  ·refine ⟨by simp,fun x hx => ?_⟩
   simp only [List.mem_singleton] at hx
   subst hx;exact pb rfl
  ·refine ⟨by simp,fun x hx => ?_⟩
   simp only [List.mem_singleton] at hx
   subst hx;exact pa rfl
  ·refine ⟨by simp,fun x hx => ?_⟩
   simp only [List.mem_cons,List.not_mem_nil,or_false] at hx
   rcases hx with rfl | rfl
   ·exact pa rfl
   ·exact pb rfl
theorem a0Q : eI Try.prog (74,a34):=bB fun ⟨i,o⟩ _ => by
 show Pure _ _ (cons [aZ i,cY o]) (con (.int .i64 (aCC i o)))
 refine eS (u:=80) (k:=20) mix aWK ?_
 refine Eq.mpr (a6D i o _) ?_
 simp only [g1,g2,g3,g4,g5,g6,g7,aD,zaB,zaF,zaC,cB]
 simp only [bor,qC]
 unfold aCC
 generalize aI i.op = f
 by_cases hf : f < 1 ∨ f > 3
 ·rw [if_pos hf]
  rcases hf with h | h <;> (simp only [decide_eq_true h,Bool.true_or,Bool.or_true,zaB];exact .rfl)
 rw [if_neg hf]
 have f1 : ¬ f < 1:=fun h => hf (.inl h)
 have f2 : ¬ f > 3:=fun h => hf (.inr h)
 simp only [f1,f2,zaE,Bool.or_false,zaD]
 refine ⟨i,.rfl,⟨trivial⟩, ?_⟩
 rintro y rfl
 refine ⟨(o,i.d),.rfl,⟨trivial⟩, ?_⟩
 intro y1 hy
 replace hy : y1 = iJ o i.d:=hy
 subst hy
 by_cases h1 : iJ o i.d = 1
 ·rw [if_pos (.inl h1)]
  simp only [h1,zaC,zaI,zaH,Bool.false_and,zaR,Bool.or_true,Bool.true_or,zaB,zaD,Bool.false_or]
  exact .rfl
 ·simp only [h1,zaE,zaI,zaH,Bool.false_and,zaR,Bool.or_true,Bool.true_or,zaB,zaD,Bool.false_or]
  by_cases h2 : i.d = 0
  ·simp only [h2,zaC,zaB]
   refine ⟨(o,aS i),.rfl,⟨by have:=jE (i:=i);exact ⟨show (aS i).length ≤ 1000000000 by omega,fun x hx => (this.2 x hx).2⟩⟩, ?_⟩
   intro y1 hy
   replace hy : y1 = m8 o (aS i):=hy
   subst hy
   cases m8 o (aS i) <;> (simp;exact .rfl)
  ·simp only [h2,zaE,zaD,zaI,zaH,Bool.or_true,Bool.true_or,zaB,false_and,or_self,if_false]
   exact .rfl
theorem aTD {o : Nat → Int} {l : List Int} {i : Nat} (h : i < l.length) : qE o (l.take (i + 1)) = if iJ o (ix l i) = 1 ∧ findF (qE o (l.take i)) (ix l i) < 0 then qE o (l.take i) ++ [ix l i] else qE o (l.take i):=by
 have e : l.take (i + 1) = l.take i ++ [ix l i]:=by rw [fY h];exact (List.take_append_getElem h).symm
 rw [e]
 unfold qE
 rw [List.foldl_append]
 rfl
theorem aER {o : Nat → Int} : ∀ {l : List Int},(qE o l).length ≤ l.length:=by
 intro l
 unfold qE
 have key : ∀ (l out : List Int),(l.foldl (fun out x => if iJ o x = 1 ∧ findF out x < 0 then out ++ [x] else out) out).length ≤ out.length + l.length:=by
  intro l
  induction l with
  | nil => intro out;simp
  | cons x l ih =>
   intro out
   simp only [List.foldl_cons,List.length_cons]
   split
   ·have:=ih (out ++ [x]);simp only [cD] at this;omega
   ·have:=ih out;omega
 simpa using key l []
theorem a6G : eI Try.prog (77,bC7):=bB fun ⟨i,o⟩ _ => by
 show Pure _ _ (cons [aZ i,cY o]) (con (aB 1 bF (hP i o)))
 refine jB mix aWK zF (Nat.le_of_ble_eq_true rfl) ?_
 refine Eq.mpr (a6E i o _) ?_
 refine ⟨i,.rfl,⟨trivial⟩, ?_⟩
 rintro l rfl
 have hl:=(jE (i:=i)).1
 unfold hP
 generalize aS i = l at hl
 refine fS mix aWK (fun k : Nat => a0P l o (qE o (l.take k)) k) (fun k => k ≤ l.length) (fun k => l.length - k) 0 (Nat.zero_le _) (pA [(0,0),(1,1)] rfl rfl rfl rfl rfl ⟨aJ rfl rfl,tI rfl,aJ rfl rfl,.ptr rfl,trivial⟩ ⟨⟨1,rfl⟩,.same rfl,trivial⟩) ?_
 intro k hk
 refine Eq.mpr (a6F l o _ k _ _) ?_
 have hs : (qE o (l.take k)).length ≤ 2:=by have:=aER (o:=o) (l:=l.take k);simp at this;omega
 by_cases hlt : k < l.length
 ·have h1 : (k : Int) < (l.length : Int):=by omega
  have w1 : IntKind.i64.wrap ((k : Int) + 1) = ((k + 1 : Nat) : Int):=wrap_i64 (by omega) (by omega)
  have st:=aTD (o:=o) hlt
  generalize qE o (l.take k) = out at st hs
  simp only [g1,g2,g3,g4,g5,g6,g7,aD,zaB,zaF,zaC,cB,h1,w1]
  refine ⟨(o,ix l k),.rfl,⟨trivial⟩, ?_⟩
  intro y1 hy
  replace hy : y1 = iJ o (ix l k):=hy
  subst hy
  have stay : qE o (l.take (k + 1)) = out → ∃ j,j ≤ l.length ∧ cG 2 (XSt.st (XSt.mk [(7,.int .i64 ((k + 1 : Nat) : Int)),(6,.sl 2 [] 0 0 out.length 1),(5,aB 1 bF l),(3,.ptr 1 [] 0)] [(2,some (.tab out.length 1 fun i => bF (ix out i))),(1,some (cY o))] 3)) (a0P l o (qE o (l.take j)) j).st ∧ l.length - j < l.length - k:=fun h => by
   refine ⟨k + 1,hlt, ?_,by omega⟩
   rw [h]
   exact .of (dG ⟨rfl,rfl,rfl,rfl,trivial⟩ ⟨rfl,rfl,trivial⟩ (zaF _))
  by_cases h2 : iJ o (ix l k) = 1
  ·simp only [h2,zaC,zaB]
   refine ⟨(out,ix l k),.rfl,⟨show out.length ≤ _ by omega⟩, ?_⟩
   intro y1 hy
   replace hy : y1 = findF out (ix l k):=hy
   subst hy
   by_cases h3 : findF out (ix l k) < 0
   ·rw [if_pos ⟨h2,h3⟩] at st
    have b : (out.length + 1) * 8 ≤ 140737488355328:=by omega
    simp only [h3,b,zaC,zaB]
    refine ⟨k + 1,hlt, ?_,by omega⟩
    rw [st]
    unfold a0P
    rw [cD]
    exact pA [(0,0),(1,1),(2,3)] rfl rfl rfl rfl rfl ⟨aJ rfl rfl,.sl rfl,aJ rfl rfl,.ptr rfl,trivial⟩ ⟨aLX (fun i hi => by simp only [hi,zaC,zaB];rfl) (by simp;rfl) rfl,.same rfl,trivial⟩
   ·rw [if_neg (fun h => h3 h.2)] at st
    simp only [h3,zaC,zaE,zaB,zaD]
    exact stay st
  ·rw [if_neg (fun h => h2 h.1)] at st
   simp only [h2,zaE,zaD,zaH,zaB]
   exact stay st
 ·have h1 : ¬ (k : Int) < (l.length : Int):=by omega
  simp only [h1,zaE,zaD,g1,g2,g3,g4,g5,g6,g7,aD,zaB,zaF,zaC,cB]
  have : k = l.length:=by omega
  subst this
  rw [List.take_length]
  exact .rfl
def a6H : List XV → Option ((XV → Prop) → Prop):=fun args => some fun K => ∃ s : Ins × (Nat → Int),aC args [aZ s.1,cY s.2] ∧ ∀ y : List Int,y = hP s.1 s.2 → (y = [] → K (.row false 1 0 (fun _ => .int .i64 0))) ∧ (∀ a : Int,y = [a] → K (.row false 1 1 (fun _ => .int .i64 a))) ∧ (∀ a b : Int,y = [a,b] → K (.row false 1 2 (fun i => .int .i64 (bif Nat.beq i 0 then a else b))))
def TT3 : Tab:=fM qq jD [(67,kN),(33,aCQ)] [] [(69,aQN),(68,a0L),(78,aWI),(70,aWG),(74,a34),(77,a6H)] []
def cI (k : Int) (i : Ins) (pc off : Int) : Cell:=⟨k,i,0,pc,off⟩
def cR (k : Int) (pc off : Int) (n : Int) : Cell:=⟨k,⟨0,0,0,0,0⟩,n,pc,off⟩
def cP (k : Int) (pc off : Int) : Cell:=⟨k,⟨0,0,0,0,0⟩,0,pc,off⟩
def aQQ (y : List Cell × List Cell) : XV:=.tup [aB 9 cX y.1,aB 9 cX y.2]
def iO (i : Ins) (o : Nat → Int) (pc off : Int) : List Cell × List Cell :=
 if cT i = false then ([],[])
 else if aI i.op = 1 ∨ aI i.op = 2 ∨ aI i.op = 3 then
  if aCC i o = 1 then ([cI 1 i pc off],[]) else ((hP i o).map (cR 5 pc off),(hP i o).map (cR 6 pc off) ++ [cI 1 i pc off])
 else if aI i.op = 4 then
  if vR o i.d = true then ([cI 3 i pc off],[cI 7 i pc off]) else ([cI 2 i pc off],[])
 else if aI i.op = 5 then
  if iJ o i.b = 1 then ([cR 5 pc off i.b,cI 4 i pc off],[cR 6 pc off i.b,cR 8 pc off i.b]) else ([cI 4 i pc off],[cR 8 pc off i.b])
 else if aI i.op = 6 then
  if m8 o (aS i) = false then ([cI 9 i pc off],[cP 10 pc off]) else ((hP i o).map (cR 5 pc off) ++ [cP 10 pc off],(hP i o).map (cR 6 pc off) ++ [cI 9 i pc off])
 else if aI i.op = 7 then ([cP 11 pc off],[cP 11 pc off])
 else if aI i.op = 8 then ([cP 12 pc off],[cP 12 pc off])
 else ([],[])
def a9P : List XV → Option ((XV → Prop) → Prop):=eQ (fun q : Ins × (Nat → Int) × Int × Int => [aZ q.1,cY q.2.1,.int .i64 q.2.2.1,.int .i64 q.2.2.2]) (fun q => True) (fun q => iO q.1 q.2.1 q.2.2.1 q.2.2.2) (fun y => aQQ y)
theorem aWL : eI Try.prog (77,a6H):=by
 intro args W hW K hK
 simp only [a6H,zaA] at hW
 subst hW
 obtain ⟨⟨i,o⟩,h1,h2⟩:=hK
 obtain ⟨h3,h4,h5⟩:=h2 _ rfl
 have hl : (hP i o).length ≤ 2:=by
  unfold hP
  have:=aER (o:=o) (l:=aS i)
  have:=(jE (i:=i)).1
  omega
 obtain ⟨v,hp,hk⟩:=a6G args _ rfl (fun v => v = aB 1 bF (hP i o)) ⟨(i,o),h1,⟨trivial⟩,fun y hy => by rw [hy]⟩
 subst hk
 revert h3 h4 h5 hl hp
 generalize hP i o = l
 intro h3 h4 h5 hl hp
 match l,hl with
 | [],_ => exact ⟨_,hp.out (aI0 rfl (.inl rfl) fun j hj => absurd hj (Nat.not_lt_zero _)),h3 rfl⟩
 | [a],_ => exact ⟨_,hp.out (aI0 rfl (.inl rfl) fun j hj => by
   have : j = 0:=by simp at hj;exact hj
   subst this;exact .refl _),h4 a rfl⟩
 | [a,b],_ => exact ⟨_,hp.out (aI0 rfl (.inl rfl) fun j hj => by
   have hj : j < 2:=hj
   rcases (by omega : j = 0 ∨ j = 1) with rfl | rfl <;> exact .refl _),h5 a b rfl⟩
 | _ :: _ :: _ :: _,h => simp at h
theorem a9Q : bX Try.prog TT3:=bV gV ⟨jR,aHJ,trivial⟩ trivial ⟨aI6,aOS,aQO,yY,a0Q,aWL,trivial⟩ trivial
theorem a6I (i : Ins) (o : Nat → Int) (pc off : Int) (r : XV) : (aQ TT3 80 (bT TT3 80 20) 31 [aZ i,cY o,.int .i64 pc,.int .i64 off] (fun v => aA v r)) = (
 let q1 : XV:=.row true 0 0 fun x => .unk;
 let q2 : List XV:=[q1];
 let q3 : XV:=.tup (q1 :: q2);
 let q4 : Bool:=decide (aI i.op = 1);
 let q5 : XV:=.tab 16 1 fun i => .int .i64 (o i);
 let q6 : List XV:=[aZ i,q5];
 let q7 : Ins × (Nat → Int) → List XV:=fun s => [aZ s.1,cY s.2];
 let q8 : Ins × (Nat → Int) → Int:=fun s => aCC s.1 s.2;
 let q9 : Int → Bool:=fun y => decide (y = 1);
 let q10 : List XV:=[.int .i64 pc,.int .i64 off];
 let q11 : List XV:=.int .i64 0 :: q10;
 let q12 : List XV:=aZ i :: q11;
 let q13 : XV:=.row false 9 1 fun i => .agg 9 (.int .i64 1 :: q12);
 let q14 : XV:=.tup (q13 :: q2);
 let q15 : Ins × (Nat → Int) → List Int:=fun s => hP s.1 s.2;
 let q16 : List XV:=[q13];
 let q17 : XV:=.tup (q1 :: q16);
 let q18 : Nat:=List.length [AX.t 21];
 let q19 : Nat:=pl 0 q18;
 let q20 : Nat → Bool:=fun i => decide (i < 1);
 let q21 : Nat → XV:=fun i_1 => .agg 5 [.int .i64 (bif q20 i_1 then (0 : Int) else i.op),.int .i64 (bif q20 i_1 then (0 : Int) else i.d),.int .i64 (bif q20 i_1 then (0 : Int) else
  i.a),.int .i64 (bif q20 i_1 then (0 : Int) else i.b),.int .i64 (bif q20 i_1 then (0 : Int) else i.imm)];
 let q22 : Nat → List XV:=fun i => [.int .i64 (bif q20 i then pc else pc),.int .i64 (bif q20 i then off else off)];
 let q23 : Nat → Int → List XV:=fun i a => .int .i64 (bif q20 i then a else (0 : Int)) :: q22 i;
 let q24 : Nat → Int → List XV:=fun i a => q21 i :: q23 i a;
 let q25 : Int → List XV:=fun a => [.row false 9 2 fun i => .agg 9 (.int .i64 (bif q20 i then (6 : Int) else (1 : Int)) :: q24 i a)];
 let q26 : Int → XV:=fun a => .tup (q1 :: q25 a);
 let q27 : Nat → Bool:=fun i => decide (i < 2);
 let q28 : Nat → Bool:=fun i => decide (i < 1);
 let q29 : Nat → Int:=fun i => bif q28 i then (6 : Int) else (6 : Int);
 let q30 : Nat → Int:=fun i => bif q28 i then (0 : Int) else (0 : Int);
 let q31 : Nat → Int → Int → List XV:=fun i a b => [.int .i64 (bif q27 i then bif q28 i then a else b else (0 : Int)),.int .i64 (bif q27 i then bif q28 i then pc else pc else pc),
  .int .i64 (bif q27 i then bif q28 i then off else off else off)];
 let q32 : Nat → Int → Int → List XV:=fun i_1 a b => .agg 5 [.int .i64 (bif q27 i_1 then q30 i_1 else i.op),.int .i64 (bif q27 i_1 then q30 i_1 else i.d),.int .i64 (bif q27 i_1 then
  q30 i_1 else i.a),.int .i64 (bif q27 i_1 then q30 i_1 else i.b),.int .i64 (bif q27 i_1 then q30 i_1 else i.imm)] :: q31 i_1 a b;
 let q33 : Int → Int → List XV:=fun a b => [.row false 9 3 fun i => .agg 9 (.int .i64 (bif q27 i then q29 i else (1 : Int)) :: q32 i a b)];
 let q34 : Int → Int → XV:=fun a b => .tup (q1 :: q33 a b);
 let q35 : XV:=.agg 5 [.int .i64 0,.int .i64 0,.int .i64 0,.int .i64 0,.int .i64 0];
 let q36 : Int → XV:=fun a => .row false 9 1 fun i => .agg 9 (.int .i64 5 :: q35 :: .int .i64 a :: q10);
 let q37 : Int → XV:=fun a => .tup (q36 a :: q16);
 let q38 : Int → Int → XV:=fun a a_1 => .tup (q36 a :: q25 a_1);
 let q39 : Int → Int → Int → XV:=fun a a_1 b => .tup (q36 a :: q33 a_1 b);
 let q40 : Nat → XV:=fun i => .int .i64 (bif q20 i then (0 : Int) else (0 : Int));
 let q41 : Nat → XV:=fun i => .agg 5 [q40 i,q40 i,q40 i,q40 i,q40 i];
 let q42 : Int → Int → XV:=fun a b => .row false 9 2 fun i => .agg 9 (.int .i64 (bif q20 i then (5 : Int) else (5 : Int)) :: q41 i :: .int .i64 (bif q20 i then a else b) :: q22 i);
 let q43 : Int → Int → XV:=fun a b => .tup (q42 a b :: q16);
 let q44 : Int → Int → Int → XV:=fun a b a_1 => .tup (q42 a b :: q25 a_1);
 let q45 : Int → Int → Int → Int → XV:=fun a b a_1 b_1 => .tup (q42 a b :: q33 a_1 b_1);
 let q46 : Bool:=decide (aI i.op = 4);
 let q47 : List XV:=[q5,.int .i64 i.d];
 let q48 : (Nat → Int) × Int → List XV:=fun s => [cY s.1,.int .i64 s.2];
 let q49 : (Nat → Int) × Int → Bool:=fun s => vR s.1 s.2;
 let q50 : XV:=.tup [.row false 9 1 fun i => .agg 9 (.int .i64 3 :: q12),.row false 9 1 fun i => .agg 9 (.int .i64 7 :: q12)];
 let q51 : XV:=.tup ((.row false 9 1 fun i => .agg 9 (.int .i64 2 :: q12)) :: q2);
 let q52 : Bool:=decide (aI i.op = 5);
 let q53 : List XV:=[q5,.int .i64 i.b];
 let q54 : (Nat → Int) × Int → Int:=fun s => iJ s.1 s.2;
 let q55 : XV:=.tup [.row false 9 2 fun i_1 => .agg 9 (.int .i64 (bif q20 i_1 then (5 : Int) else (4 : Int)) :: q21 i_1 :: .int .i64 (bif q20 i_1 then i.b else (0 : Int)) :: q22 i_1),
  .row false 9 2 fun i_1 => .agg 9 (.int .i64 (bif q20 i_1 then (6 : Int) else (8 : Int)) :: q41 i_1 :: .int .i64 (bif q20 i_1 then i.b else i.b) :: q22 i_1)];
 let q56 : XV:=.tup [.row false 9 1 fun i => .agg 9 (.int .i64 4 :: q12),.row false 9 1 fun i_1 => .agg 9 (.int .i64 8 :: q35 :: .int .i64 i.b :: q10)];
 let q57 : Bool:=decide (aI i.op = 6);
 let q58 : List Int → List XV:=fun y => [q5,aB 1 bF y];
 let q59 : (Nat → Int) × List Int → List XV:=fun s => [cY s.1,aB 1 bF s.2];
 let q60 : (Nat → Int) × List Int → Bool:=fun s => m8 s.1 s.2;
 let q61 : XV:=.row false 9 1 fun i => .agg 9 (.int .i64 9 :: q12);
 let q62 : List XV:=q35 :: q11;
 let q63 : XV:=.row false 9 1 fun i => .agg 9 (.int .i64 10 :: q62);
 let q64 : XV:=.tup [q61,q63];
 let q65 : List XV:=[q61];
 let q66 : XV:=.tup (q63 :: q65);
 let q67 : Int → List XV:=fun a => [.row false 9 2 fun i => .agg 9 (.int .i64 (bif q20 i then (6 : Int) else (9 : Int)) :: q24 i a)];
 let q68 : Int → XV:=fun a => .tup (q63 :: q67 a);
 let q69 : Int → Int → List XV:=fun a b => [.row false 9 3 fun i => .agg 9 (.int .i64 (bif q27 i then q29 i else (9 : Int)) :: q32 i a b)];
 let q70 : Int → Int → XV:=fun a b => .tup (q63 :: q69 a b);
 let q71 : Int → XV:=fun a => .row false 9 2 fun i => .agg 9 (.int .i64 (bif q20 i then (5 : Int) else (10 : Int)) :: q41 i :: q23 i a);
 let q72 : Int → XV:=fun a => .tup (q71 a :: q65);
 let q73 : Int → Int → XV:=fun a a_1 => .tup (q71 a :: q67 a_1);
 let q74 : Int → Int → Int → XV:=fun a a_1 b => .tup (q71 a :: q69 a_1 b);
 let q75 : Nat → XV:=fun i => .int .i64 (bif q27 i then q30 i else (0 : Int));
 let q76 : Int → Int → XV:=fun a b => .row false 9 3 fun i => .agg 9 (.int .i64 (bif q27 i then bif q28 i then (5 : Int) else (5 : Int) else (10 : Int)) :: .agg 5 [q75 i,q75 i,q75
  i,q75 i,q75 i] :: q31 i a b);
 let q77 : Int → Int → XV:=fun a b => .tup (q76 a b :: q65);
 let q78 : Int → Int → Int → XV:=fun a b a_1 => .tup (q76 a b :: q67 a_1);
 let q79 : Int → Int → Int → Int → XV:=fun a b a_1 b_1 => .tup (q76 a b :: q69 a_1 b_1);
 let q80 : Bool:=decide (aI i.op = 7);
 let q81 : XV:=.row false 9 1 fun i => .agg 9 (.int .i64 11 :: q62);
 let q82 : XV:=.tup [q81,q81];
 let q83 : Bool:=decide (aI i.op = 8);
 let q84 : XV:=.row false 9 1 fun i => .agg 9 (.int .i64 12 :: q62);
 let q85 : XV:=.tup [q84,q84];
 let q86 : Bool:=decide (aI i.op = 2);bif !cT i then aA q3 r else bif q4 then bif q4 then ∃ (s : Ins × (Nat → Int)),aC q6 (q7 s) ∧ aK True ∧ ∀ (y : Int),y = q8
  s → bif q9 y then aA q14 r else ∃ (s : Ins × (Nat → Int)),aC q6 (q7 s) ∧ ∀ (y : List Int),y = q15 s → (y = [] → ∃ (s : Ins × (Nat → Int)),aC q6 (q7 s) ∧ ∀ (y : List Int),
  y = q15 s → (y = [] → aA q17 r) ∧ (∀ (a : Int),y = [a] → aA (q26 a) r) ∧ ∀ (a b : Int),y = [a,b] → aA (q34 a b) r) ∧ (∀ (a : Int),y = [a] → ∃ (s : Ins × (Nat → Int)),aC
  q6 (q7 s) ∧ ∀ (y : List Int),y = q15 s → (y = [] → aA (q37 a) r) ∧ (∀ (a_3 : Int),y = [a_3] → aA (q38 a a_3) r) ∧ ∀ (a_3 b : Int),y = [a_3,b] → aA (q39 a a_3 b) r) ∧ ∀
  (a b : Int),y = [a,b] → ∃ (s : Ins × (Nat → Int)),aC q6 (q7 s) ∧ ∀ (y : List Int),y = q15 s → (y = [] → aA (q43 a b) r) ∧ (∀ (a_3 : Int),y = [a_3] → aA (q44 a b a_3)
  r) ∧ ∀ (a_3 b_1 : Int),y = [a_3,b_1] → aA (q45 a b a_3 b_1) r else bif q46 then ∃ (s : (Nat → Int) × Int),aC q47 (q48 s) ∧ aK (s.2 ≤ 15) ∧ ∀ (y : Bool),y = q49 s → bif
  y then aA q50 r else aA q51 r else bif q52 then ∃ (s : (Nat → Int) × Int),aC q53 (q48 s) ∧ aK True ∧ ∀ (y : Int),y = q54 s → bif q9 y then aA q55 r else aA q56
  r else bif q57 then ∃ (s : Ins),aC [aZ i] [aZ s] ∧ aK True ∧ ∀ (y : List Int),y = aS s → ∃ (s : (Nat → Int) × List Int),aC (q58 y) (q59 s) ∧ aK (s.2.length
  ≤ 1000000000 ∧ ∀ (x : Int),x ∈ s.2 → x ≤ 15) ∧ ∀ (y : Bool),y = q60 s → bif !y then aA q64 r else ∃ (s : Ins × (Nat → Int)),aC q6 (q7 s) ∧ ∀ (y : List Int),y = q15 s → (y
  = [] → ∃ (s : Ins × (Nat → Int)),aC q6 (q7 s) ∧ ∀ (y : List Int),y = q15 s → (y = [] → aA q66 r) ∧ (∀ (a : Int),y = [a] → aA (q68 a) r) ∧ ∀ (a b : Int),y = [a,b] → aA
  (q70 a b) r) ∧ (∀ (a : Int),y = [a] → ∃ (s : Ins × (Nat → Int)),aC q6 (q7 s) ∧ ∀ (y : List Int),y = q15 s → (y = [] → aA (q72 a) r) ∧ (∀ (a_3 : Int),y = [a_3] → aA (q73
  a a_3) r) ∧ ∀ (a_3 b : Int),y = [a_3,b] → aA (q74 a a_3 b) r) ∧ ∀ (a b : Int),y = [a,b] → ∃ (s : Ins × (Nat → Int)),aC q6 (q7 s) ∧ ∀ (y : List Int),y = q15 s → (y = []
  → aA (q77 a b) r) ∧ (∀ (a_3 : Int),y = [a_3] → aA (q78 a b a_3) r) ∧ ∀ (a_3 b_1 : Int),y = [a_3,b_1] → aA (q79 a b a_3 b_1) r else bif q80 then aA q82 r else bif q83
  then aA q85 r else aA q3 r else bif q86 then bif q86 then ∃ (s : Ins × (Nat → Int)),aC q6 (q7 s) ∧ aK True ∧ ∀ (y : Int),y = q8 s → bif q9 y then aA q14 r else ∃ (s
  : Ins × (Nat → Int)),aC q6 (q7 s) ∧ ∀ (y : List Int),y = q15 s → (y = [] → ∃ (s : Ins × (Nat → Int)),aC q6 (q7 s) ∧ ∀ (y : List Int),y = q15 s → (y = [] → aA q17 r) ∧
  (∀ (a : Int),y = [a] → aA (q26 a) r) ∧ ∀ (a b : Int),y = [a,b] → aA (q34 a b) r) ∧ (∀ (a : Int),y = [a] → ∃ (s : Ins × (Nat → Int)),aC q6 (q7 s) ∧ ∀ (y : List Int),y
  = q15 s → (y = [] → aA (q37 a) r) ∧ (∀ (a_3 : Int),y = [a_3] → aA (q38 a a_3) r) ∧ ∀ (a_3 b : Int),y = [a_3,b] → aA (q39 a a_3 b) r) ∧ ∀ (a b : Int),y = [a,b] → ∃ (s :
  Ins × (Nat → Int)),aC q6 (q7 s) ∧ ∀ (y : List Int),y = q15 s → (y = [] → aA (q43 a b) r) ∧ (∀ (a_3 : Int),y = [a_3] → aA (q44 a b a_3) r) ∧ ∀ (a_3 b_1 : Int),y = [a_3,
  b_1] → aA (q45 a b a_3 b_1) r else bif q46 then ∃ (s : (Nat → Int) × Int),aC q47 (q48 s) ∧ aK (s.2 ≤ 15) ∧ ∀ (y : Bool),y = q49 s → bif y then aA q50 r else aA q51
  r else bif q52 then ∃ (s : (Nat → Int) × Int),aC q53 (q48 s) ∧ aK True ∧ ∀ (y : Int),y = q54 s → bif q9 y then aA q55 r else aA q56 r else bif q57 then ∃ (s : Ins),aC
  [aZ i] [aZ s] ∧ aK True ∧ ∀ (y : List Int),y = aS s → ∃ (s : (Nat → Int) × List Int),aC (q58 y) (q59 s) ∧ aK (s.2.length ≤ 1000000000 ∧ ∀ (x : Int),x ∈ s.2 →
  x ≤ 15) ∧ ∀ (y : Bool),y = q60 s → bif !y then aA q64 r else ∃ (s : Ins × (Nat → Int)),aC q6 (q7 s) ∧ ∀ (y : List Int),y = q15 s → (y = [] → ∃ (s : Ins × (Nat → Int)),aC
  q6 (q7 s) ∧ ∀ (y : List Int),y = q15 s → (y = [] → aA q66 r) ∧ (∀ (a : Int),y = [a] → aA (q68 a) r) ∧ ∀ (a b : Int),y = [a,b] → aA (q70 a b) r) ∧ (∀ (a : Int),y = [a]
  → ∃ (s : Ins × (Nat → Int)),aC q6 (q7 s) ∧ ∀ (y : List Int),y = q15 s → (y = [] → aA (q72 a) r) ∧ (∀ (a_3 : Int),y = [a_3] → aA (q73 a a_3) r) ∧ ∀ (a_3 b : Int),y = [a_3,
  b] → aA (q74 a a_3 b) r) ∧ ∀ (a b : Int),y = [a,b] → ∃ (s : Ins × (Nat → Int)),aC q6 (q7 s) ∧ ∀ (y : List Int),y = q15 s → (y = [] → aA (q77 a b) r) ∧ (∀ (a_3 : Int),
  y = [a_3] → aA (q78 a b a_3) r) ∧ ∀ (a_3 b_1 : Int),y = [a_3,b_1] → aA (q79 a b a_3 b_1) r else bif q80 then aA q82 r else bif q83 then aA q85 r else aA q3 r else bif
  decide (aI i.op = 3) then ∃ (s : Ins × (Nat → Int)),aC q6 (q7 s) ∧ aK True ∧ ∀ (y : Int),y = q8 s → bif q9 y then aA q14 r else ∃ (s : Ins × (Nat → Int)),aC q6 (q7
  s) ∧ ∀ (y : List Int),y = q15 s → (y = [] → ∃ (s : Ins × (Nat → Int)),aC q6 (q7 s) ∧ ∀ (y : List Int),y = q15 s → (y = [] → aA q17 r) ∧ (∀ (a : Int),y = [a] → aA (q26
  a) r) ∧ ∀ (a b : Int),y = [a,b] → aA (q34 a b) r) ∧ (∀ (a : Int),y = [a] → ∃ (s : Ins × (Nat → Int)),aC q6 (q7 s) ∧ ∀ (y : List Int),y = q15 s → (y = [] → aA (q37 a)
  r) ∧ (∀ (a_3 : Int),y = [a_3] → aA (q38 a a_3) r) ∧ ∀ (a_3 b : Int),y = [a_3,b] → aA (q39 a a_3 b) r) ∧ ∀ (a b : Int),y = [a,b] → ∃ (s : Ins × (Nat → Int)),aC q6 (q7
  s) ∧ ∀ (y : List Int),y = q15 s → (y = [] → aA (q43 a b) r) ∧ (∀ (a_3 : Int),y = [a_3] → aA (q44 a b a_3) r) ∧ ∀ (a_3 b_1 : Int),y = [a_3,b_1] → aA (q45 a b a_3 b_1) r
  else bif q46 then ∃ (s : (Nat → Int) × Int),aC q47 (q48 s) ∧ aK (s.2 ≤ 15) ∧ ∀ (y : Bool),y = q49 s → bif y then aA q50 r else aA q51 r else bif q52 then ∃ (s : (Nat
  → Int) × Int),aC q53 (q48 s) ∧ aK True ∧ ∀ (y : Int),y = q54 s → bif q9 y then aA q55 r else aA q56 r else bif q57 then ∃ (s : Ins),aC [aZ i] [aZ s] ∧ aK
  True ∧ ∀ (y : List Int),y = aS s → ∃ (s : (Nat → Int) × List Int),aC (q58 y) (q59 s) ∧ aK (s.2.length ≤ 1000000000 ∧ ∀ (x : Int),x ∈ s.2 → x ≤ 15) ∧ ∀ (y : Bool),y =
  q60 s → bif !y then aA q64 r else ∃ (s : Ins × (Nat → Int)),aC q6 (q7 s) ∧ ∀ (y : List Int),y = q15 s → (y = [] → ∃ (s : Ins × (Nat → Int)),aC q6 (q7 s) ∧ ∀ (y : List
  Int),y = q15 s → (y = [] → aA q66 r) ∧ (∀ (a : Int),y = [a] → aA (q68 a) r) ∧ ∀ (a b : Int),y = [a,b] → aA (q70 a b) r) ∧ (∀ (a : Int),y = [a] → ∃ (s : Ins × (Nat → Int)),
  aC q6 (q7 s) ∧ ∀ (y : List Int),y = q15 s → (y = [] → aA (q72 a) r) ∧ (∀ (a_3 : Int),y = [a_3] → aA (q73 a a_3) r) ∧ ∀ (a_3 b : Int),y = [a_3,b] → aA (q74 a a_3 b)
  r) ∧ ∀ (a b : Int),y = [a,b] → ∃ (s : Ins × (Nat → Int)),aC q6 (q7 s) ∧ ∀ (y : List Int),y = q15 s → (y = [] → aA (q77 a b) r) ∧ (∀ (a_3 : Int),y = [a_3] → aA (q78 a
  b a_3) r) ∧ ∀ (a_3 b_1 : Int),y = [a_3,b_1] → aA (q79 a b a_3 b_1) r else bif q80 then aA q82 r else bif q83 then aA q85 r else aA q3 r):=by kernel_rfl
theorem a0R : eI Try.prog (31,a9P):=bB fun ⟨i,o,pc,off⟩ _ => by
 show Pure _ _ (cons [aZ i,cY o,.int .i64 pc,.int .i64 off]) (con (aQQ (iO i o pc off)))
 refine eS (u:=80) (k:=20) mix a9Q ?_
 refine Eq.mpr (a6I i o pc off _) ?_
 unfold iO
 cases hr : cT i with
 | false =>
  simp only [zaH,zaB,if_true]
  exact ⟨iH (aF cQ (aF cQ bO))⟩
 | true =>
 have hd : aI i.op = 4 → i.d ≤ 15:=fun h => by
  simp only [cT,zaG] at hr
  have hb:=hr.2.1
  simp only [vP,aI1,h,zaV,zaG,zaK] at hb
  omega
 simp only [zaI,zaD,Bool.true_eq_false,if_false]
 generalize aI i.op = f at hd
 by_cases hf : f = 1 ∨ f = 2 ∨ f = 3
 ·rw [if_pos hf]
  rcases hf with rfl | rfl | rfl
  all_goals
   simp only [Int.reduceEq,zaC,zaE,zaB,zaD]
   refine ⟨(i,o),.rfl,⟨trivial⟩, ?_⟩
   intro y hy
   replace hy : y = aCC i o:=hy
   subst hy
   by_cases h1 : aCC i o = 1
   ·simp only [h1,zaC,zaB,if_true]
    exact ⟨iH (aF (by first | exact cQ | exact c0 (.refl _) | exact dC (.refl _) (.refl _) | exact dF (.refl _) (.refl _) (.refl _)) (aF (by first | exact cQ | exact c0 (.refl _) | exact dC (.refl _) (.refl _) | exact dF (.refl _) (.refl _) (.refl _)) bO))⟩
   ·simp only [h1,zaE,zaD,if_false]
    refine ⟨(i,o),.rfl, ?_⟩
    intro y hy
    replace hy : y = hP i o:=hy
    subst hy
    refine ⟨fun e1 => ?_,fun a e1 => ?_,fun a b e1 => ?_⟩
    ·refine ⟨(i,o),.rfl, ?_⟩
     intro y hy
     replace hy : y = hP i o:=hy
     subst hy
     refine ⟨fun e2 => ?_,fun c e2 => ?_,fun c d e2 => ?_⟩
     ·rw [e1];exact ⟨iH (aF (by first | exact cQ | exact c0 (.refl _) | exact dC (.refl _) (.refl _) | exact dF (.refl _) (.refl _) (.refl _)) (aF (by first | exact cQ | exact c0 (.refl _) | exact dC (.refl _) (.refl _) | exact dF (.refl _) (.refl _) (.refl _)) bO))⟩
     ·rw [e1] at e2;cases e2
     ·rw [e1] at e2;cases e2
    ·refine ⟨(i,o),.rfl, ?_⟩
     intro y hy
     replace hy : y = hP i o:=hy
     subst hy
     refine ⟨fun e2 => ?_,fun c e2 => ?_,fun c d e2 => ?_⟩
     ·rw [e1] at e2;cases e2
     ·rw [e1] at e2;cases e2;rw [e1];exact ⟨iH (aF (by first | exact cQ | exact c0 (.refl _) | exact dC (.refl _) (.refl _) | exact dF (.refl _) (.refl _) (.refl _)) (aF (by first | exact cQ | exact c0 (.refl _) | exact dC (.refl _) (.refl _) | exact dF (.refl _) (.refl _) (.refl _)) bO))⟩
     ·rw [e1] at e2;cases e2
    ·refine ⟨(i,o),.rfl, ?_⟩
     intro y hy
     replace hy : y = hP i o:=hy
     subst hy
     refine ⟨fun e2 => ?_,fun c e2 => ?_,fun c d e2 => ?_⟩
     ·rw [e1] at e2;cases e2
     ·rw [e1] at e2;cases e2
     ·rw [e1] at e2;cases e2;rw [e1];exact ⟨iH (aF (by first | exact cQ | exact c0 (.refl _) | exact dC (.refl _) (.refl _) | exact dF (.refl _) (.refl _) (.refl _)) (aF (by first | exact cQ | exact c0 (.refl _) | exact dC (.refl _) (.refl _) | exact dF (.refl _) (.refl _) (.refl _)) bO))⟩
 rw [if_neg hf]
 have h1 : ¬ f = 1:=fun h => hf (.inl h)
 have h2 : ¬ f = 2:=fun h => hf (.inr (.inl h))
 have h3 : ¬ f = 3:=fun h => hf (.inr (.inr h))
 simp only [h1,h2,h3,zaE,zaD]
 by_cases h4 : f = 4
 ·simp only [h4,zaC,zaB,if_true]
  refine ⟨(o,i.d),.rfl,⟨hd h4⟩, ?_⟩
  intro y hy
  replace hy : y = vR o i.d:=hy
  subst hy
  cases vR o i.d with
  | true => simp only [zaB,if_true];exact ⟨iH (aF (by first | exact cQ | exact c0 (.refl _) | exact dC (.refl _) (.refl _) | exact dF (.refl _) (.refl _) (.refl _)) (aF (by first | exact cQ | exact c0 (.refl _) | exact dC (.refl _) (.refl _) | exact dF (.refl _) (.refl _) (.refl _)) bO))⟩
  | false => simp only [zaD,zaU,if_false];exact ⟨iH (aF (by first | exact cQ | exact c0 (.refl _) | exact dC (.refl _) (.refl _) | exact dF (.refl _) (.refl _) (.refl _)) (aF (by first | exact cQ | exact c0 (.refl _) | exact dC (.refl _) (.refl _) | exact dF (.refl _) (.refl _) (.refl _)) bO))⟩
 simp only [h4,zaE,zaD,if_false]
 by_cases h5 : f = 5
 ·simp only [h5,zaC,zaB,if_true]
  refine ⟨(o,i.b),.rfl,⟨trivial⟩, ?_⟩
  intro y hy
  replace hy : y = iJ o i.b:=hy
  subst hy
  by_cases g : iJ o i.b = 1
  ·simp only [g,zaC,zaB,if_true];exact ⟨iH (aF (by first | exact cQ | exact c0 (.refl _) | exact dC (.refl _) (.refl _) | exact dF (.refl _) (.refl _) (.refl _)) (aF (by first | exact cQ | exact c0 (.refl _) | exact dC (.refl _) (.refl _) | exact dF (.refl _) (.refl _) (.refl _)) bO))⟩
  ·simp only [g,zaE,zaD,if_false];exact ⟨iH (aF (by first | exact cQ | exact c0 (.refl _) | exact dC (.refl _) (.refl _) | exact dF (.refl _) (.refl _) (.refl _)) (aF (by first | exact cQ | exact c0 (.refl _) | exact dC (.refl _) (.refl _) | exact dF (.refl _) (.refl _) (.refl _)) bO))⟩
 simp only [h5,zaE,zaD,if_false]
 by_cases h6 : f = 6
 ·simp only [h6,zaC,zaB,if_true]
  refine ⟨i,.rfl,⟨trivial⟩, ?_⟩
  rintro y rfl
  refine ⟨(o,aS i),.rfl,⟨by have:=jE (i:=i);exact ⟨show (aS i).length ≤ 1000000000 by omega,fun x hx => (this.2 x hx).2⟩⟩, ?_⟩
  intro y hy
  replace hy : y = m8 o (aS i):=hy
  subst hy
  cases m8 o (aS i) with
  | false => simp only [zaH,zaB,if_true];exact ⟨iH (aF (by first | exact cQ | exact c0 (.refl _) | exact dC (.refl _) (.refl _) | exact dF (.refl _) (.refl _) (.refl _)) (aF (by first | exact cQ | exact c0 (.refl _) | exact dC (.refl _) (.refl _) | exact dF (.refl _) (.refl _) (.refl _)) bO))⟩
  | true =>
   simp only [zaI,zaD,Bool.true_eq_false,if_false]
   refine ⟨(i,o),.rfl, ?_⟩
   intro y hy
   replace hy : y = hP i o:=hy
   subst hy
   refine ⟨fun e1 => ?_,fun a e1 => ?_,fun a b e1 => ?_⟩
   ·refine ⟨(i,o),.rfl, ?_⟩
    intro y hy
    replace hy : y = hP i o:=hy
    subst hy
    refine ⟨fun e2 => ?_,fun c e2 => ?_,fun c d e2 => ?_⟩
    ·rw [e1];exact ⟨iH (aF (by first | exact cQ | exact c0 (.refl _) | exact dC (.refl _) (.refl _) | exact dF (.refl _) (.refl _) (.refl _)) (aF (by first | exact cQ | exact c0 (.refl _) | exact dC (.refl _) (.refl _) | exact dF (.refl _) (.refl _) (.refl _)) bO))⟩
    ·rw [e1] at e2;cases e2
    ·rw [e1] at e2;cases e2
   ·refine ⟨(i,o),.rfl, ?_⟩
    intro y hy
    replace hy : y = hP i o:=hy
    subst hy
    refine ⟨fun e2 => ?_,fun c e2 => ?_,fun c d e2 => ?_⟩
    ·rw [e1] at e2;cases e2
    ·rw [e1] at e2;cases e2;rw [e1];exact ⟨iH (aF (by first | exact cQ | exact c0 (.refl _) | exact dC (.refl _) (.refl _) | exact dF (.refl _) (.refl _) (.refl _)) (aF (by first | exact cQ | exact c0 (.refl _) | exact dC (.refl _) (.refl _) | exact dF (.refl _) (.refl _) (.refl _)) bO))⟩
    ·rw [e1] at e2;cases e2
   ·refine ⟨(i,o),.rfl, ?_⟩
    intro y hy
    replace hy : y = hP i o:=hy
    subst hy
    refine ⟨fun e2 => ?_,fun c e2 => ?_,fun c d e2 => ?_⟩
    ·rw [e1] at e2;cases e2
    ·rw [e1] at e2;cases e2
    ·rw [e1] at e2;cases e2;rw [e1];exact ⟨iH (aF (by first | exact cQ | exact c0 (.refl _) | exact dC (.refl _) (.refl _) | exact dF (.refl _) (.refl _) (.refl _)) (aF (by first | exact cQ | exact c0 (.refl _) | exact dC (.refl _) (.refl _) | exact dF (.refl _) (.refl _) (.refl _)) bO))⟩
 simp only [h6,zaE,zaD,if_false]
 by_cases h7 : f = 7
 ·simp only [h7,zaC,zaB,if_true];exact ⟨iH (aF (by first | exact cQ | exact c0 (.refl _) | exact dC (.refl _) (.refl _) | exact dF (.refl _) (.refl _) (.refl _)) (aF (by first | exact cQ | exact c0 (.refl _) | exact dC (.refl _) (.refl _) | exact dF (.refl _) (.refl _) (.refl _)) bO))⟩
 simp only [h7,zaE,zaD,if_false]
 by_cases h8 : f = 8
 ·simp only [h8,zaC,zaB,if_true];exact ⟨iH (aF (by first | exact cQ | exact c0 (.refl _) | exact dC (.refl _) (.refl _) | exact dF (.refl _) (.refl _) (.refl _)) (aF (by first | exact cQ | exact c0 (.refl _) | exact dC (.refl _) (.refl _) | exact dF (.refl _) (.refl _) (.refl _)) bO))⟩
 simp only [h8,zaE,zaD,if_false]
 exact ⟨iH (aF (by first | exact cQ | exact c0 (.refl _) | exact dC (.refl _) (.refl _) | exact dF (.refl _) (.refl _) (.refl _)) (aF (by first | exact cQ | exact c0 (.refl _) | exact dC (.refl _) (.refl _) | exact dF (.refl _) (.refl _) (.refl _)) bO))⟩
def TT4 : Tab:=fM qq jD [(100,aOR)] [] [(73,a0J),(19,aWH)] []
def kU (p : Prog) (i j : Nat) : Bool:=decide (j = 0) || (List.range i).any (fun m => decide (bQ p m = (j : Int)) || (fC (ix p.code m) && decide (m + 1 = j ∧ m + 1 < p.code.length)))
def pG (p : Prog) (k : Nat) : List Int:=((List.range k).filter (kU p p.code.length)).map (fun j : Nat => (j : Int))
def aM (p : Prog) : List Int:=if aX p then pG p p.code.length else []
def a9R : List XV → Option ((XV → Prop) → Prop):=eQ (fun p : Prog => [aL p]) (fun p => p.wf) (fun p => aM p) (fun y => aB 1 bF y)
def ld1 (p : Prog) (g : Nat → Bool) (i : Nat) : XSt:=⟨[(4,.int .i64 i),(3,.sl 1 [] 0 0 p.code.length 1),(1,.ptr 0 [] 0)],[(1,some (.tab p.code.length 1 (fun j => .bool (g j)))),(0,some (aL p))],2⟩
def ld2 (p : Prog) (g : Nat → Bool) (out : List Int) (i : Nat) : XSt:=⟨[(7,.int .i64 i),(6,.sl 2 [] 0 0 out.length 1),(3,.sl 1 [] 0 0 p.code.length 1)],[(2,some (.tab out.length 1 (fun i => bF (ix out i)))),(1,some (.tab p.code.length 1 (fun j => .bool (g j))))],3⟩
theorem a0S (p : Prog) (r : XV) : (goQ Try.prog TT4 [(.tmp 2)] r (.run iN) [] ⟨jO 0 [aL p],[],0⟩) = (
 letI q1 : XV:=.row true 0 0 fun x => .unk;
 letI q2 : Bool:=decide (0 < p.code.length);∃ (s : Prog),aC [aL p] [aL s] ∧ aK s.wf ∧ ∀ (y : Bool),y = aX s → bif !y then aA q1 r else bif decide (p.code.length
  * 1 ≤ 140737488355328) then bif decide (0 < (↑(p.code.length) : Int)) then bif q2 then bif q2 then aP (Ok Try.prog (Tab.q TT4)) kO (XSt.mk [(4,.int .i64 0),(3,
  .sl 1 [] 0 0 p.code.length 1),(2,q1),(1,.ptr 0 [] 0)] [(1,some (.tab p.code.length 1 fun j => .bool (bif Nat.beq j 0 then true else false))),(0,some (aL p))] 2) [Frm.blk
  0,Frm.seq iI] (bC [AR.tmp 2] r) else False else False else False else False):=by kernel_rfl
theorem a0T (p : Prog) (g : Nat → Bool) (i : Nat) (r : XV) (A : XSt → Prop) : (goQ Try.prog TT4 [(.tmp 2)] r (.run kO) [.lp kO A,.blk 0,.seq iI] (ld1 p g i)) = (
 letI q1 : Bool:=decide ((↑i : Int) < (↑(p.code.length) : Int));
 letI q2 : Int → Nat:=fun y => Int.toNat y * 1;
 letI q3 : Int → Bool:=fun y => decide (Int.toNat y < p.code.length);
 letI q4 : Bool:=bif fC (ix p.code i) then fC (ix p.code i) else true;
 letI q5 : Int:=IntKind.wrap .i64 ((↑i : Int) + 1);
 letI q6 : Bool:=decide (q5 < (↑(p.code.length) : Int));
 letI q7 : Bool:=bif fC (ix p.code i) then q6 else false;
 letI q8 : Bool:=decide (0 ≤ q5);
 letI q9 : Nat:=Int.toNat q5;
 letI q10 : Nat:=q9 * 1;
 letI q11 : Bool:=Nat.beq q10 q10;
 letI q12 : Bool:=decide (q9 < p.code.length);
 letI q13 : XV:=.sl 1 [] 0 0 p.code.length 1;
 letI q14 : List (Nat × XV):=[(4,.int .i64 q5),(3,q13),(1,.ptr 0 [] 0)];
 letI q15 : Nat → Bool:=fun j => Nat.beq j q9;
 letI q16 : List (Nat × Option XV):=[(0,some (aL p))];
 letI q17 : List (Nat × Option XV):=(1,some (.tab p.code.length 1 fun j => .bool (g j))) :: q16;bif q1 then ∃ (s : Prog × Nat),aC [aL p,.int .i64 (↑i : Int)] [aL s.1,
  .int .i64 (↑(s.2) : Int)] ∧ aK (s.1.wf ∧ s.2 < s.1.code.length) ∧ ∀ (y : Int),y = bQ s.1 s.2 → bif decide (y ≥ 0) then bif decide (0 ≤ y) then bif decide (y < (↑(p.code.length)
  : Int)) then bif Nat.beq (q2 y) (q2 y) then bif q3 y then bif q3 y then bif q1 then bif q4 then bif q7 then bif q8 then bif q6 then bif q11 then bif q12 then bif q12 then A (XSt.mk
  q14 ((1,some (.tab p.code.length 1 fun j => .bool (bif q15 j then true else bif Nat.beq j (Int.toNat y) then true else g j))) :: q16) 2) else False else False else False else False
  else False else A (XSt.mk q14 ((1,some (.tab p.code.length 1 fun j => .bool (bif Nat.beq j (Int.toNat y) then true else g j))) :: q16) 2) else False else False else False else False
  else False else False else False else bif q1 then bif q4 then bif q7 then bif q8 then bif q6 then bif q11 then bif q12 then bif q12 then A (XSt.mk q14 ((1,some (.tab p.code.length
  1 fun j => .bool (bif q15 j then true else g j))) :: q16) 2) else False else False else False else False else False else A (XSt.mk q14 q17 2) else False else False else aP (Ok Try.prog
  (Tab.q TT4)) kP (XSt.mk [(7,.int .i64 0),(6,.row true 0 0 fun x => .unk),(3,q13)] q17 2) [Frm.blk 2,Frm.seq oK] (bC [AR.tmp 2] r)):=by kernel_rfl
theorem a0U (p : Prog) (g : Nat → Bool) (out : List Int) (i : Nat) (r : XV) (A : XSt → Prop) : (goQ Try.prog TT4 [(.tmp 2)] r (.run kP) [.lp kP A,.blk 2,.seq oK] (ld2 p g out i)) = (
 letI q1 : Bool:=decide ((↑i : Int) < (↑(p.code.length) : Int));
 letI q2 : Nat:=i * 1;
 letI q3 : Bool:=decide (out.length ≤ out.length);
 letI q4 : XV:=.int .i64 (IntKind.wrap .i64 ((↑i : Int) + 1));
 letI q5 : List (Nat × XV):=[(3,.sl 1 [] 0 0 p.code.length 1)];
 letI q6 : List (Nat × Option XV):=[(1,some (.tab p.code.length 1 fun j => .bool (g j)))];bif q1 then bif q1 then bif Nat.beq q2 q2 then bif decide (i < p.code.length) then bif g
  i then bif q3 then bif decide (pl out.length 1 * 8 ≤ 140737488355328) then A (XSt.mk ((7,q4) :: (6,.sl 3 [] 0 0 (pl out.length 1) 1) :: q5) ((3,some (.tab (pl out.length 1) 1 fun
  i_1 => .int .i64 (bif decide (i_1 < out.length) then ix out i_1 else (↑i : Int)))) :: (2,none) :: q6) 4) else False else False else A (XSt.mk ((7,q4) :: (6,.sl 2 [] 0 0 out.length
  1) :: q5) ((2,some (.tab out.length 1 fun i => bF (ix out i))) :: q6) 3) else False else False else False else bif q3 then aA (aB 1 bF out) r else False):=by kernel_rfl
theorem aWM : bX Try.prog TT4:=bV gV ⟨a0O,trivial⟩ trivial ⟨aOQ,aI2,trivial⟩ trivial
theorem aWN {p : Prog} {n : Nat} (h : 0 ≤ bQ p n) : bQ p n < p.code.length:=by
 unfold bQ at h ⊢
 split at h
 ·omega
 ·rename_i hn
  rw [if_neg hn]
  omega
theorem vD {p : Prog} {i j : Nat} : kU p (i + 1) j = (kU p i j || (decide (bQ p i = (j : Int)) || (fC (ix p.code i) && decide (i + 1 = j ∧ i + 1 < p.code.length)))):=by
 unfold kU
 rw [List.range_succ,List.any_append]
 simp [Bool.or_assoc]
theorem aOT {p : Prog} {k : Nat} : pG p (k + 1) = if kU p p.code.length k then pG p k ++ [(k : Int)] else pG p k:=by
 unfold pG
 rw [List.range_succ,List.filter_append,List.map_append]
 cases h : kU p p.code.length k <;> simp [h]
theorem aHK {p : Prog} {k : Nat} : (pG p k).length ≤ k:=by
 unfold pG
 rw [List.length_map]
 have:=List.length_filter_le (kU p p.code.length) (List.range k)
 simpa using this
theorem a6J : eI Try.prog (71,a9R):=bB fun p hw => by
 have hw : p.wf:=hw
 have hl:=hw.1.2
 refine jB mix aWM rX (Nat.le_of_ble_eq_true rfl) ?_
 refine Eq.mpr (a0S p _) ?_
 refine ⟨p,.rfl,⟨hw⟩, ?_⟩
 rintro y rfl
 unfold aM
 cases hr : aX p with
 | false => exact ⟨cQ⟩
 | true =>
  have hn : 1 ≤ p.code.length ∧ p.code.length ≤ 2000:=by
   simp only [aX,zaG,zaK] at hr
   exact ⟨hr.1.1,hr.1.2.1⟩
  have b1 : p.code.length * 1 ≤ 140737488355328:=by omega
  have b2 : (0 : Int) < (p.code.length : Int):=by omega
  have b3 : 0 < p.code.length:=by omega
  simp only [zaI,zaD,b1,b2,b3,zaC,zaB,if_true]
  refine fS mix aWM (fun i : Nat => ld1 p (kU p i) i) (fun i => i ≤ p.code.length) (fun i => p.code.length - i) 0 (Nat.zero_le _) (.of (dG ⟨rfl,rfl,rfl,trivial⟩ ⟨congrArg some (qB fun j hj => aLT ?_),rfl,trivial⟩ (zaF _))) ?_
  ·rw [vC];simp [kU]
  intro i hi
  refine Eq.mpr (a0T p _ i _ _) ?_
  by_cases hlt : i < p.code.length
  ·have h1 : (i : Int) < (p.code.length : Int):=by omega
   have w1 : IntKind.i64.wrap ((i : Int) + 1) = ((i + 1 : Nat) : Int):=wrap_i64 (by omega) (by omega)
   have h0 : (0 : Int) ≤ ((i + 1 : Nat) : Int):=by omega
   simp only [g1,g2,g3,g4,g5,g6,g7,aD,zaB,zaF,zaC,cB,h1,w1,h0,zaO,zaQ]
   refine ⟨(p,i),.rfl,⟨hw,hlt⟩, ?_⟩
   intro y hy
   replace hy : y = bQ p i:=hy
   subst hy
   have next : ∀ g : Nat → Bool,(∀ j,j < p.code.length → g j = kU p (i + 1) j) → ∃ j,j ≤ p.code.length ∧ cG 2 (XSt.st (XSt.mk [(4,.int .i64 ((i + 1 : Nat) : Int)),(3,.sl 1 [] 0 0 p.code.length 1),(1,.ptr 0 [] 0)] [(1,some (.tab p.code.length 1 fun j => .bool (g j))),(0,some (aL p))] 2)) (ld1 p (kU p j) j).st ∧ p.code.length - j < p.code.length - i:=fun g hg => by
    refine ⟨i + 1,hlt,.of (dG ⟨rfl,rfl,rfl,trivial⟩ ⟨congrArg some (qB fun j hj => aLT (hg j hj)),rfl,trivial⟩ (zaF _)),by omega⟩
   have tt : 0 ≤ bQ p i → ∀ j : Nat,decide (j = (bQ p i).toNat) = decide (bQ p i = (j : Int)):=fun h j => by
    rw [decide_eq_decide];omega
   have tn : ¬ 0 ≤ bQ p i → ∀ j : Nat,decide (bQ p i = (j : Int)) = false:=fun h j => decide_eq_false (by omega)
   by_cases hy : 0 ≤ bQ p i
   ·have hy2 : bQ p i ≥ 0:=hy
    have hy3:=aWN hy
    have hy4 : (bQ p i).toNat < p.code.length:=by omega
    simp only [hy,hy2,hy3,hy4,zaC,zaB]
    simp only [qC]
    by_cases he : fC (ix p.code i) = true ∧ i + 1 < p.code.length
    ·have he2 : ((i + 1 : Nat) : Int) < (p.code.length : Int):=by omega
     simp only [he.1,he.2,he2,zaC,zaS,zaB]
     refine next _ fun j hj => ?_
     rw [vD,he.1,vC,vC,tt hy]
     simp only [bor,he.2,and_true]
     rw [show decide (j = i + 1) = decide (i + 1 = j) from by rw [decide_eq_decide];omega]
     cases kU p i j <;> cases decide (i + 1 = j) <;> cases decide (bQ p i = (j : Int)) <;> rfl
    ·have he2 : (fC (ix p.code i) && decide (((i + 1 : Nat) : Int) < (p.code.length : Int))) = false:=by
      rw [zaW,zaP]
      by_cases h : fC (ix p.code i) = true
      ·exact .inr fun h2 => he ⟨h,by omega⟩
      ·exact .inl (by simpa using h)
     simp only [he2,zaD]
     refine next _ fun j hj => ?_
     have he3 : (fC (ix p.code i) && decide (i + 1 = j ∧ i + 1 < p.code.length)) = false:=by
      rw [zaW,zaP]
      by_cases h : fC (ix p.code i) = true
      ·exact .inr fun h2 => he ⟨h,h2.2⟩
      ·exact .inl (by simpa using h)
     rw [vD,he3,vC,tt hy]
     simp only [bor]
     cases kU p i j <;> cases decide (bQ p i = (j : Int)) <;> rfl
   ·have hy2 : ¬ bQ p i ≥ 0:=hy
    simp only [hy2,zaE,zaD]
    simp only [qC]
    by_cases he : fC (ix p.code i) = true ∧ i + 1 < p.code.length
    ·have he2 : ((i + 1 : Nat) : Int) < (p.code.length : Int):=by omega
     simp only [he.1,he.2,he2,zaC,zaS,zaB]
     refine next _ fun j hj => ?_
     rw [vD,he.1,vC,tn hy]
     simp only [bor,he.2,and_true]
     rw [show decide (j = i + 1) = decide (i + 1 = j) from by rw [decide_eq_decide];omega]
     cases kU p i j <;> cases decide (i + 1 = j) <;> rfl
    ·have he2 : (fC (ix p.code i) && decide (((i + 1 : Nat) : Int) < (p.code.length : Int))) = false:=by
      rw [zaW,zaP]
      by_cases h : fC (ix p.code i) = true
      ·exact .inr fun h2 => he ⟨h,by omega⟩
      ·exact .inl (by simpa using h)
     simp only [he2,zaD]
     refine next _ fun j hj => ?_
     have he3 : (fC (ix p.code i) && decide (i + 1 = j ∧ i + 1 < p.code.length)) = false:=by
      rw [zaW,zaP]
      by_cases h : fC (ix p.code i) = true
      ·exact .inr fun h2 => he ⟨h,h2.2⟩
      ·exact .inl (by simpa using h)
     rw [vD,he3,tn hy]
     cases kU p i j <;> rfl
  ·have h1 : ¬ (i : Int) < (p.code.length : Int):=by omega
   simp only [h1,zaE,zaD]
   obtain rfl : i = p.code.length:=by omega
   refine fS mix aWM (fun k : Nat => ld2 p (kU p p.code.length) (pG p k) k) (fun k => k ≤ p.code.length) (fun k => p.code.length - k) 0 (Nat.zero_le _) (pA [(0,0),(1,1)] rfl rfl rfl rfl rfl ⟨aJ rfl rfl,tI rfl,.sl rfl,trivial⟩ ⟨⟨1,rfl⟩,.same rfl,trivial⟩) ?_
   intro k hk
   refine Eq.mpr (a0U p _ _ k _ _) ?_
   have hkl:=aHK (p:=p) (k:=k)
   by_cases hlt2 : k < p.code.length
   ·have h2 : (k : Int) < (p.code.length : Int):=by omega
    have w1 : IntKind.i64.wrap ((k : Int) + 1) = ((k + 1 : Nat) : Int):=wrap_i64 (by omega) (by omega)
    have b : ((pG p k).length + 1) * 8 ≤ 140737488355328:=by omega
    have st:=aOT (p:=p) (k:=k)
    simp only [g1,g2,g3,g4,g5,g6,g7,aD,zaB,zaF,zaC,cB,h2,hlt2,w1,b,zaQ]
    refine jQ (fun h => ?_) (fun h => ?_)
    ·rw [if_pos h] at st
     refine ⟨k + 1,hlt2, ?_,by omega⟩
     rw [st]
     unfold ld2
     rw [cD]
     exact pA [(0,0),(1,1),(2,3)] rfl rfl rfl rfl rfl ⟨aJ rfl rfl,.sl rfl,.sl rfl,trivial⟩ ⟨aLX (fun i hi => by simp only [hi,zaC,zaB];rfl) (by simp;rfl) rfl,.same rfl,trivial⟩
    ·rw [if_neg (by rw [h];simp)] at st
     refine ⟨k + 1,hlt2, ?_,by omega⟩
     rw [st]
     exact .of (dG ⟨rfl,rfl,rfl,trivial⟩ ⟨rfl,rfl,trivial⟩ (zaF _))
   ·have h2 : ¬ (k : Int) < (p.code.length : Int):=by omega
    simp only [h2,zaE,zaD,g1,g2,g3,g4,g5,g6,g7,aD,zaB,zaF,zaC,cB]
    obtain rfl : k = p.code.length:=by omega
    exact .rfl
def TT5 : Tab:=fM qq jD [] [] [(73,a0J),(71,a9R),(72,aWJ)] []
def nN (b : Block) : XV:=.agg 6 [.int .i64 b.src,.int .i64 b.dst,.int .i64 b.next,.int .i64 b.taken,.row true 0 0 (fun _ => .unk),.row true 0 0 (fun _ => .unk)]
def cS (p : Prog) (l : List Int) (i : Nat) : Int:=if i + 1 < l.length then ix l (i + 1) else p.code.length
def r5 (p : Prog) (l : List Int) (i : Nat) : Int:=if ¬ (ix p.code (cS p l i - 1).toNat).op = 40 ∧ ¬ (ix p.code (cS p l i - 1).toNat).op = 41 then findF l (cS p l i) else -1
def pH (p : Prog) (l : List Int) (i : Nat) : Int:=if bQ p (cS p l i - 1).toNat ≥ 0 then findF l (bQ p (cS p l i - 1).toNat) else -1
def qF (p : Prog) (l : List Int) (i : Nat) : Block:=⟨ix l i,cS p l i,r5 p l i,pH p l i,[],[]⟩
def oY (p : Prog) (l : List Int) (k : Nat) : List Block:=(List.range k).map (qF p l)
def tN (p : Prog) : List Block:=oY p (aM p) (aM p).length
def ctS (p : Prog) (l : List Int) (out : List Block) (i : Nat) : XSt:=⟨[(5,.int .i64 i),(4,.sl 1 [] 0 0 out.length 6),(3,aB 1 bF l),(1,.ptr 0 [] 0)],[(1,some (.tab out.length 6 (fun i => nN (ix out i)))),(0,some (aL p))],2⟩
def a9S : List XV → XSt → Option ((XV → XSt → Prop) → Prop):=a0D (fun p : Prog => [aL p]) (fun p => p.wf) (fun p => tN p) (fun n y => .sl n [] 0 0 y.length 6) (fun y => .tab y.length 6 (fun i => nN (ix y i)))
theorem a6K (p : Prog) (r t : XV) : (goM Try.prog TT5 [(.tmp 2)] r t (.run m7) [] ⟨jO 0 [aL p],[],0⟩) = (
 letI q1 : XV:=.row true 0 0 fun x => .unk;∃ (s : Prog),aC [aL p] [aL s] ∧ aK s.wf ∧ ∀ (y : List Int),y = aM s → aP (Ok Try.prog (Tab.q TT5)) oJ
  (XSt.mk [(5,.int .i64 0),(4,q1),(3,aB 1 bF y),(2,q1),(1,.ptr 0 [] 0)] [(0,some (aL p))] 1) [Frm.blk 0,Frm.seq tM] (aLW [AR.tmp 2] r t)):=by kernel_rfl
theorem a6L (p : Prog) (l : List Int) (out : List Block) (i : Nat) (r t : XV) (A : XSt → Prop) : (goM Try.prog TT5 [(.tmp 2)] r t (.run oJ) [.lp oJ A,.blk 0,.seq tM] (ctS p l out i)) = (
 let q1 : Bool:=decide ((↑i : Int) < (↑(l.length) : Int));
 let q2 : Int:=IntKind.wrap .i64 ((↑i : Int) + 1);
 let q3 : Bool:=decide (q2 < (↑(l.length) : Int));
 let q4 : Int:=ix l (Int.toNat q2);
 let q5 : Int:=IntKind.wrap .i64 (q4 - 1);
 let q6 : Ins:=ix p.code (Int.toNat q5);
 let q7 : Int:=q6.op;
 let q8 : Bool:=decide ¬q7 = 40;
 let q9 : XV:=.int .i64 q4;
 let q10 : List Int × Int → List XV:=fun s => [aB 1 bF s.1,.int .i64 s.2];
 let q11 : List XV:=[aL p,.int .i64 q5];
 let q12 : Prog × Nat → List XV:=fun s => [aL s.1,.int .i64 (↑(s.2) : Int)];
 let q13 : Int → Bool:=fun y => decide (y ≥ 0);
 let q14 : Int → List XV:=fun y => [aB 1 bF l,.int .i64 y];
 let q15 : Bool:=decide (out.length ≤ out.length);
 let q16 : Bool:=decide (pl out.length 1 * 80 ≤ 140737488355328);
 let q17 : List (Nat × XV):=[(3,aB 1 bF l),(1,.ptr 0 [] 0)];
 let q18 : List (Nat × XV):=(5,.int .i64 q2) :: (4,.sl 4 [] 0 0 (pl out.length 1) 6) :: q17;
 let q19 : Nat → Bool:=fun i => decide (i < out.length);
 let q20 : Nat → XV:=fun i_1 => .int .i64 (bif q19 i_1 then (ix out i_1).src else ix l i);
 let q21 : Nat → XV:=fun i => .int .i64 (bif q19 i then (ix out i).dst else q4);
 let q22 : Nat → Int → XV:=fun i y => .int .i64 (bif q19 i then (ix out i).next else y);
 let q23 : Nat → XV:=fun i => .row (bif q19 i then true else true) 0 (bif q19 i then 0 else 0) fun i_1 => XV.raw (bif q19 i then con .unk else con ((fun x => .unk) i_1));
 let q24 : Nat → List XV:=fun i => [q23 i,q23 i];
 let q25 : Nat → Int → List XV:=fun i y => .int .i64 (bif q19 i then (ix out i).taken else y) :: q24 i;
 let q26 : Nat → Int → Int → List XV:=fun i y y_1 => q22 i y :: q25 i y_1;
 let q27 : XV:=aZ q6;
 let q28 : XV:=.row true 0 0 fun x => .unk;
 let q29 : List XV:=[q28,q28];
 let q30 : Int → List XV:=fun y => .int .i64 y :: q29;
 let q31 : Int → Int → List XV:=fun y y_1 => .int .i64 y :: q30 y_1;
 let q32 : List (Nat × Option XV):=[(0,some (aL p))];
 let q33 : List (Nat × Option XV):=(1,none) :: q32;
 let q34 : Nat → List XV:=fun i => .int .i64 (bif q19 i then (ix out i).taken else (-1 : Int)) :: q24 i;
 let q35 : Nat → Int → List XV:=fun i y => q22 i y :: q34 i;
 let q36 : List XV:=.int .i64 (-1 : Int) :: q29;
 let q37 : Int → List XV:=fun y => .int .i64 y :: q36;
 let q38 : Nat → XV:=fun i => .int .i64 (bif q19 i then (ix out i).next else (-1 : Int));
 let q39 : Nat → Int → List XV:=fun i y => q38 i :: q25 i y;
 let q40 : Int → List XV:=fun y => .int .i64 (-1 : Int) :: q30 y;
 let q41 : Nat → List XV:=fun i => q38 i :: q34 i;
 let q42 : List XV:=.int .i64 (-1 : Int) :: q36;
 let q43 : Int:=IntKind.wrap .i64 ((↑(p.code.length) : Int) - 1);
 let q44 : Ins:=ix p.code (Int.toNat q43);
 let q45 : Int:=q44.op;
 let q46 : Bool:=decide ¬q45 = 40;
 let q47 : List XV:=[aL p,.int .i64 q43];
 let q48 : Nat → XV:=fun i => .int .i64 (bif q19 i then (ix out i).dst else (↑(p.code.length) : Int));
 let q49 : XV:=aZ q44;
 let q50 : XV:=.sl 1 [] 0 0 out.length 6;bif q1 then bif q1 then bif q3 then bif decide (0 ≤ q2) then bif q3 then bif decide (0 ≤ q5) then bif decide (q5 < (↑(p.code.length) : Int))
  then bif bif q8 then q8 else true then bif bif q8 then decide ¬q7 = 41 else false then ∃ (s : List Int × Int),aC [aB 1 bF l,q9] (q10 s) ∧ aK (s.1.length ≤ 1000000000)
  ∧ ∀ (y : Int),y = findF s.1 s.2 → ∃ (s : Prog × Nat),aC q11 (q12 s) ∧ aK (s.1.wf ∧ s.2 < s.1.code.length) ∧ ∀ (y_1 : Int),y_1 = bQ s.1 s.2 → bif q13 y_1 then ∃ (s : List
  Int × Int),aC (q14 y_1) (q10 s) ∧ aK (s.1.length ≤ 1000000000) ∧ ∀ (y_2 : Int),y_2 = findF s.1 s.2 → bif q15 then bif q16 then A (XSt.mk q18 ((4,some (.tab (pl out.length
  1) 6 fun i => .agg 6 (q20 i :: q21 i :: q26 i y y_2))) :: (3,some q27) :: (2,some (.agg 6 (.int .i64 (ix l i) :: q9 :: q31 y y_2))) :: q33) 5) else False else False else bif q15 then
  bif q16 then A (XSt.mk q18 ((4,some (.tab (pl out.length 1) 6 fun i => .agg 6 (q20 i :: q21 i :: q35 i y))) :: (3,some q27) :: (2,some (.agg 6 (.int .i64 (ix l i) :: q9 :: q37 y)))
  :: q33) 5) else False else False else ∃ (s : Prog × Nat),aC q11 (q12 s) ∧ aK (s.1.wf ∧ s.2 < s.1.code.length) ∧ ∀ (y : Int),y = bQ s.1 s.2 → bif q13 y then ∃ (s : List
  Int × Int),aC (q14 y) (q10 s) ∧ aK (s.1.length ≤ 1000000000) ∧ ∀ (y : Int),y = findF s.1 s.2 → bif q15 then bif q16 then A (XSt.mk q18 ((4,some (.tab (pl out.length 1) 6 fun
  i => .agg 6 (q20 i :: q21 i :: q39 i y))) :: (3,some q27) :: (2,some (.agg 6 (.int .i64 (ix l i) :: q9 :: q40 y))) :: q33) 5) else False else False else bif q15 then bif q16 then
  A (XSt.mk q18 ((4,some (.tab (pl out.length 1) 6 fun i => .agg 6 (q20 i :: q21 i :: q41 i))) :: (3,some q27) :: (2,some (.agg 6 (.int .i64 (ix l i) :: q9 :: q42))) :: q33) 5) else
  False else False else False else False else False else False else False else bif decide (0 ≤ q43) then bif decide (q43 < (↑(p.code.length) : Int)) then bif bif q46 then q46 else true
  then bif bif q46 then decide ¬q45 = 41 else false then ∃ (s : List Int × Int),aC [aB 1 bF l,.int .i64 (↑(p.code.length) : Int)] (q10 s) ∧ aK (s.1.length ≤ 1000000000)
  ∧ ∀ (y : Int),y = findF s.1 s.2 → ∃ (s : Prog × Nat),aC q47 (q12 s) ∧ aK (s.1.wf ∧ s.2 < s.1.code.length) ∧ ∀ (y_1 : Int),y_1 = bQ s.1 s.2 → bif q13 y_1 then ∃ (s : List
  Int × Int),aC (q14 y_1) (q10 s) ∧ aK (s.1.length ≤ 1000000000) ∧ ∀ (y_2 : Int),y_2 = findF s.1 s.2 → bif q15 then bif q16 then A (XSt.mk q18 ((4,some (.tab (pl out.length
  1) 6 fun i => .agg 6 (q20 i :: q48 i :: q26 i y y_2))) :: (3,some q49) :: (2,some (.agg 6 (.int .i64 (ix l i) :: .int .i64 (↑(p.code.length) : Int) :: q31 y y_2))) :: q33) 5) else
  False else False else bif q15 then bif q16 then A (XSt.mk q18 ((4,some (.tab (pl out.length 1) 6 fun i => .agg 6 (q20 i :: q48 i :: q35 i y))) :: (3,some q49) :: (2,some (.agg 6
  (.int .i64 (ix l i) :: .int .i64 (↑(p.code.length) : Int) :: q37 y))) :: q33) 5) else False else False else ∃ (s : Prog × Nat),aC q47 (q12 s) ∧ aK (s.1.wf ∧ s.2 < s.1.code.length)
  ∧ ∀ (y : Int),y = bQ s.1 s.2 → bif q13 y then ∃ (s : List Int × Int),aC (q14 y) (q10 s) ∧ aK (s.1.length ≤ 1000000000) ∧ ∀ (y : Int),y = findF s.1 s.2 → bif q15 then
  bif q16 then A (XSt.mk q18 ((4,some (.tab (pl out.length 1) 6 fun i => .agg 6 (q20 i :: q48 i :: q39 i y))) :: (3,some q49) :: (2,some (.agg 6 (.int .i64 (ix l i) :: .int .i64 (↑(p.code.length)
  : Int) :: q40 y))) :: q33) 5) else False else False else bif q15 then bif q16 then A (XSt.mk q18 ((4,some (.tab (pl out.length 1) 6 fun i => .agg 6 (q20 i :: q48 i :: q41 i))) :: (3,
  some q49) :: (2,some (.agg 6 (.int .i64 (ix l i) :: .int .i64 (↑(p.code.length) : Int) :: q42))) :: q33) 5) else False else False else False else False else False else False else rI
  q50 (XSt.mk ((2,q50) :: (71,q50) :: (14,.bool q1) :: (13,.int .i64 (↑(l.length) : Int)) :: (12,aB 1 bF l) :: (11,.int .i64 (↑i : Int)) :: (5,.int .i64 (↑i : Int)) :: (4,
  q50) :: q17) ((1,some (.tab out.length 6 fun i => nN (ix out i))) :: q32) 2) r t):=by kernel_rfl
theorem a35 : bX Try.prog TT5:=bV gV trivial trivial ⟨aOQ,a6J,aQP,trivial⟩ trivial
theorem aL1 {p : Prog} {k : Nat} : (∀ x ∈ pG p k,0 ≤ x ∧ x < k) ∧ (pG p k).Pairwise (· < ·):=by
 unfold pG
 refine ⟨fun x hx => ?_, ?_⟩
 ·obtain ⟨j,hj,rfl⟩:=List.mem_map.1 hx
  have:=List.mem_range.1 (List.mem_filter.1 hj).1
  omega
 ·rw [List.pairwise_map]
  refine ((List.pairwise_lt_range (n:=k)).filter _).imp fun h => ?_
  omega
theorem kI {p : Prog} : (∀ x ∈ aM p,0 ≤ x ∧ x < p.code.length) ∧ (aM p).Pairwise (· < ·) ∧ (aM p).length ≤ 2000:=by
 unfold aM
 cases hr : aX p with
 | false => exact ⟨fun x hx => (by cases hx),.nil,Nat.zero_le _⟩
 | true =>
  simp only [aX,zaG,zaK] at hr
  have:=aHK (p:=p) (k:=p.code.length)
  exact ⟨aL1.1,aL1.2,show (pG p p.code.length).length ≤ 2000 by omega⟩
theorem aL2 {l : List Int} (h : l.Pairwise (· < ·)) {i j : Nat} (hij : i < j) (hj : j < l.length) : ix l i < ix l j:=by
 rw [fY (by omega),fY hj]
 exact List.pairwise_iff_getElem.1 h i j (by omega) hj hij
theorem tO {p : Prog} {i : Nat} (h : i < (aM p).length) : 1 ≤ cS p (aM p) i ∧ cS p (aM p) i ≤ p.code.length ∧ ix (aM p) i < cS p (aM p) i:=by
 have ok:=kI (p:=p)
 have h1:=ok.1 _ (cH h)
 unfold cS
 split
 ·rename_i h2
  have h3:=aL2 ok.2.1 (Nat.lt_succ_self i) h2
  have h4:=ok.1 _ (cH h2)
  have h3 : ix (aM p) i < ix (aM p) (i + 1):=h3
  omega
 ·omega
theorem aTE {p : Prog} {l : List Int} {k : Nat} : oY p l (k + 1) = oY p l k ++ [qF p l k]:=by
 unfold oY
 rw [List.range_succ,List.map_append]
 rfl
theorem zI {p : Prog} {l : List Int} {k : Nat} : (oY p l k).length = k:=by simp [oY]
theorem a6M : aZ7 Try.prog qq (30,a9S):=aQL (fun n y => rfl) fun p hw => by
 have hw : p.wf:=hw
 have hl:=hw.1.2
 refine a3Z mix a35 aCA (Nat.le_of_ble_eq_true rfl) (rC _ (dS.2 fun i _ => rfl)) rfl ?_
 refine Eq.mpr (a6K p _ _) ?_
 refine ⟨p,.rfl,⟨hw⟩, ?_⟩
 rintro l rfl
 unfold tN
 have hok:=kI (p:=p)
 have hto : ∀ i,i < (aM p).length → 1 ≤ cS p (aM p) i ∧ cS p (aM p) i ≤ p.code.length:=fun i hi => ⟨(tO hi).1,(tO hi).2.1⟩
 generalize aM p = l at *
 refine a9I mix a35 (fun k : Nat => ctS p l (oY p l k) k) (fun k => k ≤ l.length) (fun k => l.length - k) 0 (Nat.zero_le _) (pA [(0,0)] rfl rfl rfl rfl rfl ⟨aJ rfl rfl,tI rfl,aJ rfl rfl,.ptr rfl,trivial⟩ ⟨⟨6,rfl⟩,.same rfl,trivial⟩) ?_
 intro i hi
 refine Eq.mpr (a6L p l _ i _ _ _) ?_
 have hkl:=zI (p:=p) (l:=l) (k:=i)
 by_cases hlt : i < l.length
 ·have h1 : (i : Int) < (l.length : Int):=by omega
  have w1 : IntKind.i64.wrap ((i : Int) + 1) = ((i + 1 : Nat) : Int):=wrap_i64 (by omega) (by omega)
  obtain ⟨t1,t2⟩:=hto i hlt
  have w2 : IntKind.i64.wrap (cS p l i - 1) = (((cS p l i - 1).toNat : Nat) : Int):=by rw [wrap_i64 (by omega) (by omega)];omega
  have t3 : (cS p l i - 1).toNat < p.code.length:=by omega
  have t4 : (0 : Int) ≤ (((cS p l i - 1).toNat : Nat) : Int):=by omega
  have t5 : (((cS p l i - 1).toNat : Nat) : Int) < (p.code.length : Int):=by omega
  have st:=aTE (p:=p) (l:=l) (k:=i)
  have b : (i + 1) * 80 ≤ 140737488355328:=by omega
  have next : ∀ (f : Nat → XV) (h2 h3 : XV),(∀ j,j < i → con (f j) = con (nN (ix (oY p l i) j))) → con (f i) = con (nN (qF p l i)) →
    ∃ j,j ≤ l.length ∧ cG 1 (XSt.st (XSt.mk [(5,.int .i64 ((i + 1 : Nat) : Int)),(4,.sl 4 [] 0 0 (i + 1) 6),(3,aB 1 bF l),(1,.ptr 0 [] 0)] [(4,some (.tab (i + 1) 6 f)),(3,some h3),(2,some h2),(1,none),(0,some (aL p))] 5)) (ctS p l (oY p l j) j).st ∧ l.length - j < l.length - i:=fun f h2 h3 e1 e2 => by
   refine ⟨i + 1,hlt, ?_,by omega⟩
   rw [st]
   unfold ctS
   rw [cD]
   have e1' : ∀ j,j < (oY p l i).length → con (f j) = con (nN (ix (oY p l i) j)):=fun j hj => e1 j (by omega)
   have e2' : con (f (oY p l i).length) = con (nN (qF p l i)):=by rw [hkl];exact e2
   have:=aLX (κ:=kap [(0,0),(1,4)]) (es:=6) (f:=f) (en:=nN) (l:=oY p l i) (x:=qF p l i) e1' e2' rfl
   rw [hkl] at this ⊢
   exact pA [(0,0),(1,4)] rfl rfl rfl rfl rfl ⟨aJ rfl rfl,.sl rfl,aJ rfl rfl,.ptr rfl,trivial⟩ ⟨this,.same rfl,trivial⟩
  have fin : ∀ (to nx tk : Int) (f : Nat → XV),cS p l i = to → r5 p l i = nx → pH p l i = tk → (∀ j,f j = .agg 6 [.int .i64 (bif decide (j < i) then (ix (oY p l i) j).src else ix l i),.int .i64 (bif decide (j < i) then (ix (oY p l i) j).dst else to),.int .i64 (bif decide (j < i) then (ix (oY p l i) j).next else nx),.int .i64 (bif decide (j < i) then (ix (oY p l i) j).taken else tk),.row (bif decide (j < i) then true else true) 0 (bif decide (j < i) then 0 else 0) (fun i_2 => .raw (bif decide (j < i) then con .unk else con ((fun _ => XV.unk) i_2))),.row (bif decide (j < i) then true else true) 0 (bif decide (j < i) then 0 else 0) (fun i_2 => .raw (bif decide (j < i) then con .unk else con ((fun _ => XV.unk) i_2)))]) →
    (∀ j,j < i → con (f j) = con (nN (ix (oY p l i) j))) ∧ con (f i) = con (nN (qF p l i)):=fun to nx tk f e1 e2 e3 e4 => by
   refine ⟨fun j hj => ?_, ?_⟩
   ·rw [e4]
    simp only [hj,zaC,zaB]
    rfl
   ·rw [e4]
    simp only [Nat.lt_irrefl,zaE,zaD]
    unfold qF
    rw [e1,e2,e3]
    rfl
  have nx1 : ¬ (ix p.code (cS p l i - 1).toNat).op = 40 ∧ ¬ (ix p.code (cS p l i - 1).toNat).op = 41 → r5 p l i = findF l (cS p l i):=fun h => by unfold r5;rw [if_pos h]
  have nx2 : ¬ (¬ (ix p.code (cS p l i - 1).toNat).op = 40 ∧ ¬ (ix p.code (cS p l i - 1).toNat).op = 41) → r5 p l i = -1:=fun h => by unfold r5;rw [if_neg h]
  have tk1 : bQ p (cS p l i - 1).toNat ≥ 0 → pH p l i = findF l (bQ p (cS p l i - 1).toNat):=fun h => by unfold pH;rw [if_pos h]
  have tk2 : ¬ bQ p (cS p l i - 1).toNat ≥ 0 → pH p l i = -1:=fun h => by unfold pH;rw [if_neg h]
  have hl9 : l.length ≤ 1000000000:=by omega
  have cases2 : ∀ (Y N : Prop),(¬ (ix p.code (cS p l i - 1).toNat).op = 40 ∧ ¬ (ix p.code (cS p l i - 1).toNat).op = 41 → Y) → (¬ (¬ (ix p.code (cS p l i - 1).toNat).op = 40 ∧ ¬ (ix p.code (cS p l i - 1).toNat).op = 41) → N) → cond (bif decide (¬ (ix p.code (cS p l i - 1).toNat).op = 40) then decide (¬ (ix p.code (cS p l i - 1).toNat).op = 41) else false) Y N:=fun Y N hY hN => by
   rw [qC]
   refine jQ (fun h => hY ?_) (fun h => hN fun g => ?_)
   ·simpa [zaG,zaK] using h
   ·rw [decide_eq_true g.1,decide_eq_true g.2] at h;cases h
  by_cases ht : i + 1 < l.length
  ·have ht' : ((i + 1 : Nat) : Int) < (l.length : Int):=by omega
   have ht0 : (0 : Int) ≤ ((i + 1 : Nat) : Int):=by omega
   have eT : ix l (i + 1) = cS p l i:=by unfold cS;rw [if_pos ht]
   simp only [g1,g2,g3,g4,g5,g6,g7,aD,zaB,zaF,zaC,cB,h1,w1,ht',ht0,zaO,eT,w2,t4,t5,hkl,b]
   refine cases2 _ _ (fun hY => ?_) (fun hN => ?_)
   ·refine ⟨(l,cS p l i),.rfl,⟨hl9⟩,fun y hy => ?_⟩
    replace hy : y = findF l (cS p l i):=hy
    subst hy
    refine ⟨(p,(cS p l i - 1).toNat),.rfl,⟨hw,t3⟩,fun y hy => ?_⟩
    replace hy : y = bQ p (cS p l i - 1).toNat:=hy
    subst hy
    refine jQ (fun g => ?_) (fun g => ?_) <;> simp only [zaK,zaP] at g
    ·refine ⟨(l,_),.rfl,⟨hl9⟩,fun y hy => ?_⟩
     replace hy : y = findF l (bQ p (cS p l i - 1).toNat):=hy
     subst hy
     obtain ⟨q1,q2⟩:=fin _ _ _ _ rfl (nx1 hY) (tk1 g) (fun _ => rfl)
     exact next _ _ _ q1 q2
    ·obtain ⟨q1,q2⟩:=fin _ _ _ _ rfl (nx1 hY) (tk2 g) (fun _ => rfl)
     exact next _ _ _ q1 q2
   ·refine ⟨(p,(cS p l i - 1).toNat),.rfl,⟨hw,t3⟩,fun y hy => ?_⟩
    replace hy : y = bQ p (cS p l i - 1).toNat:=hy
    subst hy
    refine jQ (fun g => ?_) (fun g => ?_) <;> simp only [zaK,zaP] at g
    ·refine ⟨(l,_),.rfl,⟨hl9⟩,fun y hy => ?_⟩
     replace hy : y = findF l (bQ p (cS p l i - 1).toNat):=hy
     subst hy
     obtain ⟨q1,q2⟩:=fin _ _ _ _ rfl (nx2 hN) (tk1 g) (fun _ => rfl)
     exact next _ _ _ q1 q2
    ·obtain ⟨q1,q2⟩:=fin _ _ _ _ rfl (nx2 hN) (tk2 g) (fun _ => rfl)
     exact next _ _ _ q1 q2
  ·have ht' : ¬ ((i + 1 : Nat) : Int) < (l.length : Int):=by omega
   have eT : (p.code.length : Int) = cS p l i:=by unfold cS;rw [if_neg ht]
   have eN : IntKind.i64.wrap ((p.code.length : Int) - 1) = (((cS p l i - 1).toNat : Nat) : Int):=by rw [eT];exact w2
   simp only [g1,g2,g3,g4,g5,g6,g7,aD,zaB,zaF,zaC,cB,h1,w1,ht',zaE,zaD,eN,zaO,t4,t5,hkl,b]
   refine cases2 _ _ (fun hY => ?_) (fun hN => ?_)
   ·refine ⟨(l,p.code.length),.rfl,⟨hl9⟩,fun y hy => ?_⟩
    replace hy : y = findF l (p.code.length : Int):=hy
    rw [eT] at hy
    subst hy
    refine ⟨(p,(cS p l i - 1).toNat),.rfl,⟨hw,t3⟩,fun y hy => ?_⟩
    replace hy : y = bQ p (cS p l i - 1).toNat:=hy
    subst hy
    refine jQ (fun g => ?_) (fun g => ?_) <;> simp only [zaK,zaP] at g
    ·refine ⟨(l,_),.rfl,⟨hl9⟩,fun y hy => ?_⟩
     replace hy : y = findF l (bQ p (cS p l i - 1).toNat):=hy
     subst hy
     obtain ⟨q1,q2⟩:=fin _ _ _ _ eT.symm (nx1 hY) (tk1 g) (fun _ => rfl)
     exact next _ _ _ q1 q2
    ·obtain ⟨q1,q2⟩:=fin _ _ _ _ eT.symm (nx1 hY) (tk2 g) (fun _ => rfl)
     exact next _ _ _ q1 q2
   ·refine ⟨(p,(cS p l i - 1).toNat),.rfl,⟨hw,t3⟩,fun y hy => ?_⟩
    replace hy : y = bQ p (cS p l i - 1).toNat:=hy
    subst hy
    refine jQ (fun g => ?_) (fun g => ?_) <;> simp only [zaK,zaP] at g
    ·refine ⟨(l,_),.rfl,⟨hl9⟩,fun y hy => ?_⟩
     replace hy : y = findF l (bQ p (cS p l i - 1).toNat):=hy
     subst hy
     obtain ⟨q1,q2⟩:=fin _ _ _ _ eT.symm (nx2 hN) (tk1 g) (fun _ => rfl)
     exact next _ _ _ q1 q2
    ·obtain ⟨q1,q2⟩:=fin _ _ _ _ eT.symm (nx2 hN) (tk2 g) (fun _ => rfl)
     exact next _ _ _ q1 q2
 ·have h1 : ¬ (i : Int) < (l.length : Int):=by omega
  simp only [h1,zaE,zaD]
  obtain rfl : i = l.length:=by omega
  exact ⟨.inl ⟨1,rfl,rfl⟩⟩
def TT6 : Tab:=fM qq jD [(67,kN)] [] [(19,aWH),(70,aWG),(68,a0L),(69,aQN)] []
def r6 (o : Nat → Int) (x : Ins) : Bool:=!((decide (aI x.op = 4) || decide (aI x.op = 5)) && vR o x.a) && !(decide (aI x.op ≥ 1) && decide (aI x.op ≤ 3) && decide (x.d > 0) && decide (o x.d.toNat = 1) && m8 o (aS x))
def fR (p : Prog) (o : Nat → Int) : Bool:=aX p && (decide (o 0 = 0) && (gL (fun i => decide (i = 0) || decide (o i = 1 ∨ o i = 2)) 16 && gL (fun n => r6 o (ix p.code n)) p.code.length))
def a9T : List XV → Option ((XV → Prop) → Prop):=eQ (fun q : Prog × (Nat → Int) => [aL q.1,cY q.2]) (fun q => q.1.wf) (fun q => fR q.1 q.2) (fun y => .bool y)
def clS (k : Nat) (p : Prog) (o : Nat → Int) (i : Nat) : XSt:=⟨[(k,.int .i64 i),(3,.ptr 1 [] 0),(2,.ptr 0 [] 0)],[(1,some (cY o)),(0,some (aL p))],2⟩
theorem a6N (p : Prog) (o : Nat → Int) (r : XV) : (goQ Try.prog TT6 [(.tmp 4)] r (.run jC) [] ⟨jO 0 [aL p,cY o],[],0⟩) = (∃ (s : Prog),aC [aL p] [aL s] ∧ aK s.wf ∧ ∀ (y : Bool),y = aX s → bif bif !y then true else !!y then bif bif !y then true else decide ¬o 0 = 0 then aA (.bool
 false) r else aP (Ok Try.prog (Tab.q TT6)) lP (XSt.mk [(5,.int .i64 1),(4,.bool false),(3,.ptr 1 [] 0),(2,.ptr 0 [] 0)] [(1,some (.tab 16 1 fun i => .int
 .i64 (o i))),(0,some (aL p))] 2) [Frm.blk 0,Frm.seq iY] (bC [AR.tmp 4] r) else False):=by kernel_rfl
theorem a6O (p : Prog) (o : Nat → Int) (i : Nat) (r : XV) (A : XSt → Prop) : (goQ Try.prog TT6 [(.tmp 4)] r (.run lP) [.lp lP A,.blk 0,.seq iY] (clS 5 p o i)) = (
 letI q1 : Bool:=decide ((↑i : Int) < 16);
 letI q2 : Nat:=i * 1;
 letI q3 : Bool:=Nat.beq q2 q2;
 letI q4 : Bool:=decide (i < 16);
 letI q5 : Bool:=decide ¬o i = 1;
 letI q6 : Bool:=!q5;
 letI q7 : List (Nat × XV):=[(3,.ptr 1 [] 0),(2,.ptr 0 [] 0)];
 letI q8 : List (Nat × Option XV):=[(1,some (cY o)),(0,some (aL p))];bif decide ((↑i : Int) < 16) then bif q1 then bif q3 then bif q4 then bif bif q1 then true else q6 then
  bif bif q3 then true else q6 then bif bif q4 then true else q6 then bif bif q5 then q5 else true then bif bif q5 then decide ¬o i = 2 else false then aA (.bool false) r else A (XSt.mk
  ((5,.int .i64 (IntKind.wrap .i64 ((↑i : Int) + 1))) :: q7) q8 2) else False else False else False else False else False else False else False else aP (Ok Try.prog (Tab.q TT6))
  lQ (XSt.mk ((6,.int .i64 0) :: q7) q8 2) [Frm.blk 2,Frm.seq pD] (bC [AR.tmp 4] r)):=by kernel_rfl
theorem a6P (p : Prog) (o : Nat → Int) (i : Nat) (r : XV) (A : XSt → Prop) : (goQ Try.prog TT6 [(.tmp 4)] r (.run lQ) [.lp lQ A,.blk 2,.seq pD] (clS 6 p o i)) = (
 letI q1 : Bool:=decide ((↑i : Int) < (↑(p.code.length) : Int));
 letI q2 : Int:=aI (Ins.op (ix p.code (Int.toNat (↑i : Int))));
 letI q3 : Bool:=decide (aI ((ix p.code i).op) = 4);
 letI q4 : Bool:=bif q3 then true else decide (aI ((ix p.code i).op) = 5);
 letI q5 : XV:=.tab 16 1 fun i => .int .i64 (o i);
 letI q6 : Bool:=decide (aI ((ix p.code i).op) ≥ 1);
 letI q7 : Bool:=bif q6 then q6 else true;
 letI q8 : Bool:=bif q6 then decide (aI ((ix p.code i).op) ≤ 3) else false;
 letI q9 : Bool:=bif q8 then q8 else true;
 letI q10 : Bool:=bif q8 then decide ((ix p.code i).d > 0) else false;
 letI q11 : Bool:=!q10;
 letI q12 : Bool:=bif decide (0 ≤ (ix p.code i).d) then true else q11;
 letI q13 : Bool:=bif decide ((ix p.code i).d < 16) then true else q11;
 letI q14 : Nat:=Int.toNat ((ix p.code i).d) * 1;
 letI q15 : Bool:=bif Nat.beq q14 q14 then true else q11;
 letI q16 : Nat:=Int.toNat (Ins.d (ix p.code (Int.toNat (↑i : Int))));
 letI q17 : Bool:=bif decide (Int.toNat ((ix p.code i).d) < 16) then true else q11;
 letI q18 : Bool:=bif q10 then q10 else true;
 letI q19 : Bool:=bif q10 then decide (o (Int.toNat ((ix p.code i).d)) = 1) else false;
 letI q20 : List Int → List XV:=fun y => [q5,aB 1 bF y];
 letI q21 : (Nat → Int) × List Int → List XV:=fun s => [cY s.1,aB 1 bF s.2];
 letI q22 : (Nat → Int) × List Int → Bool:=fun s => m8 s.1 s.2;
 letI q23 : Bool → Bool:=fun y => bif q19 then y else false;
 letI q24 : XSt:=XSt.mk [(6,.int .i64 (IntKind.wrap .i64 ((↑i : Int) + 1))),(3,.ptr 1 [] 0),(2,.ptr 0 [] 0)] [(2,some (aZ (ix p.code i))),(1,some (cY o)),(0,some (aL
  p))] 3;
 letI q25 : Bool:=!q19;bif q1 then bif q1 then bif bif q3 then true else !q3 then bif q4 then ∃ (s : (Nat → Int) × Int),aC [q5,.int .i64 ((ix p.code i).a)] [cY s.1,.int
  .i64 s.2] ∧ aK (s.2 ≤ 15) ∧ ∀ (y : Bool),y = vR s.1 s.2 → bif bif q4 then y else false then aA (.bool false) r else bif q7 then bif q9 then bif q12 then bif q13 then bif q15
  then bif q17 then bif q18 then bif q19 then ∃ (s : Ins),aC [aZ (ix p.code i)] [aZ s] ∧ aK True ∧ ∀ (y : List Int),y = aS s → ∃ (s : (Nat → Int) × List Int),aC
  (q20 y) (q21 s) ∧ aK (s.2.length ≤ 1000000000 ∧ ∀ (x : Int),x ∈ s.2 → x ≤ 15) ∧ ∀ (y : Bool),y = q22 s → bif q23 y then aA (.bool false) r else A q24 else bif q25 then A q24
  else False else False else False else False else False else False else False else False else bif !q4 then bif q7 then bif q9 then bif q12 then bif q13 then bif q15 then bif q17 then
  bif q18 then bif q19 then ∃ (s : Ins),aC [aZ (ix p.code i)] [aZ s] ∧ aK True ∧ ∀ (y : List Int),y = aS s → ∃ (s : (Nat → Int) × List Int),aC (q20 y) (q21 s)
  ∧ aK (s.2.length ≤ 1000000000 ∧ ∀ (x : Int),x ∈ s.2 → x ≤ 15) ∧ ∀ (y : Bool),y = q22 s → bif q23 y then aA (.bool false) r else A q24 else bif q25 then A q24 else False else
  False else False else False else False else False else False else False else False else False else False else aA (.bool true) r):=by kernel_rfl
theorem aWO : bX Try.prog TT6:=bV gV ⟨jR,trivial⟩ trivial ⟨aI2,yY,aOS,aI6,trivial⟩ trivial
theorem xL {i : Ins} (h : cT i = true) : (0 ≤ i.d ∧ i.d ≤ 15) ∧ (0 ≤ i.a ∧ i.a ≤ 15) ∧ (0 ≤ i.b ∧ i.b ≤ 15):=by
 simp only [cT,zaG] at h
 obtain ⟨_,h1,h2,h3,_⟩:=h
 have key : ∀ n t,vP n t = true → 0 ≤ n ∧ n ≤ 15:=fun n t hb => by
  simp only [vP,zaV,zaG,zaK] at hb
  omega
 exact ⟨key _ _ h1,key _ _ h2,key _ _ h3⟩
theorem vF {p : Prog} (h : aX p = true) {n : Nat} (hn : n < p.code.length) : cT (ix p.code n) = true:=by
 simp only [aX,zaG] at h
 exact dS.1 h.2.1 n hn
theorem a6Q : eI Try.prog (29,a9T):=bB fun ⟨p,o⟩ hw => by
 have hw : p.wf:=hw
 have hl:=hw.1.2
 show Pure _ _ (cons [aL p,cY o]) (con (.bool (fR p o)))
 refine jB mix aWO tL (Nat.le_of_ble_eq_true rfl) ?_
 refine Eq.mpr (a6N p o _) ?_
 refine ⟨p,.rfl,⟨hw⟩, ?_⟩
 rintro y rfl
 simp only [g1,g2,g3,g4,g5,g6,g7,aD,zaB,zaF,zaC,cB]
 simp only [bor]
 cases hr : aX p with
 | false =>
  unfold fR
  rw [hr]
  exact .rfl
 | true =>
 by_cases h0 : o 0 = 0
 case neg =>
  unfold fR
  rw [hr,decide_eq_false h0]
  simp only [h0,zaI,zaM,zaC,Bool.or_true,zaB]
  exact .rfl
 simp only [h0,zaI,zaN,zaE,Bool.or_false,zaD]
 refine fS mix aWO (fun i : Nat => clS 5 p o i) (fun i => 1 ≤ i ∧ i ≤ 16 ∧ ∀ j,1 ≤ j → j < i → (o j = 1 ∨ o j = 2)) (fun i => 16 - i) 1 ⟨zaF _,by omega,fun j _ hj => by omega⟩ (.of (dG ⟨rfl,rfl,rfl,trivial⟩ ⟨rfl,rfl,trivial⟩ (zaF _))) ?_
 rintro i ⟨hi1,hi,hp⟩
 refine Eq.mpr (a6O p o i _ _) ?_
 by_cases hlt : i < 16
 ·have h1 : (i : Int) < 16:=by omega
  have w1 : IntKind.i64.wrap ((i : Int) + 1) = ((i + 1 : Nat) : Int):=wrap_i64 (by omega) (by omega)
  simp only [g1,g2,g3,g4,g5,g6,g7,aD,zaB,zaF,zaC,cB,h1,hlt,w1,zaQ]
  rw [qC]
  refine jQ (fun h => ?_) (fun h => ?_) <;> simp only [zaG,zaW,zaK,zaP,Classical.not_not] at h
  ·have : fR p o = false:=by
    unfold fR
    have hf : gL (fun i => decide (i = 0) || decide (o i = 1 ∨ o i = 2)) 16 = false:=oI hlt (by
     have : ¬ i = 0:=by omega
     simp [this,h.1,h.2])
    rw [hf]
    simp
   rw [this]
   exact .rfl
  ·refine ⟨i + 1,⟨by omega,hlt,fun j hj1 hj => ?_⟩,.of (dG ⟨rfl,rfl,rfl,trivial⟩ ⟨rfl,rfl,trivial⟩ (zaF _)),by omega⟩
   by_cases hji : j = i
   ·subst hji;exact h
   ·exact hp j hj1 (by omega)
 have h1 : ¬ (i : Int) < 16:=by omega
 simp only [h1,zaE,zaD]
 have ha : gL (fun i => decide (i = 0) || decide (o i = 1 ∨ o i = 2)) 16 = true:=dS.2 fun j hj => by
  by_cases hj0 : j = 0
  ·simp [hj0]
  ·simp only [decide_eq_true (hp j (by omega) (by omega)),Bool.or_true]
 have hcl : fR p o = gL (fun n => r6 o (ix p.code n)) p.code.length:=by
  unfold fR
  rw [hr,decide_eq_true h0,ha]
  rfl
 clear hp hi hi1 hlt h1
 refine fS mix aWO (fun i : Nat => clS 6 p o i) (fun i => i ≤ p.code.length ∧ ∀ j,j < i → r6 o (ix p.code j) = true) (fun i => p.code.length - i) 0 ⟨Nat.zero_le _,fun j hj => by omega⟩ (.of (dG ⟨rfl,rfl,rfl,trivial⟩ ⟨rfl,rfl,trivial⟩ (zaF _))) ?_
 rintro i ⟨hi,hp⟩
 refine Eq.mpr (a6P p o i _ _) ?_
 by_cases hlt : i < p.code.length
 ·have h1 : (i : Int) < (p.code.length : Int):=by omega
  have w1 : IntKind.i64.wrap ((i : Int) + 1) = ((i + 1 : Nat) : Int):=wrap_i64 (by omega) (by omega)
  have hri:=vF hr hlt
  obtain ⟨⟨d1,d2⟩,⟨a1,a2⟩,_⟩:=xL hri
  have bad : r6 o (ix p.code i) = false → aA (.bool false) (.bool (fR p o)):=fun h => by
   rw [hcl,oI hlt h];exact .rfl
  have next : r6 o (ix p.code i) = true → ∃ j,(j ≤ p.code.length ∧ ∀ k,k < j → r6 o (ix p.code k) = true) ∧ cG 2 (XSt.st (XSt.mk [(6,.int .i64 ((i + 1 : Nat) : Int)),(3,.ptr 1 [] 0),(2,.ptr 0 [] 0)] [(2,some (aZ (ix p.code i))),(1,some (cY o)),(0,some (aL p))] 3)) (clS 6 p o j).st ∧ p.code.length - j < p.code.length - i:=fun h => by
   refine ⟨i + 1,⟨hlt,fun j hj => ?_⟩,.ofL (rT ⟨bS rfl,bS rfl,bS rfl,trivial⟩ ⟨rfl,rfl,trivial⟩ (zaF _) rfl),by omega⟩
   by_cases hji : j = i
   ·subst hji;exact h
   ·exact hp j (by omega)
  generalize ix p.code i = x at *
  have d3 : x.d < 16:=by omega
  have d4 : x.d.toNat < 16:=by omega
  simp only [g1,g2,g3,g4,g5,g6,g7,aD,zaB,zaF,zaC,cB,h1,w1,d1,d3,d4,zaQ]
  simp only [bor,qC]
  have part2 : ∀ (Y : Prop),(!((decide (aI x.op = 4) || decide (aI x.op = 5)) && vR o x.a)) = true → (Y = (cond (decide (aI x.op ≥ 1) && decide (aI x.op ≤ 3) && decide (x.d > 0) && decide (o x.d.toNat = 1))
    (∃ s,aC [aZ x] [aZ s] ∧ aK True ∧ ∀ (y : List Int),y = aS s → ∃ (s : (Nat → Int) × List Int),aC [.tab 16 1 fun i => .int .i64 (o i),aB 1 bF y] [cY s.1,aB 1 bF s.2] ∧ aK (s.2.length ≤ 1000000000 ∧ ∀ x,x ∈ s.2 → x ≤ 15) ∧ ∀ (y : Bool),y = m8 s.1 s.2 →
     cond (decide (aI x.op ≥ 1) && decide (aI x.op ≤ 3) && decide (x.d > 0) && decide (o x.d.toNat = 1) && y) (aA (.bool false) (.bool (fR p o)))
      (∃ j,(j ≤ p.code.length ∧ ∀ k,k < j → r6 o (ix p.code k) = true) ∧ cG 2 (XSt.st (XSt.mk [(6,.int .i64 ((i + 1 : Nat) : Int)),(3,.ptr 1 [] 0),(2,.ptr 0 [] 0)] [(2,some (aZ x)),(1,some (cY o)),(0,some (aL p))] 3)) (clS 6 p o j).st ∧ p.code.length - j < p.code.length - i))
    (cond (!(decide (aI x.op ≥ 1) && decide (aI x.op ≤ 3) && decide (x.d > 0) && decide (o x.d.toNat = 1)))
     (∃ j,(j ≤ p.code.length ∧ ∀ k,k < j → r6 o (ix p.code k) = true) ∧ cG 2 (XSt.st (XSt.mk [(6,.int .i64 ((i + 1 : Nat) : Int)),(3,.ptr 1 [] 0),(2,.ptr 0 [] 0)] [(2,some (aZ x)),(1,some (cY o)),(0,some (aL p))] 3)) (clS 6 p o j).st ∧ p.code.length - j < p.code.length - i) False))) → Y:=fun Y hA e => by
   rw [e]
   cases hc : (decide (aI x.op ≥ 1) && decide (aI x.op ≤ 3) && decide (x.d > 0) && decide (o x.d.toNat = 1)) with
   | false =>
    simp only [zaD,zaH,zaB]
    exact next (by unfold r6;rw [hA,hc];rfl)
   | true =>
    simp only [zaB]
    refine ⟨x,.rfl,⟨trivial⟩, ?_⟩
    rintro y rfl
    refine ⟨(o,aS x),.rfl,⟨by have:=jE (i:=x);exact ⟨show (aS x).length ≤ 1000000000 by omega,fun z hz => (this.2 z hz).2⟩⟩, ?_⟩
    intro y hy
    replace hy : y = m8 o (aS x):=hy
    subst hy
    refine jQ (fun h => bad ?_) (fun h => next ?_)
    ·unfold r6;rw [hA,hc];simpa using h
    ·unfold r6;rw [hA,hc];simpa using h
  cases hf : (decide (aI x.op = 4) || decide (aI x.op = 5)) with
  | true =>
   simp only [zaB]
   refine ⟨(o,x.a),.rfl,⟨a2⟩, ?_⟩
   intro y hy
   replace hy : y = vR o x.a:=hy
   subst hy
   refine jQ (fun h => bad ?_) (fun h => ?_)
   ·unfold r6;rw [hf]
    simp only [zaR] at h ⊢
    rw [h];rfl
   ·exact part2 _ (by rw [hf];simpa using h) rfl
  | false =>
   simp only [zaD,zaH,zaB]
   exact part2 _ (by rw [hf];rfl) rfl
 ·have h1 : ¬ (i : Int) < (p.code.length : Int):=by omega
  simp only [h1,zaE,zaD]
  rw [hcl,dS.2 fun j hj => hp j (by omega)]
  exact .rfl
def TT7 : Tab:=fM qq jD [(67,kN)] [] [(19,aWH),(70,aWG)] []
def owS (e : List (Nat × XV)) (p : Prog) (g : Nat → Int) : XSt:=⟨e ++ [(3,.ptr 2 [] 0),(2,.ptr 1 [] 0),(1,.ptr 0 [] 0)],[(2,some (.tab 16 1 (fun i => .int .i64 (g i)))),(1,some (.tab 16 1 (fun _ => .int .i64 0))),(0,some (aL p))],3⟩
def a6R (l : List Int) (k i n : Nat) (x : Ins) (p : Prog) (g : Nat → Int) : XSt:=⟨[(10,.int .i64 k),(9,aB 1 bF l),(6,.int .i64 i),(5,.int .i64 n),(3,.ptr 2 [] 0),(2,.ptr 1 [] 0),(1,.ptr 0 [] 0)],[(3,some (aZ x)),(2,some (.tab 16 1 (fun i => .int .i64 (g i)))),(1,some (.tab 16 1 (fun _ => .int .i64 0))),(0,some (aL p))],4⟩
def aTF (g : Nat → Int) (k : Nat) : Nat → Int:=fun j => bif Nat.beq j k then 1 else g j
def aWP (x : Ins) (g : Nat → Int) : Nat → Int:=if (decide (aI x.op = 4) || decide (aI x.op = 5)) && decide (x.a > 0) then aTF g x.a.toNat else g
def aTG (l : List Int) (g : Nat → Int) : Nat → Int:=l.foldl (fun g n => aTF g n.toNat) g
def aWQ (x : Ins) (g : Nat → Int) : Bool:=decide (aI x.op ≥ 1) && decide (aI x.op ≤ 3) && decide (x.d > 0) && decide (g x.d.toNat = 1)
def aWR (x : Ins) (g : Nat → Int) : Nat → Int:=if aWQ x g then aTG (aS x) g else g
def aOU (g : Nat → Int) (x : Ins) : Nat → Int:=aWR x (aWP x g)
def aL3 (p : Prog) (g : Nat → Int) (i : Nat) : Nat → Int:=(p.code.take i).foldl aOU g
def a6S (i : Nat) : Nat → Int:=fun j => bif decide (1 ≤ j) && decide (j < i) then 2 else 0
def aI7 (p : Prog) : Nat → Nat → Int
 | 0 => a6S 16
 | n + 1 => aL3 p (aI7 p n) p.code.length
def rK (p : Prog) : Nat → Int:=if aX p then aI7 p 17 else fun _ => 0
def a9U : List XV → Option ((XV → Prop) → Prop):=eQ (fun p : Prog => [aL p]) (fun p => p.wf) (fun p => rK p) (fun y => cY y)
theorem a6T (p : Prog) (r : XV) : (goQ Try.prog TT7 [(.cell 2 .true 16)] r (.run kB) [] ⟨jO 0 [aL p],[],0⟩) = (
 letI q1 : XV:=.tab 16 1 fun x => .int .i64 0;∃ (s : Prog),aC [aL p] [aL s] ∧ aK s.wf ∧ ∀ (y : Bool),y = aX s → bif !y then aA q1 r else aP (Ok Try.prog
  (Tab.q TT7)) mM (XSt.mk [(4,.int .i64 1),(3,.ptr 2 [] 0),(2,.ptr 1 [] 0),(1,.ptr 0 [] 0)] [(2,some q1),(1,some q1),(0,some (aL p))] 3) [Frm.blk 0,Frm.seq
  jS] (bC [AR.cell 2 true 16] r)):=by kernel_rfl
theorem a6U (p : Prog) (g : Nat → Int) (i : Nat) (r : XV) (A : XSt → Prop) : (goQ Try.prog TT7 [(.cell 2 .true 16)] r (.run mM) [.lp mM A,.blk 0,.seq jS] (owS [(4,.int .i64 i)] p g)) = (
 letI q1 : Nat:=i * 1;
 letI q2 : Bool:=decide (i < 16);
 letI q3 : List (Nat × XV):=[(3,.ptr 2 [] 0),(2,.ptr 1 [] 0),(1,.ptr 0 [] 0)];
 letI q4 : List (Nat × Option XV):=[(1,some (.tab 16 1 fun x => .int .i64 0)),(0,some (aL p))];bif decide ((↑i : Int) < 16) then bif decide ((↑i : Int) < 16) then bif Nat.beq
  q1 q1 then bif q2 then bif q2 then A (XSt.mk ((4,.int .i64 (IntKind.wrap .i64 ((↑i : Int) + 1))) :: q3) ((2,some (.tab 16 1 fun j => .int .i64 (bif Nat.beq j i then (2 : Int) else
  g j))) :: q4) 3) else False else False else False else False else aP (Ok Try.prog (Tab.q TT7)) dR (XSt.mk ((5,.int .i64 0) :: q3) ((2,some (.tab 16 1 fun i => .int
  .i64 (g i))) :: q4) 3) [Frm.blk 2,Frm.seq fU] (bC [AR.cell 2 true 16] r)):=by kernel_rfl 
theorem a6V (p : Prog) (g : Nat → Int) (n : Nat) (r : XV) (A : XSt → Prop) : (goQ Try.prog TT7 [(.cell 2 .true 16)] r (.run dR) [.lp dR A,.blk 2,.seq fU] (owS [(5,.int .i64 n)] p g)) = (
 letI q1 : XV:=.tab 16 1 fun i => .int .i64 (g i);bif decide ((↑n : Int) < 17) then aP (Ok Try.prog (Tab.q TT7)) eW (XSt.mk [(6,.int .i64 0),(5,.int .i64 (↑n
  : Int)),(3,.ptr 2 [] 0),(2,.ptr 1 [] 0),(1,.ptr 0 [] 0)] [(2,some q1),(1,some (.tab 16 1 fun x => .int .i64 0)),(0,some (aL p))] 3) [Frm.blk 4,Frm.blk 3,Frm.seq jT,
  Frm.lp dR A,Frm.blk 2,Frm.seq fU] (bC [AR.cell 2 true 16] r) else aA q1 r):=by kernel_rfl
theorem a6W (p : Prog) (g : Nat → Int) (n i : Nat) (r : XV) (A B : XSt → Prop) : (goQ Try.prog TT7 [(.cell 2 .true 16)] r (.run eW) [.lp eW A,.blk 4,.blk 3,.seq jT,.lp dR B,.blk 2,.seq fU] (owS [(6,.int .i64 i),(5,.int .i64 n)] p g)) = (
 letI q1 : Bool:=decide ((↑i : Int) < (↑(p.code.length) : Int));
 letI q2 : Int:=aI (Ins.op (ix p.code (Int.toNat (↑i : Int))));
 letI q3 : Bool:=decide (aI ((ix p.code i).op) = 4);
 letI q4 : Bool:=bif q3 then true else decide (aI ((ix p.code i).op) = 5);
 letI q5 : Nat:=Int.toNat ((ix p.code i).a) * 1;
 letI q6 : Nat:=Int.toNat (Ins.a (ix p.code (Int.toNat (↑i : Int))));
 letI q7 : Bool:=decide (Int.toNat ((ix p.code i).a) < 16);
 letI q8 : Bool:=decide (aI ((ix p.code i).op) ≥ 1);
 letI q9 : Bool:=bif q8 then q8 else true;
 letI q10 : Bool:=bif q8 then decide (aI ((ix p.code i).op) ≤ 3) else false;
 letI q11 : Bool:=bif q10 then q10 else true;
 letI q12 : Bool:=bif q10 then decide ((ix p.code i).d > 0) else false;
 letI q13 : Bool:=!q12;
 letI q14 : Bool:=bif decide (0 ≤ (ix p.code i).d) then true else q13;
 letI q15 : Bool:=bif decide ((ix p.code i).d < 16) then true else q13;
 letI q16 : Nat:=Int.toNat ((ix p.code i).d) * 1;
 letI q17 : Bool:=bif Nat.beq q16 q16 then true else q13;
 letI q18 : Nat:=Int.toNat (Ins.d (ix p.code (Int.toNat (↑i : Int))));
 letI q19 : Bool:=bif decide (Int.toNat ((ix p.code i).d) < 16) then true else q13;
 letI q20 : Bool:=bif q12 then q12 else true;
 letI q21 : List (Nat × XV):=[(3,.ptr 2 [] 0),(2,.ptr 1 [] 0),(1,.ptr 0 [] 0)];
 letI q22 : List (Nat × XV):=(5,.int .i64 (↑n : Int)) :: q21;
 letI q23 : List Int → List (Nat × XV):=fun y => (10,.int .i64 0) :: (9,aB 1 bF y) :: (6,.int .i64 (↑i : Int)) :: q22;
 letI q24 : List (Nat × Option XV):=[(1,some (.tab 16 1 fun x => .int .i64 0)),(0,some (aL p))];
 letI q25 : List (Nat × Option XV):=(3,some (aZ (ix p.code i))) :: (2,some (.tab 16 1 fun j => .int .i64 (bif Nat.beq j (Int.toNat ((ix p.code i).a)) then (1 : Int) else g j)))
  :: q24;
 letI q26 : List Frm:=[Frm.blk 6,Frm.blk 5,Frm.seq qD,Frm.lp eW A,Frm.blk 4,Frm.blk 3,Frm.seq jT,Frm.lp dR B,Frm.blk
  2,Frm.seq fU];
 letI q27 : List AR:=[AR.cell 2 true 16];
 letI q28 : List (Nat × XV):=(6,.int .i64 (IntKind.wrap .i64 ((↑i : Int) + 1))) :: q22;
 letI q29 : List (Nat × Option XV):=(2,some (.tab 16 1 fun i => .int .i64 (g i))) :: q24;
 letI q30 : List (Nat × Option XV):=(3,some (aZ (ix p.code i))) :: q29;bif q1 then bif q1 then bif bif q3 then true else !q3 then bif bif q4 then q4 else true then bif bif q4
  then decide ((ix p.code i).a > 0) else false then bif decide (0 ≤ (ix p.code i).a) then bif decide ((ix p.code i).a < 16) then bif Nat.beq q5 q5 then bif q7 then bif q7 then bif q9
  then bif q11 then bif q14 then bif q15 then bif q17 then bif q19 then bif q20 then bif bif q12 then decide ((bif Nat.beq (Int.toNat ((ix p.code i).d)) (Int.toNat ((ix p.code i).a))
  then (1 : Int) else g (Int.toNat ((ix p.code i).d))) = (1 : Int)) else false then ∃ (s : Ins),aC [aZ (ix p.code i)] [aZ s] ∧ aK True ∧ ∀ (y : List Int),y = aS s →
  aP (Ok Try.prog (Tab.q TT7)) jU (XSt.mk (q23 y) q25 4) q26 (bC q27 r) else A (XSt.mk q28 q25 4) else False else False else False else False else False else False
  else False else False else False else False else False else False else bif q9 then bif q11 then bif q14 then bif q15 then bif q17 then bif q19 then bif q20 then bif bif q12 then decide
  (g (Int.toNat ((ix p.code i).d)) = 1) else false then ∃ (s : Ins),aC [aZ (ix p.code i)] [aZ s] ∧ aK True ∧ ∀ (y : List Int),y = aS s → aP (Ok Try.prog (Tab.q
  TT7)) jU (XSt.mk (q23 y) q30 4) q26 (bC q27 r) else A (XSt.mk q28 q30 4) else False else False else False else False else False else False else False else False else
  False else False else B (XSt.mk ((5,.int .i64 (IntKind.wrap .i64 ((↑n : Int) + 1))) :: q21) q29 3)):=by kernel_rfl
theorem aWS (p : Prog) (g : Nat → Int) (l : List Int) (x : Ins) (k i n : Nat) (r : XV) (A C B : XSt → Prop) : (goQ Try.prog TT7 [(.cell 2 .true 16)] r (.run jU) [.lp jU C,.blk 6,.blk 5,.seq qD,.lp eW A,.blk 4,.blk 3,.seq jT,.lp dR B,.blk 2,.seq fU] (a6R l k i n x p g)) = (
 letI q1 : Bool:=decide ((↑k : Int) < (↑(l.length) : Int));
 letI q2 : Nat:=Int.toNat (ix l k) * 1;
 letI q3 : Bool:=decide (Int.toNat (ix l k) < 16);
 letI q4 : List (Nat × XV):=[(5,.int .i64 (↑n : Int)),(3,.ptr 2 [] 0),(2,.ptr 1 [] 0),(1,.ptr 0 [] 0)];
 letI q5 : List (Nat × Option XV):=[(1,some (.tab 16 1 fun x => .int .i64 0)),(0,some (aL p))];bif q1 then bif q1 then bif decide (0 ≤ ix l k) then bif decide (ix l k < 16)
  then bif Nat.beq q2 q2 then bif q3 then bif q3 then C (XSt.mk ((10,.int .i64 (IntKind.wrap .i64 ((↑k : Int) + 1))) :: (9,aB 1 bF l) :: (6,.int .i64 (↑i : Int)) :: q4) ((3,
  some (aZ x)) :: (2,some (.tab 16 1 fun j => .int .i64 (bif Nat.beq j (Int.toNat (ix l k)) then (1 : Int) else g j))) :: q5) 4) else False else False else False else False else False
  else False else A (XSt.mk ((6,.int .i64 (IntKind.wrap .i64 ((↑i : Int) + 1))) :: q4) ((3,some (aZ x)) :: (2,some (.tab 16 1 fun i => .int .i64 (g i))) :: q5) 4)):=by kernel_rfl
theorem aHL : bX Try.prog TT7:=bV gV ⟨jR,trivial⟩ trivial ⟨aI2,yY,trivial⟩ trivial
theorem aTH {p : Prog} {g : Nat → Int} {i : Nat} (h : i < p.code.length) : aL3 p g (i + 1) = aOU (aL3 p g i) (ix p.code i):=by
 unfold aL3
 rw [List.take_succ_eq_append_getElem h,List.foldl_append,fY h]
 rfl
theorem aHM {l : List Int} {g : Nat → Int} {k : Nat} (h : k < l.length) : aTG (l.take (k + 1)) g = aTF (aTG (l.take k) g) (ix l k).toNat:=by
 unfold aTG
 rw [List.take_succ_eq_append_getElem h,List.foldl_append,fY h]
 rfl
theorem aWT : eI Try.prog (32,a9U):=bB fun p hw => by
 have hw : p.wf:=hw
 have hl:=hw.1.2
 show Pure _ _ (cons [aL p]) (con (cY (rK p)))
 refine jB mix aHL v8 (Nat.le_of_ble_eq_true rfl) ?_
 refine Eq.mpr (a6T p _) ?_
 refine ⟨p,.rfl,⟨hw⟩, ?_⟩
 rintro y rfl
 unfold rK
 cases hr : aX p with
 | false => exact .rfl
 | true =>
 simp only [zaI,zaD,if_true]
 refine fS mix aHL (fun i : Nat => owS [(4,.int .i64 i)] p (a6S i)) (fun i => 1 ≤ i ∧ i ≤ 16) (fun i => 16 - i) 1 ⟨zaF _,by omega⟩ (.of (dG ⟨rfl,rfl,rfl,rfl,trivial⟩ ⟨congrArg some (qB fun j hj => by
  show con (.int .i64 0) = con (.int .i64 (bif decide (1 ≤ j) && decide (j < 1) then 2 else 0))
  by_cases h : 1 ≤ j
  ·rw [decide_eq_false (show ¬ j < 1 by omega),Bool.and_false];rfl
  ·rw [decide_eq_false h];rfl),rfl,rfl,trivial⟩ (zaF _))) ?_
 rintro i ⟨hi1,hi⟩
 refine Eq.mpr (a6U p (a6S i) i _ _) ?_
 by_cases hlt : i < 16
 ·have h1 : (i : Int) < 16:=by omega
  have w1 : IntKind.i64.wrap ((i : Int) + 1) = ((i + 1 : Nat) : Int):=wrap_i64 (by omega) (by omega)
  simp only [g1,g2,g3,g4,g5,g6,g7,aD,zaB,zaF,zaC,cB,h1,hlt,w1,zaQ]
  refine ⟨i + 1,⟨by omega,hlt⟩,.of (dG ⟨rfl,rfl,rfl,rfl,trivial⟩ ⟨congrArg some (qB fun j hj => ?_),rfl,rfl,trivial⟩ (zaF _)),by omega⟩
  show con (.int .i64 (bif Nat.beq j i then 2 else bif decide (1 ≤ j) && decide (j < i) then 2 else 0)) = con (.int .i64 (bif decide (1 ≤ j) && decide (j < i + 1) then 2 else 0))
  rw [vC]
  congr 2
  by_cases hji : j = i
  ·subst hji
   rw [decide_eq_true hi1,decide_eq_true (Nat.lt_succ_self j)];simp
  ·rw [decide_eq_false hji]
   have : decide (j < i + 1) = decide (j < i):=decide_eq_decide.2 (by omega)
   rw [this];rfl
 have h1 : ¬ (i : Int) < 16:=by omega
 obtain rfl : i = 16:=by omega
 simp only [h1,zaE,zaD]
 refine fS mix aHL (fun n : Nat => owS [(5,.int .i64 n)] p (aI7 p n)) (fun n => n ≤ 17) (fun n => 17 - n) 0 (Nat.zero_le _) (.of (dG ⟨rfl,rfl,rfl,rfl,trivial⟩ ⟨rfl,rfl,rfl,trivial⟩ (zaF _))) ?_
 intro n hn
 refine Eq.mpr (a6V p (aI7 p n) n _ _) ?_
 by_cases hlt : n < 17
 case neg =>
  have h1 : ¬ (n : Int) < 17:=by omega
  obtain rfl : n = 17:=by omega
  simp only [h1,zaE,zaD]
  exact .rfl
 have h2 : (n : Int) < 17:=by omega
 simp only [h2,zaC,zaB]
 refine fS mix aHL (fun i : Nat => owS [(6,.int .i64 i),(5,.int .i64 n)] p (aL3 p (aI7 p n) i)) (fun i => i ≤ p.code.length) (fun i => p.code.length - i) 0 (Nat.zero_le _) (.of (dG ⟨rfl,rfl,rfl,rfl,rfl,trivial⟩ ⟨rfl,rfl,rfl,trivial⟩ (zaF _))) ?_
 intro i hi
 refine Eq.mpr (a6W p _ n i _ _ _) ?_
 by_cases hli : i < p.code.length
 case neg =>
  have h1 : ¬ (i : Int) < (p.code.length : Int):=by omega
  obtain rfl : i = p.code.length:=by omega
  have w1 : IntKind.i64.wrap ((n : Int) + 1) = ((n + 1 : Nat) : Int):=wrap_i64 (by omega) (by omega)
  simp only [h1,zaE,zaD,w1]
  exact ⟨n + 1,hlt,.of (dG ⟨rfl,rfl,rfl,rfl,trivial⟩ ⟨rfl,rfl,rfl,trivial⟩ (zaF _)),by omega⟩
 have h3 : (i : Int) < (p.code.length : Int):=by omega
 have w1 : IntKind.i64.wrap ((i : Int) + 1) = ((i + 1 : Nat) : Int):=wrap_i64 (by omega) (by omega)
 obtain ⟨⟨d1,d2⟩,⟨a1,a2⟩,_⟩:=xL (vF hr hli)
 have st:=aTH (g:=aI7 p n) hli
 have next : ∀ g,g = aOU (aL3 p (aI7 p n) i) (ix p.code i) → ∃ j,j ≤ p.code.length ∧ cG 3 (XSt.st (XSt.mk [(6,.int .i64 ((i + 1 : Nat) : Int)),(5,.int .i64 ↑n),(3,.ptr 2 [] 0),(2,.ptr 1 [] 0),(1,.ptr 0 [] 0)] [(3,some (aZ (ix p.code i))),(2,some (.tab 16 1 fun i => .int .i64 (g i))),(1,some (.tab 16 1 fun x => .int .i64 0)),(0,some (aL p))] 4)) (owS [(6,.int .i64 j),(5,.int .i64 n)] p (aL3 p (aI7 p n) j)).st ∧ p.code.length - j < p.code.length - i:=fun g hg => by
  refine ⟨i + 1,hli, ?_,by omega⟩
  rw [st,hg]
  exact .ofL (rT ⟨bS rfl,bS rfl,bS rfl,bS rfl,bS rfl,trivial⟩ ⟨rfl,rfl,rfl,trivial⟩ (zaF _) rfl)
 generalize hx : ix p.code i = x at *
 generalize aL3 p (aI7 p n) i = g at *
 have d3 : x.d < 16:=by omega
 have d4 : x.d.toNat < 16:=by omega
 have a3 : x.a < 16:=by omega
 have a4 : x.a.toNat < 16:=by omega
 simp only [g1,g2,g3,g4,g5,g6,g7,aD,zaB,zaF,zaC,cB,h3,w1,d1,d3,d4,a1,a3,a4,zaQ]
 simp only [bor,qC]
 have tail : ∀ (g' : Nat → Int) (L : List Int → Prop) (E : Prop),(aWQ x g' = true → L (aS x)) → (aWQ x g' = false → E) →
   cond (decide (aI x.op ≥ 1) && decide (aI x.op ≤ 3) && decide (x.d > 0) && decide (g' x.d.toNat = 1)) (∃ s,aC [aZ x] [aZ s] ∧ aK True ∧ ∀ (y : List Int),y = aS s → L y) E:=fun g' L E hL hE =>
  jQ (fun h => ⟨x,.rfl,⟨trivial⟩,fun y hy => by rw [show y = aS x from hy];exact hL h⟩) hE
 cases hA : (decide (aI x.op = 4) || decide (aI x.op = 5)) && decide (x.a > 0) with
 | true =>
  simp only [zaB]
  have hG : aWP x g = aTF g x.a.toNat:=by unfold aWP;rw [hA];rfl
  refine tail (aTF g x.a.toNat) _ _ (fun hD => ?_) (fun hD => next _ ?_)
  ·refine fS mix aHL (fun k : Nat => a6R (aS x) k i n x p (aTG ((aS x).take k) (aTF g x.a.toNat))) (fun k => k ≤ (aS x).length) (fun k => (aS x).length - k) 0 (Nat.zero_le _) (.of (dG ⟨rfl,rfl,rfl,rfl,rfl,rfl,rfl,trivial⟩ ⟨rfl,rfl,rfl,rfl,trivial⟩ (zaF _))) ?_
   intro k hk
   refine Eq.mpr (aWS p _ (aS x) x k i n _ _ _ _) ?_
   have hrd:=jE (i:=x)
   by_cases hlk : k < (aS x).length
   ·have k1 : (k : Int) < ((aS x).length : Int):=by omega
    have w2 : IntKind.i64.wrap ((k : Int) + 1) = ((k + 1 : Nat) : Int):=wrap_i64 (by omega) (by omega)
    have hz:=hrd.2 _ (cH hlk)
    have k2 : 0 ≤ ix (aS x) k:=by omega
    have k3 : ix (aS x) k < 16:=by omega
    have k4 : (ix (aS x) k).toNat < 16:=by omega
    simp only [g1,g2,g3,g4,g5,g6,g7,aD,zaB,zaF,zaC,cB,k1,k2,k3,k4,w2,zaQ]
    refine ⟨k + 1,hlk, ?_,by omega⟩
    rw [aHM hlk]
    exact .of (dG ⟨rfl,rfl,rfl,rfl,rfl,rfl,rfl,trivial⟩ ⟨rfl,rfl,rfl,rfl,trivial⟩ (zaF _))
   ·have k1 : ¬ (k : Int) < ((aS x).length : Int):=by omega
    obtain rfl : k = (aS x).length:=by omega
    simp only [k1,zaE,zaD,w1]
    refine next _ ?_
    rw [List.take_length]
    unfold aOU aWR
    rw [hG,hD]
    rfl
  ·unfold aOU aWR
   rw [hG,hD]
   rfl
 | false =>
  simp only [zaD]
  have hG : aWP x g = g:=by unfold aWP;rw [hA];rfl
  refine tail (g) _ _ (fun hD => ?_) (fun hD => next _ ?_)
  ·refine fS mix aHL (fun k : Nat => a6R (aS x) k i n x p (aTG ((aS x).take k) (g))) (fun k => k ≤ (aS x).length) (fun k => (aS x).length - k) 0 (Nat.zero_le _) (.of (dG ⟨rfl,rfl,rfl,rfl,rfl,rfl,rfl,trivial⟩ ⟨rfl,rfl,rfl,rfl,trivial⟩ (zaF _))) ?_
   intro k hk
   refine Eq.mpr (aWS p _ (aS x) x k i n _ _ _ _) ?_
   have hrd:=jE (i:=x)
   by_cases hlk : k < (aS x).length
   ·have k1 : (k : Int) < ((aS x).length : Int):=by omega
    have w2 : IntKind.i64.wrap ((k : Int) + 1) = ((k + 1 : Nat) : Int):=wrap_i64 (by omega) (by omega)
    have hz:=hrd.2 _ (cH hlk)
    have k2 : 0 ≤ ix (aS x) k:=by omega
    have k3 : ix (aS x) k < 16:=by omega
    have k4 : (ix (aS x) k).toNat < 16:=by omega
    simp only [g1,g2,g3,g4,g5,g6,g7,aD,zaB,zaF,zaC,cB,k1,k2,k3,k4,w2,zaQ]
    refine ⟨k + 1,hlk, ?_,by omega⟩
    rw [aHM hlk]
    exact .of (dG ⟨rfl,rfl,rfl,rfl,rfl,rfl,rfl,trivial⟩ ⟨rfl,rfl,rfl,rfl,trivial⟩ (zaF _))
   ·have k1 : ¬ (k : Int) < ((aS x).length : Int):=by omega
    obtain rfl : k = (aS x).length:=by omega
    simp only [k1,zaE,zaD,w1]
    refine next _ ?_
    rw [List.take_length]
    unfold aOU aWR
    rw [hG,hD]
    rfl
  ·unfold aOU aWR
   rw [hG,hD]
   rfl
def TT8 : Tab:=fM qq jD [] [] [(29,a9T),(31,a9P)] [(30,a9S)]
def a0V (bl : List Block) (xA xE : Nat → Bool) (eA eE nA nE : Nat → Nat) (fA fE : Nat → Nat → XV) (j : Nat) : XV:=.agg 6 [.int .i64 (ix bl j).src,.int .i64 (ix bl j).dst,.int .i64 (ix bl j).next,.int .i64 (ix bl j).taken,.row (xA j) (eA j) (nA j) (fA j),.row (xE j) (eE j) (nE j) (fE j)]
def wtS (p : Prog) (o : Nat → Int) (bl : List Block) (f : Nat → XV) (i : Nat) : XSt:=⟨[(7,.int .i64 i),(6,.ptr 4 [] 0),(4,.ptr 2 [] 0),(3,.ptr 1 [] 0),(2,.ptr 0 [] 0)],[(4,some (.agg 17 [.sl 3 [] 0 0 bl.length 6,.tab 16 1 fun i => .int .i64 (o i)])),(3,some (.tab bl.length 6 f)),(2,some (.agg 17 [.row true 0 0 fun x => .unk,.tab 16 1 fun x => .int .i64 0])),(1,some (.tab 16 1 fun i => .int .i64 (o i))),(0,some (aL p))],5⟩
def wiS (p : Prog) (o : Nat → Int) (bl : List Block) (f f' : Nat → XV) (i : Nat) (m : Nat) (ca ce : List Cell) : XSt:=⟨[(9,.int .i64 m),(8,.ptr 3 [1] (i * 6)),(7,.int .i64 i),(6,.ptr 4 [] 0),(4,.ptr 2 [] 0),(3,.ptr 1 [] 0),(2,.ptr 0 [] 0)],[(6,some (.tab ce.length 9 (fun k => cX (ix ce k)))),(5,some (.tab ca.length 9 (fun k => cX (ix ca k)))),(4,some (.agg 17 [.sl 3 [] 0 0 bl.length 6,.tab 16 1 fun i => .int .i64 (o i)])),(3,some (.agg (bl.length * 6) [.tab i 6 f,.agg 6 [.int .i64 (ix bl i).src,.int .i64 (ix bl i).dst,.int .i64 (ix bl i).next,.int .i64 (ix bl i).taken,.sl 5 [] 0 0 ca.length 9,.sl 6 [] 0 0 ce.length 9],.tab (bl.length - i - 1) 6 f'])),(2,some (.agg 17 [.row true 0 0 fun x => .unk,.tab 16 1 fun x => .int .i64 0])),(1,some (.tab 16 1 fun i => .int .i64 (o i))),(0,some (aL p))],7⟩
def emA (p : Prog) (o : Nat → Int) (b : Block) (k : Nat) : List Cell:=(List.range k).flatMap fun j => (iO (ix p.code (b.src.toNat + j)) o ((b.src.toNat + j : Nat) : Int) (j : Int)).1
def emE (p : Prog) (o : Nat → Int) (b : Block) (k : Nat) : List Cell:=(List.range k).flatMap fun j => (iO (ix p.code (b.src.toNat + j)) o ((b.src.toNat + j : Nat) : Int) (j : Int)).2
def vS (b : Block) : Nat:=(b.dst - b.src).toNat
def aQR (p : Prog) (o : Nat → Int) (b : Block) : Block:=⟨b.src,b.dst,b.next,b.taken,emA p o b (vS b),emE p o b (vS b)⟩
def nV (p : Prog) (o : Nat → Int) : Split × Int:=if fR p o then (⟨(tN p).map (aQR p o),o⟩,0) else (⟨[],fun _ => 0⟩,1)
def aES (p : Prog) : Split × Int:=nV p (rK p)
def zJ (y : Split × Int) : XV:=.tup [aH y.1,.int .i64 y.2]
def a6X : List XV → Option ((XV → Prop) → Prop):=eQ (fun q : Prog × (Nat → Int) => [aL q.1,cY q.2]) (fun q => q.1.wf) (fun q => nV q.1 q.2) (fun y => zJ y)
def a9V : List XV → Option ((XV → Prop) → Prop):=eQ (fun p : Prog => [aL p]) (fun p => p.wf) (fun p => aES p) (fun y => zJ y)
def wF (p : Prog) (o : Nat → Int) (bl : List Block) (i : Nat) : Nat → XV:=a0V bl (fun j => !decide (j < i)) (fun j => !decide (j < i)) (fun j => bif decide (j < i) then 9 else 0) (fun j => bif decide (j < i) then 9 else 0)
 (fun j => bif decide (j < i) then (emA p o (ix bl j) (vS (ix bl j))).length else 0) (fun j => bif decide (j < i) then (emE p o (ix bl j) (vS (ix bl j))).length else 0)
 (fun j k => bif decide (j < i) then cX (ix (emA p o (ix bl j) (vS (ix bl j))) k) else .unk) (fun j k => bif decide (j < i) then cX (ix (emE p o (ix bl j) (vS (ix bl j))) k) else .unk)
def TT9 : Tab:=fM qq jD [] [] [(32,a9U),(14,a6X)] []
theorem a0W (p : Prog) (o : Nat → Int) (r : XV) : (goQ Try.prog TT8 [(.cell 4 .true 17),(.tmp 5)] r (.run lO) [] ⟨jO 0 [aL p,cY o],[],0⟩) = (
 letI q1 : XV:=.tab 16 1 fun i => .int .i64 (o i);
 letI q2 : List XV:=[q1];
 letI q3 : XV:=.agg 17 [.row true 0 0 fun x => .unk,.tab 16 1 fun x => .int .i64 0];∃ (s : Prog × (Nat → Int)),aC (aL p :: q2) [aL s.1,cY s.2] ∧ aK s.1.wf ∧ ∀
  (y : Bool),y = fR s.1 s.2 → bif !y then aA (.tup [q3,.int .i64 1]) r else ∃ (s : Prog),aC [aL p] [aL s] ∧ aK s.wf ∧ ∀ (y : List Block),y = tN s → aP
  (Ok Try.prog (Tab.q TT8)) fH (XSt.mk [(7,.int .i64 0),(6,.ptr 4 [] 0),(5,.int .i64 0),(4,.ptr 2 [] 0),(3,.ptr 1 [] 0),(2,.ptr 0 [] 0)] [(4,some (.agg 17 (.sl
  3 [] 0 0 y.length 6 :: q2))),(3,some (.tab y.length 6 fun i => nN (ix y i))),(2,some q3),(1,some q1),(0,some (aL p))] 5) [Frm.blk 0,Frm.seq kH] (bC
  [AR.cell 4 true 17,AR.tmp 5] r)):=by kernel_rfl
theorem a0X (p : Prog) (o : Nat → Int) (bl : List Block) (xA xE : Nat → Bool) (eA eE nA nE : Nat → Nat) (fA fE : Nat → Nat → XV) (i : Nat) (r : XV) (B : XSt → Prop) : (goQ Try.prog TT8 [(.cell 4 .true 17),(.tmp 5)] r (.run fH) [.lp fH B,.blk 0,.seq kH] (wtS p o bl (a0V bl xA xE eA eE nA nE fA fE) i)) = (
 letI q1 : Bool:=decide ((↑i : Int) < (↑(bl.length) : Int));
 letI q2 : Nat:=i * 6;
 letI q3 : Nat:=pl q2 0;
 letI q4 : XV:=.tab 16 1 fun i => .int .i64 (o i);
 letI q5 : List XV:=[q4];
 letI q6 : Nat → XV:=fun j => .agg 6 [.int .i64 ((ix bl j).src),.int .i64 ((ix bl j).dst),.int .i64 ((ix bl j).next),.int .i64 ((ix bl j).taken),.row (xA j) (eA j) (nA j) fun a
  => fA j a,.row (xE j) (eE j) (nE j) fun a => fE j a];bif q1 then bif q1 then bif Nat.beq q3 q3 then bif decide (i < bl.length) then aP (Ok Try.prog (Tab.q TT8)) nJ
  (XSt.mk [(9,.int .i64 ((ix bl i).src)),(8,.ptr 3 [i] q2),(7,.int .i64 (↑i : Int)),(6,.ptr 4 [] 0),(4,.ptr 2 [] 0),(3,.ptr 1 [] 0),(2,.ptr 0 [] 0)] [(4,some (.agg 17 (.sl
  3 [] 0 0 bl.length 6 :: q5))),(3,some (.tab bl.length 6 fun j => q6 j)),(2,some (.agg 17 [.row true 0 0 fun x => .unk,.tab 16 1 fun x => .int .i64 0])),(1,some q4),(0,some
  (aL p))] 5) [Frm.blk 2,Frm.blk 1,Frm.seq rV,Frm.lp fH B,Frm.blk 0,Frm.seq kH] (bC [AR.cell 4 true 17,AR.tmp 5] r) else False else
  False else False else bif decide (bl.length ≤ bl.length) then aA (.tup [.agg 17 ((.row false 6 bl.length fun i => q6 i) :: q5),.int .i64 0]) r else False):=by kernel_rfl
theorem a0Y (p : Prog) (o : Nat → Int) (bl : List Block) (f f' : Nat → XV) (i m : Nat) (ca ce : List Cell) (r : XV) (A B : XSt → Prop) : (goQ Try.prog TT8 [(.cell 4 .true 17),(.tmp 5)] r (.run nJ) [.lp nJ A,.blk 2,.blk 1,.seq rV,.lp fH B,.blk 0,.seq kH] (wiS p o bl f f' i m ca ce)) = (
 letI q1 : List XV:=[.sl 6 [] 0 0 ce.length 9];
 letI q2 : List XV:=[.tab (bl.length - i - 1) 6 fun a => f' a];
 letI q3 : List XV:=(.tab i 6 fun a => f a) :: .agg 6 (.int .i64 ((ix bl i).src) :: .int .i64 ((ix bl i).dst) :: .int .i64 ((ix bl i).next) :: .int .i64 ((ix bl i).taken) :: .sl 5
  [] 0 0 ca.length 9 :: q1) :: q2;
 letI q4 : Nat:=rD (List.take 1 q3);
 letI q5 : Nat:=i * 6;
 letI q6 : XV:=.tab 16 1 fun i => .int .i64 (o i);
 letI q7 : Ins × (Nat → Int) × Int × Int → Int:=fun s => s.2.2.1;
 letI q8 : Ins × (Nat → Int) × Int × Int → Int:=fun s => s.2.2.2;
 letI q9 : Bool:=Nat.beq (pl q4 4) (pl q5 4);
 letI q10 : List Cell × List Cell → Nat:=fun y => pl ca.length y.1.length;
 letI q11 : List Cell × List Cell → Nat:=fun y => q10 y * 72;
 letI q12 : List Cell × List Cell → XV:=fun y => .sl 7 [] 0 0 (q10 y) 9;
 letI q13 : List Cell × List Cell → Bool:=fun y => Nat.beq (pl (rD (List.take 1 (List.set q3 1 (.agg 6 (.int .i64 ((ix bl i).src) :: .int .i64 ((ix bl i).dst) :: .int .i64 ((ix
  bl i).next) :: .int .i64 ((ix bl i).taken) :: q12 y :: q1))))) 5) (pl q5 5);
 letI q14 : List Cell × List Cell → Nat:=fun y => pl ce.length y.2.length;
 letI q15 : List Cell × List Cell → Nat:=fun y => q14 y * 72;
 letI q16 : List (Nat × XV):=[(6,.ptr 4 [] 0),(4,.ptr 2 [] 0),(3,.ptr 1 [] 0),(2,.ptr 0 [] 0)];
 letI q17 : Nat → Bool:=fun i => decide (i < ce.length);
 letI q18 : List Cell × List Cell → Nat → Cell:=fun y i => ix y.2 (i - ce.length);
 letI q19 : List Cell × List Cell → Nat → Ins:=fun y i => (q18 y i).ins;
 letI q20 : Nat → Bool:=fun i => decide (i < ca.length);
 letI q21 : List Cell × List Cell → Nat → Cell:=fun y i => ix y.1 (i - ca.length);
 letI q22 : List Cell × List Cell → Nat → Ins:=fun y i => (q21 y i).ins;
 letI q23 : XV:=.agg 17 [.sl 3 [] 0 0 bl.length 6,q6];
 letI q24 : Nat:=bl.length * 6;
 letI q25 : List (Nat × Option XV):=[(2,some (.agg 17 [.row true 0 0 fun x => .unk,.tab 16 1 fun x => .int .i64 0])),(1,some q6),(0,some (aL p))];bif Nat.beq (pl q4 1) (pl
  q5 1) then bif decide ((↑m : Int) < (ix bl i).dst) then bif decide ((↑m : Int) < (↑(p.code.length) : Int)) then bif Nat.beq (pl q4 0) (pl q5 0) then ∃ (s : Ins × (Nat → Int) × Int ×
  Int),aC [aZ (ix p.code m),q6,.int .i64 (↑m : Int),.int .i64 (IntKind.wrap .i64 ((↑m : Int) - (ix bl i).src))] [aZ s.1,cY s.2.1,.int .i64 (q7 s),.int .i64 (q8 s)]
  ∧ aK True ∧ ∀ (y : List Cell × List Cell),y = iO s.1 s.2.1 (q7 s) (q8 s) → bif q9 then bif decide (ca.length ≤ ca.length) then bif decide (q11 y ≤ 140737488355328) then bif q9
  then bif q13 y then bif decide (ce.length ≤ ce.length) then bif decide (q15 y ≤ 140737488355328) then bif q13 y then A (XSt.mk ((9,.int .i64 (IntKind.wrap .i64 ((↑m : Int) + 1))) ::
  (8,.ptr 3 [1] q5) :: (7,.int .i64 (↑i : Int)) :: q16) ((8,some (.tab (q14 y) 9 fun i => .agg 9 [.int .i64 (bif q17 i then (ix ce i).kind else (q18 y i).kind),.agg 5 [.int .i64 (bif
  q17 i then Ins.op ((ix ce i).ins) else (q19 y i).op),.int .i64 (bif q17 i then Ins.d ((ix ce i).ins) else (q19 y i).d),.int .i64 (bif q17 i then Ins.a ((ix ce i).ins) else (q19 y
  i).a),.int .i64 (bif q17 i then Ins.b ((ix ce i).ins) else (q19 y i).b),.int .i64 (bif q17 i then Ins.imm ((ix ce i).ins) else (q19 y i).imm)],.int .i64 (bif q17 i then (ix ce i).reg
  else (q18 y i).reg),.int .i64 (bif q17 i then (ix ce i).pc else (q18 y i).pc),.int .i64 (bif q17 i then (ix ce i).off else (q18 y i).off)])) :: (7,some (.tab (q10 y) 9 fun i => .agg
  9 [.int .i64 (bif q20 i then (ix ca i).kind else (q21 y i).kind),.agg 5 [.int .i64 (bif q20 i then Ins.op ((ix ca i).ins) else (q22 y i).op),.int .i64 (bif q20 i then Ins.d ((ix ca
  i).ins) else (q22 y i).d),.int .i64 (bif q20 i then Ins.a ((ix ca i).ins) else (q22 y i).a),.int .i64 (bif q20 i then Ins.b ((ix ca i).ins) else (q22 y i).b),.int .i64 (bif q20 i
  then Ins.imm ((ix ca i).ins) else (q22 y i).imm)],.int .i64 (bif q20 i then (ix ca i).reg else (q21 y i).reg),.int .i64 (bif q20 i then (ix ca i).pc else (q21 y i).pc),.int .i64
  (bif q20 i then (ix ca i).off else (q21 y i).off)])) :: (6,none) :: (5,none) :: (4,some q23) :: (3,some (.agg q24 ((.tab i 6 fun a => f a) :: .agg 6 [.int .i64 ((ix bl i).src),
  .int .i64 ((ix bl i).dst),.int .i64 ((ix bl i).next),.int .i64 ((ix bl i).taken),q12 y,.sl 8 [] 0 0 (q14 y) 9] :: q2))) :: q25) 9) else False else False else False else False else
  False else False else False else False else False else False else B (XSt.mk ((7,.int .i64 (IntKind.wrap .i64 ((↑i : Int) + 1))) :: q16) ((6,some (.tab ce.length 9 fun k => cX
  (ix ce k))) :: (5,some (.tab ca.length 9 fun k => cX (ix ca k))) :: (4,some q23) :: (3,some (.agg q24 q3)) :: q25) 7) else False):=by kernel_rfl
theorem aWU : bX Try.prog TT8:=bV gV trivial trivial ⟨a6Q,a0R,trivial⟩ ⟨a6M,trivial⟩
theorem aQS {p : Prog} {o : Nat → Int} {bl : List Block} {i j : Nat} (h : j < i) : con (wF p o bl i j) = con (.agg 6 [.int .i64 (ix bl j).src,.int .i64 (ix bl j).dst,.int .i64 (ix bl j).next,.int .i64 (ix bl j).taken,aB 9 cX (emA p o (ix bl j) (vS (ix bl j))),aB 9 cX (emE p o (ix bl j) (vS (ix bl j)))]):=by
 unfold wF a0V
 simp only [h,zaC,zaB,zaI]
 rfl
theorem aWV {p : Prog} {o : Nat → Int} {bl : List Block} {i j : Nat} (h : ¬ j < i) : con (wF p o bl i j) = con (nN (ix bl j)):=by
 unfold wF a0V
 simp only [h,zaE,zaD,zaH]
 rfl
theorem a0Z {i : Ins} {o : Nat → Int} : (hP i o).length ≤ 2:=by
 unfold hP
 have:=aER (o:=o) (l:=aS i)
 have:=(jE (i:=i)).1
 omega
theorem qG {i : Ins} {o : Nat → Int} {pc off : Int} : (iO i o pc off).1.length ≤ 4 ∧ (iO i o pc off).2.length ≤ 4:=by
 have:=a0Z (i:=i) (o:=o)
 unfold iO
 repeat' split
 all_goals (simp;try omega)
theorem iQ {α : Type} {f : Nat → List α} {k : Nat} : (List.range (k + 1)).flatMap f = (List.range k).flatMap f ++ f k:=by
 rw [List.range_succ,List.flatMap_append]
 simp
theorem tQ {α : Type} {f : Nat → List α} (hf : ∀ j,(f j).length ≤ 4) : ∀ {k : Nat},((List.range k).flatMap f).length ≤ 4 * k
 | 0 => by simp
 | k + 1 => by
  rw [iQ,List.length_append]
  have:=tQ hf (k:=k)
  have:=hf k
  omega
theorem a00 {p : Prog} {i : Nat} (h : i < (tN p).length) : 0 ≤ (ix (tN p) i).src ∧ (ix (tN p) i).src < (ix (tN p) i).dst ∧ (ix (tN p) i).dst ≤ p.code.length:=by
 unfold tN at h ⊢
 rw [zI] at h
 have e : ix (oY p (aM p) (aM p).length) i = qF p (aM p) i:=by
  unfold oY
  rw [tK (by simpa using h),fY (by simpa using h)]
  simp
 rw [e]
 have h1:=tO h
 have h2:=(kI (p:=p)).1 _ (cH h)
 exact ⟨h2.1,h1.2.2,h1.2.1⟩
theorem a01 {p : Prog} : (tN p).length ≤ 2000:=by
 unfold tN
 rw [zI]
 exact (kI (p:=p)).2.2
theorem aQT : eI Try.prog (14,a6X):=bB fun ⟨p,o⟩ hw => by
 have hw : p.wf:=hw
 have hl:=hw.1.2
 show Pure _ _ (cons [aL p,cY o]) (con (zJ (nV p o)))
 refine jB mix aWU yZ (Nat.le_of_ble_eq_true rfl) ?_
 refine Eq.mpr (a0W p o _) ?_
 refine ⟨(p,o),.rfl,⟨hw⟩, ?_⟩
 intro y hy
 replace hy : y = fR p o:=hy
 subst hy
 unfold nV
 cases hc : fR p o with
 | false => exact ⟨iH (aF (fX (aF cQ (aF (.refl _) bO))) (aF (.refl _) bO))⟩
 | true =>
 have hc2 : p.code.length ≤ 2000:=by
  simp only [fR,aX,zaG,zaK] at hc
  omega
 refine ⟨p,.rfl,⟨hw⟩, ?_⟩
 rintro bl rfl
 have hbl:=fun i => a00 (p:=p) (i:=i)
 have hbn:=a01 (p:=p)
 generalize tN p = bl at *
 refine fS mix aWU (fun i : Nat => wtS p o bl (wF p o bl i) i) (fun i => i ≤ bl.length) (fun i => bl.length - i) 0 (Nat.zero_le _) (.of (dG ⟨rfl,rfl,rfl,rfl,rfl,trivial⟩ ⟨rfl,congrArg some (qB fun j hj => (aWV (Nat.not_lt_zero j)).symm),rfl,rfl,rfl,trivial⟩ (zaF _))) ?_
 intro i hi
 refine Eq.mpr (a0X p o bl _ _ _ _ _ _ _ _ i _ _) ?_
 by_cases hlt : i < bl.length
 case neg =>
  have h1 : ¬ (i : Int) < (bl.length : Int):=by omega
  obtain rfl : i = bl.length:=by omega
  simp only [h1,zaE,zaD,zaF,zaC,zaB]
  refine ⟨iH (aF (fX (aF (gH (by simp) (.inl rfl) fun j hj => ?_) (aF (.refl _) bO))) (aF (.refl _) bO))⟩
  show leQ _ (con (aQM (ix (bl.map (aQR p o)) j)))
  rw [tK hj]
  have e:=aQS (p:=p) (o:=o) (bl:=bl) hj
  show leQ (con (wF p o bl bl.length j)) _
  rw [e]
  exact .refl _
 have h1 : (i : Int) < (bl.length : Int):=by omega
 obtain ⟨b1,b2,b3⟩:=hbl i hlt
 simp only [h1,hlt,zaC,zaB,zaQ]
 have hb0 : vS (ix bl i) = ((ix bl i).dst - (ix bl i).src).toNat:=rfl
 refine fS mix aWU (fun k : Nat => wiS p o bl (wF p o bl i) (fun j => wF p o bl i (i + 1 + j)) i ((ix bl i).src.toNat + k) (emA p o (ix bl i) k) (emE p o (ix bl i) k)) (fun k => k ≤ vS (ix bl i)) (fun k => vS (ix bl i) - k) 0 (Nat.zero_le _) (pA [(0,0),(1,1),(2,2),(3,3),(4,4)] rfl rfl rfl rfl rfl ⟨aJ (by
   show con (.int .i64 (ix bl i).src) = con (.int .i64 (((ix bl i).src.toNat + 0 : Nat) : Int))
   rw [show (((ix bl i).src.toNat + 0 : Nat) : Int) = (ix bl i).src by omega]) rfl,.ptr rfl,aJ rfl rfl,.ptr rfl,.ptr rfl,.ptr rfl,.ptr rfl,trivial⟩
  ⟨⟨9,rfl⟩,⟨9,rfl⟩,.agg (.cons (.sl rfl) (.cons (aJ rfl rfl) .nil)),a0G hlt (.agg (.cons (aJ rfl rfl) (.cons (aJ rfl rfl) (.cons (aJ rfl rfl) (.cons (aJ rfl rfl) (.cons ?_ (.cons ?_ .nil))))))),aJ rfl rfl,aJ rfl rfl,aJ rfl rfl,trivial⟩) ?_
 ·simp only [Nat.lt_irrefl,zaE,zaD,zaH]
  exact tI rfl
 ·simp only [Nat.lt_irrefl,zaE,zaD,zaH]
  exact tI rfl
 intro k hk
 have hA:=tQ (f:=fun j => (iO (ix p.code ((ix bl i).src.toNat + j)) o (((ix bl i).src.toNat + j : Nat) : Int) (j : Int)).1) (fun j => qG.1) (k:=k)
 have hE:=tQ (f:=fun j => (iO (ix p.code ((ix bl i).src.toNat + j)) o (((ix bl i).src.toNat + j : Nat) : Int) (j : Int)).2) (fun j => qG.2) (k:=k)
 replace hA : (emA p o (ix bl i) k).length ≤ 4 * k:=hA
 replace hE : (emE p o (ix bl i) k).length ≤ 4 * k:=hE
 refine Eq.mpr (a0Y p o bl _ _ i _ _ _ _ _ _) ?_
 simp only [List.take_succ_cons,List.take_zero,List.set_cons_succ,List.set_cons_zero,rD,XV.size,cB,Nat.add_zero,zaQ,zaB]
 by_cases hlk : k < vS (ix bl i)
 case neg =>
  have h2 : ¬ (((ix bl i).src.toNat + k : Nat) : Int) < (ix bl i).dst:=by omega
  obtain rfl : k = vS (ix bl i):=by omega
  have w3 : IntKind.i64.wrap ((i : Int) + 1) = ((i + 1 : Nat) : Int):=wrap_i64 (by omega) (by omega)
  simp only [h2,zaE,zaD,w3]
  refine ⟨i + 1,hlt, ?_,by omega⟩
  refine cG.trans (τ:=XSt.st ⟨[(7,.int .i64 ((i + 1 : Nat) : Int)),(6,.ptr 4 [] 0),(4,.ptr 2 [] 0),(3,.ptr 1 [] 0),(2,.ptr 0 [] 0)],[(4,some (.agg 17 [.sl 3 [] 0 0 bl.length 6,.tab 16 1 fun i => .int .i64 (o i)])),(3,some (.agg (bl.length * 6) [.tab i 6 (wF p o bl i),.agg 6 [.int .i64 (ix bl i).src,.int .i64 (ix bl i).dst,.int .i64 (ix bl i).next,.int .i64 (ix bl i).taken,aB 9 cX (emA p o (ix bl i) (vS (ix bl i))),aB 9 cX (emE p o (ix bl i) (vS (ix bl i)))],.tab (bl.length - i - 1) 6 (fun j => wF p o bl i (i + 1 + j))])),(2,some (.agg 17 [.row true 0 0 fun x => .unk,.tab 16 1 fun x => .int .i64 0])),(1,some (.tab 16 1 fun i => .int .i64 (o i))),(0,some (aL p))],7⟩) ?_ ?_
  ·exact cG.frz (aV9 (L:=[5,6]) rfl rfl ⟨rfl,.same,rfl,.agg (.cons .same (.cons (.agg (.cons .same (.cons .same (.cons .same (.cons .same (.cons (kL rfl rfl) (.cons (kL rfl rfl) .nil))))))) (.cons .same .nil))),rfl,.same,rfl,.same,rfl,.same,trivial⟩)
  ·exact (pA (τ:=wtS p o bl (wF p o bl (i + 1)) (i + 1)) [(0,0),(1,1),(2,2),(3,3),(4,4)] rfl rfl rfl rfl rfl ⟨aJ rfl rfl,.ptr rfl,.ptr rfl,.ptr rfl,.ptr rfl,trivial⟩ ⟨.agg (.cons (.sl rfl) (.cons (aJ rfl rfl) .nil)),a51 (by omega) rfl rfl (aJ rfl rfl) (fun j hj => by rw [aQS hj,aQS (Nat.lt_succ_of_lt hj)]) (aQS (Nat.lt_succ_self i)).symm (fun j hj => by rw [aWV (by omega),aWV (by omega)]),aJ rfl rfl,aJ rfl rfl,aJ rfl rfl,trivial⟩)
 have h2 : (((ix bl i).src.toNat + k : Nat) : Int) < (ix bl i).dst:=by omega
 have h3 : (((ix bl i).src.toNat + k : Nat) : Int) < (p.code.length : Int):=by omega
 have w1 : IntKind.i64.wrap ((((ix bl i).src.toNat + k : Nat) : Int) - (ix bl i).src) = (k : Int):=by rw [wrap_i64 (by omega) (by omega)];omega
 have w2 : IntKind.i64.wrap ((((ix bl i).src.toNat + k : Nat) : Int) + 1) = (((ix bl i).src.toNat + (k + 1) : Nat) : Int):=by rw [wrap_i64 (by omega) (by omega)];omega
 simp only [h2,h3,w1,w2,zaC,zaB]
 refine ⟨(ix p.code ((ix bl i).src.toNat + k),o,(((ix bl i).src.toNat + k : Nat) : Int),(k : Int)),.rfl,⟨trivial⟩, ?_⟩
 intro y hy
 replace hy : y = iO (ix p.code ((ix bl i).src.toNat + k)) o (((ix bl i).src.toNat + k : Nat) : Int) (k : Int):=hy
 have hy1 : y.1.length ≤ 4 ∧ y.2.length ≤ 4:=by rw [hy];exact qG
 have eA : emA p o (ix bl i) (k + 1) = emA p o (ix bl i) k ++ y.1:=by rw [hy];exact iQ
 have eE : emE p o (ix bl i) (k + 1) = emE p o (ix bl i) k ++ y.2:=by rw [hy];exact iQ
 have b4 : ((emA p o (ix bl i) k).length + y.1.length) * 72 ≤ 140737488355328:=by omega
 have b5 : ((emE p o (ix bl i) k).length + y.2.length) * 72 ≤ 140737488355328:=by omega
 simp only [zaF,b4,b5,zaC,zaB]
 refine ⟨k + 1,hlk, ?_,by omega⟩
 rw [eA,eE]
 generalize emA p o (ix bl i) k = ca
 generalize emE p o (ix bl i) k = ce
 refine pA [(0,0),(1,1),(2,2),(3,3),(4,4),(5,7),(6,8)] rfl rfl rfl rfl rfl ⟨aJ rfl rfl,.ptr rfl,aJ rfl rfl,.ptr rfl,.ptr rfl,.ptr rfl,.ptr rfl,trivial⟩
  ⟨aV8 rfl ?_ ?_,aV8 rfl ?_ ?_,.agg (.cons (.sl rfl) (.cons (aJ rfl rfl) .nil)),.agg (.cons (aJ rfl rfl) (.cons (.agg (.cons (aJ rfl rfl) (.cons (aJ rfl rfl) (.cons (aJ rfl rfl) (.cons (aJ rfl rfl) (.cons ?_ (.cons ?_ .nil))))))) (.cons (aJ rfl rfl) .nil))),aJ rfl rfl,aJ rfl rfl,aJ rfl rfl,trivial⟩
 ·intro j hj;simp only [hj,zaC,zaB];rfl
 ·intro j hj
  have : ¬ ce.length + j < ce.length:=by omega
  simp only [this,zaE,zaD,Nat.add_sub_cancel_left];rfl
 ·intro j hj;simp only [hj,zaC,zaB];rfl
 ·intro j hj
  have : ¬ ca.length + j < ca.length:=by omega
  simp only [this,zaE,zaD,Nat.add_sub_cancel_left];rfl
 ·rw [List.length_append];exact .sl rfl
 ·rw [List.length_append];exact .sl rfl
theorem a9W : bX Try.prog TT9:=bV gV trivial trivial ⟨aWT,aQT,trivial⟩ trivial
theorem a02 (p : Prog) (r : XV) : (aQ TT9 80 (bT TT9 80 20) 16 [aL p] (fun v => aA v r)) = (∃ (s : Prog),aC [aL p] [aL s] ∧ aK s.wf ∧ ∀ (y : Nat → Int),y = rK s → ∃ (s : Prog × (Nat → Int)),aC [aL p,.tab 16 1 fun i => .int .i64 (y i)] [aL
 s.1,cY s.2] ∧ aK s.1.wf ∧ ∀ (y : Split × Int),y = nV s.1 s.2 → aA (.tup [aH y.1,.int .i64 y.2]) r):=by kernel_rfl
theorem aWW : eI Try.prog (16,a9V):=bB fun p hw => by
 have hw : p.wf:=hw
 show Pure _ _ (cons [aL p]) (con (zJ (aES p)))
 refine eS (u:=80) (k:=20) mix a9W ?_
 refine Eq.mpr (a02 p _) ?_
 refine ⟨p,.rfl,⟨hw⟩, ?_⟩
 intro y hy
 replace hy : y = rK p:=hy
 subst hy
 refine ⟨(p,rK p),.rfl,⟨hw⟩, ?_⟩
 intro y hy
 replace hy : y = nV p (rK p):=hy
 subst hy
 exact .rfl
end Go.Proofs.Ytooojfbfobmkfaa
namespace Go.Proofs.Ytooojfbfobmkfaa
open Go.Ra
@[irreducible] noncomputable def iC : AC:=cdO (trF Try.prog qq 83)
theorem nB : trF Try.prog qq 83 = some (9,[(.tmp 4)],iC):=by kernel_rfl
@[irreducible] noncomputable def dO : AC:=cdO (trF Try.prog qq 101)
@[irreducible] noncomputable def eY : AC:=cdA [1,0,1,0,0] dO
@[irreducible] noncomputable def iD : AC:=cdA [1,1] dO
theorem jF : trF Try.prog qq 101 = some (19,[(.tmp 4)],dO):=by kernel_rfl
def jV : mZ:=[(83,9,[(.tmp 4)],iC),(101,19,[(.tmp 4)],dO)]
theorem iE : lL (fun p => trF Try.prog qq p.1 = some p.2) jV:=⟨nB,jF,trivial⟩
@[irreducible] noncomputable def tR : AC:=cdO (trF Try.prog qq 21)
theorem aET : trF Try.prog qq 21 = some (41,[(.tmp 2)],tR):=by kernel_rfl
@[irreducible] noncomputable def tS : AC:=cdO (trF Try.prog qq 35)
theorem aEU : trF Try.prog qq 35 = some (11,[(.tmp 6)],tS):=by kernel_rfl
@[irreducible] noncomputable def qH : AC:=cdO (trF Try.prog qq 84)
theorem aBM : trF Try.prog qq 84 = some (13,[(.tmp 4)],qH):=by kernel_rfl
def oM : mZ:=[(21,41,[(.tmp 2)],tR),(35,11,[(.tmp 6)],tS),(84,13,[(.tmp 4)],qH)]
theorem mN : lL (fun p => trF Try.prog qq p.1 = some p.2) oM:=⟨aET,aEU,aBM,trivial⟩
end Go.Proofs.Ytooojfbfobmkfaa
namespace Go.Proofs.Ytooojfbfobmkfaa
open Go.Ra
set_option linter.unusedVariables false
set_option linter.unusedSimpArgs false
def TA0 : Tab:=fM qq (oM ++ jV) [] [] [] []
def aF9 (lo hi n : Int) : Bool:=decide (n < lo) || decide (n > hi)
def a9X : List XV → Option ((XV → Prop) → Prop):=eQ (fun q : List Int × Int × Int => [aB 1 bF q.1,.clo 84 [.cC (.int .i64 q.2.1),.cC (.int .i64 q.2.2)]]) (fun q => q.1.length ≤ 1000000) (fun q => mK (aF9 q.2.1 q.2.2) q.1) (fun y => .int .i64 y)
def TA1 : Tab:=fM qq (oM ++ jV) [] [] [(101,a9X)] []
def cE (lo hi : Int) (l : List Int) : Bool:=l.all fun n => decide (lo ≤ n ∧ n ≤ hi)
def wnS : List XV → Option ((XV → Prop) → Prop):=eQ (fun q : Int × Int × List Int => [.int .i64 q.1,.int .i64 q.2.1,aB 1 bF q.2.2]) (fun q => q.2.2.length ≤ 1000000) (fun q => cE q.1 q.2.1 q.2.2) (fun y => .bool y)
def TA2 : Tab:=fM qq (oM ++ jV) [] [] [(35,wnS)] []
def dD (c : Cfg) : Bool:=cE 1 64 [c.ldq,c.sdq,c.aeq,c.abq,c.ebq,c.saq,c.cA,c.nI] && (cE 1 16 [c.dA] && (cE 1 1000 [c.lat] && cE 1 50 [c.mul,c.div]))
def aWX : List XV → Option ((XV → Prop) → Prop):=eQ (fun c : Cfg => [aU c]) (fun c => True) (fun c => dD c) (fun y => .bool y)
theorem a36 : bX Try.prog TA0:=bV (mN.app iE) trivial trivial trivial trivial
theorem a9Y (l : List Int) (lo hi : Int) (r : XV) : (goQ Try.prog TA0 [(.tmp 4)] r (.run dO) [] ⟨jO 0 [aB 1 bF l,.clo 84 [.cC (.int .i64 lo),.cC (.int .i64 hi)]],[],0⟩) = (aP (Ok Try.prog (Tab.q TA0)) eY (XSt.mk [(8,.int .i64 0),(7,.int .i64 (↑(l.length) : Int)),(4,.int .i64 0),(0,aB 1 bF l),(1,.clo 84 [.cC
 (.int .i64 lo),.cC (.int .i64 hi)])] [] 0) [Frm.blk 0,Frm.seq iD] (bC [AR.tmp 4] r)):=by kernel_rfl 
theorem a9Z (l : List Int) (lo hi : Int) (i : Nat) (r : XV) (A : XSt → Prop) : (goQ Try.prog TA0 [(.tmp 4)] r (.run eY) [.lp eY A,.blk 0,.seq iD] ⟨[(0,aB 1 bF l),(1,.clo 84 [.cC (.int .i64 lo),.cC (.int .i64 hi)]),(8,.int .i64 i),(7,.int .i64 l.length)],[],0⟩) = (
 letI q1 : Bool:=decide ((↑i : Int) < (↑(l.length) : Int));
 letI q2 : Bool:=decide (ix l i < lo);bif q1 then bif q1 then bif bif q2 then true else !q2 then bif bif q2 then true else decide (ix l i > hi) then aA (.int .i64 (↑i : Int)) r
  else A (XSt.mk [(8,.int .i64 (IntKind.wrap .i64 ((↑i : Int) + 1))),(0,aB 1 bF l),(1,.clo 84 [.cC (.int .i64 lo),.cC (.int .i64 hi)]),(7,.int .i64 (↑(l.length) : Int))]
  [] 0) else False else False else aA (.int .i64 (-1 : Int)) r):=by kernel_rfl
theorem a6Y : eI Try.prog (101,a9X):=bB fun ⟨l,lo,hi⟩ h => by
 have hl : l.length ≤ 1000000:=h
 refine jB mix a36 jF (Nat.le_of_ble_eq_true rfl) ?_
 refine Eq.mpr (a9Y l lo hi _) ?_
 refine fS mix a36 (fun i : Nat => ⟨[(0,aB 1 bF l),(1,.clo 84 [.cC (.int .i64 lo),.cC (.int .i64 hi)]),(8,.int .i64 i),(7,.int .i64 l.length)],[],0⟩) (fun i => i ≤ l.length ∧ ∀ j,j < i → aF9 lo hi (ix l j) = false) (fun i => l.length - i) 0 ⟨Nat.zero_le _,fun j hj => by omega⟩ (.of (dG ⟨rfl,rfl,rfl,rfl,trivial⟩ trivial (zaF _))) ?_
 rintro i ⟨hi1,hp⟩
 refine Eq.mpr (a9Z l lo hi i _ _) ?_
 by_cases hlt : i < l.length
 ·have h1 : (i : Int) < (l.length : Int):=by omega
  have w1 : IntKind.i64.wrap ((i : Int) + 1) = ((i + 1 : Nat) : Int):=wrap_i64 (by omega) (by omega)
  simp only [g1,g2,g3,g4,g5,g6,g7,aD,zaB,zaF,zaC,cB,h1,w1]
  rw [bor]
  refine jQ (fun h => ?_) (fun h => ?_)
  ·have e : mK (aF9 lo hi) l = i:=u9 hlt h hp
   show aA _ (.int .i64 (mK (aF9 lo hi) l))
   rw [e];exact .rfl
  ·refine ⟨i + 1,⟨hlt,fun j hj => ?_⟩,.of (dG ⟨rfl,rfl,rfl,rfl,trivial⟩ trivial (zaF _)),by omega⟩
   by_cases hji : j = i
   ·subst hji;exact h
   ·exact hp j (by omega)
 ·have h1 : ¬ (i : Int) < (l.length : Int):=by omega
  simp only [h1,zaE,zaD]
  have e : mK (aF9 lo hi) l = -1:=vB fun j hj => hp j (by omega)
  show aA _ (.int .i64 (mK (aF9 lo hi) l))
  rw [e];exact .rfl
theorem a90 : bX Try.prog TA1:=bV (mN.app iE) trivial trivial ⟨a6Y,trivial⟩ trivial
theorem bC8 (l : List Int) (lo hi : Int) (r : XV) : (aQ TA1 80 (bT TA1 80 20) 35 [.int .i64 lo,.int .i64 hi,aB 1 bF l] (fun v => aA v r)) = (∃ (s : List Int × Int × Int),aC [aB 1 bF l,.clo 84 [.cC (.int .i64 lo),.cC (.int .i64 hi)]] [aB 1 bF s.1,.clo 84 [.cC (.int .i64 s.2.1),.cC (.int .i64
 s.2.2)]] ∧ aK (s.1.length ≤ 1000000) ∧ ∀ (y : Int),y = mK (aF9 s.2.1 s.2.2) s.1 → aA (.bool !decide (y ≥ 0)) r):=by kernel_rfl
theorem aOV {lo hi : Int} {l : List Int} : cE lo hi l = !l.any (aF9 lo hi):=by
 unfold cE
 rw [List.not_any_eq_all_not]
 congr 1
 funext n
 unfold aF9
 rw [Bool.eq_iff_iff]
 simp
theorem a37 : eI Try.prog (35,wnS):=bB fun ⟨lo,hi,l⟩ h => by
 have hl : l.length ≤ 1000000:=h
 show Pure _ _ (cons [.int .i64 lo,.int .i64 hi,aB 1 bF l]) (con (.bool (cE lo hi l)))
 refine eS (u:=80) (k:=20) mix a90 ?_
 refine Eq.mpr (bC8 l lo hi _) ?_
 refine ⟨(l,lo,hi),.rfl,⟨hl⟩, ?_⟩
 intro y hy
 replace hy : y = mK (aF9 lo hi) l:=hy
 subst hy
 rw [aOV,← a0F]
 exact .rfl
theorem a91 : bX Try.prog TA2:=bV (mN.app iE) trivial trivial ⟨a37,trivial⟩ trivial
theorem a92 (c : Cfg) (r : XV) : (aQ TA2 80 (bT TA2 80 20) 21 [aU c] (fun v => aA v r)) = (
 letI q1 : Nat → Nat:=fun a => a - 1;
 letI q2 : Nat → Nat:=fun a => q1 a - 1;
 letI q3 : Nat → Nat:=fun a => q2 a - 1;
 letI q4 : Nat → Nat:=fun a => q3 a - 1;
 letI q5 : Nat → Nat:=fun a => q4 a - 1;
 letI q6 : Int × Int × List Int → List XV:=fun s => [.int .i64 s.1,.int .i64 s.2.1,aB 1 bF s.2.2];
 letI q7 : Int × Int × List Int → Nat:=fun s => s.2.2.length;
 letI q8 : Int × Int × List Int → Bool:=fun s => cE s.1 s.2.1 s.2.2;∃ (s : Int × Int × List Int),aC [.int .i64 1,.int .i64 64,.row true 1 8 fun a => .int .i64 (bif Nat.beq
  a 0 then c.ldq else bif Nat.beq (q1 a) 0 then c.sdq else bif Nat.beq (q2 a) 0 then c.aeq else bif Nat.beq (q3 a) 0 then c.abq else bif Nat.beq (q4 a) 0 then c.ebq else bif Nat.beq (q5
  a) 0 then c.saq else bif Nat.beq (q5 a - 1) 0 then c.cA else c.nI)] (q6 s) ∧ aK (q7 s ≤ 1000000) ∧ ∀ (y : Bool),y = q8 s → bif y then ∃ (s : Int × Int × List Int),aC
  [.int .i64 1,.int .i64 16,.row true 1 1 fun a => .int .i64 c.dA] (q6 s) ∧ aK (q7 s ≤ 1000000) ∧ ∀ (y_1 : Bool),y_1 = q8 s → bif bif y then y_1 else false then ∃ (s : Int ×
  Int × List Int),aC [.int .i64 1,.int .i64 1000,.row true 1 1 fun a => .int .i64 c.lat] (q6 s) ∧ aK (q7 s ≤ 1000000) ∧ ∀ (y_2 : Bool),y_2 = q8 s → bif bif bif y then y_1 else
  false then y_2 else false then ∃ (s : Int × Int × List Int),aC [.int .i64 1,.int .i64 50,.row true 1 2 fun a => .int .i64 (bif Nat.beq a 0 then c.mul else c.div)] (q6 s) ∧ aK
  (q7 s ≤ 1000000) ∧ ∀ (y_3 : Bool),y_3 = q8 s → aA (.bool (bif bif bif y then y_1 else false then y_2 else false then y_3 else false)) r else bif !bif bif y then y_1 else false then
  y_2 else false then aA (.bool false) r else False else bif !bif y then y_1 else false then aA (.bool false) r else False else bif !y then aA (.bool false) r else False) :=
 by kernel_rfl
theorem a6Z {α : Type} [Inhabited α] {x : Bool} {es n : Nat} {f : Nat → XV} {en : α → XV} {l : List α} (hn : n = l.length) (h : gL (fun i => true) n = true → ∀ i,i < n → con (f i) = con (en (ix l i))) : leQ (con (.row x es n f)) (con (aB es en l)):=gH hn (.inl rfl) fun i hi => aEM (h (dS.2 fun _ _ => rfl) i hi)
theorem a60 : eI Try.prog (21,aWX):=bB fun c _ => by
 show Pure _ _ (cons [aU c]) (con (.bool (dD c)))
 refine eS (u:=80) (k:=20) mix a91 ?_
 refine Eq.mpr (a92 c _) ?_
 unfold dD
 refine ⟨(1,64,[c.ldq,c.sdq,c.aeq,c.abq,c.ebq,c.saq,c.cA,c.nI]),⟨aF (.refl _) (aF (.refl _) (aF (a6Z rfl fun _ i hi => ?_) bO))⟩,⟨by show 8 ≤ 1000000;omega⟩, ?_⟩
 ·match i,hi with
  | 0,_ => rfl
  | 1,_ => rfl
  | 2,_ => rfl
  | 3,_ => rfl
  | 4,_ => rfl
  | 5,_ => rfl
  | 6,_ => rfl
  | 7,_ => rfl
  | n + 8,h => omega
 intro y hy
 replace hy : y = cE 1 64 [c.ldq,c.sdq,c.aeq,c.abq,c.ebq,c.saq,c.cA,c.nI]:=hy
 rw [← hy]
 cases y with
 | false => exact .rfl
 | true =>
 refine ⟨(1,16,[c.dA]),⟨aF (.refl _) (aF (.refl _) (aF (c0 (.refl _)) bO))⟩,⟨by show 1 ≤ 1000000;omega⟩, ?_⟩
 intro y hy
 replace hy : y = cE 1 16 [c.dA]:=hy
 rw [← hy]
 cases y with
 | false => exact .rfl
 | true =>
 refine ⟨(1,1000,[c.lat]),⟨aF (.refl _) (aF (.refl _) (aF (c0 (.refl _)) bO))⟩,⟨by show 1 ≤ 1000000;omega⟩, ?_⟩
 intro y hy
 replace hy : y = cE 1 1000 [c.lat]:=hy
 rw [← hy]
 cases y with
 | false => exact .rfl
 | true =>
 refine ⟨(1,50,[c.mul,c.div]),⟨aF (.refl _) (aF (.refl _) (aF (dC (.refl _) (.refl _)) bO))⟩,⟨by show 2 ≤ 1000000;omega⟩, ?_⟩
 intro y hy
 replace hy : y = cE 1 50 [c.mul,c.div]:=hy
 subst hy
 exact .rfl
def TB1 : Tab:=mkT qq (gG ++ jV) [] []
def szI (op : Int) : Int:=if op = 26 ∨ op = 31 then 4 else if op = 27 ∨ op = 28 ∨ op = 32 then 2 else if op = 29 ∨ op = 30 ∨ op = 33 then 1 else 0
def aTI : List XV → Option (List Bool × XV)
 | [.int .i64 op] => some ([],.int .i64 (szI op))
 | _ => none
def jW (s a n : Int) : Int:=if s ≥ 1 ∧ ¬ (IntKind.i64.wrap a).tmod s = 0 then 1 else if (s > 0 ∧ (s > n ∨ IntKind.i64.wrap a > IntKind.i64.wrap (n - s))) ∨ (s ≤ 0 ∧ IntKind.i64.wrap (IntKind.i64.wrap a + s) > n) then 2 else 0
def aL4 : List XV → Option (List Bool × XV)
 | [.int .i64 s,.int .u32 a,.int .i64 n] => some ([],.int .i64 (jW s a n))
 | _ => none
def aL5 (op w : Int) : Int:=if op = 27 then (if w % 65536 ≥ 32768 then w % 65536 + 4294901760 else w % 65536) else if op = 29 then (if w % 256 ≥ 128 then w % 256 + 4294967040 else w % 256) else w
def aQU : List XV → Option (List Bool × XV)
 | [.int .i64 op,.int .u32 w] => some ([decide (0 ≤ w),decide (w ≤ 4294967295)],.int .u32 (aL5 op w))
 | _ => none
def aGA (w n : Int) : Int:=if n = 1 then eH .and .u32 w 255 else if n = 2 then eH .and .u32 w 65535 else if n = 4 then w else 0
def aWY : List XV → Option (List Bool × XV)
 | [.int .u32 w,.int .i64 n] => some ([],.int .u32 (aGA w n))
 | _ => none
theorem aQV : bX Try.prog TB1:=pT (eC.app iE) trivial trivial
theorem a03 (op : Int) (K : XV → Prop) : (aQ TB1 80 (bT TB1 80 20) 54 [.int .i64 op] K) = (
 letI q1 : Bool:=decide (op = 26);
 letI q2 : Bool:=decide (op = 27);
 letI q3 : Bool:=decide (op = 29);
 letI q4 : Bool:=decide (op = 30);
 letI q5 : Bool:=decide (op = 33);
 letI q6 : Bool:=decide (op = 28);
 letI q7 : Bool:=decide (op = 32);bif q1 then bif q1 then K (.int .i64 4) else bif q2 then bif q2 then K (.int .i64 2) else bif q3 then bif q3 then K (.int .i64 1) else K (.int .i64
  0) else bif q4 then bif q4 then K (.int .i64 1) else K (.int .i64 0) else bif q5 then K (.int .i64 1) else K (.int .i64 0) else bif q6 then bif q6 then K (.int .i64 2) else bif q3 then
  bif q3 then K (.int .i64 1) else K (.int .i64 0) else bif q4 then bif q4 then K (.int .i64 1) else K (.int .i64 0) else bif q5 then K (.int .i64 1) else K (.int .i64 0) else bif q7
  then K (.int .i64 2) else bif q3 then bif q3 then K (.int .i64 1) else K (.int .i64 0) else bif q4 then bif q4 then K (.int .i64 1) else K (.int .i64 0) else bif q5 then K (.int .i64
  1) else K (.int .i64 0) else bif decide (op = 31) then K (.int .i64 4) else bif q2 then bif q2 then K (.int .i64 2) else bif q3 then bif q3 then K (.int .i64 1) else K (.int .i64 0)
  else bif q4 then bif q4 then K (.int .i64 1) else K (.int .i64 0) else bif q5 then K (.int .i64 1) else K (.int .i64 0) else bif q6 then bif q6 then K (.int .i64 2) else bif q3 then
  bif q3 then K (.int .i64 1) else K (.int .i64 0) else bif q4 then bif q4 then K (.int .i64 1) else K (.int .i64 0) else bif q5 then K (.int .i64 1) else K (.int .i64 0) else bif q7
  then K (.int .i64 2) else bif q3 then bif q3 then K (.int .i64 1) else K (.int .i64 0) else bif q4 then bif q4 then K (.int .i64 1) else K (.int .i64 0) else bif q5 then K (.int .i64
  1) else K (.int .i64 0)):=by kernel_rfl
theorem aWZ (s a n : Int) (K : XV → Prop) : (aQ TB1 80 (bT TB1 80 20) 56 [.int .i64 s,.int .u32 a,.int .i64 n] K) = (
 letI q1 : Bool:=decide (s ≥ 1);
 letI q2 : Bool:=decide (s > 0);
 letI q3 : Bool:=!q2;
 letI q4 : Bool:=bif q2 then bif decide (n < s) then true else decide (IntKind.wrap .i64 a > IntKind.wrap .i64 (n - s)) else false;
 letI q5 : Bool:=!q4;
 letI q6 : Bool:=!q5;
 letI q7 : Bool:=decide (s ≤ 0);
 letI q8 : Int:=IntKind.wrap .i64 (IntKind.wrap .i64 a + s);bif bif !decide (s = 0) then true else !q1 then bif bif q1 then q1 else true then bif bif q1 then decide ¬Int.tmod (IntKind.wrap
  .i64 a) s = 0 else false then K (.int .i64 1) else bif bif q2 then true else q3 then bif bif bif decide (n < s) then true else bif q2 then !decide (n < s) else false then true else
  q3 then bif bif q2 then q2 else true then bif bif q5 then true else q6 then bif bif bif q7 then bif q5 then q7 else false else true then true else q6 then bif bif q4 then true else
  q5 then bif bif q4 then true else bif q7 then decide (n < q8) else false then K (.int .i64 2) else K (.int .i64 0) else False else False else False else False else False else False
  else False else False):=by kernel_rfl
theorem a04 (op w : Int) (K : XV → Prop) : (aQ TB1 80 (bT TB1 80 20) 103 [.int .i64 op,.int .u32 w] K) = (
 letI q1 : Int:=IntKind.wrap .i64 (IntKind.wrap .u32 (w * 65536));
 letI q2 : Int:=IntKind.wrap .i64 (IntKind.wrap .u32 (w * 16777216));bif decide (op = 27) then bif decide (q1 ≥ 2147483648) then K (.int .u32 (IntKind.wrap .u32 (Int.fdiv (IntKind.wrap
  .i64 (q1 - 4294967296)) (65536 : Int)))) else K (.int .u32 (IntKind.wrap .u32 (Int.fdiv q1 (65536 : Int)))) else bif decide (op = 29) then bif decide (q2 ≥ 2147483648) then K (.int
  .u32 (IntKind.wrap .u32 (Int.fdiv (IntKind.wrap .i64 (q2 - 4294967296)) (16777216 : Int)))) else K (.int .u32 (IntKind.wrap .u32 (Int.fdiv q2 (16777216 : Int)))) else K (.int .u32 w))
  := by kernel_rfl
theorem a61 (a n : Int) (K : XV → Prop) : (aQ TB1 80 (bT TB1 80 20) 62 [.int .u32 a,.int .i64 n] K) = (bif decide (n = 1) then K (.int .u32 (eH .and .u32 a (255 : Int))) else bif decide (n = 2) then K (.int .u32 (eH .and .u32 a (65535 : Int))) else bif decide (n = 4) then K (.int
 .u32 a) else K (.int .u32 0)):=by kernel_rfl
theorem zK : oV Try.prog (54,aTI):=by
 intro args nd v ha hn
 simp only [aTI] at ha
 split at ha <;> simp only [zaA,zaJ,reduceCtorEq] at ha
 obtain ⟨hnd,rfl⟩:=ha
 clear hnd hn
 rename_i op
 refine fL (u:=80) (k:=20) mix aQV ?_
 rw [a03]
 unfold szI
 by_cases h1 : op = 26
 ·subst h1;simp
 by_cases h2 : op = 27
 ·subst h2;simp
 by_cases h3 : op = 28
 ·subst h3;simp
 by_cases h4 : op = 29
 ·subst h4;simp
 by_cases h5 : op = 30
 ·subst h5;simp
 by_cases h6 : op = 31
 ·subst h6;simp
 by_cases h7 : op = 32
 ·subst h7;simp
 by_cases h8 : op = 33
 ·subst h8;simp
 simp [h1,h2,h3,h4,h5,h6,h7,h8]
theorem aBN : oV Try.prog (56,aL4):=by
 intro args nd v ha hn
 simp only [aL4] at ha
 split at ha <;> simp only [zaA,zaJ,reduceCtorEq] at ha
 obtain ⟨hnd,rfl⟩:=ha
 clear hnd hn
 rename_i s a n
 refine fL (u:=80) (k:=20) mix aQV ?_
 rw [aWZ]
 unfold jW
 by_cases h1 : s ≥ 1
 ·have h0 : ¬ s = 0:=by omega
  have h2 : s > 0:=by omega
  have h3 : ¬ s ≤ 0:=by omega
  by_cases h4 : (IntKind.i64.wrap a).tmod s = 0
  ·by_cases h5 : s > n
   ·simp [h0,h1,h2,h3,h4,h5]
   ·by_cases h6 : IntKind.i64.wrap a > IntKind.i64.wrap (n - s)
    ·simp [h0,h1,h2,h3,h4,h5,h6]
    ·simp [h0,h1,h2,h3,h4,h5,h6]
  ·simp [h0,h1,h2,h3,h4]
 ·have h2 : ¬ s > 0:=by omega
  have h3 : s ≤ 0:=by omega
  by_cases h6 : IntKind.i64.wrap (IntKind.i64.wrap a + s) > n
  ·simp [h1,h2,h3,h6]
  ·simp [h1,h2,h3,h6]
theorem aW0 : oV Try.prog (103,aQU):=by
 intro args nd v ha hn
 simp only [aQU] at ha
 split at ha <;> simp only [zaA,zaJ,reduceCtorEq] at ha
 obtain ⟨rfl,rfl⟩:=ha
 simp only [bD,zaK] at hn
 obtain ⟨h1,h2,hnil⟩:=hn
 refine fL (u:=80) (k:=20) mix aQV ?_
 rw [a04]
 unfold aL5
 rename_i op w
 by_cases ho : op = 27
 ·simp only [ho,zaC,zaB,if_true,vO,a0A]
  rw [tJ (by omega),tJ (by omega)]
  refine jQ (fun h => ?_) (fun h => ?_) <;> simp only [zaK,zaP] at h <;> refine aEL ?_ <;> split <;> omega
 ·by_cases ho2 : op = 29
  ·subst ho2
   simp only [show ¬ (29 : Int) = 27 by decide,zaC,zaE,zaB,zaD,if_true,if_false,vO,a0A]
   rw [tJ (by omega),tJ (by omega)]
   refine jQ (fun h => ?_) (fun h => ?_) <;> simp only [zaK,zaP] at h <;> refine aEL ?_ <;> split <;> omega
  ·simp only [ho,ho2,zaE,zaD,if_false]
theorem a05 : oV Try.prog (62,aWY):=by
 intro args nd v ha hn
 simp only [aWY] at ha
 split at ha <;> simp only [zaA,zaJ,reduceCtorEq] at ha
 obtain ⟨hnd,rfl⟩:=ha
 clear hnd hn
 rename_i w n
 refine fL (u:=80) (k:=20) mix aQV ?_
 rw [a61]
 unfold aGA
 by_cases h1 : n = 1
 ·subst h1;simp
 by_cases h2 : n = 2
 ·subst h2;simp
 by_cases h3 : n = 4
 ·subst h3;simp
 simp [h1,h2,h3]
def TB2 : Tab:=mkT qq (gG ++ jV) [(54,aTI),(67,kN),(56,aL4),(103,aQU)] []
def aCR (f : Nat → XV) (i : Nat) : XV:=.int .u8 (asN (f i))
def wrd (f : Nat → XV) (a : Nat) : Nat → Int
 | 0 => 0
 | i + 1 => wrd f a i + asN (f (a + i)) * 2 ^ (8 * i)
def aCD (n : Nat) (f : Nat → XV) (op a : Int) : Int:=if op ≥ 26 ∧ op ≤ 30 ∧ jW (szI op) a n = 0 then aL5 op (wrd f a.toNat (szI op).toNat) else 0
def a38 (n : Nat) (f : Nat → XV) : List XV → Option (List Bool × XV)
 | [.int .i64 op,.int .u32 a] => some ([aV4 n f,decide (0 ≤ a),decide (a ≤ 4294967295)],.int .u32 (aCD n f op a))
 | _ => none
def aW1:=aIZ 1 (.i .u8) 1099511627776 a38
theorem a39 : bX Try.prog TB2:=pT (eC.app iE) ⟨zK,jR,aBN,aW0,trivial⟩ trivial
theorem aQW {op : Int} (h1 : op ≥ 26) (h2 : op ≤ 30) : szI op = 1 ∨ szI op = 2 ∨ szI op = 4:=by
 unfold szI
 by_cases h3 : op = 26 ∨ op = 31
 ·simp [h3]
 ·rw [if_neg h3]
  by_cases h4 : op = 27 ∨ op = 28 ∨ op = 32
  ·simp [h4]
  ·rw [if_neg h4,if_pos (by omega)];exact .inl rfl
theorem aEV {s a : Int} {n : Nat} (hs : s = 1 ∨ s = 2 ∨ s = 4) (h0 : 0 ≤ a) (h1 : a ≤ 4294967295) (hn : n ≤ 1099511627776) (h : jW s a n = 0) : a + s ≤ n ∧ a % s = 0:=by
 unfold jW at h
 split at h
 ·cases h
 ·rename_i h2
  split at h
  ·cases h
  ·rename_i h3
   have h4 : IntKind.i64.wrap a = a:=wrap_i64 (by omega) (by omega)
   have h5 : IntKind.i64.wrap ((n : Int) - s) = n - s:=wrap_i64 (by omega) (by omega)
   rw [h4] at h2 h3
   rw [h5] at h3
   have h6 : a.tmod s = 0:=Classical.byContradiction fun h => h2 ⟨by omega,h⟩
   rw [Int.tmod_eq_emod_of_nonneg h0] at h6
   refine ⟨?_,h6⟩
   have h7 : ¬ (s > n ∨ a > n - s):=fun h => h3 (.inl ⟨by omega,h⟩)
   omega
theorem aI8 {n : Nat} {f : Nat → XV} (hb : ∀ i,i < n → 0 ≤ asN (f i) ∧ asN (f i) ≤ 255) (a : Nat) : ∀ i,a + i ≤ n → 0 ≤ wrd f a i ∧ wrd f a i < 2 ^ (8 * i)
 | 0,_ => by simp [wrd]
 | i + 1,h => by
  obtain ⟨h1,h2⟩:=aI8 hb a i (by omega)
  obtain ⟨h3,h4⟩:=hb (a + i) (by omega)
  simp only [wrd]
  have h5 : (2 : Int) ^ (8 * (i + 1)) = 256 * 2 ^ (8 * i):=by
   rw [show 8 * (i + 1) = 8 * i + 8 by omega,Int.pow_add]
   omega
  rw [h5]
  have hp : (0 : Int) < 2 ^ (8 * i):=Int.pow_pos (by omega)
  generalize (2 : Int) ^ (8 * i) = p at *
  have h6 : asN (f (a + i)) * p ≤ 255 * p:=Int.mul_le_mul_of_nonneg_right h4 (by omega)
  have h7 : 0 ≤ asN (f (a + i)) * p:=Int.mul_nonneg h3 (by omega)
  omega
theorem aW2 {n : Nat} {f : Nat → XV} (hb : ∀ i,i < n → 0 ≤ asN (f i) ∧ asN (f i) ≤ 255) (a i : Nat) (hi : i < 4) (h : a + i < n) :
  eH .or .u32 (wrd f a i) (IntKind.u32.wrap (IntKind.u32.wrap (asN (f (a + i))) * 2 ^ (8 * i))) = wrd f a (i + 1):=by
 obtain ⟨h1,h2⟩:=aI8 hb a i (by omega)
 obtain ⟨h3,h4⟩:=hb (a + i) h
 have h5 : IntKind.u32.wrap (asN (f (a + i))) = asN (f (a + i)):=wrap_u32 h3 (by omega)
 rw [h5]
 have hp : (0 : Int) < 2 ^ (8 * i) ∧ (2 : Int) ^ (8 * i) ≤ 16777216:=by
  rcases (by omega : i = 0 ∨ i = 1 ∨ i = 2 ∨ i = 3) with rfl | rfl | rfl | rfl <;> simp
 have h6 : 0 ≤ asN (f (a + i)) * 2 ^ (8 * i):=Int.mul_nonneg h3 (by omega)
 have h7 : asN (f (a + i)) * 2 ^ (8 * i) ≤ 255 * 2 ^ (8 * i):=Int.mul_le_mul_of_nonneg_right h4 (by omega)
 have h8 : IntKind.u32.wrap (asN (f (a + i)) * 2 ^ (8 * i)) = asN (f (a + i)) * 2 ^ (8 * i):=by
  generalize (2 : Int) ^ (8 * i) = p at *
  exact wrap_u32 h6 (by omega)
 rw [h8,a5W h1 h2 h3 (by generalize (2 : Int) ^ (8 * i) = p at *;omega)]
 rfl
theorem a06 (x : Bool) (n : Nat) (f : Nat → XV) (op a : Int) (r : AV) : (goS Try.prog TB2 [(.tmp 6)] r (.run m6) [] ⟨jO 0 [.row x 1 n (aCR f),.int .i64 op,.int .u32 a],[],0⟩) = (
 letI q1 : Bool:=decide ¬aI op = 4;bif bif q1 then true else !q1 then bif bif q1 then true else decide ¬jW (szI op) a (↑n : Int) = 0 then con (.int .u32 0) = r else aP (Ok
  Try.prog (Tab.q TB2)) oG (XSt.mk [(9,.int .i64 0),(8,.int .u32 0),(7,.int .i64 (szI op)),(6,.int .u32 0),(0,.row x 1 n (aCR fun a => f a)),(1,.int .i64 op),
  (2,.int .u32 a)] [] 0) [Frm.blk 0,Frm.seq tH] (aVX [AR.tmp 6] r) else False):=by kernel_rfl
theorem aW3 (x : Bool) (n : Nat) (f : Nat → XV) (op a w sz : Int) (i : Nat) (r : AV) (A : XSt → Prop) : (goS Try.prog TB2 [(.tmp 6)] r (.run oG) [.lp oG A,.blk 0,.seq tH] ⟨[(9,.int .i64 i),(7,.int .i64 sz),(8,.int .u32 w),(0,.row x 1 n (aCR f)),(1,.int .i64 op),(2,.int .u32 a)],[],0⟩) = (
 letI q1 : Int:=IntKind.wrap .i64 (IntKind.wrap .i64 a + (↑i : Int));
 letI q2 : Int:=IntKind.wrap .u64 (IntKind.wrap .i64 ((8 : Int) * (↑i : Int)));bif decide ((↑i : Int) < sz) then bif decide (0 ≤ q1) then bif decide (q1 < (↑n : Int)) then bif decide
  (0 ≤ q2) then A (XSt.mk [(9,.int .i64 (IntKind.wrap .i64 ((↑i : Int) + 1))),(8,.int .u32 (eH .or .u32 w (IntKind.wrap .u32 (IntKind.wrap .u32 (asN (f (Int.toNat q1))) * 2 ^ Nat.min
  (Int.toNat q2) 32)))),(7,.int .i64 sz),(0,.row x 1 n (aCR fun a => f a)),(1,.int .i64 op),(2,.int .u32 a)] [] 0) else False else False else False else bif decide (0 ≤ w) then
  bif decide (w ≤ 4294967295) then con (.int .u32 (aL5 op w)) = r else False else False):=by kernel_rfl
theorem aW4 : oV Try.prog (98,aW1):=aHH fun x n f rest nd v hn hg hnd => by
 unfold a38 at hg
 split at hg <;> simp only [zaA,zaJ,reduceCtorEq] at hg
 obtain ⟨rfl,rfl⟩:=hg
 rename_i op a
 simp only [bD,zaK,aLU] at hnd
 obtain ⟨hb,h0,h1,hnil⟩:=hnd
 refine a9D mix a39 aB6 (Nat.le_of_ble_eq_true rfl) ?_
 refine Eq.mpr (a06 x n f op a _) ?_
 have hform : aI op = 4 ↔ op ≥ 26 ∧ op ≤ 30:=by
  unfold aI
  repeat' split
  all_goals omega
 unfold aCD
 by_cases h2 : op ≥ 26 ∧ op ≤ 30
 case neg =>
  have h3 : ¬ aI op = 4:=fun h => h2 (hform.1 h)
  have h4 : ¬ (op ≥ 26 ∧ op ≤ 30 ∧ jW (szI op) a n = 0):=fun h => h2 ⟨h.1,h.2.1⟩
  simp [h3,h4]
 have h3:=hform.2 h2
 by_cases h4 : jW (szI op) a n = 0
 case neg => simp [h3,h4]
 simp only [h2,h3,h4,and_self,zaC,zaE,zaB,zaD,aD,zaF,zaO,zaQ,aV,bJ,zaI,zaH,zaN,zaM,zaT,zaR,zaS,ge_iff_le,Int.le_refl,if_true,if_false,reduceCtorEq,eq_self,BEq.rfl]
 have hs:=aQW h2.1 h2.2
 obtain ⟨h5,_⟩:=aEV hs h0 h1 hn h4
 refine a9E mix a39 (fun i : Nat => ⟨[(9,.int .i64 i),(7,.int .i64 (szI op)),(8,.int .u32 (wrd f a.toNat i)),(0,.row x 1 n (aCR f)),(1,.int .i64 op),(2,.int .u32 a)],[],0⟩) (fun i => i ≤ (szI op).toNat) (fun i => (szI op).toNat - i) 0 (Nat.zero_le _) (a3W ⟨bS rfl,bS rfl,bS rfl,bS rfl,bS rfl,bS rfl,trivial⟩ trivial (zaF _)) ?_
 intro i hi
 rw [aW3]
 by_cases hlt : i < (szI op).toNat
 ·have g1 : (i : Int) < szI op:=by omega
  have g2 : IntKind.i64.wrap (IntKind.i64.wrap a + i) = a + i:=by rw [wrap_i64 (x:=a) (by omega) (by omega),wrap_i64 (by omega) (by omega)]
  have g3 : IntKind.u64.wrap (IntKind.i64.wrap (8 * (i : Int))) = 8 * i:=by rw [wrap_i64 (by omega) (by omega),bC5];omega
  have g4 : (0 : Int) ≤ a + i:=by omega
  have g5 : a + (i : Int) < n:=by omega
  have g6 : (0 : Int) ≤ 8 * (i : Int):=by omega
  have g7 : Nat.min (8 * (i : Int)).toNat 32 = 8 * i:=by
   have : (8 * (i : Int)).toNat = 8 * i:=by omega
   rw [this]
   exact Nat.min_eq_left (by omega)
  have g8 : (a + (i : Int)).toNat = a.toNat + i:=by omega
  simp only [g1,g2,g3,g4,g5,g6,g7,g8,zaC,zaE,zaB,zaD,aD,zaF,zaO,zaQ,aV,bJ,zaI,zaH,zaN,zaM,zaT,zaR,zaS,ge_iff_le,Int.le_refl,if_true,if_false,reduceCtorEq,eq_self,BEq.rfl]
  refine ⟨i + 1,by omega,a3W ⟨bS (aEL ?_),bS rfl,bS (aEL (aW2 hb _ _ (by omega) (by omega))),bS rfl,bS rfl,bS rfl,trivial⟩ trivial (zaF _),by omega⟩
  rw [wrap_i64 (by omega) (by omega)];rfl
 ·have g1 : ¬ (i : Int) < szI op:=by omega
  have g2 : i = (szI op).toNat:=by omega
  obtain ⟨g3,g4⟩:=aI8 hb a.toNat i (by omega)
  have g5 : wrd f a.toNat i ≤ 4294967295:=by
   have : (2 : Int) ^ (8 * i) ≤ 4294967296:=by
    rcases (by omega : i = 1 ∨ i = 2 ∨ i = 4) with rfl | rfl | rfl <;> simp
   omega
  simp only [g1,g3,g5,zaC,zaE,zaB,zaD,aD,zaF,zaO,zaQ,aV,bJ,zaI,zaH,zaN,zaM,zaT,zaR,zaS,ge_iff_le,Int.le_refl,if_true,if_false,reduceCtorEq,eq_self,BEq.rfl]
  rw [g2]
end Go.Proofs.Ytooojfbfobmkfaa
namespace Go.Ra
set_option linter.unusedVariables false
def aI9 (L : List Nat) (σ : XSt) : List (Nat × XV) → List (Nat × XV) → Prop
 | [],[] => True
 |(k,v) :: r,(k',v') :: r' => k = k' ∧ leF L σ.st (con v) (con v') ∧ aI9 L σ r r'
 | _,_ => False
theorem aCE {L : List Nat} {σ : XSt} {t : Nat} : ∀ {a b : List (Nat × XV)},aI9 L σ a b → leF L σ.st (con (lJ a t)) (con (lJ b t))
 | [],[],_ => .same
 |(k,v) :: r,(k',v') :: r',h => by
  obtain ⟨rfl,h2,h3⟩:=h
  simp only [lJ,iR]
  by_cases hi : t = k
  ·rw [if_pos hi,if_pos hi];exact h2
  ·rw [if_neg hi,if_neg hi];exact aCE h3
 | [],_ :: _,h => h.elim
 | _ :: _,[],h => h.elim
theorem zL {L : List Nat} {σ τ : XSt} (hn : τ.n = σ.n) (he : aI9 L σ σ.env τ.env) (hh : aEO L σ τ.hl) : aRX σ.st τ.st:=by
 refine ⟨L,hn,fun t => ?_,fun j => rJ hh⟩
 show leF L σ.st (get (dW σ.env) t) (get (dW τ.env) t)
 rw [eR,eR]
 exact aCE he
section
variable {P : Program} {T : Tab}
end
def aL6 (k : Nat) (l : List (Nat × Option XV)) : Bool:=match iX l k with | some _ => true | none => false
def zM (hl : List (Nat × Option XV)) : List (Nat × Nat) → List (Nat × Nat)
 | [] => []
 |(k,i) :: r => bif aL6 k hl then (k,i) :: zM hl r else zM hl r
theorem zN {hl : List (Nat × Option XV)} {j : Nat} (hj : aL6 j hl = true) : ∀ {l : List (Nat × Nat)},kap (zM hl l) j = kap l j
 | [] => rfl
 |(k,i) :: r => by
  simp only [zM,kap,iR]
  cases hk : aL6 k hl with
  | true =>
   simp only [zaB,kap,iR]
   split
   ·rfl
   ·exact zN hj
  | false =>
   rw [zaD]
   have : ¬ j = k:=fun e => by rw [e,hk] at hj;cases hj
   rw [if_neg this]
   exact zN hj
theorem qI {m : Nat} {σ τ : XSt} (kl : List (Nat × Nat)) (h1 : aV0 kl m = true) (h2 : aEI τ.n kl = true) (h3 : yV τ.n τ.hl = true) (h4 : Nat.ble m τ.n = true) (h5 : aEJ (zM τ.hl kl) = true) (h6 : aIY (kap kl) τ.env σ.env) (h7 : yW (kap kl) τ.hl σ.hl) : cG m σ.st τ.st :=
 .ofK ⟨kap kl,(fun j hj => by
  have h8:=mJ h1 j hj
  cases hk : kap kl j with
  | none => rw [hk] at h8;cases h8
  | some i =>
   rw [hk] at h8
   rw [zaL h8]),(fun j hj => ⟨aBH h3 hj,aEK h2 hj⟩),Nat.le_of_ble_eq_true h4,(fun i j j' hj hj' e e' => by
  have live : ∀ j,τ.st.H j ≠ none → aL6 j τ.hl = true:=fun j hj => by
   have hj : look (hO τ.hl) (fun _ => none) j ≠ none:=hj
   rw [n0] at hj
   unfold aL6
   cases hl : iX τ.hl j with
   | none => rw [hl] at hj;exact absurd rfl hj
   | some _ => rfl
  exact aIX h5 i j j' (by rw [zN (live j hj)];exact e) (by rw [zN (live j' hj')];exact e')),(fun t => xJ h6),(fun j t' hj => o9 h7 hj)⟩
end Go.Ra
namespace Go.Proofs.Ytooojfbfobmkfaa
open Go.Ra
set_option linter.unusedVariables false
set_option linter.unusedSimpArgs false
def TB3 : Tab:=mkT qq (gG ++ jV) [(56,aL4)] []
def okW (n : Nat) (a s : Int) : Bool:=decide ((s = 1 ∨ s = 2 ∨ s = 4) ∧ 0 ≤ a ∧ a ≤ 4294967295 ∧ jW s a n = 0)
def qJ (c : Bool) (f : Nat → XV) (a s : Nat) (v : Int) (i : Nat) : XV:=.int .u8 (bif (c && (decide (a ≤ i) && decide (i < a + s))) then v / 2 ^ (8 * (i - a)) % 256 else asN (f i))
def a93 (n : Nat) (f : Nat → XV) : List XV → Option (List Bool × XV)
 | [.agg 3 [.int .i64 a,.int .i64 s,.int .u32 v]] => some ([],.row false 1 n (qJ (okW n a s) f a.toNat s.toNat v))
 | _ => none
def a4A:=aIZ 1 (.i .u8) 1099511627776 a93
def aJA (m : List Int) (w : Wr) : List Int:=dI m.length fun i => asN (qJ (okW m.length w.addr w.size) (fun i => kM (ix m i)) w.addr.toNat w.size.toNat w.val i)
theorem a94 : bX Try.prog TB3:=pT (eC.app iE) ⟨aBN,trivial⟩ trivial
theorem zO {n : Nat} {a s : Int} : okW n a s = true ↔ (s = 1 ∨ s = 2 ∨ s = 4) ∧ 0 ≤ a ∧ a ≤ 4294967295 ∧ jW s a n = 0:=by simp [okW]
theorem aJB {n : Nat} {a s : Int} (hs : s = 1 ∨ s = 2 ∨ s = 4) (h : okW n a s = false) : (bif bif decide (a < 0) then true else decide (a > 4294967295) then true else decide (¬ jW s (IntKind.u32.wrap a) n = 0)) = true:=by
 by_cases h1 : a < 0
 ·simp [h1]
 ·by_cases h2 : a > 4294967295
  ·simp [h1,h2]
  ·have h3 : IntKind.u32.wrap a = a:=wrap_u32 (by omega) (by omega)
   have h4 : ¬ jW s a n = 0:=fun h4 => by
    have : okW n a s = true:=zO.2 ⟨hs,by omega,by omega,h4⟩
    rw [h] at this;cases this
   rw [h3]
   simp [h4]
theorem vG {f : Nat → XV} {a s : Nat} {v : Int} {i : Nat} : qJ false f a s v i = .int .u8 (asN (f i)):=rfl
theorem xM {f : Nat → XV} {a s : Nat} {v : Int} {i j : Nat} (hj : j < s) (hi : i = a + j) : qJ true f a s v i = .int .u8 (v / 2 ^ (8 * j) % 256):=by
 subst hi
 simp only [qJ]
 rw [show (true && (decide (a ≤ a + j) && decide (a + j < a + s))) = true by simp;omega,show a + j - a = j by omega]
 rfl
theorem aJC {f : Nat → XV} {a s : Nat} {v : Int} {i : Nat} (h : i < a ∨ a + s ≤ i) : qJ true f a s v i = .int .u8 (asN (f i)):=by
 simp only [qJ]
 rw [show (true && (decide (a ≤ i) && decide (i < a + s))) = false by simp;omega]
 rfl
theorem a07 (x : Bool) (n : Nat) (f : Nat → XV) (a s v : Int) (K : XV → Prop) : (aQ TB3 5 (bT TB3 5 20) 97 [.row x 1 n (aCR f),.agg 3 [.int .i64 a,.int .i64 s,.int .u32 v]] K) = (
 letI q1 : Bool:=decide ¬s = 1;
 letI q2 : Bool:=bif q1 then decide ¬s = 2 else false;
 letI q3 : Bool:=bif q2 then decide ¬s = 4 else false;
 letI q4 : Bool:=bif q3 then true else decide (a < 0);
 letI q5 : Bool:=bif q4 then true else decide (a > 4294967295);
 letI q6 : Bool:=decide (n ≤ n);
 letI q7 : XV:=.row false 1 n fun i => .int .u8 (asN (f i));
 letI q8 : Int:=IntKind.wrap .i64 (a + 0);
 letI q9 : Nat:=Int.toNat q8;
 letI q10 : Nat:=q9 * 1;
 letI q11 : Bool:=decide (q9 < n);
 letI q12 : Int:=IntKind.wrap .i64 ((0 : Int) + 1);
 letI q13 : Int:=IntKind.wrap .i64 (a + 1);
 letI q14 : Int:=IntKind.wrap .i64 (a + q12);
 letI q15 : Nat:=Int.toNat q13;
 letI q16 : Nat:=q15 * 1;
 letI q17 : Bool:=decide (q15 < n);
 letI q18 : Int:=IntKind.wrap .i64 (q12 + 1);
 letI q19 : Int:=IntKind.wrap .i64 (a + 2);
 letI q20 : Int:=IntKind.wrap .i64 (a + q18);
 letI q21 : Nat:=Int.toNat q19;
 letI q22 : Nat:=q21 * 1;
 letI q23 : Bool:=decide (q21 < n);
 letI q24 : Int:=IntKind.wrap .i64 (q18 + 1);
 letI q25 : Int:=IntKind.wrap .i64 (a + 3);
 letI q26 : Int:=IntKind.wrap .i64 (a + q24);
 letI q27 : Nat:=Int.toNat q25;
 letI q28 : Nat:=q27 * 1;
 letI q29 : Bool:=decide (q27 < n);
 letI q30 : Int:=IntKind.wrap .i64 (q24 + 1);
 letI q31 : Int:=IntKind.wrap .i64 (a + 4);
 letI q32 : Int:=IntKind.wrap .i64 (a + q30);
 letI q33 : Nat:=Int.toNat q31;
 letI q34 : Nat:=q33 * 1;
 letI q35 : Bool:=decide (q33 < n);
 letI q36 : Nat → Int:=fun i => bif Nat.beq i q9 then IntKind.wrap .u8 (Int.fdiv v (1 : Int)) else asN (f i);
 letI q37 : Nat → Int:=fun i => bif Nat.beq i q15 then IntKind.wrap .u8 (Int.fdiv v (256 : Int)) else q36 i;
 letI q38 : Nat → Int:=fun i => bif Nat.beq i q21 then IntKind.wrap .u8 (Int.fdiv v (65536 : Int)) else q37 i;bif decide (n * 1 ≤ 140737488355328) then bif bif q1 then q1 else true
  then bif bif q2 then q2 else true then bif bif q3 then true else !q3 then bif bif q4 then true else !q4 then bif bif q5 then true else !q5 then bif bif q5 then true else decide ¬jW
  s (IntKind.wrap .u32 a) (↑n : Int) = 0 then bif q6 then K q7 else False else bif decide (0 < s) then bif decide (0 ≤ q8) then bif decide (q8 < (↑n : Int)) then bif Nat.beq q10 q10 then
  bif q11 then bif q11 then bif decide (1 < s) then bif decide (0 ≤ q13) then bif decide (q13 < (↑n : Int)) then bif Nat.beq q16 q16 then bif q17 then bif q17 then bif decide (2 < s)
  then bif decide (0 ≤ q19) then bif decide (q19 < (↑n : Int)) then bif Nat.beq q22 q22 then bif q23 then bif q23 then bif decide (3 < s) then bif decide (0 ≤ q25) then bif decide (q25
  < (↑n : Int)) then bif Nat.beq q28 q28 then bif q29 then bif q29 then bif decide (4 < s) then bif decide (0 ≤ q31) then bif decide (q31 < (↑n : Int)) then bif Nat.beq q34 q34 then bif
  q35 then bif q35 then False else False else False else False else False else False else bif q6 then K (.row false 1 n fun i => .int .u8 (bif Nat.beq i q27 then IntKind.wrap .u8 (Int.fdiv
  v (16777216 : Int)) else q38 i)) else False else False else False else False else False else False else bif q6 then K (.row false 1 n fun i => .int .u8 (q38 i)) else False else False
  else False else False else False else False else bif q6 then K (.row false 1 n fun i => .int .u8 (q37 i)) else False else False else False else False else False else False else bif
  q6 then K (.row false 1 n fun i => .int .u8 (q36 i)) else False else False else False else False else False else False else bif q6 then K q7 else False else False else False else False
  else False else False else False):=by kernel_rfl
theorem a08 (x : Bool) (n : Nat) (f : Nat → XV) (a v : Int) (K : XV → Prop) : (aQ TB3 5 (bT TB3 5 20) 97 [.row x 1 n (aCR f),.agg 3 [.int .i64 a,.int .i64 1,.int .u32 v]] K) = (
 letI q1 : Bool:=decide (a < 0);
 letI q2 : Bool:=bif q1 then true else decide (a > 4294967295);
 letI q3 : Int:=jW (1 : Int) (IntKind.wrap .u32 a) (↑n : Int);
 letI q4 : Bool:=decide (n ≤ n);
 letI q5 : Int:=IntKind.wrap .i64 (a + 0);
 letI q6 : Nat:=Int.toNat q5;
 letI q7 : Nat:=q6 * 1;
 letI q8 : Bool:=decide (q6 < n);bif decide (n * 1 ≤ 140737488355328) then bif bif q1 then true else !q1 then bif bif q2 then true else !q2 then bif bif q2 then true else decide ¬q3
  = 0 then bif q4 then K (.row false 1 n fun i => .int .u8 (asN (f i))) else False else bif decide (0 ≤ q5) then bif decide (q5 < (↑n : Int)) then bif Nat.beq q7 q7 then bif q8 then bif
  q8 then bif q4 then K (.row false 1 n fun i => .int .u8 (bif Nat.beq i q6 then IntKind.wrap .u8 (Int.fdiv v (1 : Int)) else asN (f i))) else False else False else False else False else
  False else False else False else False else False):=by kernel_rfl
theorem a09 (x : Bool) (n : Nat) (f : Nat → XV) (a v : Int) (K : XV → Prop) : (aQ TB3 5 (bT TB3 5 20) 97 [.row x 1 n (aCR f),.agg 3 [.int .i64 a,.int .i64 2,.int .u32 v]] K) = (
 letI q1 : Bool:=decide (a < 0);
 letI q2 : Bool:=bif q1 then true else decide (a > 4294967295);
 letI q3 : Int:=jW (2 : Int) (IntKind.wrap .u32 a) (↑n : Int);
 letI q4 : Bool:=decide (n ≤ n);
 letI q5 : Int:=IntKind.wrap .i64 (a + 0);
 letI q6 : Nat:=Int.toNat q5;
 letI q7 : Nat:=q6 * 1;
 letI q8 : Bool:=decide (q6 < n);
 letI q9 : Int:=IntKind.wrap .i64 (a + 1);
 letI q10 : Int:=IntKind.wrap .i64 (a + IntKind.wrap .i64 ((0 : Int) + 1));
 letI q11 : Nat:=Int.toNat q9;
 letI q12 : Nat:=q11 * 1;
 letI q13 : Bool:=decide (q11 < n);bif decide (n * 1 ≤ 140737488355328) then bif bif q1 then true else !q1 then bif bif q2 then true else !q2 then bif bif q2 then true else decide
  ¬q3 = 0 then bif q4 then K (.row false 1 n fun i => .int .u8 (asN (f i))) else False else bif decide (0 ≤ q5) then bif decide (q5 < (↑n : Int)) then bif Nat.beq q7 q7 then bif q8 then
  bif q8 then bif decide (0 ≤ q9) then bif decide (q9 < (↑n : Int)) then bif Nat.beq q12 q12 then bif q13 then bif q13 then bif q4 then K (.row false 1 n fun i => .int .u8 (bif Nat.beq
  i q11 then IntKind.wrap .u8 (Int.fdiv v (256 : Int)) else bif Nat.beq i q6 then IntKind.wrap .u8 (Int.fdiv v (1 : Int)) else asN (f i))) else False else False else False else False
  else False else False else False else False else False else False else False else False else False else False):=by kernel_rfl
theorem a1A (x : Bool) (n : Nat) (f : Nat → XV) (a v : Int) (K : XV → Prop) : (aQ TB3 5 (bT TB3 5 20) 97 [.row x 1 n (aCR f),.agg 3 [.int .i64 a,.int .i64 4,.int .u32 v]] K) = (
 letI q1 : Bool:=decide (a < 0);
 letI q2 : Bool:=bif q1 then true else decide (a > 4294967295);
 letI q3 : Int:=jW (4 : Int) (IntKind.wrap .u32 a) (↑n : Int);
 letI q4 : Bool:=decide (n ≤ n);
 letI q5 : Int:=IntKind.wrap .i64 (a + 0);
 letI q6 : Nat:=Int.toNat q5;
 letI q7 : Nat:=q6 * 1;
 letI q8 : Bool:=decide (q6 < n);
 letI q9 : Int:=IntKind.wrap .i64 (a + 1);
 letI q10 : Int:=IntKind.wrap .i64 ((0 : Int) + 1);
 letI q11 : Int:=IntKind.wrap .i64 (a + q10);
 letI q12 : Nat:=Int.toNat q9;
 letI q13 : Nat:=q12 * 1;
 letI q14 : Bool:=decide (q12 < n);
 letI q15 : Int:=IntKind.wrap .i64 (a + 2);
 letI q16 : Int:=IntKind.wrap .i64 (q10 + 1);
 letI q17 : Int:=IntKind.wrap .i64 (a + q16);
 letI q18 : Nat:=Int.toNat q15;
 letI q19 : Nat:=q18 * 1;
 letI q20 : Bool:=decide (q18 < n);
 letI q21 : Int:=IntKind.wrap .i64 (a + 3);
 letI q22 : Int:=IntKind.wrap .i64 (a + IntKind.wrap .i64 (q16 + 1));
 letI q23 : Nat:=Int.toNat q21;
 letI q24 : Nat:=q23 * 1;
 letI q25 : Bool:=decide (q23 < n);bif decide (n * 1 ≤ 140737488355328) then bif bif q1 then true else !q1 then bif bif q2 then true else !q2 then bif bif q2 then true else decide
  ¬q3 = 0 then bif q4 then K (.row false 1 n fun i => .int .u8 (asN (f i))) else False else bif decide (0 ≤ q5) then bif decide (q5 < (↑n : Int)) then bif Nat.beq q7 q7 then bif q8 then
  bif q8 then bif decide (0 ≤ q9) then bif decide (q9 < (↑n : Int)) then bif Nat.beq q13 q13 then bif q14 then bif q14 then bif decide (0 ≤ q15) then bif decide (q15 < (↑n : Int)) then
  bif Nat.beq q19 q19 then bif q20 then bif q20 then bif decide (0 ≤ q21) then bif decide (q21 < (↑n : Int)) then bif Nat.beq q24 q24 then bif q25 then bif q25 then bif q4 then K (.row
  false 1 n fun i => .int .u8 (bif Nat.beq i q23 then IntKind.wrap .u8 (Int.fdiv v (16777216 : Int)) else bif Nat.beq i q18 then IntKind.wrap .u8 (Int.fdiv v (65536 : Int)) else bif Nat.beq
  i q12 then IntKind.wrap .u8 (Int.fdiv v (256 : Int)) else bif Nat.beq i q6 then IntKind.wrap .u8 (Int.fdiv v (1 : Int)) else asN (f i))) else False else False else False else False
  else False else False else False else False else False else False else False else False else False else False else False else False else False else False else False else False else
  False else False else False else False):=by kernel_rfl
theorem aW5 (x : Bool) (n : Nat) (f : Nat → XV) (a v : Int) (hn : n ≤ 1099511627776) : aQ TB3 5 (bT TB3 5 20) 97 [.row x 1 n (aCR f),.agg 3 [.int .i64 a,.int .i64 1,.int .u32 v]] (fun u => con u = con (.row false 1 n (qJ (okW n a 1) f a.toNat 1 v))):=by
 rw [a08]
 have hb : n * 1 ≤ 140737488355328:=by omega
 simp only [hb,zaC,zaE,zaB,zaD,aD,zaF,zaO,zaQ,aV,bJ,zaI,zaH,zaN,zaM,zaT,zaR,zaS,ge_iff_le,Int.le_refl,if_true,if_false,reduceCtorEq,eq_self,BEq.rfl]
 cases hok : okW n a 1 with
 | false =>
  rw [aJB (by omega) hok]
  simp only [zaB]
  exact pB fun i hi => by rw [vG]
 | true =>
  obtain ⟨hs,ha,ha2,hch⟩:=zO.1 hok
  obtain ⟨hin,_⟩:=aEV hs ha ha2 hn hch
  have h1 : ¬ a < 0:=by omega
  have h2 : ¬ a > 4294967295:=by omega
  have h3 : IntKind.u32.wrap a = a:=wrap_u32 ha ha2
  have hc : (bif bif decide (a < 0) then true else decide (a > 4294967295) then true else decide (¬ jW 1 (IntKind.u32.wrap a) n = 0)) = false:=by rw [h3];simp [h1,h2,hch]
  have e0 : (IntKind.i64.wrap (a + 0)).toNat = a.toNat + 0:=by rw [wrap_i64 (by omega) (by omega)];omega
  have z0 : (0 : Int) ≤ IntKind.i64.wrap (a + 0):=by rw [wrap_i64 (by omega) (by omega)];omega
  have y0 : IntKind.i64.wrap (a + 0) < n:=by rw [wrap_i64 (by omega) (by omega)];omega
  have x0 : a.toNat + 0 < n:=by omega
  simp only [hc,e0,z0,y0,x0,zaC,zaE,zaB,zaD,aD,zaF,zaO,zaQ,aV,bJ,zaI,zaH,zaN,zaM,zaT,zaR,zaS,ge_iff_le,Int.le_refl,if_true,if_false,reduceCtorEq,eq_self,BEq.rfl]
  refine pB fun i hi => ?_
  by_cases h0 : i = a.toNat + 0
  ·rw [xM (j:=0) (by omega) h0]
   simp only [h0,zaQ,zaB,zaD]
   rw [tJ (by omega),wU8]
   rfl
  rw [aJC (by omega)]
  simp only [gT h0,zaD]
theorem aW6 (x : Bool) (n : Nat) (f : Nat → XV) (a v : Int) (hn : n ≤ 1099511627776) : aQ TB3 5 (bT TB3 5 20) 97 [.row x 1 n (aCR f),.agg 3 [.int .i64 a,.int .i64 2,.int .u32 v]] (fun u => con u = con (.row false 1 n (qJ (okW n a 2) f a.toNat 2 v))):=by
 rw [a09]
 have hb : n * 1 ≤ 140737488355328:=by omega
 simp only [hb,zaC,zaE,zaB,zaD,aD,zaF,zaO,zaQ,aV,bJ,zaI,zaH,zaN,zaM,zaT,zaR,zaS,ge_iff_le,Int.le_refl,if_true,if_false,reduceCtorEq,eq_self,BEq.rfl]
 cases hok : okW n a 2 with
 | false =>
  rw [aJB (by omega) hok]
  simp only [zaB]
  exact pB fun i hi => by rw [vG]
 | true =>
  obtain ⟨hs,ha,ha2,hch⟩:=zO.1 hok
  obtain ⟨hin,_⟩:=aEV hs ha ha2 hn hch
  have h1 : ¬ a < 0:=by omega
  have h2 : ¬ a > 4294967295:=by omega
  have h3 : IntKind.u32.wrap a = a:=wrap_u32 ha ha2
  have hc : (bif bif decide (a < 0) then true else decide (a > 4294967295) then true else decide (¬ jW 2 (IntKind.u32.wrap a) n = 0)) = false:=by rw [h3];simp [h1,h2,hch]
  have e0 : (IntKind.i64.wrap (a + 0)).toNat = a.toNat + 0:=by rw [wrap_i64 (by omega) (by omega)];omega
  have z0 : (0 : Int) ≤ IntKind.i64.wrap (a + 0):=by rw [wrap_i64 (by omega) (by omega)];omega
  have y0 : IntKind.i64.wrap (a + 0) < n:=by rw [wrap_i64 (by omega) (by omega)];omega
  have x0 : a.toNat + 0 < n:=by omega
  have e1 : (IntKind.i64.wrap (a + 1)).toNat = a.toNat + 1:=by rw [wrap_i64 (by omega) (by omega)];omega
  have z1 : (0 : Int) ≤ IntKind.i64.wrap (a + 1):=by rw [wrap_i64 (by omega) (by omega)];omega
  have y1 : IntKind.i64.wrap (a + 1) < n:=by rw [wrap_i64 (by omega) (by omega)];omega
  have x1 : a.toNat + 1 < n:=by omega
  simp only [hc,e0,z0,y0,x0,e1,z1,y1,x1,zaC,zaE,zaB,zaD,aD,zaF,zaO,zaQ,aV,bJ,zaI,zaH,zaN,zaM,zaT,zaR,zaS,ge_iff_le,Int.le_refl,if_true,if_false,reduceCtorEq,eq_self,BEq.rfl]
  refine pB fun i hi => ?_
  by_cases h0 : i = a.toNat + 0
  ·rw [xM (j:=0) (by omega) h0]
   simp only [h0,zaQ,gT (show ¬ a.toNat + 0 = a.toNat + 1 by omega),zaB,zaD]
   rw [tJ (by omega),wU8]
   rfl
  by_cases h1 : i = a.toNat + 1
  ·rw [xM (j:=1) (by omega) h1]
   simp only [h1,zaQ,zaB,zaD]
   rw [tJ (by omega),wU8]
   rfl
  rw [aJC (by omega)]
  simp only [gT h0,gT h1,zaD]
theorem aW7 (x : Bool) (n : Nat) (f : Nat → XV) (a v : Int) (hn : n ≤ 1099511627776) : aQ TB3 5 (bT TB3 5 20) 97 [.row x 1 n (aCR f),.agg 3 [.int .i64 a,.int .i64 4,.int .u32 v]] (fun u => con u = con (.row false 1 n (qJ (okW n a 4) f a.toNat 4 v))):=by
 rw [a1A]
 have hb : n * 1 ≤ 140737488355328:=by omega
 simp only [hb,zaC,zaE,zaB,zaD,aD,zaF,zaO,zaQ,aV,bJ,zaI,zaH,zaN,zaM,zaT,zaR,zaS,ge_iff_le,Int.le_refl,if_true,if_false,reduceCtorEq,eq_self,BEq.rfl]
 cases hok : okW n a 4 with
 | false =>
  rw [aJB (by omega) hok]
  simp only [zaB]
  exact pB fun i hi => by rw [vG]
 | true =>
  obtain ⟨hs,ha,ha2,hch⟩:=zO.1 hok
  obtain ⟨hin,_⟩:=aEV hs ha ha2 hn hch
  have h1 : ¬ a < 0:=by omega
  have h2 : ¬ a > 4294967295:=by omega
  have h3 : IntKind.u32.wrap a = a:=wrap_u32 ha ha2
  have hc : (bif bif decide (a < 0) then true else decide (a > 4294967295) then true else decide (¬ jW 4 (IntKind.u32.wrap a) n = 0)) = false:=by rw [h3];simp [h1,h2,hch]
  have e0 : (IntKind.i64.wrap (a + 0)).toNat = a.toNat + 0:=by rw [wrap_i64 (by omega) (by omega)];omega
  have z0 : (0 : Int) ≤ IntKind.i64.wrap (a + 0):=by rw [wrap_i64 (by omega) (by omega)];omega
  have y0 : IntKind.i64.wrap (a + 0) < n:=by rw [wrap_i64 (by omega) (by omega)];omega
  have x0 : a.toNat + 0 < n:=by omega
  have e1 : (IntKind.i64.wrap (a + 1)).toNat = a.toNat + 1:=by rw [wrap_i64 (by omega) (by omega)];omega
  have z1 : (0 : Int) ≤ IntKind.i64.wrap (a + 1):=by rw [wrap_i64 (by omega) (by omega)];omega
  have y1 : IntKind.i64.wrap (a + 1) < n:=by rw [wrap_i64 (by omega) (by omega)];omega
  have x1 : a.toNat + 1 < n:=by omega
  have e2 : (IntKind.i64.wrap (a + 2)).toNat = a.toNat + 2:=by rw [wrap_i64 (by omega) (by omega)];omega
  have z2 : (0 : Int) ≤ IntKind.i64.wrap (a + 2):=by rw [wrap_i64 (by omega) (by omega)];omega
  have y2 : IntKind.i64.wrap (a + 2) < n:=by rw [wrap_i64 (by omega) (by omega)];omega
  have x2 : a.toNat + 2 < n:=by omega
  have e3 : (IntKind.i64.wrap (a + 3)).toNat = a.toNat + 3:=by rw [wrap_i64 (by omega) (by omega)];omega
  have z3 : (0 : Int) ≤ IntKind.i64.wrap (a + 3):=by rw [wrap_i64 (by omega) (by omega)];omega
  have y3 : IntKind.i64.wrap (a + 3) < n:=by rw [wrap_i64 (by omega) (by omega)];omega
  have x3 : a.toNat + 3 < n:=by omega
  simp only [hc,e0,z0,y0,x0,e1,z1,y1,x1,e2,z2,y2,x2,e3,z3,y3,x3,zaC,zaE,zaB,zaD,aD,zaF,zaO,zaQ,aV,bJ,zaI,zaH,zaN,zaM,zaT,zaR,zaS,ge_iff_le,Int.le_refl,if_true,if_false,reduceCtorEq,eq_self,BEq.rfl]
  refine pB fun i hi => ?_
  by_cases h0 : i = a.toNat + 0
  ·rw [xM (j:=0) (by omega) h0]
   simp only [h0,zaQ,gT (show ¬ a.toNat + 0 = a.toNat + 1 by omega),gT (show ¬ a.toNat + 0 = a.toNat + 2 by omega),gT (show ¬ a.toNat + 0 = a.toNat + 3 by omega),zaB,zaD]
   rw [tJ (by omega),wU8]
   rfl
  by_cases h1 : i = a.toNat + 1
  ·rw [xM (j:=1) (by omega) h1]
   simp only [h1,zaQ,gT (show ¬ a.toNat + 1 = a.toNat + 2 by omega),gT (show ¬ a.toNat + 1 = a.toNat + 3 by omega),zaB,zaD]
   rw [tJ (by omega),wU8]
   rfl
  by_cases h2 : i = a.toNat + 2
  ·rw [xM (j:=2) (by omega) h2]
   simp only [h2,zaQ,gT (show ¬ a.toNat + 2 = a.toNat + 3 by omega),zaB,zaD]
   rw [tJ (by omega),wU8]
   rfl
  by_cases h3 : i = a.toNat + 3
  ·rw [xM (j:=3) (by omega) h3]
   simp only [h3,zaQ,zaB,zaD]
   rw [tJ (by omega),wU8]
   rfl
  rw [aJC (by omega)]
  simp only [gT h0,gT h1,gT h2,gT h3,zaD]
theorem a1B : oV Try.prog (97,a4A):=aHH fun x n f rest nd v hn hg hnd => by
 unfold a93 at hg
 split at hg <;> simp only [zaA,zaJ,reduceCtorEq] at hg
 obtain ⟨rfl,rfl⟩:=hg
 rename_i a s w
 clear hnd
 refine fL (u:=5) (k:=20) mix a94 ?_
 by_cases h1 : s = 1
 ·subst h1;exact aW5 x n f a w hn
 by_cases h2 : s = 2
 ·subst h2;exact aW6 x n f a w hn
 by_cases h4 : s = 4
 ·subst h4;exact aW7 x n f a w hn
 have hok : okW n a s = false:=by
  rw [← Bool.not_eq_true]
  intro h
  have:=(zO.1 h).1
  omega
 rw [hok]
 refine Eq.mpr (a07 x n f a s w _) ?_
 have hb : n * 1 ≤ 140737488355328:=by omega
 simp only [hb,h1,h2,h4,zaC,zaE,zaB,zaD,aD,zaF,zaO,zaQ,aV,bJ,zaI,zaH,zaN,zaM,zaT,zaR,zaS,ge_iff_le,Int.le_refl,if_true,if_false,reduceCtorEq,eq_self,BEq.rfl]
 exact pB fun i hi => by rw [vG]
def TB4 : Tab:=mkT qq (gG ++ jV) [] []
def xN (a : Int) : Bool:=decide (-9223372036854775808 ≤ a) && decide (a ≤ 9223372036854775807)
def aGB (a n b m : Int) : Bool:=decide (n ≥ 1 ∧ m ≥ 1 ∧ ((a ≤ b ∧ b - a < n) ∨ (b ≤ a ∧ a - b < m)))
def aQX : List XV → Option (List Bool × XV)
 | [.int .i64 a,.int .i64 n,.int .i64 b,.int .i64 m] => some ([xN a,xN n,xN b,xN m],.bool (aGB a n b m))
 | _ => none
theorem a95 : bX Try.prog TB4:=pT (eC.app iE) trivial trivial
theorem aL7 {a : Int} : xN a = true ↔ -9223372036854775808 ≤ a ∧ a ≤ 9223372036854775807:=by simp [xN]
theorem a62 (a n b m : Int) (K : XV → Prop) : (aQ TB4 80 (bT TB4 80 20) 96 [.int .i64 a,.int .i64 n,.int .i64 b,.int .i64 m] K) = (
 letI q1 : Bool:=decide (n < 1);
 letI q2 : Bool:=decide (b < IntKind.wrap .i64 (a + n));
 letI q3 : Bool:=decide (a < IntKind.wrap .i64 (b + m));bif bif q1 then true else !q1 then bif bif q1 then true else decide (m < 1) then K (.bool false) else bif decide (a ≤ b) then
  bif bif q2 then true else !q2 then K (.bool (bif q2 then true else decide (IntKind.wrap .i64 (a + n) < a))) else False else bif bif q3 then true else !q3 then K (.bool (bif q3 then
  true else decide (IntKind.wrap .i64 (b + m) < b))) else False else False):=by kernel_rfl
theorem aQY : oV Try.prog (96,aQX):=by
 intro args nd v ha hn
 simp only [aQX] at ha
 split at ha <;> simp only [zaA,zaJ,reduceCtorEq] at ha
 obtain ⟨rfl,rfl⟩:=ha
 rename_i a n b m
 simp only [bD,aL7] at hn
 obtain ⟨h1,h2,h3,h4,h5⟩:=hn
 refine fL (u:=80) (k:=20) mix a95 ?_
 rw [a62]
 simp only [bJ,zaB]
 refine jQ (fun h => aLT ?_) (fun h => jQ (fun g => aLT ?_) (fun g => aLT ?_))
 all_goals
  rw [Bool.eq_iff_iff]
  simp only [Bool.cond_true_left,Bool.cond_false_right,Bool.cond_true_right,Bool.cond_false_left,Bool.or_eq_false_iff,zaV,zaG,zaW,zaP,zaK,Bool.not_eq_true',Bool.not_eq_false',Bool.not_not,Int.not_lt,Int.not_le,gt_iff_lt,ge_iff_le,aGB,a0A,zaU,false_iff] at *
  first
   | omega
   |(constructor <;> intro hh <;> first | omega | (rcases hh with hh | hh <;> omega) | (obtain ⟨hh1,hh2,hh3 | hh3⟩:=hh <;> omega))
end Go.Proofs.Ytooojfbfobmkfaa
namespace Go.Proofs.Ytooojfbfobmkfaa
open Go.Ra
@[irreducible] noncomputable def nW : AC:=cdO (trF Try.prog qq 7)
theorem vT : trF Try.prog qq 7 = some (52,[(.tmp 2)],nW):=by kernel_rfl
@[irreducible] noncomputable def wA : AC:=cdO (trF Try.prog qq 8)
theorem aGC : trF Try.prog qq 8 = some (10,[(.cell 2 .true 92)],wA):=by kernel_rfl
@[irreducible] noncomputable def tT : AC:=cdO (trF Try.prog qq 18)
theorem aEW : trF Try.prog qq 18 = some (12,[(.tmp 4)],tT):=by kernel_rfl
@[irreducible] noncomputable def fZ : AC:=cdO (trF Try.prog qq 22)
@[irreducible] noncomputable def gI : AC:=cdA [1,1,1,0,1,0,0] fZ
@[irreducible] noncomputable def eU : AC:=cdA [1,1,1,1] fZ
@[irreducible] noncomputable def gJ : AC:=cdA [1,0,1,0,0] eU
@[irreducible] noncomputable def iS : AC:=cdA [1,1] eU
theorem oN : trF Try.prog qq 22 = some (250,[(.tmp 6)],fZ):=by kernel_rfl
@[irreducible] noncomputable def zP : AC:=cdO (trF Try.prog qq 24)
theorem aJD : trF Try.prog qq 24 = some (40,[(.cell 2 .true 92)],zP):=by kernel_rfl
@[irreducible] noncomputable def iP : AC:=cdO (trF Try.prog qq 28)
@[irreducible] noncomputable def iK : AC:=cdA [1,1,1,1,1,0,1,0,0] iP
@[irreducible] noncomputable def gB : AC:=cdA [1,1,1,1,1,1] iP
@[irreducible] noncomputable def cO : AC:=cdA [0,1,0,0] gB
@[irreducible] noncomputable def dZ : AC:=cdA [1] gB
@[irreducible] noncomputable def iL : AC:=cdA [1,0,0,1,1,0,1,0,0] cO
@[irreducible] noncomputable def kQ : AC:=cdA [1,0,0,1,1,1] cO
@[irreducible] noncomputable def kR : AC:=cdA [1,1] cO
theorem r7 : trF Try.prog qq 28 = some (135,[(.cell 6 .true 92)],iP):=by kernel_rfl
@[irreducible] noncomputable def fF : AC:=cdO (trF Try.prog qq 36)
@[irreducible] noncomputable def dP : AC:=cdA [1,1,0,1,0,0] fF
@[irreducible] noncomputable def gR : AC:=cdA [1,1,1] fF
theorem lU : trF Try.prog qq 36 = some (76,[(.tmp 6)],fF):=by kernel_rfl
@[irreducible] noncomputable def aCF : AC:=cdO (trF Try.prog qq 37)
theorem aL8 : trF Try.prog qq 37 = some (9,[(.tmp 2)],aCF):=by kernel_rfl
@[irreducible] noncomputable def zQ : AC:=cdO (trF Try.prog qq 38)
theorem aJE : trF Try.prog qq 38 = some (39,[(.tmp 6)],zQ):=by kernel_rfl
@[irreducible] noncomputable def nC : AC:=cdO (trF Try.prog qq 39)
theorem tU : trF Try.prog qq 39 = some (60,[(.tmp 4)],nC):=by kernel_rfl
@[irreducible] noncomputable def zR : AC:=cdO (trF Try.prog qq 40)
theorem aJF : trF Try.prog qq 40 = some (57,[(.cell 6 .true 9),(.tmp 7),(.tmp 8)],zR):=by kernel_rfl
def wB : AC:=aVO 3 16
theorem wC : trF Try.prog qq 42 = some (5,[(.tmp 2)],wB):=by kernel_rfl
@[irreducible] noncomputable def jG : AC:=cdO (trF Try.prog qq 43)
@[irreducible] noncomputable def lV : AC:=cdA [1,0,1,0,0] jG
@[irreducible] noncomputable def pI : AC:=cdA [1,1] jG
theorem tV : trF Try.prog qq 43 = some (66,[(.cell 6 .true 3),(.tmp 7)],jG):=by kernel_rfl
@[irreducible] noncomputable def pJ : AC:=cdO (trF Try.prog qq 57)
theorem zS : trF Try.prog qq 57 = some (19,[(.tmp 6),(.tmp 7)],pJ):=by kernel_rfl
@[irreducible] noncomputable def r8 : AC:=cdO (trF Try.prog qq 60)
theorem aCS : trF Try.prog qq 60 = some (24,[(.tmp 2),(.tmp 3),(.tmp 4)],r8):=by kernel_rfl
@[irreducible] noncomputable def zT : AC:=cdO (trF Try.prog qq 63)
theorem aJG : trF Try.prog qq 63 = some (91,[(.cell 4 .true 92)],zT):=by kernel_rfl
@[irreducible] noncomputable def zU : AC:=cdO (trF Try.prog qq 64)
theorem aJH : trF Try.prog qq 64 = some (15,[(.tmp 4)],zU):=by kernel_rfl
@[irreducible] noncomputable def zV : AC:=cdO (trF Try.prog qq 65)
theorem aJI : trF Try.prog qq 65 = some (15,[(.tmp 6)],zV):=by kernel_rfl
@[irreducible] noncomputable def aCG : AC:=cdO (trF Try.prog qq 66)
theorem aL9 : trF Try.prog qq 66 = some (16,[(.tmp 6)],aCG):=by kernel_rfl
@[irreducible] noncomputable def wD : AC:=cdO (trF Try.prog qq 85)
theorem aGD : trF Try.prog qq 85 = some (29,[(.tmp 6)],wD):=by kernel_rfl
@[irreducible] noncomputable def zW : AC:=cdO (trF Try.prog qq 86)
theorem aJJ : trF Try.prog qq 86 = some (27,[(.tmp 4)],zW):=by kernel_rfl
@[irreducible] noncomputable def jH : AC:=cdO (trF Try.prog qq 91)
@[irreducible] noncomputable def lW : AC:=cdA [1,0,1,0,0] jH
@[irreducible] noncomputable def pK : AC:=cdA [1,1] jH
theorem tW : trF Try.prog qq 91 = some (34,[(.cell 6 .true 5),(.tmp 7)],jH):=by kernel_rfl
@[irreducible] noncomputable def tX : AC:=cdO (trF Try.prog qq 92)
theorem aEX : trF Try.prog qq 92 = some (33,[(.tmp 6),(.tmp 7)],tX):=by kernel_rfl
@[irreducible] noncomputable def r9 : AC:=cdO (trF Try.prog qq 93)
theorem aCT : trF Try.prog qq 93 = some (20,[(.tmp 6),(.tmp 7)],r9):=by kernel_rfl
@[irreducible] noncomputable def lX : AC:=cdO (trF Try.prog qq 94)
@[irreducible] noncomputable def nO : AC:=cdA [1,1,0,1,0,0] lX
@[irreducible] noncomputable def sB : AC:=cdA [1,1,1] lX
theorem zY : trF Try.prog qq 94 = some (43,[(.tmp 6),(.tmp 7)],lX):=by kernel_rfl
@[irreducible] noncomputable def aEY : AC:=cdO (trF Try.prog qq 95)
theorem aOW : trF Try.prog qq 95 = some (64,[(.cell 6 .true 3)],aEY):=by kernel_rfl
@[irreducible] noncomputable def aCH : AC:=cdO (trF Try.prog qq 99)
theorem aMA : trF Try.prog qq 99 = some (20,[(.tmp 4)],aCH):=by kernel_rfl
def dX : mZ:=[(7,52,[(.tmp 2)],nW),(8,10,[(.cell 2 .true 92)],wA),(18,12,[(.tmp 4)],tT),(22,250,[(.tmp 6)],fZ),(24,40,[(.cell 2 .true 92)],zP),(28,135,[(.cell 6 .true 92)],iP),(36,76,[(.tmp 6)],fF),(37,9,[(.tmp 2)],aCF),(38,39,[(.tmp 6)],zQ),(39,60,[(.tmp 4)],nC),(40,57,[(.cell 6 .true 9),(.tmp 7),(.tmp 8)],zR),(42,5,[(.tmp 2)],wB),(43,66,[(.cell 6 .true 3),(.tmp 7)],jG),(57,19,[(.tmp 6),(.tmp 7)],pJ),(60,24,[(.tmp 2),(.tmp 3),(.tmp 4)],r8),(63,91,[(.cell 4 .true 92)],zT),(64,15,[(.tmp 4)],zU),(65,15,[(.tmp 6)],zV),(66,16,[(.tmp 6)],aCG),(85,29,[(.tmp 6)],wD),(86,27,[(.tmp 4)],zW),(91,34,[(.cell 6 .true 5),(.tmp 7)],jH),(92,33,[(.tmp 6),(.tmp 7)],tX),(93,20,[(.tmp 6),(.tmp 7)],r9),(94,43,[(.tmp 6),(.tmp 7)],lX),(95,64,[(.cell 6 .true 3)],aEY),(99,20,[(.tmp 4)],aCH)]
theorem cZ : lL (fun p => trF Try.prog qq p.1 = some p.2) dX:=⟨vT,aGC,aEW,oN,aJD,r7,lU,aL8,aJE,tU,aJF,wC,tV,zS,aCS,aJG,aJH,aJI,aL9,aGD,aJJ,tW,aEX,aCT,zY,aOW,aMA,trivial⟩
def iA : SgL:=[(42,aVP 3 16)]
theorem fI : lL (aZ6 Try.prog qq) iA:=⟨aVQ fun x es0 ts h1 h2 h3 => aOE mix wC (by decide) x es0 ts h1 h2 h3,trivial⟩
@[irreducible] noncomputable def lY : AC:=cdO (trF Try.prog qq 10)
@[irreducible] noncomputable def nP : AC:=cdA [1,1,1,0,1,0,0] lY
@[irreducible] noncomputable def sC : AC:=cdA [1,1,1,1] lY
theorem zZ : trF Try.prog qq 10 = some (56,[(.tmp 6)],lY):=by kernel_rfl
@[irreducible] noncomputable def aAA : AC:=cdO (trF Try.prog qq 11)
theorem aJK : trF Try.prog qq 11 = some (33,[(.cell 8 .true 92)],aAA):=by kernel_rfl
@[irreducible] noncomputable def wE : AC:=cdO (trF Try.prog qq 23)
theorem aGE : trF Try.prog qq 23 = some (28,[(.tmp 8)],wE):=by kernel_rfl
@[irreducible] noncomputable def tY : AC:=cdO (trF Try.prog qq 25)
theorem aEZ : trF Try.prog qq 25 = some (269,[(.cell 6 .true 92)],tY):=by kernel_rfl
@[irreducible] noncomputable def tZ : AC:=cdO (trF Try.prog qq 26)
theorem aE0 : trF Try.prog qq 26 = some (258,[(.cell 6 .true 92)],tZ):=by kernel_rfl
@[irreducible] noncomputable def aAB : AC:=cdO (trF Try.prog qq 27)
theorem aJL : trF Try.prog qq 27 = some (64,[(.cell 4 .true 92)],aAB):=by kernel_rfl
@[irreducible] noncomputable def sD : AC:=cdO (trF Try.prog qq 41)
theorem aCU : trF Try.prog qq 41 = some (16,[(.tmp 4)],sD):=by kernel_rfl
@[irreducible] noncomputable def aAC : AC:=cdO (trF Try.prog qq 44)
theorem aJM : trF Try.prog qq 44 = some (28,[(.cell 8 .true 92)],aAC):=by kernel_rfl
@[irreducible] noncomputable def aCI : AC:=cdO (trF Try.prog qq 45)
theorem aMB : trF Try.prog qq 45 = some (20,[(.tmp 4)],aCI):=by kernel_rfl
@[irreducible] noncomputable def wG : AC:=cdO (trF Try.prog qq 46)
theorem aGF : trF Try.prog qq 46 = some (49,[(.tmp 6)],wG):=by kernel_rfl
@[irreducible] noncomputable def lZ : AC:=cdO (trF Try.prog qq 47)
@[irreducible] noncomputable def nQ : AC:=cdA [1,1,0,1,0,0] lZ
@[irreducible] noncomputable def sF : AC:=cdA [1,1,1] lZ
theorem aAD : trF Try.prog qq 47 = some (36,[(.tmp 6)],lZ):=by kernel_rfl
@[irreducible] noncomputable def wH : AC:=cdO (trF Try.prog qq 49)
theorem aGG : trF Try.prog qq 49 = some (15,[(.tmp 4)],wH):=by kernel_rfl
@[irreducible] noncomputable def aCJ : AC:=cdO (trF Try.prog qq 50)
theorem aMC : trF Try.prog qq 50 = some (26,[],aCJ):=by kernel_rfl
@[irreducible] noncomputable def aE1 : AC:=cdO (trF Try.prog qq 52)
theorem aOX : trF Try.prog qq 52 = some (18,[],aE1):=by kernel_rfl
@[irreducible] noncomputable def aAE : AC:=cdO (trF Try.prog qq 53)
theorem aJN : trF Try.prog qq 53 = some (151,[(.cell 8 .true 92)],aAE):=by kernel_rfl
@[irreducible] noncomputable def sG : AC:=cdO (trF Try.prog qq 55)
theorem aCV : trF Try.prog qq 55 = some (14,[(.tmp 4)],sG):=by kernel_rfl
@[irreducible] noncomputable def aAF : AC:=cdO (trF Try.prog qq 59)
theorem aJO : trF Try.prog qq 59 = some (31,[],aAF):=by kernel_rfl
@[irreducible] noncomputable def nD : AC:=cdO (trF Try.prog qq 61)
@[irreducible] noncomputable def l6 : AC:=cdA [1,1,1,0,1,0,0] nD
@[irreducible] noncomputable def oO : AC:=cdA [1,1,1,1] nD
theorem aCK : trF Try.prog qq 61 = some (80,[(.tmp 4)],nD):=by kernel_rfl
@[irreducible] noncomputable def kC : AC:=cdO (trF Try.prog qq 87)
@[irreducible] noncomputable def aE : AC:=cdA [1,1,1,1,0,1,0,0] kC
@[irreducible] noncomputable def mO : AC:=cdA [1,1,1,1,1] kC
theorem wI : trF Try.prog qq 87 = some (70,[(.tmp 2)],kC):=by kernel_rfl
def iB : mZ:=[(10,56,[(.tmp 6)],lY),(11,33,[(.cell 8 .true 92)],aAA),(23,28,[(.tmp 8)],wE),(25,269,[(.cell 6 .true 92)],tY),(26,258,[(.cell 6 .true 92)],tZ),(27,64,[(.cell 4 .true 92)],aAB),(41,16,[(.tmp 4)],sD),(44,28,[(.cell 8 .true 92)],aAC),(45,20,[(.tmp 4)],aCI),(46,49,[(.tmp 6)],wG),(47,36,[(.tmp 6)],lZ),(49,15,[(.tmp 4)],wH),(50,26,[],aCJ),(52,18,[],aE1),(53,151,[(.cell 8 .true 92)],aAE),(55,14,[(.tmp 4)],sG),(59,31,[],aAF),(61,80,[(.tmp 4)],nD),(87,70,[(.tmp 2)],kC)]
theorem fJ : lL (fun p => trF Try.prog qq p.1 = some p.2) iB:=⟨zZ,aJK,aGE,aEZ,aE0,aJL,aCU,aJM,aMB,aGF,aAD,aGG,aMC,aOX,aJN,aCV,aJO,aCK,wI,trivial⟩
end Go.Proofs.Ytooojfbfobmkfaa
namespace Go.Proofs.Ytooojfbfobmkfaa
open Go.Ra
set_option linter.unusedVariables false
set_option linter.unusedSimpArgs false
theorem pk3 (p z : Bool) : (bif (bif p then (bif !z then p else false) else true) then true else !!z) = true:=by cases p <;> cases z <;> rfl
theorem pk4 (z : Bool) : (bif (bif !z then true else false) then true else !!z) = true:=by cases z <;> rfl
end Go.Proofs.Ytooojfbfobmkfaa
