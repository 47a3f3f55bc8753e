/- Code gone through up to its loops. -/
import Derived.Test.YtfobbfdbojednaaRaZc
namespace Go.Ra
set_option linter.unusedVariables false
set_option linter.unusedSimpArgs false

/-- What is read by a name. -/
def readX : AX → List Nat
  | .t i => [i]
  | .c _ => []
def memN (i : Nat) : List Nat → Bool
  | [] => false
  | k :: l => bif Nat.beq i k then true else memN i l
def diffN (l r : List Nat) : List Nat := l.filter fun i => !memN i r
def readsX : List AX → List Nat
  | [] => []
  | x :: l => readX x ++ readsX l
def dstL : Option Nat → List Nat
  | some d => [d]
  | none => []
def usesO : List AG → List Nat → List Nat
  | [], _ => []
  | ⟨d, o, g⟩ :: r, df => diffN ((match g with | some (t, _) => [t] | none => []) ++ readsX (opnds o)) df ++ usesO r (dstL d ++ df)
def mustO : List AG → List Nat
  | [] => []
  | ⟨d, _, _⟩ :: r => dstL d ++ mustO r
/-- The names that code sets, whatever comes. -/
def mustD : AC → List Nat
  | .ops l => mustO l
  | .seq a b => mustD a ++ mustD b
  | _ => []
/-- The names that code may read before it sets them. -/
def usesC : AC → List Nat
  | .ops l => usesO l []
  | .seq a b => usesC a ++ diffN (usesC b) (mustD a)
  | .cond c x y => readX c ++ (usesC x ++ usesC y)
  | .block _ c => usesC c
  | .loop c => usesC c
  | _ => []
def delN (k : Nat) (l : List Nat) : List Nat := l.filter fun i => !Nat.beq i k
/-- The names of a list alone. -/
def pruneE : List Nat → List (Nat × XV) → List (Nat × XV)
  | _, [] => []
  | l, (k, v) :: r => bif memN k l then (k, v) :: pruneE (delN k l) r else pruneE l r

theorem memN_del {i k : Nat} : ∀ {l : List Nat}, memN i (delN k l) = true → memN i l = true
  | [], h => h
  | a :: l, h => by
    simp only [delN, List.filter_cons] at h
    simp only [memN]
    cases hb : Nat.beq i a
    · rw [cond_false]
      split at h
      · simp only [memN, hb, cond_false] at h
        exact memN_del (k := k) h
      · exact memN_del (k := k) h
    · rfl
theorem getX_prune_none {i : Nat} : ∀ (l : List Nat) (env : List (Nat × XV)), memN i l = false → getX (pruneE l env) i = .unk
  | l, [], h => rfl
  | l, (k, v) :: r, h => by
    simp only [pruneE]
    cases hk : memN k l
    · exact getX_prune_none l r h
    · simp only [cond_true, getX, beq_if]
      have : ¬ i = k := fun e => by rw [e, hk] at h; cases h
      rw [if_neg this]
      refine getX_prune_none _ r ?_
      cases hd : memN i (delN k l)
      · rfl
      · rw [memN_del hd] at h; cases h
theorem getX_prune {i : Nat} : ∀ (l : List Nat) (env : List (Nat × XV)), getX (pruneE l env) i = .unk ∨ getX (pruneE l env) i = getX env i
  | l, [] => .inl rfl
  | l, (k, v) :: r => by
    simp only [pruneE]
    cases hk : memN k l
    · rw [cond_false]
      by_cases hi : i = k
      · subst hi
        exact .inl (getX_prune_none l r hk)
      · simp only [getX, beq_if, if_neg hi]
        exact getX_prune l r
    · simp only [cond_true, getX, beq_if]
      by_cases hi : i = k
      · rw [if_pos hi, if_pos hi]; exact .inr rfl
      · rw [if_neg hi, if_neg hi]
        exact getX_prune _ r
def XSt.prune (l : List Nat) (σ : XSt) : XSt := ⟨pruneE l σ.env, σ.hl, σ.n⟩
theorem prune_weak (l : List Nat) (σ : XSt) : Weak σ.st (σ.prune l).st := by
  refine ⟨fun i => ?_, fun _ => .inr rfl, Nat.le_refl _⟩
  show leA (get (conE σ.env) i) (get (conE (pruneE l σ.env)) i)
  rw [get_conE, get_conE]
  rcases getX_prune l σ.env (i := i) with h | h
  · rw [h]; exact .inl rfl
  · rw [h]; exact .inr (.inl rfl)
theorem leA_trans {a b c : AV} (h1 : leA a b) (h2 : leA b c) : leA a c := by
  rcases h2 with rfl | rfl | ⟨x, es, es', ts, rfl, rfl, h⟩
  · exact .inl rfl
  · exact h1
  · rcases h1 with h1 | h1 | ⟨x', e1, e2, us, rfl, h3, h4⟩
    · cases h1
    · subst h1; exact .inr (.inr ⟨x, es, es', ts, rfl, rfl, h⟩)
    · simp only [AV.fro.injEq] at h3
      obtain ⟨_, rfl, rfl⟩ := h3
      refine .inr (.inr ⟨x', e1, es', ts, rfl, rfl, ?_⟩)
      rcases h with rfl | h
      · exact h4
      · exact .inr h
theorem Weak.trans {σ τ υ : St} (h1 : Weak σ τ) (h2 : Weak τ υ) : Weak σ υ :=
  ⟨fun i => leA_trans (h1.1 i) (h2.1 i), fun i => by
    rcases h2.2.1 i with h | h
    · exact .inl h
    · rw [h]; exact h1.2.1 i, Nat.le_trans h1.2.2 h2.2.2⟩

inductive Frm where
  | seq (b : AC)
  | blk (id : Nat)
  | lp (c : AC) (A : XSt → Prop)

def usesF : List Frm → List Nat
  | [] => []
  | .seq b :: s => usesC b ++ usesF s
  | .blk _ :: s => usesF s
  | .lp c _ :: s => usesC c ++ usesF s

/-- What is asked behind code that stands in other code. -/
def unwind (C : Orc) : List Frm → (AE → St → Prop) → AE → St → Prop
  | [], Φ => Φ
  | .seq b :: s, Φ => AE.then (fun σ => wpC C b σ (unwind C s Φ)) (unwind C s Φ)
  | .blk id :: s, Φ => AE.inBlock id (unwind C s Φ)
  | .lp _ A :: s, Φ => AE.then (fun t => ∃ σ : XSt, Weak t σ.st ∧ A σ) (unwind C s Φ)

/-- A loop, and what stands behind it. -/
structure LoopAt (C : Orc) (c : AC) (σ : XSt) (s : List Frm) (Φ : AE → St → Prop) : Prop where
  out : wpC C (.loop c) σ.st (unwind C s Φ)

inductive Job where
  | run (c : AC)
  | back (e : AE)

section
variable (T : Tab) (C : Orc) (ci : Nat → List XV → XSt → (XV → XSt → Prop) → Prop) (kp : List Nat) (fin : AE → XSt → Prop) (Φ : AE → St → Prop)
/-- Code, with what stands behind it; loops are left. -/
def exS : Nat → Job → List Frm → XSt → Prop
  | 0, _, _, _ => False
  | n + 1, .run c, s, σ =>
    match c with
    | .skip => exS n (.back .normal) s σ
    | .ops l => exO T ci (grp l) σ fun σ' => exS n (.back .normal) s σ'
    | .seq a b => exS n (.run a) (.seq b :: s) σ
    | .cond c x y =>
      match strip (σ.ev c) with
      | .bool b => need (isThere (σ.ev c)) (cond b (exS n (.run x) s σ) (exS n (.run y) s σ))
      | _ => False
    | .block id c => exS n (.run c) (.blk id :: s) σ
    | .loop c => LoopAt C c (σ.prune (usesC c ++ (usesF s ++ kp))) s Φ
    | .exit id => exS n (.back (.exit id)) s σ
    | .ret => exS n (.back .ret) s σ
  | n + 1, .back e, s, σ =>
    match s with
    | [] => fin e σ
    | .seq b :: s =>
      match e with
      | .normal => exS n (.run b) s σ
      | e => exS n (.back e) s σ
    | .blk id :: s =>
      match e with
      | .exit i => cond (Nat.beq i id) (exS n (.back .normal) s σ) (exS n (.back (.exit i)) s σ)
      | e => exS n (.back e) s σ
    | .lp c A :: s =>
      match e with
      | .normal => A (σ.prune (usesC c ++ (usesF s ++ kp)))
      | e => exS n (.back e) s σ
end

section
variable {P : Program} {T : Tab} {ci : Nat → List XV → XSt → (XV → XSt → Prop) → Prop} {kp : List Nat} {fin : AE → XSt → Prop} {Φ : AE → St → Prop}
def jobWp (C : Orc) (j : Job) (σ : XSt) (Ψ : AE → St → Prop) : Prop :=
  match j with
  | .run c => wpC C c σ.st Ψ
  | .back e => Ψ e σ.st

theorem wpC_loop_weak {C : Orc} {c : AC} {σ τ : St} {Ψ : AE → St → Prop} (hw : Weak σ τ) (h : wpC C (.loop c) τ Ψ) : wpC C (.loop c) σ Ψ := by
  unfold wpC at h ⊢
  obtain ⟨Inv, μ, ⟨υ, h1, h2⟩, h3⟩ := h
  exact ⟨Inv, μ, ⟨υ, hw.trans h1, h2⟩, h3⟩

theorem exS_ok (hT : TabOk P T) (hci : CiOk P T.q ci) (hfin : ∀ e σ, fin e σ → Φ e σ.st) : ∀ (n : Nat) (j : Job) (s : List Frm) (σ : XSt), exS T (Ok P T.q) ci kp fin Φ n j s σ → jobWp (Ok P T.q) j σ (unwind (Ok P T.q) s Φ)
  | 0, _, _, _, h => h.elim
  | n + 1, .run c, s, σ, h => by
    have ih := exS_ok hT hci hfin n
    simp only [jobWp]
    cases c with
    | skip => exact ih (.back .normal) s σ h
    | ops l =>
      simp only [exS] at h
      obtain ⟨h1, h2⟩ := grp_ung l
      obtain ⟨σ', h3, h4⟩ := exO_ok hT hci (grp l) σ _ h h2
      rw [h1] at h4
      exact h4 _ (ih (.back .normal) s σ' h3)
    | seq a b => exact ih (.run a) (.seq b :: s) σ h
    | cond c x y =>
      simp only [exS] at h
      split at h
      · rename_i b hb
        rw [need_iff] at h
        have hc : σ.st.ev c = .sc (.bool b) := by rw [st_ev, strip_con h.1, hb]; rfl
        unfold wpC
        rw [hc]
        cases b with
        | true => exact ⟨fun _ => ih (.run x) s σ h.2, fun e => by cases e⟩
        | false => exact ⟨fun e => (by cases e), fun _ => ih (.run y) s σ h.2⟩
      · cases h
    | block id c => exact ih (.run c) (.blk id :: s) σ h
    | loop c => exact wpC_loop_weak (prune_weak _ σ) h.out
    | exit id => exact ih (.back (.exit id)) s σ h
    | ret => exact ih (.back .ret) s σ h
  | n + 1, .back e, s, σ, h => by
    have ih := exS_ok hT hci hfin n
    simp only [jobWp]
    cases s with
    | nil => exact hfin e σ h
    | cons f s =>
      cases f with
      | seq b =>
        cases e with
        | normal => exact ih (.run b) s σ h
        | exit i => exact ih (.back (.exit i)) s σ h
        | ret => exact ih (.back .ret) s σ h
      | blk id =>
        cases e with
        | normal => exact ih (.back .normal) s σ h
        | ret => exact ih (.back .ret) s σ h
        | exit i =>
          simp only [exS] at h
          simp only [unwind, AE.inBlock]
          cases hi : Nat.beq i id <;> rw [hi] at h
          · rw [if_neg (Nat.ne_of_beq_eq_false hi)]
            exact ih (.back (.exit i)) s σ h
          · rw [if_pos (Nat.eq_of_beq_eq_true hi)]
            exact ih (.back .normal) s σ h
      | lp c A =>
        cases e with
        | normal => exact ⟨_, prune_weak _ σ, h⟩
        | exit i => exact ih (.back (.exit i)) s σ h
        | ret => exact ih (.back .ret) s σ h

/-- What is asked at the end of a function that leaves memory alone and gives r. -/
def finP (rs : List AR) (r : AV) : AE → XSt → Prop := retX rs (frzK fun v => con v = r)
def finR (rs : List AR) (r : AV) : AE → St → Prop := retP rs fun v τ => frz τ 6 v = some r
def keepR : List AR → List Nat
  | [] => []
  | .tmp t :: r => t :: keepR r
  | .cell t _ _ :: r => t :: keepR r

theorem finP_ok {rs : List AR} {r : AV} (e : AE) (σ : XSt) (h : finP rs r e σ) : finR rs r e σ.st := by
  obtain ⟨v, h3, h4⟩ := retX_ok h
  refine h4 (fun v τ => frz τ 6 v = some r) ?_
  unfold frzK at h3
  split at h3
  · rename_i nd r' hz
    rw [need_iff] at h3
    rw [← h3.2]
    exact frzX_con (st_H σ) 6 v nd r' hz h3.1
  · cases h3

/-- Code of a function up to its loops. -/
abbrev goS (P : Program) (T : Tab) (rs : List AR) (r : AV) (j : Job) (s : List Frm) (σ : XSt) : Prop := exS T (Ok P T.q) (callI T 80 20) (keepR rs) (finP rs r) (finR rs r) 2000 j s σ

/-- A function that leaves memory alone, gone through up to its loops. -/
theorem pureS (hmix : P.follows .mixedOrders = true) (hT : TabOk P T) {f nt : Nat} {rs : List AR} {c : AC} (hF : trF P T.q f = some (nt, rs, c)) {args : List XV} {r : AV} (hl : args.length ≤ nt) (h : goS P T rs r (.run c) [] ⟨envX 0 args, [], 0⟩) : Pure P f (cons args) r := by
  have := exS_ok hT (callI_ok hmix hT 20) finP_ok 2000 _ _ _ h
  refine pure_of (k := 6) hmix Ok.ok Ok.quiet hF (by rw [cons_len]; exact hl) ?_
  simpa [jobWp, unwind, XSt.st, envX_con, conH, finR] using this

/-- A loop whose states are numbered: one round, from each of them, and what stands behind the loop. -/
theorem loopS (hmix : P.follows .mixedOrders = true) (hT : TabOk P T) {rs : List AR} {r : AV} {c : AC} {σ : XSt} {s : List Frm} {ι : Type} (S : ι → XSt) (V : ι → Prop) (m : ι → Nat) (i0 : ι) (hV : V i0) (h0 : Weak σ.st (S i0).st)
    (hr : ∀ i, V i → goS P T rs r (.run c) (.lp c (fun τ => ∃ j, V j ∧ Weak τ.st (S j).st ∧ m j < m i) :: s) (S i)) : LoopAt (Ok P T.q) c σ s (finR rs r) :=
  ⟨wpC_for (fun i => (S i).st) V m i0 hV h0 fun i hi => by
    have h := exS_ok hT (callI_ok hmix hT 20) finP_ok 2000 _ _ _ (hr i hi)
    refine wpC_mono _ _ (fun e t he => ?_) c _ h
    cases e with
    | normal =>
      obtain ⟨τ, hw, j, h1, h2, h3⟩ := he
      exact ⟨j, h1, hw.trans h2, h3⟩
    | exit _ => exact he
    | ret => exact he⟩

theorem cnd2 {b : Bool} {p q : Prop} (h1 : b = true → p) (h2 : b = false → q) : cond b p q := by
  cases b
  · exact h2 rfl
  · exact h1 rfl
theorem cndF {b : Bool} {p : Prop} (h1 : b = true) (h2 : p) : cond b p False := by subst h1; exact h2
theorem pk_and (b : Bool) : (bif b then b else true) = true := by cases b <;> rfl
theorem pk_or (b : Bool) : (bif b then true else !b) = true := by cases b <;> rfl
theorem allN_true (n : Nat) : allN (fun _ => true) n = true := allN_iff.2 fun _ _ => rfl

/-- The state says no more than is so. -/
def agreeX : List (Nat × XV) → List (Nat × XV) → Prop
  | [], _ => True
  | (k, v) :: r, e => con (getX e k) = con v ∧ agreeX r e
def agreeXH : List (Nat × Option XV) → List (Nat × Option XV) → Prop
  | [], _ => True
  | (k, v) :: r, e => (lookX e k).map con = v.map con ∧ agreeXH r e
theorem agreeX_ok : ∀ {l e : List (Nat × XV)}, agreeX l e → agrees (conE l) (conE e)
  | [], e, h => trivial
  | (k, v) :: r, e, h => ⟨by rw [get_conE]; exact .inr (.inl h.1.symm), agreeX_ok h.2⟩
theorem agreeXH_ok : ∀ {l e : List (Nat × Option XV)}, agreeXH l e → agreesH (conH l) (conH e) (fun _ => none)
  | [], e, h => trivial
  | (k, v) :: r, e, h => ⟨by rw [look_conH]; exact h.1, agreeXH_ok h.2⟩
/-- The same, where less may be said of rows. -/
def agreeN : List (Nat × XV) → List (Nat × XV) → Prop
  | [], _ => True
  | (k, v) :: r, e => leA (con (getX e k)) (con v) ∧ agreeN r e
theorem agreeN_ok : ∀ {l e : List (Nat × XV)}, agreeN l e → agrees (conE l) (conE e)
  | [], e, h => trivial
  | (k, v) :: r, e, h => ⟨by rw [get_conE]; exact h.1, agreeN_ok h.2⟩
theorem weakN {σ τ : XSt} (h1 : agreeN τ.env σ.env) (h2 : agreeXH τ.hl σ.hl) (h3 : σ.n ≤ τ.n) : Weak σ.st τ.st := weak_of (agreeN_ok h1) (agreeXH_ok h2) h3
theorem le_is {a b : AV} (h : a = b) : leA a b := .inr (.inl h.symm)
theorem le_row {x : Bool} {e es n m : Nat} {f g : Nat → XV} (hn : n = m) (he : es = e ∨ n = 0) (h : ∀ i, i < n → con (f i) = con (g i)) : leA (con (.row x e n f)) (con (.row false es m g)) := by
  subst hn
  refine .inr (.inr ⟨x, e, es, _, rfl, ?_, ?_⟩)
  · simp only [con]
    rw [tabL_congr h]
  · exact he.imp id fun h => tabL_nil.2 h
theorem weakX {σ τ : XSt} (h1 : agreeX τ.env σ.env) (h2 : agreeXH τ.hl σ.hl) (h3 : σ.n ≤ τ.n) : Weak σ.st τ.st := weak_of (agreeX_ok h1) (agreeXH_ok h2) h3
end
end Go.Ra
