/- Regions that draw their order. -/
import Derived.Test.YtfobbfdbojednaaRaK
namespace Go.Ra
set_option linter.unusedVariables false
set_option linter.unusedSimpArgs false

/-- Calls of the functions that q names leave the own memory as it is. -/
def Quiet (q : Nat → Bool) (C : Orc) : Prop := (∀ f args σ v τ, C f args σ v τ → q f = true → τ.hl = σ.hl ∧ τ.hb = σ.hb ∧ τ.n = σ.n) ∧
  (∀ f args σ v τ, C f args σ v τ → q (f + 1000000) = true → (∀ i, i < σ.n → τ.H i = σ.H i) ∧ σ.n ≤ τ.n) ∧
  ∀ f args σ v τ, C f args σ v τ → q f = true → ∀ (σ' : St) (G : Gh) (w : World) (U : Nat → Prop), Wf G w σ'.H U → (∀ a ∈ args, okConst a = true ∨ ∃ u, RelV w G.F G.ρ a u) → (∀ i, G.ρ i ≠ none → σ.H i = none ∨ σ'.H i = σ.H i) → C f args σ' v σ'

theorem Stp.heap {q : Nat → Bool} {C : Orc} (hq : Quiet q C) {σ τ : St} {g : AG} {v : AV} (he : g.o.eff q = false) (h : Stp C σ g v τ) : τ.hl = σ.hl ∧ τ.hb = σ.hb ∧ τ.n = σ.n := by
  cases h with
  | op hp hs => rw [stepE_same he hs]; exact ⟨rfl, rfl, rfl⟩
  | call hp hc =>
    simp only [AOp.eff, Bool.not_eq_false'] at he
    have := hq.1 _ _ _ _ _ hc he
    exact this
  | callv hp hx hc h => exact h
  | skip hp => exact ⟨rfl, rfl, rfl⟩

theorem Pass.env {σ τ : St} (h : τ.env = σ.env) {g : Option (Nat × Bool)} {y : Bool} (hp : Pass σ g y) : Pass τ g y := by
  unfold Pass at *
  rw [h]; exact hp

theorem Stp.pure {q : Nat → Bool} {C : Orc} {σ τ : St} {g : AG} {v : AV} (he : g.o.sens q = false) (h : Stp C σ g v τ) (hl : List (Nat × Option AV)) (hb : Nat → Option AV) (n : Nat) : Stp C ⟨σ.env, hl, hb, n⟩ g v ⟨σ.env, hl, hb, n⟩ := by
  cases h with
  | op hp hs => exact .op (Pass.env rfl hp) (stepE_pure he hs hl hb n)
  | call hp hc => simp [AOp.sens, AOp.eff] at he
  | callv hp hx hc _ => simp [AOp.sens, AOp.eff] at he
  | skip hp => exact .skip (Pass.env rfl hp)

/-- The walk in the order of the text, laid out. -/
structure Trail (C : Orc) (l : List AG) (σ : St) (S : Nat → St) (V : Nat → AV) (T : Nat → St) : Prop where
  zero : S 0 = σ
  step : ∀ k g, l[k]? = some g → Stp C (S k) g (V k) (T k) ∧ S (k + 1) = (T k).put g.d (V k)

theorem trail_of {C : Orc} {K : St → Prop} : ∀ {l : List AG} {σ : St}, wpOps C l σ K → ∃ S V T, Trail C l σ S V T ∧ K (S l.length)
  | [], σ, h => ⟨fun _ => σ, fun _ => .unk, fun _ => σ, ⟨rfl, fun k g hk => by simp at hk⟩, h⟩
  | ag :: l, σ, h => by
    obtain ⟨v, τ, h1, h2⟩ := wpOps_step h
    obtain ⟨S, V, T, ht, hK⟩ := trail_of h2
    refine ⟨fun k => match k with | 0 => σ | k + 1 => S k, fun k => match k with | 0 => v | k + 1 => V k, fun k => match k with | 0 => τ | k + 1 => T k, ⟨rfl, fun k g hk => ?_⟩, hK⟩
    cases k with
    | zero =>
      simp only [List.getElem?_cons_zero, Option.some.injEq] at hk
      subst hk
      exact ⟨h1, ht.zero⟩
    | succ k => exact ht.step k g (by simpa using hk)

section
variable {P : Program} {z : Bool} {q : Nat → Bool} {C : Orc} {nt : Nat} {ops : Array Oper} {l : List AG} {σ : St} {S : Nat → St} {V : Nat → AV} {T : Nat → St}

theorem at_op (hm : ops.toList.mapM (trOper z P nt ops) = some l) {k : Nat} {o : Oper} (hk : ops[k]? = some o) : ∃ g, l[k]? = some g ∧ trOper z P nt ops o = some g :=
  mapM_get hm k o (by simpa using hk)

theorem at_ag (hm : ops.toList.mapM (trOper z P nt ops) = some l) {k : Nat} {g : AG} (hk : l[k]? = some g) : ∃ o, ops[k]? = some o ∧ trOper z P nt ops o = some g := by
  have hlt := (List.getElem?_eq_some_iff.1 hk).1
  rw [mapM_len hm] at hlt
  have hlt' : k < ops.size := by simpa using hlt
  obtain ⟨g', h1, h2⟩ := at_op hm (Array.getElem?_eq_getElem hlt')
  rw [hk] at h1
  simp only [Option.some.injEq] at h1
  subst h1
  exact ⟨_, Array.getElem?_eq_getElem hlt', h2⟩

theorem Trail.heap (hq : Quiet q C) (ht : Trail C l σ S V T) {a : Nat} : ∀ {b : Nat}, a ≤ b → b ≤ l.length → (∀ j g, a ≤ j → j < b → l[j]? = some g → g.o.eff q = false) → (S b).hl = (S a).hl ∧ (S b).hb = (S a).hb ∧ (S b).n = (S a).n := by
  intro b
  induction b with
  | zero => intro h _ _; have : a = 0 := by omega
            subst this; exact ⟨rfl, rfl, rfl⟩
  | succ b ih =>
    intro h hb he
    by_cases hab : a = b + 1
    · subst hab; exact ⟨rfl, rfl, rfl⟩
    · obtain ⟨i1, i2, i3⟩ := ih (by omega) (by omega) fun j g h1 h2 => he j g h1 (by omega)
      have hlt : b < l.length := by omega
      obtain ⟨h1, h2⟩ := ht.step b _ (List.getElem?_eq_getElem hlt)
      obtain ⟨j1, j2, j3⟩ := h1.heap hq (he b _ (by omega) (by omega) (List.getElem?_eq_getElem hlt))
      rw [h2, put_hl, put_hb, put_n]
      exact ⟨j1.trans i1, j2.trans i2, j3.trans i3⟩

theorem Trail.grow (hq : Quiet q C) (ht : Trail C l σ S V T) {a : Nat} : ∀ {b : Nat}, a ≤ b → b ≤ l.length → (∀ j g, a ≤ j → j < b → l[j]? = some g → g.o.eff q = true → alC q g = true) → (∀ i, i < (S a).n → (S b).H i = (S a).H i) ∧ (S a).n ≤ (S b).n := by
  intro b
  induction b with
  | zero => intro h _ _; have : a = 0 := by omega
            subst this; exact ⟨fun _ _ => rfl, Nat.le_refl _⟩
  | succ b ih =>
    intro h hb he
    by_cases hab : a = b + 1
    · subst hab; exact ⟨fun _ _ => rfl, Nat.le_refl _⟩
    · obtain ⟨i1, i2⟩ := ih (by omega) (by omega) fun j g h1 h2 => he j g h1 (by omega)
      have hlt : b < l.length := by omega
      have hgb := List.getElem?_eq_getElem hlt
      obtain ⟨h1, h2⟩ := ht.step b _ hgb
      have hH : ∀ (τ : St) (d : Option Nat) (v : AV), (τ.put d v).H = τ.H := fun τ d v => by unfold St.H; rw [put_hl, put_hb]
      have hstep : (∀ i, i < (S b).n → (T b).H i = (S b).H i) ∧ (S b).n ≤ (T b).n := by
        cases hej : l[b].o.eff q with
        | false =>
          obtain ⟨j1, j2, j3⟩ := h1.heap hq hej
          exact ⟨fun i _ => by unfold St.H; rw [j1, j2], by rw [j3]; exact Nat.le_refl _⟩
        | true =>
          have hal := he b _ (by omega) (by omega) hgb hej
          generalize l[b] = g at *
          generalize T b = τb at *
          generalize V b = vb at *
          clear h2
          obtain ⟨d, ao, gd⟩ := g
          have hnew : ∀ (t : AV) (i : Nat), i < (S b).n → ((S b).new t).H i = (S b).H i := fun t i hi => by
            show look (((S b).n, some t) :: (S b).hl) (S b).hb i = look (S b).hl (S b).hb i
            simp only [look]
            rw [if_neg (by omega)]
          unfold alC at hal
          split at hal
          · rename_i x e
            simp only at e
            subst e
            cases h1 with
            | op hp hs =>
              simp only [stepE] at hs
              split at hs
              · simp only [Option.some.injEq, Prod.mk.injEq] at hs
                obtain ⟨_, rfl⟩ := hs
                exact ⟨hnew _, Nat.le_succ _⟩
              · cases hs
            | skip hp => exact ⟨fun _ _ => rfl, Nat.le_refl _⟩
          · rename_i e
            simp only at e
            subst e
            cases h1 with
            | op hp hs =>
              simp only [stepE] at hs
              split at hs
              · split at hs
                · simp only [Option.some.injEq, Prod.mk.injEq] at hs
                  obtain ⟨_, rfl⟩ := hs
                  exact ⟨hnew _, Nat.le_succ _⟩
                · cases hs
              · cases hs
            | skip hp => exact ⟨fun _ _ => rfl, Nat.le_refl _⟩
          · rename_i f args e
            simp only at e
            subst e
            cases h1 with
            | op hp hs => simp [stepE] at hs
            | call hp hc =>
              have := hq.2.1 _ _ _ _ _ hc hal
              exact this
            | skip hp => exact ⟨fun _ _ => rfl, Nat.le_refl _⟩
          · cases hal
      rw [h2, put_n]
      refine ⟨fun i hi => ?_, by omega⟩
      rw [hH, hstep.1 i (by omega)]
      exact i1 i hi

/-- What the text's walk has in a temporary. -/
theorem Trail.env (hm : ops.toList.mapM (trOper z P nt ops) = some l) (ht : Trail C l σ S V T) (t : Nat) : ∀ {k : Nat}, k ≤ l.length → (∃ j g, j < k ∧ l[j]? = some g ∧ g.d = some t ∧ get (S k).env t = V j) ∨
    ((∀ j g, j < k → l[j]? = some g → g.d ≠ some t) ∧ get (S k).env t = get σ.env t) := by
  intro k
  induction k with
  | zero => intro _; exact .inr ⟨fun j g h => by omega, by rw [ht.zero]⟩
  | succ k ih =>
    intro hk
    have hlt : k < l.length := by omega
    have hg := List.getElem?_eq_getElem hlt
    obtain ⟨h1, h2⟩ := ht.step k _ hg
    obtain ⟨o, ho, htr⟩ := at_ag hm hg
    have henv := h1.env (trOper_inv htr).1
    rw [h2, put_env]
    by_cases hd : l[k].d = some t
    · rw [if_pos hd]
      exact .inl ⟨k, _, by omega, hg, hd, rfl⟩
    · rw [if_neg hd, henv]
      rcases ih (by omega) with ⟨j, g, h3, h4, h5, h6⟩ | ⟨h3, h4⟩
      · exact .inl ⟨j, g, by omega, h4, h5, h6⟩
      · refine .inr ⟨fun j g hj hjg => ?_, h4⟩
        by_cases hjk : j = k
        · subst hjk
          rw [hg] at hjg
          simp only [Option.some.injEq] at hjg
          subst hjg
          exact hd
        · exact h3 j g (by omega) hjg

structure OkR (q : Nat → Bool) (ops : Array Oper) (l : List AG) (B : Nat → Nat → Prop) : Prop where
  edge : ∀ (k : Nat) (o : Oper), ops[k]? = some o → ∀ e ∈ edgesOf o, e < k
  bits : ∀ (k j : Nat) (y : Oper), ops[k]? = some y → j < k → B k j → ∃ e ∈ edgesOf y, e = j ∨ (j < e ∧ B e j)
  need : ∀ (k j : Nat) (x y : Oper) (g h : AG), ops[k]? = some y → l[k]? = some h → ops[j]? = some x → l[j]? = some g → j < k → needs q ops x g y h = true → B k j
  apart : ∀ (k j : Nat) (x y : Oper), ops[k]? = some y → ops[j]? = some x → j < k → apartD x.dst y.dst = true

theorem okR_spec (h : okR q ops l = true) : ∃ B, OkR q ops l B := by
  refine ⟨fun k j => ((Region.before ops).getD k 0).testBit j = true, ?_⟩
  unfold okR at h
  have h1 : ∀ k, k < ops.size → (match ops[k]? with | some o => (edgesOf o).all fun e => decide (e < k) | none => false) = true ∧ ∀ j, j < k → okPair q ops l (Region.before ops) k j = true := fun k hk => by
    have := allN_spec h k hk
    simp only [Bool.and_eq_true] at this
    exact ⟨this.1, fun j hj => allN_spec this.2 j hj⟩
  have h2 : ∀ (k j : Nat) (y : Oper), ops[k]? = some y → j < k → ∃ h x g, l[k]? = some h ∧ ops[j]? = some x ∧ l[j]? = some g ∧
      (((Region.before ops).getD k 0).testBit j = true → ∃ e ∈ edgesOf y, e = j ∨ (j < e ∧ ((Region.before ops).getD e 0).testBit j = true)) ∧ (needs q ops x g y h = true → ((Region.before ops).getD k 0).testBit j = true) ∧ apartD x.dst y.dst = true := fun k j y hy hj => by
    have hk : k < ops.size := (Array.getElem?_eq_some_iff.1 hy).1
    have h3 := (h1 k hk).2 j hj
    unfold okPair at h3
    split at h3
    · rename_i y' h' x g' e1 e2 e3 e4
      rw [hy] at e1
      simp only [Option.some.injEq] at e1
      subst e1
      simp only [Bool.and_eq_true, Bool.or_eq_true, Bool.not_eq_true', List.any_eq_true, beq_iff_eq, decide_eq_true_eq] at h3
      obtain ⟨⟨h4, h5⟩, h6⟩ := h3
      refine ⟨h', x, g', e2, e3, e4, fun hb => ?_, fun hn => ?_, h6⟩
      · rcases h4 with h4 | h4
        · rw [hb] at h4; cases h4
        · exact h4
      · rcases h5 with h5 | h5
        · exact h5
        · rw [hn] at h5; cases h5
    · cases h3
  refine ⟨fun k o ho e he => ?_, fun k j y hy hj hb => ?_, fun k j x y g h hy hh hx hg hj hn => ?_, fun k j x y hy hx hj => ?_⟩
  · have hk : k < ops.size := (Array.getElem?_eq_some_iff.1 ho).1
    have := (h1 k hk).1
    rw [ho] at this
    simp only [List.all_eq_true, decide_eq_true_eq] at this
    exact this e he
  · obtain ⟨_, _, _, _, _, _, h3, _⟩ := h2 k j y hy hj
    exact h3 hb
  · obtain ⟨h', x', g', e1, e2, e3, _, h4, _⟩ := h2 k j y hy hj
    rw [hh] at e1; rw [hx] at e2; rw [hg] at e3
    simp only [Option.some.injEq] at e1 e2 e3
    subst e1 e2 e3
    exact h4 hn
  · obtain ⟨h', x', g', e1, e2, e3, _, _, h4⟩ := h2 k j y hy hj
    rw [hx] at e2
    simp only [Option.some.injEq] at e2
    subst e2
    exact h4

/-- Between two operations of a region that draws its order. -/
structure Mid (fr : Fr) (G0 : Gh) (w0 : World) (nt : Nat) (q : Nat → Bool) (ops : Array Oper) (l : List AG) (σ : St) (S : Nat → St) (V : Nat → AV) (D : Nat → Prop) (a : Act) (w : World) : Prop where
  mem : ∃ G c, c ≤ l.length ∧ (∀ j, j ≤ c → ∀ i, (S j).n ≤ i → (S j).H i = none) ∧ (∀ j g, l[j]? = some g → g.o.eff q = true → (D j ↔ j < c)) ∧ Goto fr G0 w0 G w (S c) ∧ (∀ k g t, l[k]? = some g → D k → g.d = some t → RelV w G.F G.ρ (V k) (a.tmps.getD t undef)) ∧
    ∀ t, (∀ k g, l[k]? = some g → D k → g.d ≠ some t) → RelV w G.F G.ρ (get σ.env t) (a.tmps.getD t undef)
  closed : ∀ k o, ops[k]? = some o → D k → ∀ e ∈ edgesOf o, D e
  dfr : a.defers = []
  tsz : a.tmps.size = nt

theorem bits_done {B : Nat → Nat → Prop} (hok : OkR q ops l B) {D : Nat → Prop} (hcl : ∀ k o, ops[k]? = some o → D k → ∀ e ∈ edgesOf o, D e) : ∀ (k : Nat) (o : Oper), ops[k]? = some o → (∀ e ∈ edgesOf o, D e) → ∀ j, j < k → B k j → D j := by
  intro k
  induction k using Nat.strongRecOn with
  | _ k ih =>
    intro o ho he j hj hb
    obtain ⟨e, h1, h2⟩ := hok.bits k j o ho hj hb
    have hlt := hok.edge k o ho e h1
    rcases h2 with rfl | ⟨hje, h2⟩
    · exact he _ h1
    · have hk : k < ops.size := (Array.getElem?_eq_some_iff.1 ho).1
      have hoe : ops[e]? = some ops[e] := Array.getElem?_eq_getElem (by omega)
      exact ih e hlt _ hoe (hcl e _ hoe (he e h1)) j hje h2

/-- An operation that may come up now. -/
theorem Mid.step {B : Nat → Nat → Prop} (hC : OrcOk P C) (hq : Quiet q C) (hm : ops.toList.mapM (trOper z P nt ops) = some l) (hok : OkR q ops l B) (ht : Trail C l σ S V T) {fr : Fr} {G0 : Gh} {w0 : World} {D : Nat → Prop} {a : Act} {w : World}
    (h : Mid fr G0 w0 nt q ops l σ S V D a w) {k : Nat} {o : Oper} (ho : ops[k]? = some o) (hD : ¬ D k) (he : ∀ e ∈ edgesOf o, D e) (hD1 : ∀ j, D j → j < ops.size) {K : Act → World → Prop} {Q : Exit → Act → World → Prop}
    (hK : ∀ a' w', Mid fr G0 w0 nt q ops l σ S V (fun j => D j ∨ j = k) a' w' → K a' w') :
    if Region.wanted o (yielded ops a.tmps) = true then o.wp P a w K Q else K (a.put o.dst undef) w := by
  obtain ⟨G, c, hc, hfr, hce, hgo, hv, hold⟩ := h.mem
  obtain ⟨g, hg, htr⟩ := at_op hm ho
  obtain ⟨t1, t2, t3, t4⟩ := trOper_inv htr
  have hkl : k < l.length := (List.getElem?_eq_some_iff.1 hg).1
  have hbits := bits_done hok h.closed k o ho he
  -- the names that the operation looks at are as in the text's walk
  have hnames : ∀ t ∈ o.looksAt ops, RelV w G.F G.ρ (get (S k).env t) (a.tmps.getD t undef) := by
    intro t hto
    rcases ht.env hm t (k := k) (by omega) with ⟨j, gj, hj, hgj, hd, hval⟩ | ⟨hno, hval⟩
    · obtain ⟨oj, hoj, htrj⟩ := at_ag hm hgj
      have hdj := (trOper_inv htrj).2.2.1
      rw [hval]
      refine hv j gj t hgj (hbits j hj (hok.need k j oj o gj g ho hg hoj hgj hj ?_)) hd
      simp only [needs, Bool.or_eq_true]
      refine .inl (.inl ?_)
      rw [← hdj, hd]
      simpa [dstIn] using hto
    · rw [hval]
      refine hold t fun j gj hgj hDj hdj => ?_
      by_cases hjk : j < k
      · exact hno j gj hjk hgj hdj
      · by_cases hjk2 : j = k
        · subst hjk2; exact hD hDj
        · obtain ⟨oj, hoj, htrj⟩ := at_ag hm hgj
          have hdj2 := (trOper_inv htrj).2.2.1
          have hb := hok.need j k o oj g gj hoj hgj ho hg (by omega) (by
            simp only [needs, Bool.or_eq_true]
            refine .inl (.inr ?_)
            rw [← hdj2, hdj]
            simpa [dstIn] using hto)
          exact hD (bits_done hok h.closed j oj hoj (h.closed j oj hoj hDj) k (by omega) hb)
  -- who writes the same temporary
  have hsole : ∀ j gj t, l[j]? = some gj → gj.d = some t → g.d = some t → j = k := by
    intro j gj t hgj hdj hdk
    obtain ⟨oj, hoj, htrj⟩ := at_ag hm hgj
    have hdj2 := (trOper_inv htrj).2.2.1
    rcases Nat.lt_trichotomy j k with hjk | hjk | hjk
    · have := hok.apart k j oj o ho hoj hjk
      rw [← hdj2, hdj, ← t3, hdk] at this
      simp [apartD] at this
    · exact hjk
    · have := hok.apart j k o oj hoj ho hjk
      rw [← hdj2, hdj, ← t3, hdk] at this
      simp [apartD] at this
  obtain ⟨hstp, hnext⟩ := ht.step k g hg
  -- the step, in the memory that is now
  have key : ∀ (σ1 τ1 : St) (c1 : Nat), Stp C σ1 g (V k) τ1 → σ1.env = (S k).env → σ1.hl = (S c).hl → σ1.hb = (S c).hb → σ1.n = (S c).n → c1 ≤ l.length →
      τ1.hl = (S c1).hl → τ1.hb = (S c1).hb → τ1.n = (S c1).n → (∀ j, j ≤ c1 → j ≤ c ∨ ((S j).H = (S c).H ∧ (S j).n = (S c).n) ∨ ((S j).H = τ1.H ∧ (S j).n = τ1.n)) → (∀ j g, l[j]? = some g → g.o.eff q = true → ((D j ∨ j = k) ↔ j < c1)) →
      if Region.wanted o (yielded ops a.tmps) = true then o.wp P a w K Q else K (a.put o.dst undef) w := by
    intro σ1 τ1 c1 hs1 he1 hh1 hh2 hh3 hc1 hk1 hk2 hk3 hfr1 hce1
    refine step_of hC htr hs1 (a := a) (hgo.same hh1 hh2 hh3).own (fun t ht2 => by rw [he1]; exact hnames t ht2) fun u w' G' hgo1 hrel => hK _ _ ⟨⟨G', c1, hc1, fun j hj i hi => ?_, hce1, ?_, ?_, ?_⟩, ?_, ?_, ?_⟩
    · rcases hfr1 j hj with h1 | ⟨h1, h2⟩ | ⟨h1, h2⟩
      · exact hfr j h1 i hi
      · rw [h1]; exact hfr c (Nat.le_refl _) i (by rw [← h2]; exact hi)
      · rw [h1]; exact (hgo1.wf.free i (by rw [← h2]; exact hi)).1
    · exact (hgo.trans hgo1).same hk1.symm hk2.symm hk3.symm
    · intro j gj t hgj hDj hdj
      by_cases hjk : j = k
      · subst hjk
        rw [hg] at hgj
        simp only [Option.some.injEq] at hgj
        subst hgj
        rw [← t3, hdj, put_get h.tsz (t4 t (by rw [← t3]; exact hdj)), if_pos rfl]
        exact hrel
      · rcases hDj with hDj | hDj
        · have hne : g.d ≠ some t := fun hd => hjk (hsole j gj t hgj hdj hd)
          have hold2 := hgo1.mono (hv j gj t hgj hDj hdj)
          cases hgd : o.dst with
          | none => exact hold2
          | some d =>
            rw [put_get h.tsz (t4 d hgd), if_neg (fun e => hne (by rw [t3, hgd, e]))]
            exact hold2
        · exact absurd hDj hjk
    · intro t hno
      have hne : g.d ≠ some t := hno k g hg (.inr rfl)
      have hold2 := hgo1.mono (hold t fun j gj hgj hDj => hno j gj hgj (.inl hDj))
      cases hgd : o.dst with
      | none => exact hold2
      | some d =>
        rw [put_get h.tsz (t4 d hgd), if_neg (fun e => hne (by rw [t3, hgd, e]))]
        exact hold2
    · intro j oj hoj hDj e hej
      rcases hDj with hDj | rfl
      · exact .inl (h.closed j oj hoj hDj e hej)
      · rw [ho] at hoj
        simp only [Option.some.injEq] at hoj
        subst hoj
        exact .inl (he e hej)
    · rw [put_defers]; exact h.dfr
    · rw [put_size]; exact h.tsz
  have hnoal : ∀ oj gj, AOp.eff q (AG.o gj) = true → rdC q ops oj gj = false := by
    intro oj gj hej
    unfold rdC
    split
    · rename_i e; rw [e] at hej; cases hej
    · rename_i f args e
      rw [e] at hej
      simp only [AOp.eff, Bool.not_eq_true'] at hej
      rw [hej]; rfl
    · rfl
  by_cases hld : rdC q ops o g = true
  · -- it only reads: memory that is only newly made does not matter
    have heff' : g.o.eff q = false := by
      cases h : g.o.eff q
      · rfl
      · rw [hnoal o g h] at hld; cases hld
    have hsens : g.o.sens q = true := by
      unfold rdC at hld
      split at hld
      · rename_i e; rw [e]; rfl
      · rename_i e; rw [e]; simp [AOp.sens]
      · cases hld
    have hside : ∀ j gj, l[j]? = some gj → gj.o.eff q = true → alC q gj = false → (j < c ↔ j < k) := by
      intro j gj hgj hej hal
      obtain ⟨oj, hoj, htrj⟩ := at_ag hm hgj
      have hgld := hnoal oj gj hej
      rw [← hce j gj hgj hej]
      constructor
      · intro hDj
        rcases Nat.lt_trichotomy j k with hjk | hjk | hjk
        · exact hjk
        · subst hjk; exact absurd hDj hD
        · have hb := hok.need j k o oj g gj hoj hgj ho hg hjk (by simp [needs, hej, hsens, excused, hal, hgld])
          exact absurd (bits_done hok h.closed j oj hoj (h.closed j oj hoj hDj) k hjk hb) hD
      · intro hjk
        exact hbits j hjk (hok.need k j oj o gj g ho hg hoj hgj hjk (by simp [needs, hej, hsens, excused, hal, hgld]))
    have hal : ∀ j gj, l[j]? = some gj → gj.o.eff q = true → (c ≤ j ∧ j < k) ∨ (k ≤ j ∧ j < c) → alC q gj = true := by
      intro j gj hgj hej hj
      cases hal : alC q gj
      · have := hside j gj hgj hej hal
        omega
      · rfl
    -- the names that stand for something now are as in the text's walk
    have hsame : ∀ i, G.ρ i ≠ none → (S k).H i = none ∨ (S c).H i = (S k).H i := by
      intro i hi
      have hic : i < (S c).n := by
        rcases Nat.lt_or_ge i (S c).n with h6 | h6
        · exact h6
        · exact absurd (hgo.wf.free i h6).2 hi
      rcases Nat.le_total c k with hck | hck
      · exact .inr ((ht.grow hq hck (by omega) fun j gj h1 h2 h3 h4 => hal j gj h3 h4 (.inl ⟨h1, h2⟩)).1 i hic).symm
      · obtain ⟨h6, h7⟩ := ht.grow hq hck hc fun j gj h1 h2 h3 h4 => hal j gj h3 h4 (.inr ⟨h1, h2⟩)
        rcases Nat.lt_or_ge i (S k).n with h8 | h8
        · exact .inr (h6 i h8)
        · exact .inl (hfr k hck i h8)
    have hkk : Stp C ⟨(S k).env, (S c).hl, (S c).hb, (S c).n⟩ g (V k) ⟨(S k).env, (S c).hl, (S c).hb, (S c).n⟩ := by
      obtain ⟨d, ao, gd⟩ := g
      unfold rdC at hld
      split at hld
      · rename_i ag n i e
        simp only at e
        subst e
        generalize V k = vk at *
        generalize T k = τk at *
        clear hnext
        cases hstp with
        | op hp hs =>
          refine .op (Pass.env rfl hp) ?_
          have hi := hnames i (by simpa using hld)
          simp only [stepE, St.ev] at hs ⊢
          generalize get (S k).env i = a at *
          have hload : ∀ u, (S k).loadA a = some u → St.loadA ⟨(S k).env, (S c).hl, (S c).hb, (S c).n⟩ a = some u := by
            intro u hu
            cases a <;> try exact hu
            rename_i id path off
            obtain ⟨b', o', h4, h5⟩ := hi.ptr_inv
            rcases hsame id (by rw [h4]; simp) with h6 | h6
            · simp only [St.loadA, h6] at hu; cases hu
            · show (match (S c).H id with | some t => _ | none => _) = _
              rw [h6]
              exact hu
          cases hl : (S k).loadA a with
          | none => rw [hl] at hs; cases hs
          | some u =>
            rw [hl] at hs
            rw [hload u hl]
            simp only at hs ⊢
            split at hs
            · rename_i hc
              simp only [Option.some.injEq, Prod.mk.injEq] at hs
              rw [if_pos hc, hs.1]
            · cases hs
        | skip hp => exact .skip (Pass.env rfl hp)
      · rename_i f args e
        simp only at e
        subst e
        simp only [Bool.and_eq_true, List.all_eq_true] at hld
        generalize V k = vk at *
        generalize T k = τk at *
        clear hnext
        cases hstp with
        | op hp hs => simp [stepE] at hs
        | call hp hc2 =>
          have h7 := hq.2.2 f _ _ _ _ hc2 hld.1 ⟨(S k).env, (S c).hl, (S c).hb, (S c).n⟩ G w _ hgo.wf (fun a ha => ?_) hsame
          · rw [← ev_env (σ := S k) (hl := (S c).hl) (hb := (S c).hb) (n := (S c).n)] at h7
            exact .call (σ := ⟨(S k).env, (S c).hl, (S c).hb, (S c).n⟩) (τ := ⟨(S k).env, (S c).hl, (S c).hb, (S c).n⟩) (Pass.env rfl hp) h7
          · obtain ⟨y, hy, rfl⟩ := List.mem_map.1 ha
            have h8 := hld.2 y hy
            cases y with
            | t i => exact .inr ⟨_, hnames i (by simpa using h8)⟩
            | c v => exact .inl h8
        | skip hp => exact .skip (Pass.env rfl hp)
      · cases hld
    refine key ⟨(S k).env, (S c).hl, (S c).hb, (S c).n⟩ ⟨(S k).env, (S c).hl, (S c).hb, (S c).n⟩ c hkk rfl rfl rfl rfl hc rfl rfl rfl (fun j hj => .inl hj) fun j gj hgj hej => ?_
    rw [← hce j gj hgj hej]
    constructor
    · rintro (h1 | rfl)
      · exact h1
      · rw [hg] at hgj
        simp only [Option.some.injEq] at hgj
        subst hgj
        rw [heff'] at hej; cases hej
    · exact .inl
  by_cases hsens : g.o.sens q = true
  · -- memory is as in the text's walk
    have hld' : rdC q ops o g = false := by simpa using hld
    have hexc : ∀ oj gj, AOp.eff q (AG.o gj) = true → excused q ops o g oj gj = false ∧ excused q ops oj gj o g = false := by
      intro oj gj hej
      simp [excused, hld', hnoal oj gj hej]
    have hside : ∀ j gj, l[j]? = some gj → gj.o.eff q = true → (j < c ↔ j < k) := by
      intro j gj hgj hej
      obtain ⟨oj, hoj, htrj⟩ := at_ag hm hgj
      rw [← hce j gj hgj hej]
      constructor
      · intro hDj
        rcases Nat.lt_trichotomy j k with hjk | hjk | hjk
        · exact hjk
        · subst hjk; exact absurd hDj hD
        · have hb := hok.need j k o oj g gj hoj hgj ho hg hjk (by simp [needs, hej, hsens, hexc oj gj hej])
          exact absurd (bits_done hok h.closed j oj hoj (h.closed j oj hoj hDj) k hjk hb) hD
      · intro hjk
        exact hbits j hjk (hok.need k j oj o gj g ho hg hoj hgj hjk (by simp [needs, hej, hsens, hexc oj gj hej]))
    have hsame : (S k).hl = (S c).hl ∧ (S k).hb = (S c).hb ∧ (S k).n = (S c).n := by
      rcases Nat.le_total c k with hck | hck
      · exact ht.heap hq hck (by omega) fun j gj h1 h2 h3 => by
          cases hej : gj.o.eff q
          · rfl
          · have := (hside j gj h3 hej).2 h2; omega
      · obtain ⟨i1, i2, i3⟩ := ht.heap hq hck hc fun j gj h1 h2 h3 => by
          cases hej : gj.o.eff q
          · rfl
          · have := (hside j gj h3 hej).1 h2; omega
        exact ⟨i1.symm, i2.symm, i3.symm⟩
    by_cases heff : g.o.eff q = true
    · have hck : c ≤ k := by
        have := hce k g hg heff
        have h2 : ¬ k < c := fun h => hD (this.2 h)
        omega
      refine key (S k) (T k) (k + 1) hstp rfl hsame.1 hsame.2.1 hsame.2.2 (by omega) ?_ ?_ ?_ ?_ ?_
      · rw [hnext, put_hl]
      · rw [hnext, put_hb]
      · rw [hnext, put_n]
      · intro j hj
        by_cases hjc : j ≤ c
        · exact .inl hjc
        · by_cases hjk : j = k + 1
          · subst hjk
            refine .inr (.inr ⟨?_, by rw [hnext, put_n]⟩)
            rw [hnext]; unfold St.H; rw [put_hl, put_hb]
          · have := ht.heap hq (a := c) (b := j) (by omega) (by omega) fun j' gj' h1 h2 h3 => by
              cases hej : gj'.o.eff q
              · rfl
              · have := (hside j' gj' h3 hej).2 (by omega); omega
            exact .inr (.inl ⟨by unfold St.H; rw [this.1, this.2.1], this.2.2⟩)
      · intro j gj hgj hej
        rw [hce j gj hgj hej, hside j gj hgj hej]
        omega
    · have heff' : g.o.eff q = false := by simpa using heff
      obtain ⟨i1, i2, i3⟩ := hstp.heap hq heff'
      refine key (S k) (T k) c hstp rfl hsame.1 hsame.2.1 hsame.2.2 hc (i1.trans hsame.1) (i2.trans hsame.2.1) (i3.trans hsame.2.2) (fun j hj => .inl hj) fun j gj hgj hej => ?_
      rw [← hce j gj hgj hej]
      constructor
      · rintro (h1 | rfl)
        · exact h1
        · rw [hg] at hgj
          simp only [Option.some.injEq] at hgj
          subst hgj
          exact absurd hej heff
      · exact .inl
  · have hsens' : g.o.sens q = false := by simpa using hsens
    have heff' : g.o.eff q = false := by
      simp only [AOp.sens, Bool.or_eq_false_iff] at hsens'
      exact hsens'.1
    refine key ⟨(S k).env, (S c).hl, (S c).hb, (S c).n⟩ ⟨(S k).env, (S c).hl, (S c).hb, (S c).n⟩ c (hstp.pure hsens' _ _ _) rfl rfl rfl rfl hc rfl rfl rfl (fun j hj => .inl hj) fun j gj hgj hej => ?_
    rw [← hce j gj hgj hej]
    constructor
    · rintro (h1 | rfl)
      · exact h1
      · rw [hg] at hgj
        simp only [Option.some.injEq] at hgj
        subst hgj
        rw [heff'] at hej; cases hej
    · exact .inl

/-- Behind all operations. -/
theorem Mid.done (hq : Quiet q C) (hm : ops.toList.mapM (trOper z P nt ops) = some l) (ht : Trail C l σ S V T) {fr : Fr} {G0 : Gh} {w0 : World} {D : Nat → Prop} {a : Act} {w : World}
    (h : Mid fr G0 w0 nt q ops l σ S V D a w) (hall : ∀ k, k < ops.size → D k) : Sim fr G0 w0 nt (S l.length) a w := by
  obtain ⟨G, c, hc, _, hce, hgo, hv, hold⟩ := h.mem
  have hll : l.length = ops.size := by rw [mapM_len hm]; simp
  obtain ⟨i1, i2, i3⟩ := ht.heap hq hc (Nat.le_refl _) fun j gj h1 h2 h3 => by
    cases hej : gj.o.eff q
    · rfl
    · have := (hce j gj h3 hej).1 (hall j (by omega)); omega
  refine ⟨G, hgo.same i1 i2 i3, fun t => ?_, h.dfr, h.tsz⟩
  rcases ht.env hm t (k := l.length) (Nat.le_refl _) with ⟨j, gj, hj, hgj, hd, hval⟩ | ⟨hno, hval⟩
  · rw [hval]; exact hv j gj t hgj (hall j (by omega)) hd
  · rw [hval]
    exact hold t fun j gj hgj _ hd => hno j gj (List.getElem?_eq_some_iff.1 hgj).1 hgj hd
end
end Go.Ra
