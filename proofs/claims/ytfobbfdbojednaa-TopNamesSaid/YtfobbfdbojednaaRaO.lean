/- What is known of functions that leave memory alone, and how they are called. -/
import Derived.Test.YtfobbfdbojednaaRaN
namespace Go.Ra
open Go.RowKit (Below)
set_option linter.unusedVariables false
set_option linter.unusedSimpArgs false

/-- Own memory taken as memory that nobody writes. -/
def frz (σ : St) : Nat → AV → Option AV
  | 0, v => if v.idfree then some v else none
  | k + 1, v =>
    match v with
    | .sl id path off kk len es =>
      match σ.row es (.sl id path off kk len es) with
      | some ts => some (.fro false es ts)
      | none => none
    | .ptr id path off =>
      match σ.loadA (.ptr id path off) with
      | some u =>
        match frz σ k u with
        | some u' => some (.fptr u')
        | none => none
      | none => none
    | .agg n ts =>
      match mapO (frz σ k) ts with
      | some us => some (.agg n us)
      | none => none
    | .tup ts =>
      match mapO (frz σ k) ts with
      | some us => some (.tup us)
      | none => none
    | .clo f ts =>
      match mapO (frz σ k) ts with
      | some us => some (.clo f us)
      | none => none
    | v => if v.idfree then some v else none

/-- What nobody writes, own memory taken with it. -/
def FF (G : Gh) (σ : St) : Nat → Prop := fun b => G.F b ∨ ∃ i o, σ.H i ≠ none ∧ G.ρ i = some (b, o)

section
variable {P : Program} {w : World} {G : Gh} {σ : St} {fr : Fr}

theorem RelC.up' {F F' : Nat → Prop} (hF : ∀ b, F b → F' b) {ρ ρ' : Nat → Option Loc} (hr : ∀ i l, ρ i = some l → ρ' i = some l) {t : AV} {cs : List Value} (h : RelC w F ρ t cs) : RelC w F' ρ' t cs := h.mono (Ext.refl F w) hF hr
theorem noIds_le {ρ : Nat → Option Loc} : ∀ i l, noIds i = some l → ρ i = some l := fun i l h => by simp [noIds] at h

theorem frzL {F F' : Nat → Prop} {ρ ρ' : Nat → Option Loc} {f : AV → Option AV} (hf : ∀ v v' cs, RelC w F ρ v cs → f v = some v' → RelC w F' ρ' v' cs) : ∀ {ts us : List AV} {cs : List Value}, RelL w F ρ ts cs → mapO f ts = some us → RelL w F' ρ' us cs
  | _, us, _, .nil, h => by
    simp only [mapO, Option.some.injEq] at h
    subst h; exact .nil
  | _, us, _, .cons h1 h2, h => by
    simp only [mapO] at h
    split at h
    · rename_i y ys hy hys
      simp only [Option.some.injEq] at h
      subst h
      exact .cons (hf _ _ _ h1 hy) (frzL hf h2 hys)
    · cases h

theorem frzO {F F' : Nat → Prop} {ρ ρ' : Nat → Option Loc} {f : AV → Option AV} (hf : ∀ v v' cs, RelC w F ρ v cs → f v = some v' → RelC w F' ρ' v' cs ∧ v'.isAgg = v.isAgg) : ∀ {ts us : List AV} {cs : List Value}, RelO w F ρ ts cs → mapO f ts = some us → RelO w F' ρ' us cs
  | _, us, _, .nil, h => by
    simp only [mapO, Option.some.injEq] at h
    subst h; exact .nil
  | _, us, _, .cons h1 h0 h2, h => by
    simp only [mapO] at h
    split at h
    · rename_i y ys hy hys
      simp only [Option.some.injEq] at h
      subst h
      obtain ⟨h3, h4⟩ := hf _ _ _ h1 hy
      exact .cons h3 (h4.trans h0) (frzO hf h2 hys)
    · cases h

theorem frzC (hown : Own fr G w σ) : ∀ (k : Nat) (v v' : AV) (cs : List Value), RelC w G.F G.ρ v cs → frz σ k v = some v' → RelC w (FF G σ) noIds v' cs ∧ v'.isAgg = v.isAgg
  | 0, v, v', cs, hr, h => by
    simp only [frz] at h
    split at h
    · rename_i hi
      simp only [Option.some.injEq] at h
      subst h
      exact ⟨(hr.free hi).up' (fun _ h => .inl h) noIds_le, rfl⟩
    · cases h
  | k + 1, v, v', cs, hr, h => by
    unfold frz at h
    split at h
    · rename_i id path off kk len es
      split at h
      · rename_i ts hrow
        simp only [Option.some.injEq] at h
        subst h
        refine ⟨?_, rfl⟩
        obtain ⟨u, rfl⟩ := hr.single rfl
        have hv : RelV w G.F G.ρ (.sl id path off kk len es) u := .one hr rfl
        obtain ⟨ad, cap, h1, h2, h3⟩ := row_rel hown.1 (fun k t h => h) hrow hv
        obtain ⟨ad', cap', h4, h5, h6⟩ := hv.sl_inv
        rw [h1] at h4
        simp only [Value.slice.injEq] at h4
        obtain ⟨rfl, h7, rfl⟩ := h4
        rw [h1]
        rcases h3 with rfl | ⟨b, o, cs, rfl, h8, h9⟩
        · exact .fro0 (fun h => by cases h)
        · rcases h6 with ⟨h10, h11⟩ | ⟨b', o', cur, e, h10, h11, _⟩
          · have : ts = [] := List.eq_nil_of_length_eq_zero (by omega)
            subst this
            exact .fro0 (fun h => by cases h)
          · simp only [Option.some.injEq, Addr.mk.injEq] at h10
            obtain ⟨rfl, _⟩ := h10
            by_cases hl0 : len = 0
            · have hts : ts = [] := by
                simp only [St.row, hl0, if_true, Option.some.injEq] at hrow
                exact hrow.symm
              subst hts
              exact .fro0 (fun h => by cases h)
            refine .fro (h8.mono (Ext.refl _ w) (fun _ h => .inl h)) h9 (.inr ⟨id, o', ?_, h11⟩) (fun h => by cases h) h2
            intro hn
            simp only [St.row, if_neg hl0, hn] at hrow
            cases hrow
      · cases h
    · rename_i id path off
      split at h
      · rename_i u hu
        split at h
        · rename_i u' hu'
          simp only [Option.some.injEq] at h
          subst h
          refine ⟨?_, rfl⟩
          obtain ⟨x, rfl⟩ := hr.single rfl
          have hv : RelV w G.F G.ρ (.ptr id path off) x := .one hr rfl
          obtain ⟨b, o, cs, h1, h2, h3⟩ := loadA_rel hown.1 (fun k t h => h) hu hv
          obtain ⟨b', o', h4, h5⟩ := hv.ptr_inv
          rw [h1] at h5
          simp only [Value.pointer.injEq, Option.some.injEq, Addr.mk.injEq] at h5
          obtain ⟨rfl, _⟩ := h5
          rw [h1]
          refine .fptr (frzC hown k u u' cs h2 hu').1 h3 (.inr ⟨id, o', ?_, h4⟩)
          intro hn
          simp only [St.loadA, hn] at hu
          cases hu
        · cases h
      · cases h
    · rename_i n ts
      split at h
      · rename_i us hus
        simp only [Option.some.injEq] at h
        subst h
        cases hr with
        | agg hl hn => exact ⟨.agg (frzL (fun v v' cs h1 h2 => (frzC hown k v v' cs h1 h2).1) hl hus) hn, rfl⟩
      · cases h
    · cases hr
    · rename_i g ts
      split at h
      · rename_i us hus
        simp only [Option.some.injEq] at h
        subst h
        cases hr with
        | clo hl => exact ⟨.clo (frzO (fun v v' cs h1 h2 => frzC hown k v v' cs h1 h2) hl hus), rfl⟩
      · cases h
    · split at h
      · rename_i hi
        simp only [Option.some.injEq] at h
        subst h
        exact ⟨(hr.free hi).up' (fun _ h => .inl h) noIds_le, rfl⟩
      · cases h

mutual
theorem frzV (hown : Own fr G w σ) : ∀ (k : Nat) (v v' : AV) (u : Value), RelV w G.F G.ρ v u → frz σ k v = some v' → RelV w (FF G σ) noIds v' u
  | k, v, v', u, .one h ha, hf => by
    obtain ⟨h1, h2⟩ := frzC hown k v v' [u] h hf
    exact .one h1 (h2.trans ha)
  | k, v, v', _, .agg h ha, hf => by
    obtain ⟨h1, h2⟩ := frzC hown k v v' _ h hf
    exact .agg h1 (h2.trans ha)
  | 0, _, v', _, .tup h, hf => by simp [frz, AV.idfree] at hf
  | k + 1, _, v', _, .tup h, hf => by
    simp only [frz] at hf
    split at hf
    · rename_i us hus
      simp only [Option.some.injEq] at hf
      subst hf
      exact .tup (frzVs hown k _ _ _ h hus)
    · cases hf
  | 0, _, v', _, .anyb, hf => by
    simp only [frz, AV.idfree, if_true, Option.some.injEq] at hf
    subst hf; exact .anyb
  | k + 1, _, v', _, .anyb, hf => by
    simp only [frz, AV.idfree, if_true, Option.some.injEq] at hf
    subst hf; exact .anyb
  | 0, _, v', _, .unk, hf => by
    simp only [frz, AV.idfree, if_true, Option.some.injEq] at hf
    subst hf; exact .unk
  | k + 1, _, v', _, .unk, hf => by
    simp only [frz, AV.idfree, if_true, Option.some.injEq] at hf
    subst hf; exact .unk
theorem frzVs (hown : Own fr G w σ) : ∀ (k : Nat) (vs vs' : List AV) (us : List Value), RelVs w G.F G.ρ vs us → mapO (frz σ k) vs = some vs' → RelVs w (FF G σ) noIds vs' us
  | k, _, vs', _, .nil, hf => by
    simp only [mapO, Option.some.injEq] at hf
    subst hf; exact .nil
  | k, _, vs', _, .cons h1 h2, hf => by
    simp only [mapO] at hf
    split at hf
    · rename_i y ys hy hys
      simp only [Option.some.injEq] at hf
      subst hf
      exact .cons (frzV hown k _ _ _ h1 hy) (frzVs hown k _ _ _ h2 hys)
    · cases hf
end

theorem FF_lt (hown : Own fr G w σ) {b : Nat} (h : FF G σ b) : b < w.heap.size := by
  rcases h with h | ⟨i, o, h1, h2⟩
  · exact hown.1.fsz b h
  · cases hi : σ.H i with
    | none => exact absurd hi h1
    | some t =>
      rcases hown.1.blk i t hi with ⟨b', o', cs, cur, e, h3, h4, h5, _⟩ | ⟨h3, _⟩
      · rw [h2] at h3
        simp only [Option.some.injEq, Prod.mk.injEq] at h3
        rw [h3.1]; exact lt_of_block h5
      · rw [h2] at h3; cases h3

/-- A function that leaves memory alone: for these arguments it gives this. -/
def Pure (P : Program) (f : Nat) (args : List AV) (r : AV) : Prop :=
  Known P f ∧ ∀ (w : World) (F : Nat → Prop) (vs : List Value), (∀ b, F b → b < w.heap.size) → RelVs w F noIds args vs →
    Calls P f vs.toArray w fun e w' => ∃ u F', e = .returned u ∧ Below w.heap.size w w' ∧ (∀ b, F b → F' b) ∧ (∀ b, F' b → (F b ∨ w.heap.size ≤ b) ∧ b < w'.heap.size) ∧ RelV w' F' noIds r u

theorem pure_of {q : Nat → Bool} {C : Orc} (hmix : P.follows .mixedOrders = true) (hC : OrcOk P C) (hq : Quiet q C) {f nt : Nat} {rs : List AR} {ac : AC} (hF : trF P q f = some (nt, rs, ac)) {args : List AV} {r : AV} {k : Nat} (hlen : args.length ≤ nt)
    (h : wpC C ac ⟨envOf 0 args, [], fun _ => none, 0⟩ (retP rs fun v τ => frz τ k v = some r)) : Pure P f args r := by
  refine ⟨trF_known hF, fun w F vs hFs hr => ?_⟩
  have hown : Own ⟨w, fun _ => False, F, 0⟩ ⟨noIds, F⟩ w ⟨envOf 0 args, [], fun _ => none, 0⟩ :=
    ⟨⟨fun i _ => ⟨rfl, rfl⟩, hFs, fun i t hi => (by cases hi), fun i j b o o' hi => absurd rfl hi⟩, ⟨rfl, rfl, rfl, Nat.le_refl _, fun _ _ _ => rfl, Ext.refl _ _, fun _ h => h, fun _ h => .inl h, fun i b o hi => absurd rfl hi⟩⟩
  refine (enter hmix hC hq hF hlen hown hr h).mono fun e w' ⟨u, G', v, τ, he, hgo, hrel, hk⟩ => ?_
  refine ⟨u, FF G' τ, he, ⟨hgo.fr.os, hgo.fr.tape, hgo.fr.output, hgo.fr.size, fun b hb => hgo.fr.same b hb (fun h => h)⟩, fun b hb => .inl (hgo.leF b hb), fun b hb => ⟨?_, FF_lt hgo.own hb⟩, frzV hgo.own k v r u hrel hk⟩
  rcases hb with hb | ⟨i, o, h1, h2⟩
  · rcases hgo.fr.fnew b hb with h | h | h
    · exact .inl h
    · cases h
    · exact .inr h
  · rcases hgo.fr.loc i b o h1 h2 with h | h
    · cases h
    · exact .inr h

theorem Nxt.below {H : Nat → Option AV} {U : Nat → Prop} {w' : World} (hw : Wf G w H U) (hf : FrOk fr G w H) (hb : Below w.heap.size w w') {F' : Nat → Prop} (h1 : ∀ b, G.F b → F' b) (h2 : ∀ b, F' b → (G.F b ∨ w.heap.size ≤ b) ∧ b < w'.heap.size) :
    Nxt fr G w ⟨G.ρ, F'⟩ w' H U := by
  have hx : Ext G.F w w' := ⟨fun b hF => hb.block b (hw.fsz b hF), fun b cur e h => ⟨cur, by rw [hb.block b (lt_of_block h)]; exact h, rfl⟩⟩
  have hs := hf.size
  refine ⟨⟨hw.free, fun b h => (h2 b h).2, fun i t hi => ?_, hw.dis⟩, ⟨hb.os.trans hf.os, hb.tape.trans hf.tape, hb.output.trans hf.output, Nat.le_trans hs hb.size, fun b hb1 hS => ?_, hf.ext.trans hx hf.f0, fun b h => h1 b (hf.f0 b h), fun b h => ?_, hf.loc⟩, hx, h1, fun _ _ h => h⟩
  · rcases hw.blk i t hi with ⟨b, o, cs, cur, e, h3, h4, h5, h6, h7⟩ | h3
    · have hlt := lt_of_block h5
      refine .inl ⟨b, o, cs, cur, e, h3, h4.mono hx h1 (fun _ _ h => h), by rw [hb.block b hlt]; exact h5, h6.of_block (hb.block b hlt), fun h => ?_⟩
      rcases (h2 b h).1 with h | h
      · exact h7 h
      · omega
    · exact .inr h3
  · rw [hb.block b (by omega)]; exact hf.same b hb1 hS
  · rcases (h2 b h).1 with h | h
    · exact hf.fnew b h
    · exact .inr (.inr (by omega))

mutual
/-- No memory stands behind it. -/
def AV.solid : AV → Bool
  | .sc _ => true
  | .agg _ ts => AV.solids ts
  | .arr _ _ ts => AV.solids ts
  | .tup ts => AV.solids ts
  | .anyb => true
  | .unk => true
  | .fro _ _ [] => true
  | _ => false
def AV.solids : List AV → Bool
  | [] => true
  | t :: ts => t.solid && AV.solids ts
end

mutual
theorem RelC.solid {F F' : Nat → Prop} {ρ ρ' : Nat → Option Loc} : ∀ {t : AV} {cs : List Value}, t.solid = true → RelC w F ρ t cs → RelC w F' ρ' t cs
  | _, _, hs, .sc h => .sc h
  | _, _, hs, .agg h hn => .agg (RelL.solid (by simpa [AV.solid] using hs) h) hn
  | _, _, hs, .arr h hn => .arr (RelE.solid (by simpa [AV.solid] using hs) h) hn
  | _, _, hs, .fro0 h => .fro0 h
  | .fro x es [], _, hs, .fro h1 h2 h3 h4 h5 => .fro0 h4
  | .fro x es (t :: ts), _, hs, .fro h1 h2 h3 h4 h5 => by simp [AV.solid] at hs
  | _, _, hs, .fptr h1 h2 h3 => by simp [AV.solid] at hs
  | _, _, hs, .sl0 => by simp [AV.solid] at hs
  | _, _, hs, .sl h1 h2 h3 h4 => by simp [AV.solid] at hs
  | _, _, hs, .ptr h => by simp [AV.solid] at hs
  | _, _, hs, .clo h => by simp [AV.solid] at hs
theorem RelL.solid {F F' : Nat → Prop} {ρ ρ' : Nat → Option Loc} : ∀ {ts : List AV} {cs : List Value}, AV.solids ts = true → RelL w F ρ ts cs → RelL w F' ρ' ts cs
  | _, _, hs, .nil => .nil
  | _, _, hs, .cons h1 h2 => by
    simp only [AV.solids, Bool.and_eq_true] at hs
    exact .cons (RelC.solid hs.1 h1) (RelL.solid hs.2 h2)
theorem RelE.solid {F F' : Nat → Prop} {es : Nat} : ∀ {ts : List AV} {cs : List Value}, AV.solids ts = true → RelE w F es ts cs → RelE w F' es ts cs
  | _, _, hs, .nil => .nil
  | _, _, hs, .cons h1 h0 h2 => by
    simp only [AV.solids, Bool.and_eq_true] at hs
    exact .cons (RelC.solid hs.1 h1) h0 (RelE.solid hs.2 h2)
end
mutual
theorem RelV.solid {F F' : Nat → Prop} {ρ ρ' : Nat → Option Loc} : ∀ {t : AV} {u : Value}, t.solid = true → RelV w F ρ t u → RelV w F' ρ' t u
  | _, _, hs, .one h ha => .one (h.solid hs) ha
  | _, _, hs, .agg h ha => .agg (h.solid hs) ha
  | _, _, hs, .tup h => .tup (RelVs.solid (by simpa [AV.solid] using hs) h)
  | _, _, hs, .anyb => .anyb
  | _, _, hs, .unk => .unk
theorem RelVs.solid {F F' : Nat → Prop} {ρ ρ' : Nat → Option Loc} : ∀ {ts : List AV} {us : List Value}, AV.solids ts = true → RelVs w F ρ ts us → RelVs w F' ρ' ts us
  | _, _, hs, .nil => .nil
  | _, _, hs, .cons h1 h2 => by
    simp only [AV.solids, Bool.and_eq_true] at hs
    exact .cons (RelV.solid hs.1 h1) (RelVs.solid hs.2 h2)
end

/-- A function that works on own memory: for these arguments and this memory it gives this and leaves that. -/
def Gen (P : Program) (f : Nat) (args : List AV) (σ : St) (v : AV) (τ : St) : Prop :=
  Known P f ∧ ∀ fr G w vs, Own fr G w σ → RelVs w G.F G.ρ args vs → Calls P f vs.toArray w fun e w' => ∃ u G', e = .returned u ∧ Goto fr G w G' w' τ ∧ RelV w' G'.F G'.ρ v u

theorem mapO_idfree {k : Nat} : ∀ {vs vs' : List AV}, mapO (fun v => if v.idfree then some v else none) vs = some vs' → vs' = vs ∧ AV.idfrees vs = true
  | [], vs', h => by
    simp only [mapO, Option.some.injEq] at h
    subst h; exact ⟨rfl, rfl⟩
  | v :: vs, vs', h => by
    simp only [mapO] at h
    split at h
    · rename_i y ys hy hys
      simp only [Option.some.injEq] at h
      subst h
      split at hy
      · rename_i hi
        simp only [Option.some.injEq] at hy
        subst hy
        obtain ⟨rfl, h2⟩ := mapO_idfree (k := k) hys
        exact ⟨rfl, by simp [AV.idfrees, hi, h2]⟩
      · cases hy
    · cases h

theorem RelV.free' {F : Nat → Prop} {ρ ρ' : Nat → Option Loc} {t : AV} {u : Value} (hi : t.idfree = true) (h : RelV w F ρ t u) : RelV w F ρ' t u := by
  cases h with
  | one h ha => exact .one (h.free hi) ha
  | agg h ha => exact .agg (h.free hi) ha
  | tup h => simp [AV.idfree] at hi
  | anyb => exact .anyb
  | unk => exact .unk
theorem RelVs.free' {F : Nat → Prop} {ρ ρ' : Nat → Option Loc} : ∀ {ts : List AV} {us : List Value}, AV.idfrees ts = true → RelVs w F ρ ts us → RelVs w F ρ' ts us
  | _, _, _, .nil => .nil
  | _, _, hi, .cons h1 h2 => by
    simp only [AV.idfrees, Bool.and_eq_true] at hi
    exact .cons (h1.free' hi.1) (RelVs.free' hi.2 h2)

/-- A row of own memory under another name. -/
def ren (id n : Nat) : AV → Option AV
  | .sl i p off k len es => if i = id then some (.sl n p off k len es) else none
  | v => if v.idfree && v.solid then some v else none

def renT (id n : Nat) : AV → Option AV
  | .tup ts =>
    match mapO (ren id n) ts with
    | some us => some (.tup us)
    | none => none
  | v => ren id n v

theorem ren_rel {F F' : Nat → Prop} {ρ ρ' : Nat → Option Loc} {id n : Nat} (hρ : ∀ l, ρ id = some l → ρ' n = some l) : ∀ {v v' : AV} {u : Value}, ren id n v = some v' → RelV w F ρ v u → RelV w F' ρ' v' u := by
  intro v v' u h hr
  unfold ren at h
  split at h
  · split at h
    · rename_i hi
      subst hi
      simp only [Option.some.injEq] at h
      subst h
      cases hr with
      | one h1 h2 =>
        cases h1 with
        | sl0 => exact .one .sl0 rfl
        | sl g1 g2 g3 g4 => exact .one (.sl (hρ _ g1) g2 g3 g4) rfl
      | agg h1 h2 => simp [AV.isAgg] at h2
    · cases h
  · split at h
    · rename_i hi
      simp only [Option.some.injEq] at h
      subst h
      simp only [Bool.and_eq_true] at hi
      exact hr.solid hi.2
    · cases h

theorem rens_rel {F F' : Nat → Prop} {ρ ρ' : Nat → Option Loc} {id n : Nat} (hρ : ∀ l, ρ id = some l → ρ' n = some l) : ∀ {vs vs' : List AV} {us : List Value}, mapO (ren id n) vs = some vs' → RelVs w F ρ vs us → RelVs w F' ρ' vs' us
  | _, vs', _, h, .nil => by
    simp only [mapO, Option.some.injEq] at h
    subst h; exact .nil
  | _, vs', _, h, .cons h1 h2 => by
    simp only [mapO] at h
    split at h
    · rename_i y ys hy hys
      simp only [Option.some.injEq] at h
      subst h
      exact .cons (ren_rel hρ hy h1) (rens_rel hρ hys h2)
    · cases h

theorem renT_rel {F F' : Nat → Prop} {ρ ρ' : Nat → Option Loc} {id n : Nat} (hρ : ∀ l, ρ id = some l → ρ' n = some l) {v v' : AV} {u : Value} (h : renT id n v = some v') (hr : RelV w F ρ v u) : RelV w F' ρ' v' u := by
  unfold renT at h
  split at h
  · split at h
    · rename_i us hus
      simp only [Option.some.injEq] at h
      subst h
      obtain ⟨vs, rfl, h2⟩ := hr.tup_inv
      exact .tup (rens_rel hρ hus h2)
    · cases h
  · exact ren_rel hρ h hr

/-- One row alone. -/
def oneH (t : AV) : Nat → Option AV := fun i => if i = 0 then some t else none

/-- A function that leaves memory alone and gives a row of its own making, under the name 0. -/
def Makes (P : Program) (f : Nat) (args : List AV) (r t : AV) : Prop :=
  Known P f ∧ t.solid = true ∧ t.idfree = true ∧ ∀ (w : World) (F : Nat → Prop) (vs : List Value), (∀ b, F b → b < w.heap.size) → RelVs w F noIds args vs →
    Calls P f vs.toArray w fun e w' => ∃ u G', e = .returned u ∧ Below w.heap.size w w' ∧ Wf G' w' (oneH t) (fun i => 1 ≤ i) ∧ (∀ b o, G'.ρ 0 = some (b, o) → w.heap.size ≤ b) ∧ (∀ b, F b → G'.F b) ∧ RelV w' G'.F G'.ρ r u

theorem make_of {q : Nat → Bool} {C : Orc} (hmix : P.follows .mixedOrders = true) (hC : OrcOk P C) (hq : Quiet q C) {f nt : Nat} {rs : List AR} {ac : AC} (hF : trF P q f = some (nt, rs, ac)) {args : List AV} {r t : AV} (hlen : args.length ≤ nt) (hs : t.solid = true) (hi : t.idfree = true)
    (h : wpC C ac ⟨envOf 0 args, [], fun _ => none, 0⟩ (retP rs fun v τ => (∃ id, τ.H id = some t ∧ renT id 0 v = some r) ∨ ∃ es' es, v = .fro true es' [] ∧ t = .arr 0 es [] ∧ r = .sl 0 [] 0 0 0 es)) : Makes P f args r t := by
  refine ⟨trF_known hF, hs, hi, fun w F vs hFs hr => ?_⟩
  have hown : Own ⟨w, fun _ => False, F, 0⟩ ⟨noIds, F⟩ w ⟨envOf 0 args, [], fun _ => none, 0⟩ :=
    ⟨⟨fun i _ => ⟨rfl, rfl⟩, hFs, fun i t hi => (by cases hi), fun i j b o o' hi => absurd rfl hi⟩, ⟨rfl, rfl, rfl, Nat.le_refl _, fun _ _ _ => rfl, Ext.refl _ _, fun _ h => h, fun _ h => .inl h, fun i b o hi => absurd rfl hi⟩⟩
  refine (enter hmix hC hq hF hlen hown hr h).mono fun e w' ⟨u, G', v, τ, he, hgo, hrel, hk⟩ => ?_
  rcases hk with ⟨id, hid, hk⟩ | ⟨es', es, rfl, rfl, rfl⟩
  case inr =>
    obtain ⟨a, cap, rfl, _, hcap, _⟩ := hrel.fro_inv
    obtain rfl := hcap rfl
    refine ⟨_, ⟨fun _ => none, G'.F⟩, he, ⟨hgo.fr.os, hgo.fr.tape, hgo.fr.output, hgo.fr.size, fun b hb => hgo.fr.same b hb (fun h => h)⟩, ⟨fun i hi => ⟨?_, rfl⟩, hgo.wf.fsz, fun i t' hi' => .inr ⟨rfl, es, ?_⟩, fun i j b o o' hi hj h1 => (by cases h1)⟩, fun b o hb => (by cases hb), fun b hb => hgo.leF b hb, .one .sl0 rfl⟩
    · have : i ≠ 0 := by omega
      simp [oneH, this]
    · unfold oneH at hi'
      split at hi'
      · simpa using hi'.symm
      · cases hi'
  refine ⟨u, ⟨fun i => if i = 0 then G'.ρ id else none, G'.F⟩, he, ⟨hgo.fr.os, hgo.fr.tape, hgo.fr.output, hgo.fr.size, fun b hb => hgo.fr.same b hb (fun h => h)⟩, ⟨fun i hi => ?_, hgo.wf.fsz, fun i t' hi' => ?_, fun i j b o o' hi hj _ _ => ?_⟩, fun b o hb => ?_, fun b hb => hgo.leF b hb, renT_rel (fun l hl => by simpa using hl) hk hrel⟩
  · have : i ≠ 0 := by omega
    exact ⟨by simp [oneH, this], by simp [this]⟩
  · unfold oneH at hi'
    split at hi'
    · rename_i h0
      subst h0
      simp only [Option.some.injEq] at hi'
      subst hi'
      rcases hgo.wf.blk id _ hid with ⟨b, o, cs, cur, e, g1, g2, g3, g4, g5⟩ | g1
      · exact .inl ⟨b, o, cs, cur, e, by simpa using g1, g2.free hi, g3, g4, g5⟩
      · exact .inr ⟨by simpa using g1.1, g1.2⟩
    · cases hi'
  · unfold oneH at hi hj
    split at hi
    · split at hj
      · omega
      · exact absurd rfl hj
    · exact absurd rfl hi
  · simp only [if_true] at hb
    rcases hgo.fr.loc id b o (by rw [hid]; simp) hb with h | h
    · cases h
    · exact h

/-- All that is known of calls. -/
def Ok (P : Program) (q : Nat → Bool) : Orc := fun f args σ v τ =>
  (τ = σ ∧ AV.idfrees args = true ∧ Pure P f args v) ∨ (τ = σ ∧ v.solid = true ∧ ∃ k args', mapO (frz σ k) args = some args' ∧ Pure P f args' v) ∨ (q f = false ∧ q (f + 1000000) = false ∧ Gen P f args σ v τ) ∨
  (q f = false ∧ ∃ k args' r t, mapO (frz σ k) args = some args' ∧ Makes P f args' r t ∧ renT 0 σ.n r = some v ∧ τ = σ.new t)

theorem row_same {σ σ' : St} {G : Gh} (hs : ∀ i, G.ρ i ≠ none → σ.H i = none ∨ σ'.H i = σ.H i) {es : Nat} {v : AV} {u : Value} {ts : List AV} (hr : RelV w G.F G.ρ v u) (h : σ.row es v = some ts) : σ'.row es v = some ts := by
  cases v <;> try exact h
  rename_i id path off k len es2
  simp only [St.row] at h ⊢
  split
  · rename_i h0
    rw [if_pos h0] at h; exact h
  · rename_i h0
    rw [if_neg h0] at h
    have hid : G.ρ id ≠ none := by
      obtain ⟨a, cap, _, _, h3⟩ := hr.sl_inv
      rcases h3 with ⟨h3, _⟩ | ⟨b, o, _, _, _, h4, _⟩
      · exact absurd h3 h0
      · rw [h4]; simp
    rcases hs id hid with h1 | h1
    · rw [h1] at h; cases h
    · rw [h1]; exact h

theorem loadA_same {σ σ' : St} {G : Gh} (hs : ∀ i, G.ρ i ≠ none → σ.H i = none ∨ σ'.H i = σ.H i) {v : AV} {u : Value} {t : AV} (hr : RelV w G.F G.ρ v u) (h : σ.loadA v = some t) : σ'.loadA v = some t := by
  cases v <;> try exact h
  rename_i id path off
  obtain ⟨b, o, h4, _⟩ := hr.ptr_inv
  simp only [St.loadA] at h ⊢
  rcases hs id (by rw [h4]; simp) with h1 | h1
  · rw [h1] at h; cases h
  · rw [h1]; exact h

theorem mapO_same {f g : AV → Option AV} : ∀ {l us : List AV}, (∀ t ∈ l, ∀ u, f t = some u → g t = some u) → mapO f l = some us → mapO g l = some us
  | [], us, hf, h => h
  | x :: l, us, hf, h => by
    simp only [mapO] at h ⊢
    split at h
    · rename_i y ys hy hys
      rw [hf x (by simp) y hy, mapO_same (fun t ht => hf t (by simp [ht])) hys]
      exact h
    · cases h

theorem RelL.mem {F : Nat → Prop} {ρ : Nat → Option Loc} : ∀ {ts : List AV} {cs : List Value}, RelL w F ρ ts cs → ∀ t ∈ ts, ∃ c, RelC w F ρ t c
  | _, _, .nil, t, ht => by cases ht
  | _, _, .cons h1 h2, t, ht => by
    rcases List.mem_cons.1 ht with rfl | ht
    · exact ⟨_, h1⟩
    · exact RelL.mem h2 t ht
theorem RelO.mem {F : Nat → Prop} {ρ : Nat → Option Loc} : ∀ {ts : List AV} {cs : List Value}, RelO w F ρ ts cs → ∀ t ∈ ts, ∃ c, RelC w F ρ t c
  | _, _, .nil, t, ht => by cases ht
  | _, _, .cons h1 _ h2, t, ht => by
    rcases List.mem_cons.1 ht with rfl | ht
    · exact ⟨_, h1⟩
    · exact RelO.mem h2 t ht
theorem RelVs.mem {F : Nat → Prop} {ρ : Nat → Option Loc} : ∀ {ts : List AV} {vs : List Value}, RelVs w F ρ ts vs → ∀ t ∈ ts, ∃ x, RelV w F ρ t x
  | _, _, .nil, t, ht => by cases ht
  | _, _, .cons h1 h2, t, ht => by
    rcases List.mem_cons.1 ht with rfl | ht
    · exact ⟨_, h1⟩
    · exact RelVs.mem h2 t ht
theorem RelC.toV {F : Nat → Prop} {ρ : Nat → Option Loc} {t : AV} {cs : List Value} (h : RelC w F ρ t cs) : ∃ u, RelV w F ρ t u := by
  cases ha : t.isAgg with
  | true => exact ⟨_, .agg h ha⟩
  | false =>
    obtain ⟨v, rfl⟩ := h.single ha
    exact ⟨v, .one h ha⟩

theorem frz_same {σ σ' : St} {G : Gh} {U : Nat → Prop} (hw : Wf G w σ'.H U) (hs : ∀ i, G.ρ i ≠ none → σ.H i = none ∨ σ'.H i = σ.H i) : ∀ (k : Nat) (v v' : AV) (u : Value), RelV w G.F G.ρ v u → frz σ k v = some v' → frz σ' k v = some v'
  | 0, v, v', u, hr, h => h
  | k + 1, v, v', u, hr, h => by
    have ih := frz_same hw hs k
    cases v with
    | sl id path off kk len es =>
      simp only [frz] at h ⊢
      split at h
      · rename_i ts hrow
        rw [row_same hs hr hrow]; exact h
      · cases h
    | ptr id path off =>
      simp only [frz] at h ⊢
      split at h
      · rename_i t ht
        have h1 := loadA_same hs hr ht
        rw [h1]
        obtain ⟨b, o, cs, _, h2, _⟩ := loadA_rel hw (fun k t h => h) h1 hr
        obtain ⟨u', h3⟩ := h2.toV
        simp only
        split at h
        · rename_i t' ht'
          rw [ih t t' u' h3 ht']; exact h
        · cases h
      · cases h
    | agg n ts =>
      simp only [frz] at h ⊢
      split at h
      · rename_i us hus
        rw [mapO_same (fun t ht u' hu => ?_) hus]
        · exact h
        · cases hr with
          | one h1 h2 => simp [AV.isAgg] at h2
          | agg h1 h2 =>
            cases h1 with
            | agg hl hn =>
              obtain ⟨c, hc⟩ := hl.mem t ht
              obtain ⟨x, hx⟩ := hc.toV
              exact ih t u' x hx hu
      · cases h
    | clo f ts =>
      simp only [frz] at h ⊢
      split at h
      · rename_i us hus
        rw [mapO_same (fun t ht u' hu => ?_) hus]
        · exact h
        · cases hr with
          | one h1 h2 =>
            cases h1 with
            | clo hl =>
              obtain ⟨c, hc⟩ := hl.mem t ht
              obtain ⟨x, hx⟩ := hc.toV
              exact ih t u' x hx hu
          | agg h1 h2 => simp [AV.isAgg] at h2
      · cases h
    | tup ts =>
      simp only [frz] at h ⊢
      split at h
      · rename_i us hus
        rw [mapO_same (fun t ht u' hu => ?_) hus]
        · exact h
        · obtain ⟨vs, _, hvs⟩ := hr.tup_inv
          obtain ⟨x, hx⟩ := hvs.mem t ht
          exact ih t u' x hx hu
      · cases h
    | sc v => exact h
    | arr n es ts => exact h
    | fro x es ts => exact h
    | fptr t => exact h
    | anyb => exact h
    | unk => exact h

theorem frz_const {σ σ' : St} {v v' : AV} {k : Nat} (hc : okConst v = true) (h : frz σ k v = some v') : frz σ' k v = some v' := by
  cases k with
  | zero => exact h
  | succ k =>
    cases v <;> first | (exact h) | (cases hc; done) | skip
    rename_i f cs
    cases cs with
    | nil => exact h
    | cons c cs => cases hc

theorem Ok.quiet {q : Nat → Bool} : Quiet q (Ok P q) := by
  refine ⟨fun f args σ v τ h hq => ?_, fun f args σ v τ h hq => ?_, fun f args σ v τ h hq σ' G w U hw ha hs => ?_⟩
  · rcases h with ⟨rfl, _⟩ | ⟨rfl, _⟩ | ⟨h, _⟩ | ⟨h, _⟩
    · exact ⟨rfl, rfl, rfl⟩
    · exact ⟨rfl, rfl, rfl⟩
    · rw [hq] at h; cases h
    · rw [hq] at h; cases h
  · rcases h with ⟨rfl, _⟩ | ⟨rfl, _⟩ | ⟨_, h, _⟩ | ⟨_, k, args', r, t, _, _, _, rfl⟩
    · exact ⟨fun _ _ => rfl, Nat.le_refl _⟩
    · exact ⟨fun _ _ => rfl, Nat.le_refl _⟩
    · rw [hq] at h; cases h
    · refine ⟨fun i hi => ?_, Nat.le_succ _⟩
      show look ((σ.n, some t) :: σ.hl) σ.hb i = look σ.hl σ.hb i
      simp only [look]
      rw [if_neg (by omega)]
  · rcases h with ⟨rfl, hi, hp⟩ | ⟨rfl, hsol, k, args', hm, hp⟩ | ⟨h, _⟩ | ⟨h, _⟩
    · exact .inl ⟨rfl, hi, hp⟩
    · refine .inr (.inl ⟨rfl, hsol, k, args', mapO_same (fun t ht u hu => ?_) hm, hp⟩)
      rcases ha t ht with h1 | ⟨x, hx⟩
      · exact frz_const h1 hu
      · exact frz_same hw hs k t u x hx hu
    · rw [hq] at h; cases h
    · rw [hq] at h; cases h

theorem Ok.ok {q : Nat → Bool} : OrcOk P (Ok P q) := by
  intro f args σ v τ h
  rcases h with ⟨rfl, hi, hk, hp⟩ | ⟨rfl, hs, k, args', hm, hk, hp⟩ | ⟨_, _, hk, hp⟩ | ⟨_, k, args', r, t, hm, ⟨hk, hs, hi, hp⟩, hr0, rfl⟩
  · refine ⟨hk, fun fr G w vs hown hr => (hp w G.F vs hown.1.fsz (hr.free' hi)).mono fun e w' ⟨u, F', he, hb, h1, h2, hrel⟩ => ?_⟩
    exact ⟨u, ⟨G.ρ, F'⟩, he, Nxt.below hown.1 hown.2 hb h1 h2, hrel.mono (Ext.refl _ _) (fun _ h => h) noIds_le⟩
  · refine ⟨hk, fun fr G w vs hown hr => (hp w (FF G _) vs (fun b hb => FF_lt hown hb) (frzVs hown k _ _ _ hr hm)).mono fun e w' ⟨u, F', he, hb, h1, h2, hrel⟩ => ?_⟩
    exact ⟨u, G, he, Nxt.below hown.1 hown.2 hb (fun _ h => h) (fun b h => ⟨.inl h, Nat.lt_of_lt_of_le (hown.1.fsz b h) hb.size⟩), hrel.solid hs⟩
  · exact ⟨hk, fun fr G w vs hown hr => hp fr G w vs hown hr⟩
  · refine ⟨hk, fun fr G w vs hown hr => (hp w (FF G _) vs (fun b hb => FF_lt hown hb) (frzVs hown k _ _ _ hr hm)).mono fun e w' ⟨u, G', he, hb, hwf, hloc, hF, hrel⟩ => ?_⟩
    have hn := hown.1.free σ.n (Nat.le_refl _)
    have hbase := Nxt.below hown.1 hown.2 hb (fun _ h => h) (fun b h => ⟨.inl h, Nat.lt_of_lt_of_le (hown.1.fsz b h) hb.size⟩)
    have hle : ∀ i l, G.ρ i = some l → upd G.ρ σ.n (G'.ρ 0) i = some l := fun i l hi => by
      rw [upd_ne _ _ (fun e => by rw [e, hn.2] at hi; cases hi)]
      exact hi
    have hH : (σ.new t).H = upd σ.H σ.n (some t) := by funext j; simp [St.new, St.H, look, upd]
    have hold : ∀ (i b o : Nat), σ.H i ≠ none → G.ρ i = some (b, o) → b < w.heap.size := fun i b o hi hr => by
      cases hi' : σ.H i with
      | none => exact absurd hi' hi
      | some t' =>
        rcases hown.1.blk i t' hi' with ⟨b', o', cs, cur, e, g1, g2, g3, _⟩ | ⟨g1, _⟩
        · rw [hr] at g1
          simp only [Option.some.injEq, Prod.mk.injEq] at g1
          rw [g1.1]; exact lt_of_block g3
        · rw [hr] at g1; cases g1
    refine ⟨u, ⟨upd G.ρ σ.n (G'.ρ 0), G.F⟩, he, ?_, renT_rel (fun l hl => by show upd G.ρ σ.n (G'.ρ 0) σ.n = some l; rw [upd_self]; exact hl) hr0 hrel⟩
    unfold Goto
    rw [hH]
    refine ⟨⟨fun i hi => ?_, hbase.wf.fsz, fun i t' hi' => ?_, fun i j b o o' hi hj hri hrj => ?_⟩, ⟨hbase.fr.os, hbase.fr.tape, hbase.fr.output, hbase.fr.size, hbase.fr.same, hbase.fr.ext, hbase.fr.f0, hbase.fr.fnew, fun i b o hi hri => ?_⟩, hbase.ext, fun _ h => h, hle⟩
    · have hi' : σ.n + 1 ≤ i := hi
      have hne : i ≠ σ.n := by omega
      have := hown.1.free i (by omega : σ.n ≤ i)
      rw [upd_ne _ _ hne]
      exact ⟨this.1, by show upd G.ρ σ.n _ i = none; rw [upd_ne _ _ hne]; exact this.2⟩
    · by_cases hin : i = σ.n
      · subst hin
        rw [upd_self] at hi'
        simp only [Option.some.injEq] at hi'
        subst hi'
        rcases hwf.blk 0 t (by simp [oneH]) with ⟨b, o, cs, cur, e, g1, g2, g3, g4, g5⟩ | g1
        · refine .inl ⟨b, o, cs, cur, e, by show upd G.ρ σ.n _ _ = _; rw [upd_self]; exact g1, g2.solid hs, g3, g4, fun h => ?_⟩
          have h1 := hloc b o g1
          have h2 := hown.1.fsz b h
          omega
        · exact .inr ⟨by show upd G.ρ σ.n _ _ = _; rw [upd_self]; exact g1.1, g1.2⟩
      · rw [upd_ne _ _ hin] at hi'
        rcases hbase.wf.blk i t' hi' with ⟨b, o, cs, cur, e, g1, g2, g3, g4, g5⟩ | g1
        · exact .inl ⟨b, o, cs, cur, e, hle _ _ g1, g2.mono (Ext.refl _ _) (fun _ h => h) hle, g3, g4, g5⟩
        · exact .inr ⟨by show upd G.ρ σ.n _ _ = _; rw [upd_ne _ _ hin]; exact g1.1, g1.2⟩
    · change upd G.ρ σ.n _ i = _ at hri
      change upd G.ρ σ.n _ j = _ at hrj
      by_cases hin : i = σ.n
      · by_cases hjn : j = σ.n
        · rw [hin, hjn]
        · rw [hin, upd_self] at hri
          rw [upd_ne _ _ hjn] at hrj hj
          have h1 := hloc b o hri
          have h2 := hold j b o' hj hrj
          omega
      · rw [upd_ne _ _ hin] at hri hi
        by_cases hjn : j = σ.n
        · rw [hjn, upd_self] at hrj
          have h1 := hloc b o' hrj
          have h2 := hold i b o hi hri
          omega
        · rw [upd_ne _ _ hjn] at hrj hj
          exact hown.1.dis i j b o o' hi hj hri hrj
    · change upd G.ρ σ.n _ i = _ at hri
      by_cases hin : i = σ.n
      · rw [hin, upd_self] at hri
        have h1 := hloc b o hri
        have h2 := hown.2.size
        exact .inr (by omega)
      · rw [upd_ne _ _ hin] at hri hi
        exact hown.2.loc i b o hi hri

/-- A call in a walk. -/
theorem call_pure {q : Nat → Bool} {d : Option Nat} {f : Nat} {args : List AX} {r : List AG} {K : St → Prop} {v : AV} (hp : Pure P f (args.map σ.ev) v) (hi : AV.idfrees (args.map σ.ev) = true) (h : wpOps (Ok P q) r (σ.put d v) K) :
    wpOps (Ok P q) (⟨d, .call f args, none⟩ :: r) σ K := ⟨v, σ, .inl ⟨rfl, hi, hp⟩, h⟩
theorem call_lend {q : Nat → Bool} {d : Option Nat} {f : Nat} {args : List AX} {r : List AG} {K : St → Prop} {v : AV} (k : Nat) {args' : List AV} (hm : mapO (frz σ k) (args.map σ.ev) = some args') (hp : Pure P f args' v) (hs : v.solid = true) (h : wpOps (Ok P q) r (σ.put d v) K) :
    wpOps (Ok P q) (⟨d, .call f args, none⟩ :: r) σ K := ⟨v, σ, .inr (.inl ⟨rfl, hs, k, args', hm, hp⟩), h⟩
theorem call_gen {q : Nat → Bool} {d : Option Nat} {f : Nat} {args : List AX} {r : List AG} {K : St → Prop} {v : AV} {τ : St} (hq : q f = false) (hq2 : q (f + 1000000) = false) (hp : Gen P f (args.map σ.ev) σ v τ) (h : wpOps (Ok P q) r ((σ.back τ).put d v) K) :
    wpOps (Ok P q) (⟨d, .call f args, none⟩ :: r) σ K := ⟨v, τ, .inr (.inr (.inl ⟨hq, hq2, hp⟩)), h⟩
theorem call_make {q : Nat → Bool} {d : Option Nat} {f : Nat} {args : List AX} {rr : List AG} {K : St → Prop} {v r t : AV} (hq : q f = false) (k : Nat) {args' : List AV} (hm : mapO (frz σ k) (args.map σ.ev) = some args') (hp : Makes P f args' r t) (hr : renT 0 σ.n r = some v) (h : wpOps (Ok P q) rr ((σ.new t).put d v) K) :
    wpOps (Ok P q) (⟨d, .call f args, none⟩ :: rr) σ K := ⟨v, σ.new t, .inr (.inr (.inr ⟨hq, k, args', r, t, hm, hp, hr, rfl⟩)), h⟩
theorem callv_pure {q : Nat → Bool} {d : Option Nat} {x : AX} {f : Nat} {caps : List AV} {args : List AX} {r : List AG} {K : St → Prop} {v : AV} (hx : σ.ev x = .clo f caps) (hp : Pure P f (args.map σ.ev ++ caps) v) (hi : AV.idfrees (args.map σ.ev ++ caps) = true) (h : wpOps (Ok P q) r (σ.put d v) K) :
    wpOps (Ok P q) (⟨d, .callv x args, none⟩ :: r) σ K := by
  unfold wpOps
  simp only [hx]
  exact ⟨v, σ, .inl ⟨rfl, hi, hp⟩, ⟨rfl, rfl, rfl⟩, h⟩
theorem callv_lend {q : Nat → Bool} {d : Option Nat} {x : AX} {f : Nat} {caps : List AV} {args : List AX} {r : List AG} {K : St → Prop} {v : AV} (hx : σ.ev x = .clo f caps) (k : Nat) {args' : List AV} (hm : mapO (frz σ k) (args.map σ.ev ++ caps) = some args') (hp : Pure P f args' v) (hs : v.solid = true)
    (h : wpOps (Ok P q) r (σ.put d v) K) : wpOps (Ok P q) (⟨d, .callv x args, none⟩ :: r) σ K := by
  unfold wpOps
  simp only [hx]
  exact ⟨v, σ, .inr (.inl ⟨rfl, hs, k, args', hm, hp⟩), ⟨rfl, rfl, rfl⟩, h⟩
end

theorem wpOps_mono {C : Orc} {K K' : St → Prop} (hK : ∀ σ, K σ → K' σ) : ∀ (l : List AG) (σ : St), wpOps C l σ K → wpOps C l σ K'
  | [], σ, h => hK σ h
  | ⟨d, o, g⟩ :: r, σ, h => by
    have ih : ∀ σ, wpOps C r σ K → wpOps C r σ K' := wpOps_mono hK r
    have run : ∀ o, wpOps C (⟨d, o, none⟩ :: r) σ K → wpOps C (⟨d, o, none⟩ :: r) σ K' := fun o h => by
      unfold wpOps at h ⊢
      simp only at h ⊢
      split at h
      · obtain ⟨v, τ, h1, h2⟩ := h
        exact ⟨v, τ, h1, ih _ h2⟩
      · split at h
        · obtain ⟨v, τ, h1, h3, h2⟩ := h
          exact ⟨v, τ, h1, h3, ih _ h2⟩
        · cases h
      · split at h
        · exact ih _ h
        · cases h
    cases g with
    | none => exact run o h
    | some g =>
      obtain ⟨t, b⟩ := g
      rw [wpOps_guard] at h ⊢
      unfold wpGd wpG at h ⊢
      split at h
      · exact ⟨fun hb => run o (h.1 hb), fun hb => ih _ (h.2 hb)⟩
      · exact ih _ h
      · cases h

theorem wpC_mono {C : Orc} : ∀ (Ψ Ψ' : AE → St → Prop), (∀ e σ, Ψ e σ → Ψ' e σ) → ∀ (c : AC) (σ : St), wpC C c σ Ψ → wpC C c σ Ψ'
  | Ψ, Ψ', hΨ, .skip, σ, h => hΨ _ _ h
  | Ψ, Ψ', hΨ, .ops l, σ, h => wpOps_mono (hΨ .normal) l σ h
  | Ψ, Ψ', hΨ, .seq a b, σ, h => wpC_mono _ _ (fun e τ he => by
      cases e with
      | normal => exact wpC_mono _ _ hΨ b τ he
      | exit _ => exact hΨ _ _ he
      | ret => exact hΨ _ _ he) a σ h
  | Ψ, Ψ', hΨ, .cond c x y, σ, h => by
    unfold wpC at h ⊢
    split at h
    · exact ⟨fun hb => wpC_mono _ _ hΨ x σ (h.1 hb), fun hb => wpC_mono _ _ hΨ y σ (h.2 hb)⟩
    · exact ⟨wpC_mono _ _ hΨ x σ h.1, wpC_mono _ _ hΨ y σ h.2⟩
    · cases h
  | Ψ, Ψ', hΨ, .block id c, σ, h => wpC_mono _ _ (fun e τ he => by
      cases e with
      | normal => exact hΨ _ _ he
      | exit i =>
        simp only [AE.inBlock] at he ⊢
        split at he
        · rename_i hi; rw [if_pos hi]; exact hΨ _ _ he
        · rename_i hi; rw [if_neg hi]; exact hΨ _ _ he
      | ret => exact hΨ _ _ he) c σ h
  | Ψ, Ψ', hΨ, .loop c, σ, h => by
    unfold wpC at h ⊢
    obtain ⟨Inv, μ, h0, hr⟩ := h
    refine ⟨Inv, μ, h0, fun τ hτ => wpC_mono _ _ (fun e τ he => ?_) c τ (hr τ hτ)⟩
    cases e with
    | normal => exact he
    | exit _ => exact hΨ _ _ he
    | ret => exact hΨ _ _ he
  | Ψ, Ψ', hΨ, .exit id, σ, h => hΨ _ _ h
  | Ψ, Ψ', hΨ, .ret, σ, h => hΨ _ _ h

def agrees : List (Nat × AV) → List (Nat × AV) → Prop
  | [], _ => True
  | (k, v) :: r, e => leA (get e k) v ∧ agrees r e

def agreesH : List (Nat × Option AV) → List (Nat × Option AV) → (Nat → Option AV) → Prop
  | [], _, _ => True
  | (k, v) :: r, hl, hb => look hl hb k = v ∧ agreesH r hl hb

theorem agrees_get : ∀ {l e : List (Nat × AV)}, agrees l e → ∀ i, leA (get e i) (get l i)
  | [], e, h, i => .inl rfl
  | (k, v) :: r, e, h, i => by
    simp only [get]
    by_cases hi : i = k
    · subst hi
      rw [if_pos rfl]
      exact h.1
    · rw [if_neg hi]
      exact agrees_get h.2 i

theorem agreesH_look : ∀ {l hl : List (Nat × Option AV)} {hb : Nat → Option AV}, agreesH l hl hb → ∀ i, look l (fun _ => none) i = none ∨ look l (fun _ => none) i = look hl hb i
  | [], e, hb, h, i => .inl rfl
  | (k, v) :: r, e, hb, h, i => by
    simp only [look]
    by_cases hi : i = k
    · subst hi
      rw [if_pos rfl]
      exact .inr h.1.symm
    · rw [if_neg hi]
      exact agreesH_look h.2 i

theorem weak_of {e env : List (Nat × AV)} {hl hl' : List (Nat × Option AV)} {hb : Nat → Option AV} {n n' : Nat} (h1 : agrees env e) (h2 : agreesH hl' hl hb) (h3 : n ≤ n') : Weak ⟨e, hl, hb, n⟩ ⟨env, hl', fun _ => none, n'⟩ :=
  ⟨agrees_get h1, agreesH_look h2, h3⟩

/-- A loop whose states are numbered. -/
theorem wpC_for {C : Orc} {c : AC} {σ : St} {Φ : AE → St → Prop} {ι : Type} (S : ι → St) (V : ι → Prop) (m : ι → Nat) (i0 : ι) (hV : V i0) (h0 : Weak σ (S i0)) (hr : ∀ i, V i → wpC C c (S i) (AE.then (fun τ => ∃ j, V j ∧ Weak τ (S j) ∧ m j < m i) Φ)) : wpC C (.loop c) σ Φ := by
  have hmin : ∀ τ, ∃ n : Nat, (∃ k, ∃ i, V i ∧ S i = τ ∧ m i = k) → (∃ i, V i ∧ S i = τ ∧ m i = n) ∧ ∀ k, (∃ i, V i ∧ S i = τ ∧ m i = k) → n ≤ k := fun τ => by
    by_cases hex : ∃ k, ∃ i, V i ∧ S i = τ ∧ m i = k
    · obtain ⟨n, h1, h2⟩ := least _ hex
      exact ⟨n, fun _ => ⟨h1, h2⟩⟩
    · exact ⟨0, fun h => absurd h hex⟩
  refine ⟨fun τ => ∃ i, V i ∧ S i = τ, fun τ => Classical.choose (hmin τ), ⟨S i0, h0, i0, hV, rfl⟩, fun τ hτ => ?_⟩
  obtain ⟨i, hi, hS⟩ := hτ
  obtain ⟨⟨i, hi, hS, hmi⟩, _⟩ := Classical.choose_spec (hmin τ) ⟨m i, i, hi, hS, rfl⟩
  subst hS
  have := hr i hi
  have hmono : ∀ (Ψ Ψ' : AE → St → Prop), (∀ e σ, Ψ e σ → Ψ' e σ) → ∀ (c : AC) (σ : St), wpC C c σ Ψ → wpC C c σ Ψ' := wpC_mono
  refine hmono _ _ (fun e τ he => ?_) c _ this
  cases e with
  | normal =>
    obtain ⟨j, hj, hw, hlt⟩ := he
    refine ⟨S j, hw, ⟨j, hj, rfl⟩, ?_⟩
    have h2 := (Classical.choose_spec (hmin (S j)) ⟨m j, j, hj, rfl, rfl⟩).2 _ ⟨j, hj, rfl, rfl⟩
    show Classical.choose (hmin (S j)) < Classical.choose (hmin (S i))
    omega
  | exit _ => exact he
  | ret => exact he
end Go.Ra
