/- Heaps of abstract values in worlds; how a world may go on. -/
import Derived.Test.YtfobbfdbojednaaRaB
import Derived.Below
namespace Go.Ra
set_option linter.unusedVariables false

structure Gh where
  ρ : Nat → Option Loc
  F : Nat → Prop

def upd {α : Type} (f : Nat → α) (i : Nat) (x : α) : Nat → α := fun j => if j = i then x else f j
theorem upd_self {α : Type} (f : Nat → α) (i : Nat) (x : α) : upd f i x i = x := by simp [upd]
theorem upd_ne {α : Type} (f : Nat → α) {i j : Nat} (x : α) (h : j ≠ i) : upd f i x j = f j := by simp [upd, h]

structure Wf (G : Gh) (w : World) (H : Nat → Option AV) (U : Nat → Prop) : Prop where
  free : ∀ i, U i → H i = none ∧ G.ρ i = none
  fsz : ∀ b, G.F b → b < w.heap.size
  blk : ∀ i t, H i = some t →
    (∃ (b o : Nat) (cs : List Value) (cur : Array Value) (e : TypeId), G.ρ i = some (b, o) ∧ RelC w G.F G.ρ t cs ∧ w.heap[b]? = some (Obj.cells cur e (0, 0)) ∧ Reads w b o cs ∧ ¬ G.F b) ∨
    (G.ρ i = none ∧ ∃ es, t = .arr 0 es [])
  dis : ∀ (i j b o o' : Nat), H i ≠ none → H j ≠ none → G.ρ i = some (b, o) → G.ρ j = some (b, o') → i = j

structure Fr where
  w0 : World
  S : Nat → Prop
  F0 : Nat → Prop
  nt : Nat

structure FrOk (fr : Fr) (G : Gh) (w : World) (H : Nat → Option AV) : Prop where
  os : w.os = fr.w0.os
  tape : w.tape = fr.w0.tape
  output : w.output = fr.w0.output
  size : fr.w0.heap.size ≤ w.heap.size
  same : ∀ b, b < fr.w0.heap.size → ¬ fr.S b → w.heap[b]? = fr.w0.heap[b]?
  ext : Ext fr.F0 fr.w0 w
  f0 : ∀ b, fr.F0 b → G.F b
  fnew : ∀ b, G.F b → fr.F0 b ∨ fr.S b ∨ fr.w0.heap.size ≤ b
  loc : ∀ (i b o : Nat), H i ≠ none → G.ρ i = some (b, o) → fr.S b ∨ fr.w0.heap.size ≤ b

/-- From one world to a later one. -/
structure Nxt (fr : Fr) (G : Gh) (w : World) (G' : Gh) (w' : World) (H' : Nat → Option AV) (U' : Nat → Prop) : Prop where
  wf : Wf G' w' H' U'
  fr : FrOk fr G' w' H'
  ext : Ext G.F w w'
  leF : ∀ b, G.F b → G'.F b
  leR : ∀ i l, G.ρ i = some l → G'.ρ i = some l

theorem Ext.trans {F F' : Nat → Prop} {a b c : World} (h : Ext F a b) (k : Ext F' b c) (hF : ∀ x, F x → F' x) : Ext F a c :=
  ⟨fun x hx => (k.same x (hF x hx)).trans (h.same x hx), fun x cur e hx => by
    obtain ⟨c1, h1, h2⟩ := h.rows x cur e hx
    obtain ⟨c2, h3, h4⟩ := k.rows x c1 e h1
    exact ⟨c2, h3, h4.trans h2⟩⟩

theorem Reads.of_block {w w' : World} {b o : Nat} {cs : List Value} (h : Reads w b o cs) (hb : w'.heap[b]? = w.heap[b]?) : Reads w' b o cs := by
  intro j v hj
  rw [World.cell?_of_block (a := ⟨b, o + j, none⟩) hb]
  exact h j v hj

/-- Another world with the same heap. -/
structure SameHeap (w w' : World) : Prop where
  heap : w'.heap = w.heap
  os : w'.os = w.os
  tape : w'.tape = w.tape
  output : w'.output = w.output
theorem SameHeap.refl (w : World) : SameHeap w w := ⟨rfl, rfl, rfl, rfl⟩

/-- One block more. -/
structure Pushed (w w' : World) (o : Obj) : Prop where
  heap : w'.heap = w.heap.push o
  os : w'.os = w.os
  tape : w'.tape = w.tape
  output : w'.output = w.output

/-- One row with other cells. -/
structure Rowed (w w' : World) (b : Nat) (cur cur' : Array Value) (e : TypeId) : Prop where
  old : w.heap[b]? = some (Obj.cells cur e (0, 0))
  new : w'.heap[b]? = some (Obj.cells cur' e (0, 0))
  other : ∀ k, k ≠ b → w'.heap[k]? = w.heap[k]?
  size : cur'.size = cur.size
  hsz : w'.heap.size = w.heap.size
  os : w'.os = w.os
  tape : w'.tape = w.tape
  output : w'.output = w.output

section
variable {fr : Fr} {G : Gh} {w w' : World} {H : Nat → Option AV} {U : Nat → Prop}

theorem lt_of_block {w : World} {b : Nat} {o : Obj} (h : w.heap[b]? = some o) : b < w.heap.size := (Array.getElem?_eq_some_iff.1 h).1

theorem SameHeap.ext (h : SameHeap w w') (F : Nat → Prop) : Ext F w w' := ⟨fun b _ => by rw [h.heap], fun b cur e hb => ⟨cur, by rw [h.heap]; exact hb, rfl⟩⟩
theorem Pushed.old {o : Obj} (h : Pushed w w' o) {b : Nat} (hb : b < w.heap.size) : w'.heap[b]? = w.heap[b]? := by
  rw [h.heap, Array.getElem?_push, if_neg (by omega)]
theorem Pushed.new {o : Obj} (h : Pushed w w' o) : w'.heap[w.heap.size]? = some o := by rw [h.heap]; simp
theorem Pushed.size {o : Obj} (h : Pushed w w' o) : w'.heap.size = w.heap.size + 1 := by rw [h.heap]; simp
theorem Pushed.ext {o : Obj} (h : Pushed w w' o) (F : Nat → Prop) (hF : ∀ b, F b → b < w.heap.size) : Ext F w w' :=
  ⟨fun b hb => h.old (hF b hb), fun b cur e hb => ⟨cur, by rw [h.old (lt_of_block hb)]; exact hb, rfl⟩⟩
theorem Rowed.ext {b : Nat} {cur cur' : Array Value} {e : TypeId} (h : Rowed w w' b cur cur' e) (F : Nat → Prop) (hF : ¬ F b) : Ext F w w' :=
  ⟨fun k hk => h.other k (fun hkb => hF (hkb ▸ hk)), fun k c1 e1 hk => by
    by_cases hkb : k = b
    · subst hkb
      rw [h.old] at hk
      simp only [Option.some.injEq, Obj.cells.injEq] at hk
      obtain ⟨rfl, rfl, _⟩ := hk
      exact ⟨cur', h.new, h.size⟩
    · exact ⟨c1, by rw [h.other k hkb]; exact hk, rfl⟩⟩

theorem Nxt.same (hw : Wf G w H U) (hf : FrOk fr G w H) (h : SameHeap w w') : Nxt fr G w G w' H U := by
  have hx := h.ext G.F
  refine ⟨⟨hw.free, fun b hb => by rw [h.heap]; exact hw.fsz b hb, fun i t hi => ?_, hw.dis⟩, ⟨h.os.trans hf.os, h.tape.trans hf.tape, h.output.trans hf.output, by rw [h.heap]; exact hf.size, fun b hb hs => by rw [h.heap]; exact hf.same b hb hs, hf.ext.trans (h.ext G.F) hf.f0, hf.f0, hf.fnew, hf.loc⟩, hx, fun _ h => h, fun _ _ h => h⟩
  rcases hw.blk i t hi with ⟨b, o, cs, cur, e, h1, h2, h3, h4, h5⟩ | h1
  · exact .inl ⟨b, o, cs, cur, e, h1, h2.mono hx (fun _ h => h) (fun _ _ h => h), by rw [h.heap]; exact h3, h4.of_block (by rw [h.heap]), h5⟩
  · exact .inr h1

/-- A new block that nobody writes. -/
theorem Nxt.frozen (hw : Wf G w H U) (hf : FrOk fr G w H) {cur : Array Value} {e : TypeId} (h : Pushed w w' (Obj.cells cur e (0, 0))) :
    Nxt fr G w ⟨G.ρ, fun b => G.F b ∨ b = w.heap.size⟩ w' H U := by
  have hx := h.ext G.F hw.fsz
  refine ⟨⟨hw.free, fun b hb => ?_, fun i t hi => ?_, hw.dis⟩, ⟨h.os.trans hf.os, h.tape.trans hf.tape, h.output.trans hf.output, by rw [h.size]; have := hf.size; omega, fun b hb hs => ?_, hf.ext.trans hx hf.f0, fun b hb => .inl (hf.f0 b hb), fun b hb => ?_, hf.loc⟩, hx, fun _ h => .inl h, fun _ _ h => h⟩
  · rw [h.size]
    rcases hb with hb | rfl
    · have := hw.fsz b hb; omega
    · omega
  · rcases hw.blk i t hi with ⟨b, o, cs, cur, e, h1, h2, h3, h4, h5⟩ | h1
    · have hlt := lt_of_block h3
      refine .inl ⟨b, o, cs, cur, e, h1, h2.mono hx (fun _ h => .inl h) (fun _ _ h => h), by rw [h.old hlt]; exact h3, h4.of_block (h.old hlt), ?_⟩
      rintro (hb | rfl)
      · exact h5 hb
      · omega
    · exact .inr h1
  · rw [h.old (by have := hf.size; omega)]; exact hf.same b hb hs
  · rcases hb with hb | rfl
    · exact hf.fnew b hb
    · exact .inr (.inr hf.size)

/-- A new block of the call's own, under a name that was not used. -/
theorem Nxt.own (hw : Wf G w H U) (hf : FrOk fr G w H) {cur : Array Value} {e : TypeId} (h : Pushed w w' (Obj.cells cur e (0, 0)))
    {i : Nat} (hU : U i) {t : AV} {cs : List Value} (ht : RelC w G.F G.ρ t cs) (hc : ∀ (j : Nat) (v : Value), cs[j]? = some v → cur[j]? = some v) {U' : Nat → Prop} (hU' : ∀ j, U' j → U j ∧ j ≠ i) :
    Nxt fr G w ⟨upd G.ρ i (some (w.heap.size, 0)), G.F⟩ w' (upd H i (some t)) U' := by
  have hx := h.ext G.F hw.fsz
  have hfree := hw.free i hU
  have hle : ∀ j l, G.ρ j = some l → upd G.ρ i (some (w.heap.size, 0)) j = some l := fun j l hj => by
    rw [upd_ne]
    · exact hj
    · rintro rfl; rw [hfree.2] at hj; cases hj
  have hlt : ∀ j b o, H j ≠ none → G.ρ j = some (b, o) → b < w.heap.size := fun j b o hj hr => by
    cases hj' : H j with
    | none => exact absurd hj' hj
    | some t =>
      rcases hw.blk j t hj' with ⟨b', o', cs, cur, e, h1, h2, h3, h4, h5⟩ | h1
      · rw [hr] at h1
        simp only [Option.some.injEq, Prod.mk.injEq] at h1
        rw [h1.1]; exact lt_of_block h3
      · rw [hr] at h1; cases h1.1
  refine ⟨⟨fun j hj => ?_, fun b hb => by rw [h.size]; have := hw.fsz b hb; omega, fun j u hj => ?_, fun j k b o o' hj hk hrj hrk => ?_⟩,
    ⟨h.os.trans hf.os, h.tape.trans hf.tape, h.output.trans hf.output, by rw [h.size]; have := hf.size; omega, fun b hb hs => by rw [h.old (by have := hf.size; omega)]; exact hf.same b hb hs, hf.ext.trans hx hf.f0, hf.f0, hf.fnew, fun j b o hj hr => ?_⟩, hx, fun _ h => h, hle⟩
  · obtain ⟨hj1, hj2⟩ := hU' j hj
    rw [upd_ne _ _ hj2]
    exact ⟨(hw.free j hj1).1, by show upd G.ρ i _ j = none; rw [upd_ne _ _ hj2]; exact (hw.free j hj1).2⟩
  · by_cases hji : j = i
    · subst hji
      rw [upd_self] at hj
      simp only [Option.some.injEq] at hj
      subst hj
      refine .inl ⟨w.heap.size, 0, cs, cur, e, upd_self _ _ _, ht.mono hx (fun _ h => h) hle, h.new, fun k v hk => ?_, fun hb => by have := hw.fsz _ hb; omega⟩
      rw [World.cell?, h.new]; simpa using hc k v hk
    · rw [upd_ne _ _ hji] at hj
      rcases hw.blk j u hj with ⟨b, o, cs, cur, e, h1, h2, h3, h4, h5⟩ | h1
      · have hb := lt_of_block h3
        exact .inl ⟨b, o, cs, cur, e, by show upd G.ρ i _ j = _; rw [upd_ne _ _ hji]; exact h1, h2.mono hx (fun _ h => h) hle, by rw [h.old hb]; exact h3, h4.of_block (h.old hb), h5⟩
      · exact .inr ⟨by show upd G.ρ i _ j = _; rw [upd_ne _ _ hji]; exact h1.1, h1.2⟩
  · change upd G.ρ i _ j = _ at hrj
    change upd G.ρ i _ k = _ at hrk
    by_cases hji : j = i
    · by_cases hki : k = i
      · rw [hji, hki]
      · rw [hji, upd_self] at hrj
        rw [upd_ne _ _ hki] at hrk hk
        simp only [Option.some.injEq, Prod.mk.injEq] at hrj
        have := hlt k b o' hk hrk
        omega
    · rw [upd_ne _ _ hji] at hrj hj
      by_cases hki : k = i
      · rw [hki, upd_self] at hrk
        simp only [Option.some.injEq, Prod.mk.injEq] at hrk
        have := hlt j b o hj hrj
        omega
      · rw [upd_ne _ _ hki] at hrk hk
        exact hw.dis j k b o o' hj hk hrj hrk
  · change upd G.ρ i _ j = _ at hr
    by_cases hji : j = i
    · rw [hji, upd_self] at hr
      simp only [Option.some.injEq, Prod.mk.injEq] at hr
      exact .inr (by rw [← hr.1]; exact hf.size)
    · rw [upd_ne _ _ hji] at hr hj
      exact hf.loc j b o hj hr

/-- A name for an empty row without a place. -/
theorem Nxt.none (hw : Wf G w H U) (hf : FrOk fr G w H) (h : SameHeap w w') {i : Nat} (hU : U i) (es : Nat) {U' : Nat → Prop} (hU' : ∀ j, U' j → U j ∧ j ≠ i) :
    Nxt fr G w G w' (upd H i (some (.arr 0 es []))) U' := by
  have h0 := Nxt.same hw hf h
  have hfree := hw.free i hU
  refine ⟨⟨fun j hj => ?_, h0.wf.fsz, fun j t hj => ?_, fun j k b o o' hj hk hrj hrk => ?_⟩, ⟨h0.fr.os, h0.fr.tape, h0.fr.output, h0.fr.size, h0.fr.same, h0.fr.ext, h0.fr.f0, h0.fr.fnew, fun j b o hj hr => ?_⟩, h0.ext, h0.leF, h0.leR⟩
  · obtain ⟨hj1, hj2⟩ := hU' j hj
    rw [upd_ne _ _ hj2]; exact hw.free j hj1
  · by_cases hji : j = i
    · subst hji
      rw [upd_self] at hj
      simp only [Option.some.injEq] at hj
      exact .inr ⟨hfree.2, es, hj.symm⟩
    · rw [upd_ne _ _ hji] at hj
      exact h0.wf.blk j t hj
  · have hji : j ≠ i := by rintro rfl; rw [hfree.2] at hrj; cases hrj
    have hki : k ≠ i := by rintro rfl; rw [hfree.2] at hrk; cases hrk
    rw [upd_ne _ _ hji] at hj
    rw [upd_ne _ _ hki] at hk
    exact hw.dis j k b o o' hj hk hrj hrk
  · have hji : j ≠ i := by rintro rfl; rw [hfree.2] at hr; cases hr
    rw [upd_ne _ _ hji] at hj
    exact h0.fr.loc j b o hj hr

/-- A name is forgotten. -/
theorem Wf.kill (hw : Wf G w H U) (k : Nat) : Wf G w (upd H k Option.none) U := by
  have hne : ∀ j, upd H k Option.none j ≠ Option.none → H j ≠ Option.none := fun j hj => by
    by_cases hjk : j = k
    · rw [hjk, upd_self] at hj; exact absurd rfl hj
    · rwa [upd_ne _ _ hjk] at hj
  refine ⟨fun i hi => ⟨?_, (hw.free i hi).2⟩, hw.fsz, fun i t hi => ?_, fun i j b o o' hi hj => hw.dis i j b o o' (hne i hi) (hne j hj)⟩
  · by_cases hik : i = k
    · rw [hik, upd_self]
    · rw [upd_ne _ _ hik]; exact (hw.free i hi).1
  · by_cases hik : i = k
    · rw [hik, upd_self] at hi; cases hi
    · rw [upd_ne _ _ hik] at hi; exact hw.blk i t hi
theorem FrOk.kill (hf : FrOk fr G w H) (k : Nat) : FrOk fr G w (upd H k Option.none) :=
  ⟨hf.os, hf.tape, hf.output, hf.size, hf.same, hf.ext, hf.f0, hf.fnew, fun j b o hj hr => by
    by_cases hjk : j = k
    · rw [hjk, upd_self] at hj; exact absurd rfl hj
    · rw [upd_ne _ _ hjk] at hj; exact hf.loc j b o hj hr⟩

/-- A row of the call's own is written, under its old name or under a new one. -/
theorem Nxt.rewrite (hw : Wf G w H U) (hf : FrOk fr G w H) {k i b o o' : Nat} {t t' : AV} {cs' : List Value} {cur cur' : Array Value} {e : TypeId}
    (hk : H k = some t) (hr : G.ρ k = some (b, o)) (h : Rowed w w' b cur cur' e) (hi : (i = k ∧ o' = o) ∨ U i)
    (ht : RelC w G.F G.ρ t' cs') (hc : ∀ (j : Nat) (v : Value), cs'[j]? = some v → cur'[o' + j]? = some v) {U' : Nat → Prop} (hU' : ∀ j, U' j → U j ∧ j ≠ i) :
    Nxt fr G w ⟨upd G.ρ i (some (b, o')), G.F⟩ w' (upd (upd H k Option.none) i (some t')) U' := by
  have hnF : ¬ G.F b := by
    rcases hw.blk k t hk with ⟨b', o1, cs, c1, e1, h1, h2, h3, h4, h5⟩ | h1
    · rw [hr] at h1; simp only [Option.some.injEq, Prod.mk.injEq] at h1; rw [h1.1]; exact h5
    · rw [hr] at h1; cases h1.1
  have hx := h.ext G.F hnF
  have hle : ∀ j l, G.ρ j = some l → upd G.ρ i (some (b, o')) j = some l := fun j l hj => by
    by_cases hji : j = i
    · subst hji
      rcases hi with ⟨rfl, rfl⟩ | hi
      · rw [upd_self, ← hr, hj]
      · rw [(hw.free j hi).2] at hj; cases hj
    · rw [upd_ne _ _ hji]; exact hj
  have live : ∀ j, j ≠ i → upd (upd H k Option.none) i (some t') j ≠ Option.none → H j ≠ Option.none ∧ j ≠ k := fun j hji hj => by
    rw [upd_ne _ _ hji] at hj
    by_cases hjk : j = k
    · rw [hjk, upd_self] at hj; exact absurd rfl hj
    · rw [upd_ne _ _ hjk] at hj; exact ⟨hj, hjk⟩
  have apart : ∀ j b1 o1, H j ≠ Option.none → j ≠ k → G.ρ j = some (b1, o1) → b1 ≠ b := fun j b1 o1 hj hjk hrj hbb => by
    subst hbb
    exact hjk (hw.dis j k b1 o1 o hj (by rw [hk]; simp) hrj hr)
  have hS := hf.loc k b o (by rw [hk]; simp) hr
  refine ⟨⟨fun j hj => ?_, fun b1 hb => by rw [h.hsz]; exact hw.fsz b1 hb, fun j u hj => ?_, fun j l b1 o1 o2 hj hl hrj hrl => ?_⟩,
    ⟨h.os.trans hf.os, h.tape.trans hf.tape, h.output.trans hf.output, by rw [h.hsz]; exact hf.size, fun b1 hb hs => ?_, hf.ext.trans hx hf.f0, hf.f0, hf.fnew, fun j b1 o1 hj hrj => ?_⟩, hx, fun _ h => h, hle⟩
  · obtain ⟨hj1, hj2⟩ := hU' j hj
    have hfj := hw.free j hj1
    refine ⟨?_, by show upd G.ρ i _ j = _; rw [upd_ne _ _ hj2]; exact hfj.2⟩
    rw [upd_ne _ _ hj2]
    by_cases hjk : j = k
    · rw [hjk, upd_self]
    · rw [upd_ne _ _ hjk]; exact hfj.1
  · by_cases hji : j = i
    · subst hji
      rw [upd_self] at hj
      simp only [Option.some.injEq] at hj
      subst hj
      refine .inl ⟨b, o', cs', cur', e, upd_self _ _ _, ht.mono hx (fun _ h => h) hle, h.new, fun n v hn => ?_, hnF⟩
      rw [World.cell?, h.new]; simpa using hc n v hn
    · have hl := live j hji (by rw [hj]; simp)
      rw [upd_ne _ _ hji, upd_ne _ _ hl.2] at hj
      rcases hw.blk j u hj with ⟨b1, o1, cs, c1, e1, h1, h2, h3, h4, h5⟩ | h1
      · have hne := apart j b1 o1 hl.1 hl.2 h1
        exact .inl ⟨b1, o1, cs, c1, e1, by show upd G.ρ i _ j = _; rw [upd_ne _ _ hji]; exact h1, h2.mono hx (fun _ h => h) hle, by rw [h.other b1 hne]; exact h3, h4.of_block (h.other b1 hne), h5⟩
      · exact .inr ⟨by show upd G.ρ i _ j = _; rw [upd_ne _ _ hji]; exact h1.1, h1.2⟩
  · change upd G.ρ i _ j = _ at hrj
    change upd G.ρ i _ l = _ at hrl
    by_cases hji : j = i
    · by_cases hli : l = i
      · rw [hji, hli]
      · rw [hji, upd_self] at hrj
        rw [upd_ne _ _ hli] at hrl
        have hll := live l hli hl
        simp only [Option.some.injEq, Prod.mk.injEq] at hrj
        exact absurd hrj.1.symm (apart l b1 o2 hll.1 hll.2 hrl)
    · rw [upd_ne _ _ hji] at hrj
      have hlj := live j hji hj
      by_cases hli : l = i
      · rw [hli, upd_self] at hrl
        simp only [Option.some.injEq, Prod.mk.injEq] at hrl
        exact absurd hrl.1.symm (apart j b1 o1 hlj.1 hlj.2 hrj)
      · rw [upd_ne _ _ hli] at hrl
        exact hw.dis j l b1 o1 o2 hlj.1 (live l hli hl).1 hrj hrl
  · by_cases hbb : b1 = b
    · subst hbb
      rcases hS with h1 | h1
      · exact absurd h1 hs
      · omega
    · rw [h.other b1 hbb]; exact hf.same b1 hb hs
  · change upd G.ρ i _ j = _ at hrj
    by_cases hji : j = i
    · rw [hji, upd_self] at hrj
      simp only [Option.some.injEq, Prod.mk.injEq] at hrj
      rw [← hrj.1]; exact hS
    · rw [upd_ne _ _ hji] at hrj
      exact hf.loc j b1 o1 (live j hji hj).1 hrj
end
end Go.Ra
