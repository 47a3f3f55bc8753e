/- What abstract values mean in a world. -/
import Derived.Test.YtfobbfdbojednaaRaT
import Derived.Laws.AppendOwn
import Derived.Laws.IdiomCopy
import Derived.Laws.Rows
import Derived.Still
namespace Go.Ra
set_option linter.unusedVariables false

def Reads (w : World) (b o : Nat) (cs : List Value) : Prop := ∀ j v, cs[j]? = some v → w.cell? ⟨b, o + j, none⟩ = some v

def plainV : Value → Bool
  | .bool _ => true
  | .int _ _ => true
  | .string _ => true
  | .pointer none => true
  | .nilFunc => true
  | _ => false

abbrev Loc := Nat × Nat
def noIds : Nat → Option Loc := fun _ => none

mutual
/-- The cells that an abstract value stands for. -/
inductive RelC (w : World) (F : Nat → Prop) : (Nat → Option Loc) → AV → List Value → Prop
  | sc {ρ : Nat → Option Loc} {v : Value} : plainV v = true → RelC w F ρ (.sc v) [v]
  | agg {ρ : Nat → Option Loc} {n : Nat} {ts : List AV} {cs : List Value} : RelL w F ρ ts cs → cs.length = n → RelC w F ρ (.agg n ts) cs
  | arr {ρ : Nat → Option Loc} {n es : Nat} {ts : List AV} {cs : List Value} : RelE w F es ts cs → ts.length = n → RelC w F ρ (.arr n es ts) cs
  | fro0 {ρ : Nat → Option Loc} {x : Bool} {es : Nat} {a : Option Addr} {cap : Nat} : (x = true → cap = 0) → RelC w F ρ (.fro x es []) [.slice a 0 cap]
  | fro {ρ : Nat → Option Loc} {x : Bool} {es : Nat} {ts : List AV} {cs : List Value} {b o cap : Nat} : RelE w F es ts cs → Reads w b o cs → F b →
      (x = true → cap = ts.length) → ts.length ≤ cap → RelC w F ρ (.fro x es ts) [.slice (some ⟨b, o, none⟩) ts.length cap]
  | fptr {ρ : Nat → Option Loc} {t : AV} {cs : List Value} {b o : Nat} : RelC w F noIds t cs → Reads w b o cs → F b → RelC w F ρ (.fptr t) [.pointer (some ⟨b, o, none⟩)]
  | sl0 {ρ : Nat → Option Loc} {id off k es : Nat} {path : List Nat} {a : Option Addr} : RelC w F ρ (.sl id path off k 0 es) [.slice a 0 0]
  | sl {ρ : Nat → Option Loc} {id off k len es b o cap : Nat} {path : List Nat} {cur : Array Value} {e : TypeId} : ρ id = some (b, o) → len ≤ cap →
      w.heap[b]? = some (.cells cur e (0, 0)) → o + off + cap * es ≤ cur.size → RelC w F ρ (.sl id path off k len es) [.slice (some ⟨b, o + off, none⟩) len cap]
  | ptr {ρ : Nat → Option Loc} {id off b o : Nat} {path : List Nat} : ρ id = some (b, o) → RelC w F ρ (.ptr id path off) [.pointer (some ⟨b, o + off, none⟩)]
  | clo {ρ : Nat → Option Loc} {f : Nat} {caps : List AV} {cs : List Value} : RelO w F ρ caps cs → RelC w F ρ (.clo f caps) [.func (.func f) #[] cs.toArray]
/-- One behind the other. -/
inductive RelL (w : World) (F : Nat → Prop) : (Nat → Option Loc) → List AV → List Value → Prop
  | nil {ρ : Nat → Option Loc} : RelL w F ρ [] []
  | cons {ρ : Nat → Option Loc} {t : AV} {ts : List AV} {c cs : List Value} : RelC w F ρ t c → RelL w F ρ ts cs → RelL w F ρ (t :: ts) (c ++ cs)
/-- Elements of one size, without names of own memory. -/
inductive RelE (w : World) (F : Nat → Prop) : Nat → List AV → List Value → Prop
  | nil {es : Nat} : RelE w F es [] []
  | cons {es : Nat} {t : AV} {ts : List AV} {c cs : List Value} : RelC w F noIds t c → c.length = es → RelE w F es ts cs → RelE w F es (t :: ts) (c ++ cs)
/-- Each of one cell. -/
inductive RelO (w : World) (F : Nat → Prop) : (Nat → Option Loc) → List AV → List Value → Prop
  | nil {ρ : Nat → Option Loc} : RelO w F ρ [] []
  | cons {ρ : Nat → Option Loc} {t : AV} {ts : List AV} {v : Value} {cs : List Value} : RelC w F ρ t [v] → t.isAgg = false → RelO w F ρ ts cs → RelO w F ρ (t :: ts) (v :: cs)
end

mutual
/-- The value that an abstract value stands for. -/
inductive RelV (w : World) (F : Nat → Prop) (ρ : Nat → Option Loc) : AV → Value → Prop
  | one {t : AV} {v : Value} : RelC w F ρ t [v] → t.isAgg = false → RelV w F ρ t v
  | agg {t : AV} {cs : List Value} : RelC w F ρ t cs → t.isAgg = true → RelV w F ρ t (.agg cs.toArray)
  | tup {ts : List AV} {vs : List Value} : RelVs w F ρ ts vs → RelV w F ρ (.tup ts) (.tuple vs.toArray)
  | anyb {b : Bool} : RelV w F ρ .anyb (.bool b)
  | unk {v : Value} : RelV w F ρ .unk v
inductive RelVs (w : World) (F : Nat → Prop) (ρ : Nat → Option Loc) : List AV → List Value → Prop
  | nil : RelVs w F ρ [] []
  | cons {t : AV} {ts : List AV} {v : Value} {vs : List Value} : RelV w F ρ t v → RelVs w F ρ ts vs → RelVs w F ρ (t :: ts) (v :: vs)
end

/-- Frozen blocks stay as they are; rows of cells keep their sizes. -/
structure Ext (F : Nat → Prop) (w w' : World) : Prop where
  same : ∀ b, F b → w'.heap[b]? = w.heap[b]?
  rows : ∀ (b : Nat) (cur : Array Value) (e : TypeId), w.heap[b]? = some (Obj.cells cur e (0, 0)) → ∃ cur' : Array Value, w'.heap[b]? = some (Obj.cells cur' e (0, 0)) ∧ cur'.size = cur.size

theorem Reads.ext {F : Nat → Prop} {w w' : World} {b o : Nat} {cs : List Value} (h : Reads w b o cs) (hx : Ext F w w') (hb : F b) : Reads w' b o cs := by
  intro j v hj
  rw [World.cell?_of_block (a := ⟨b, o + j, none⟩) (hx.same b hb)]
  exact h j v hj

section mono
variable {w w' : World} {F F' : Nat → Prop}
mutual
theorem RelC.mono (hx : Ext F w w') (hF : ∀ b, F b → F' b) : ∀ {ρ ρ' : Nat → Option Loc} {t : AV} {cs : List Value}, (∀ i l, ρ i = some l → ρ' i = some l) → RelC w F ρ t cs → RelC w' F' ρ' t cs
  | _, _, _, _, _, .sc h => .sc h
  | _, _, _, _, hr, .agg h hn => .agg (RelL.mono hx hF hr h) hn
  | _, _, _, _, _, .arr h hn => .arr (RelE.mono hx hF h) hn
  | _, _, _, _, _, .fro0 h => .fro0 h
  | _, _, _, _, _, .fro h hrd hb hc hl => .fro (RelE.mono hx hF h) (hrd.ext hx hb) (hF _ hb) hc hl
  | _, _, _, _, _, .fptr h hrd hb => .fptr (RelC.mono hx hF (fun _ _ h => h) h) (hrd.ext hx hb) (hF _ hb)
  | _, _, _, _, _, .sl0 => .sl0
  | _, _, _, _, hr, .sl h1 h2 h3 h4 => by
    obtain ⟨cur', h5, h6⟩ := hx.rows _ _ _ h3
    exact .sl (hr _ _ h1) h2 h5 (by rw [h6]; exact h4)
  | _, _, _, _, hr, .ptr h => .ptr (hr _ _ h)
  | _, _, _, _, hr, .clo h => .clo (RelO.mono hx hF hr h)
theorem RelL.mono (hx : Ext F w w') (hF : ∀ b, F b → F' b) : ∀ {ρ ρ' : Nat → Option Loc} {ts : List AV} {cs : List Value}, (∀ i l, ρ i = some l → ρ' i = some l) → RelL w F ρ ts cs → RelL w' F' ρ' ts cs
  | _, _, _, _, _, .nil => .nil
  | _, _, _, _, hr, .cons h1 h2 => .cons (RelC.mono hx hF hr h1) (RelL.mono hx hF hr h2)
theorem RelE.mono (hx : Ext F w w') (hF : ∀ b, F b → F' b) : ∀ {es : Nat} {ts : List AV} {cs : List Value}, RelE w F es ts cs → RelE w' F' es ts cs
  | _, _, _, .nil => .nil
  | _, _, _, .cons h1 h2 h3 => .cons (RelC.mono hx hF (fun _ _ h => h) h1) h2 (RelE.mono hx hF h3)
theorem RelO.mono (hx : Ext F w w') (hF : ∀ b, F b → F' b) : ∀ {ρ ρ' : Nat → Option Loc} {ts : List AV} {cs : List Value}, (∀ i l, ρ i = some l → ρ' i = some l) → RelO w F ρ ts cs → RelO w' F' ρ' ts cs
  | _, _, _, _, _, .nil => .nil
  | _, _, _, _, hr, .cons h1 h2 h3 => .cons (RelC.mono hx hF hr h1) h2 (RelO.mono hx hF hr h3)
end
mutual
theorem RelV.mono (hx : Ext F w w') (hF : ∀ b, F b → F' b) {ρ ρ' : Nat → Option Loc} (hr : ∀ i l, ρ i = some l → ρ' i = some l) : ∀ {t : AV} {v : Value}, RelV w F ρ t v → RelV w' F' ρ' t v
  | _, _, .one h ha => .one (h.mono hx hF hr) ha
  | _, _, .agg h ha => .agg (h.mono hx hF hr) ha
  | _, _, .tup h => .tup (RelVs.mono hx hF hr h)
  | _, _, .anyb => .anyb
  | _, _, .unk => .unk
theorem RelVs.mono (hx : Ext F w w') (hF : ∀ b, F b → F' b) {ρ ρ' : Nat → Option Loc} (hr : ∀ i l, ρ i = some l → ρ' i = some l) : ∀ {ts : List AV} {vs : List Value}, RelVs w F ρ ts vs → RelVs w' F' ρ' ts vs
  | _, _, .nil => .nil
  | _, _, .cons h1 h2 => .cons (RelV.mono hx hF hr h1) (RelVs.mono hx hF hr h2)
end
end mono

section shape
variable {w : World} {F : Nat → Prop}
mutual
theorem RelC.size : ∀ {ρ : Nat → Option Loc} {t : AV} {cs : List Value}, RelC w F ρ t cs → cs.length = t.size
  | _, _, _, .sc h => rfl
  | _, _, _, .agg h hn => hn
  | _, _, _, .arr h hn => by rw [RelE.size h, hn]; rfl
  | _, _, _, .fro0 h => rfl
  | _, _, _, .fro h hrd hb hc hl => rfl
  | _, _, _, .fptr h hrd hb => rfl
  | _, _, _, .sl0 => rfl
  | _, _, _, .sl h1 h2 h3 h4 => rfl
  | _, _, _, .ptr h => rfl
  | _, _, _, .clo h => rfl
theorem RelE.size : ∀ {es : Nat} {ts : List AV} {cs : List Value}, RelE w F es ts cs → cs.length = ts.length * es
  | _, _, _, .nil => by simp
  | es, _, _, .cons h1 h2 h3 => by
    have := RelE.size h3
    simp only [List.length_append, List.length_cons, h2, this, Nat.add_mul, Nat.one_mul]
    omega
end
theorem RelL.size : ∀ {ρ : Nat → Option Loc} {ts : List AV} {cs : List Value}, RelL w F ρ ts cs → cs.length = sizes ts
  | _, _, _, .nil => rfl
  | _, _, _, .cons h1 h2 => by simp only [List.length_append, sizes, h1.size, RelL.size h2]

theorem oneCell_plain {v : Value} (h : plainV v = true) : v.oneCell' = true := by
  cases v <;> first | rfl | simp [plainV] at h

mutual
theorem RelC.ones : ∀ {ρ : Nat → Option Loc} {t : AV} {cs : List Value}, RelC w F ρ t cs → ∀ v ∈ cs, v.oneCell' = true
  | _, _, _, .sc h => fun v hv => by simp only [List.mem_singleton] at hv; subst hv; exact oneCell_plain h
  | _, _, _, .agg h hn => RelL.ones h
  | _, _, _, .arr h hn => RelE.ones h
  | _, _, _, .fro0 h => fun v hv => by simp only [List.mem_singleton] at hv; subst hv; rfl
  | _, _, _, .fro h hrd hb hc hl => fun v hv => by simp only [List.mem_singleton] at hv; subst hv; rfl
  | _, _, _, .fptr h hrd hb => fun v hv => by simp only [List.mem_singleton] at hv; subst hv; rfl
  | _, _, _, .sl0 => fun v hv => by simp only [List.mem_singleton] at hv; subst hv; rfl
  | _, _, _, .sl h1 h2 h3 h4 => fun v hv => by simp only [List.mem_singleton] at hv; subst hv; rfl
  | _, _, _, .ptr h => fun v hv => by simp only [List.mem_singleton] at hv; subst hv; rfl
  | _, _, _, .clo h => fun v hv => by simp only [List.mem_singleton] at hv; subst hv; rfl
theorem RelL.ones : ∀ {ρ : Nat → Option Loc} {ts : List AV} {cs : List Value}, RelL w F ρ ts cs → ∀ v ∈ cs, v.oneCell' = true
  | _, _, _, .nil => fun v hv => by cases hv
  | _, _, _, .cons h1 h2 => fun v hv => by
    rcases List.mem_append.1 hv with h | h
    · exact RelC.ones h1 v h
    · exact RelL.ones h2 v h
theorem RelE.ones : ∀ {es : Nat} {ts : List AV} {cs : List Value}, RelE w F es ts cs → ∀ v ∈ cs, v.oneCell' = true
  | _, _, _, .nil => fun v hv => by cases hv
  | _, _, _, .cons h1 h2 h3 => fun v hv => by
    rcases List.mem_append.1 hv with h | h
    · exact RelC.ones h1 v h
    · exact RelE.ones h3 v h
end

theorem RelC.single {ρ : Nat → Option Loc} {t : AV} {cs : List Value} (h : RelC w F ρ t cs) (ha : t.isAgg = false) : ∃ v, cs = [v] := by
  cases h <;> first | exact ⟨_, rfl⟩ | simp [AV.isAgg] at ha

theorem RelC.storable {ρ : Nat → Option Loc} {t : AV} {cs : List Value} (h : RelC w F ρ t cs) : t.storable = true := by
  cases h <;> rfl

mutual
theorem RelC.free : ∀ {ρ ρ' : Nat → Option Loc} {t : AV} {cs : List Value}, t.idfree = true → RelC w F ρ t cs → RelC w F ρ' t cs
  | _, _, _, _, _, .sc h => .sc h
  | _, _, _, _, hi, .agg h hn => .agg (RelL.free (by simpa [AV.idfree] using hi) h) hn
  | _, _, _, _, _, .arr h hn => .arr h hn
  | _, _, _, _, _, .fro0 h => .fro0 h
  | _, _, _, _, _, .fro h hrd hb hc hl => .fro h hrd hb hc hl
  | _, _, _, _, _, .fptr h hrd hb => .fptr h hrd hb
  | _, _, _, _, hi, .sl0 => .sl0
  | _, _, _, _, hi, .sl h1 h2 h3 h4 => by simp [AV.idfree] at hi
  | _, _, _, _, hi, .ptr h => by simp [AV.idfree] at hi
  | _, _, _, _, hi, .clo h => .clo (RelO.free (by simpa [AV.idfree] using hi) h)
theorem RelL.free : ∀ {ρ ρ' : Nat → Option Loc} {ts : List AV} {cs : List Value}, AV.idfrees ts = true → RelL w F ρ ts cs → RelL w F ρ' ts cs
  | _, _, _, _, _, .nil => .nil
  | _, _, _, _, hi, .cons h1 h2 => by
    simp only [AV.idfrees, Bool.and_eq_true] at hi
    exact .cons (RelC.free hi.1 h1) (RelL.free hi.2 h2)
theorem RelO.free : ∀ {ρ ρ' : Nat → Option Loc} {ts : List AV} {cs : List Value}, AV.idfrees ts = true → RelO w F ρ ts cs → RelO w F ρ' ts cs
  | _, _, _, _, _, .nil => .nil
  | _, _, _, _, hi, .cons h1 h2 h3 => by
    simp only [AV.idfrees, Bool.and_eq_true] at hi
    exact .cons (RelC.free hi.1 h1) h2 (RelO.free hi.2 h3)
end

theorem Ext.refl (F : Nat → Prop) (w : World) : Ext F w w := ⟨fun _ _ => rfl, fun b cur e h => ⟨cur, h, rfl⟩⟩

theorem RelC.up {ρ : Nat → Option Loc} {t : AV} {cs : List Value} (h : RelC w F noIds t cs) : RelC w F ρ t cs :=
  h.mono (Ext.refl F w) (fun _ h => h) (fun i l hi => by simp [noIds] at hi)

/-- The i-th of some parts. -/
theorem RelL.nth : ∀ {ρ : Nat → Option Loc} {ts : List AV} {cs : List Value} {i : Nat} {t : AV}, RelL w F ρ ts cs → ts[i]? = some t →
    ∃ pre mid post, cs = pre ++ (mid ++ post) ∧ pre.length = sizes (ts.take i) ∧ RelC w F ρ t mid ∧ RelL w F ρ (ts.take i) pre ∧ RelL w F ρ (ts.drop (i + 1)) post
  | _, _, _, i, _, .nil, ht => by simp at ht
  | _, _, _, 0, _, .cons h1 h2, ht => by
    simp only [List.getElem?_cons_zero, Option.some.injEq] at ht
    subst ht
    exact ⟨[], _, _, rfl, rfl, h1, .nil, by simpa using h2⟩
  | _, _, _, i + 1, _, .cons h1 h2, ht => by
    simp only [List.getElem?_cons_succ] at ht
    obtain ⟨pre, mid, post, rfl, hp, hm, hl, hr⟩ := RelL.nth h2 ht
    exact ⟨_ ++ pre, mid, post, by simp, by simp [sizes, h1.size, hp], hm, .cons h1 hl, by simpa using hr⟩
theorem RelE.nth : ∀ {es : Nat} {ts : List AV} {cs : List Value} {i : Nat} {t : AV}, RelE w F es ts cs → ts[i]? = some t →
    ∃ pre mid post, cs = pre ++ (mid ++ post) ∧ pre.length = i * es ∧ RelC w F noIds t mid ∧ mid.length = es ∧ RelE w F es (ts.take i) pre ∧ RelE w F es (ts.drop (i + 1)) post
  | _, _, _, i, _, .nil, ht => by simp at ht
  | _, _, _, 0, _, .cons h1 h0 h2, ht => by
    simp only [List.getElem?_cons_zero, Option.some.injEq] at ht
    subst ht
    exact ⟨[], _, _, rfl, by simp, h1, h0, .nil, by simpa using h2⟩
  | es, _, _, i + 1, _, .cons h1 h0 h2, ht => by
    simp only [List.getElem?_cons_succ] at ht
    obtain ⟨pre, mid, post, rfl, hp, hm, hs, hl, hr⟩ := RelE.nth h2 ht
    exact ⟨_ ++ pre, mid, post, by simp, by simp [h0, hp, Nat.add_mul]; omega, hm, hs, .cons h1 h0 hl, by simpa using hr⟩
theorem RelL.append : ∀ {ρ : Nat → Option Loc} {ts us : List AV} {cs ds : List Value}, RelL w F ρ ts cs → RelL w F ρ us ds → RelL w F ρ (ts ++ us) (cs ++ ds)
  | _, _, _, _, _, .nil, h => h
  | _, _, _, _, _, .cons h1 h2, h => by simp only [List.cons_append, List.append_assoc]; exact .cons h1 (RelL.append h2 h)
theorem RelE.append : ∀ {es : Nat} {ts us : List AV} {cs ds : List Value}, RelE w F es ts cs → RelE w F es us ds → RelE w F es (ts ++ us) (cs ++ ds)
  | _, _, _, _, _, .nil, h => h
  | _, _, _, _, _, .cons h1 h0 h2, h => by simp only [List.cons_append, List.append_assoc]; exact .cons h1 h0 (RelE.append h2 h)
theorem RelE.take : ∀ {es : Nat} {ts : List AV} {cs : List Value} (n : Nat), RelE w F es ts cs → RelE w F es (ts.take n) (cs.take (n * es))
  | _, _, _, 0, _ => by simp; exact .nil
  | _, _, _, n + 1, .nil => by simp; exact .nil
  | es, _, _, n + 1, .cons (c := c) h1 h0 h2 => by
    have := RelE.take n h2
    have e : c.take ((n + 1) * es) = c := List.take_of_length_le (by rw [h0, Nat.add_mul]; omega)
    rw [List.take_succ_cons, List.take_append, h0, show (n + 1) * es - es = n * es by rw [Nat.add_mul]; omega, e]
    exact .cons h1 h0 this
theorem RelE.drop : ∀ {es : Nat} {ts : List AV} {cs : List Value} (n : Nat), RelE w F es ts cs → RelE w F es (ts.drop n) (cs.drop (n * es))
  | _, _, _, 0, h => by simpa using h
  | _, _, _, n + 1, .nil => by simp; exact .nil
  | es, _, _, n + 1, .cons (c := c) h1 h0 h2 => by
    have := RelE.drop n h2
    have e : c.drop ((n + 1) * es) = [] := List.drop_of_length_le (by rw [h0, Nat.add_mul]; omega)
    rw [List.drop_succ_cons, List.drop_append, h0, show (n + 1) * es - es = n * es by rw [Nat.add_mul]; omega, e]
    simpa using this

theorem set_split {α : Type} {ts : List α} {i : Nat} {t u : α} (h : ts[i]? = some t) : ts.set i u = ts.take i ++ (u :: ts.drop (i + 1)) := by
  have hi : i < ts.length := (List.getElem?_eq_some_iff.1 h).1
  rw [List.set_eq_take_append_cons_drop]; simp [hi]

/-- What stands at a path, and what a store there makes of the whole. -/
theorem RelC.at : ∀ (p : List Nat) {ρ : Nat → Option Loc} {t u : AV} {cs : List Value} {o : Nat}, RelC w F ρ t cs → t.at? p = some (o, u) →
    ∃ pre mid post, cs = pre ++ (mid ++ post) ∧ pre.length = o ∧ RelC w F ρ u mid ∧
      ∀ v t' mid', t.set? p v = some t' → RelC w F ρ v mid' → mid'.length = mid.length → RelC w F ρ t' (pre ++ (mid' ++ post))
  | [], ρ, t, u, cs, o, h, hat => by
    simp only [AV.at?, Option.some.injEq, Prod.mk.injEq] at hat
    obtain ⟨rfl, rfl⟩ := hat
    refine ⟨[], cs, [], by simp, rfl, h, fun v t' mid' hs hv _ => ?_⟩
    simp only [AV.set?, Option.some.injEq] at hs
    subst hs
    simpa using hv
  | i :: p, ρ, t, u, cs, o, h, hat => by
    cases h with
    | agg hl hn =>
      simp only [AV.at?] at hat
      split at hat
      · rename_i t1 ht1
        split at hat
        · rename_i o1 u1 hat1
          simp only [Option.some.injEq, Prod.mk.injEq] at hat
          obtain ⟨rfl, rfl⟩ := hat
          obtain ⟨pre, mid, post, rfl, hp, hm, hl1, hl2⟩ := hl.nth ht1
          obtain ⟨pre2, mid2, post2, rfl, hp2, hm2, hset⟩ := RelC.at p hm hat1
          refine ⟨pre ++ pre2, mid2, post2 ++ post, by simp, by simp [hp, hp2], hm2, fun v t' mid' hs hv hlen => ?_⟩
          simp only [AV.set?, ht1] at hs
          split at hs
          · rename_i u2 hu2
            simp only [Option.some.injEq] at hs
            subst hs
            have := hset v u2 mid' hu2 hv hlen
            have e : pre ++ pre2 ++ (mid' ++ (post2 ++ post)) = pre ++ ((pre2 ++ (mid' ++ post2)) ++ post) := by simp
            rw [e]
            refine .agg ?_ (by simp at hn ⊢; omega)
            rw [set_split ht1]
            exact hl1.append (.cons this hl2)
          · cases hs
        · cases hat
      · cases hat
    | arr hl hn =>
      simp only [AV.at?] at hat
      split at hat
      · rename_i t1 ht1
        split at hat
        · rename_i o1 u1 hat1
          simp only [Option.some.injEq, Prod.mk.injEq] at hat
          obtain ⟨rfl, rfl⟩ := hat
          obtain ⟨pre, mid, post, rfl, hp, hm, hms, hl1, hl2⟩ := hl.nth ht1
          obtain ⟨pre2, mid2, post2, rfl, hp2, hm2, hset⟩ := RelC.at p hm hat1
          refine ⟨pre ++ pre2, mid2, post2 ++ post, by simp, by simp [hp, hp2], hm2.up, fun v t' mid' hs hv hlen => ?_⟩
          simp only [AV.set?, ht1] at hs
          split at hs
          · rename_i u2 hu2
            split at hs
            · rename_i hfree
              simp only [Option.some.injEq] at hs
              subst hs
              have := hset v u2 mid' hu2 (hv.free hfree) hlen
              have e : pre ++ pre2 ++ (mid' ++ (post2 ++ post)) = pre ++ ((pre2 ++ (mid' ++ post2)) ++ post) := by simp
              rw [e]
              refine .arr ?_ (by simp [hn])
              rw [set_split ht1]
              exact hl1.append (.cons this (by simp at hms ⊢; omega) hl2)
            · cases hs
          · cases hs
        · cases hat
      · cases hat
    | _ => simp [AV.at?] at hat
end shape
end Go.Ra
