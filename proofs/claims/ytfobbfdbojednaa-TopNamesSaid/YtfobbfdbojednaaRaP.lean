/- What comes in: the data of a row as abstract values. -/
import Derived.Test.YtfobbfdbojednaaRaO
import GoSem.ClaimJoined
import Derived.ProofKit
import Derived.OpenShut
namespace Go.Ra
open Go.RowKit (Below)
set_option linter.unusedVariables false
set_option linter.unusedSimpArgs false

/-- Types of what comes in. -/
inductive Ty where
  | int (k : IntKind)
  | bool
  | str
  | slice (es bytes : Nat) (e : Ty)
  | agg (n : Nat) (l : List Ty)
  | arr (n es : Nat) (e : Ty)
  deriving Inhabited

mutual
def Ty.has : Ty → AV → Prop
  | .int k, a => ∃ n, a = .sc (.int k n) ∧ (Lit.int k n).wf = true
  | .bool, a => ∃ b, a = .sc (.bool b)
  | .str, a => ∃ s, a = .sc (.string s) ∧ s.size ≤ maxLen
  | .slice es bytes e, a => ∃ ts, a = .fro false es ts ∧ ts.length * bytes ≤ 140737488351232 ∧ ∀ t ∈ ts, e.has t
  | .agg n l, a => ∃ ts, a = .agg n ts ∧ Ty.hasL l ts
  | .arr n es e, a => ∃ ts, a = .arr n es ts ∧ ts.length = n ∧ ∀ t ∈ ts, e.has t
def Ty.hasL : List Ty → List AV → Prop
  | [], ts => ts = []
  | T :: l, ts => ∃ t r, ts = t :: r ∧ T.has t ∧ Ty.hasL l r
end

mutual
def tyT (P : Program) : Nat → TypeId → Option Ty
  | 0, _ => none
  | d + 1, t =>
    match P.underlying t with
    | some (.int k) => some (.int k)
    | some .bool => some .bool
    | some .string => some .str
    | some (.slice e) =>
      match tyT P d e with
      | some T => if P.cellsOf e = 0 then none else some (.slice (P.cellsOf e) (P.bytesOf e) T)
      | none => none
    | some (.struct fs) =>
      match tyFs P d 0 fs.toList with
      | some (l, n) => if n = P.cellsOf t then some (.agg n l) else none
      | none => none
    | some (.array n e) =>
      match tyT P d e with
      | some T => if P.cellsOf t = n * P.cellsOf e then some (.arr n (P.cellsOf e) T) else none
      | none => none
    | _ => none
def tyFs (P : Program) : Nat → Nat → List Field → Option (List Ty × Nat)
  | _, o, [] => some ([], o)
  | 0, _, _ :: _ => none
  | d + 1, o, f :: fs =>
    if f.offset = o then
      match tyT P d f.type, tyFs P d (o + P.cellsOf f.type) fs with
      | some T, some (l, n) => some (T :: l, n)
      | _, _ => none
    else none
end

section
variable {P : Program} {H : Type} {enc : TypeId × Value → H} {W : World} {base : Nat} {sp : Nat → Bool} {held : Bool}

theorem cells_at {a : Addr} {n : Nat} {cs : List Value} (h : W.cells? base a n = some cs) : cs.length = n ∧ ∀ j v, cs[j]? = some v → W.cell? (a.add j) = some v := by
  unfold World.cells? at h
  split at h
  · have hl := mapM_len h
    refine ⟨by simpa using hl, fun j v hj => ?_⟩
    have hlt : j < n := by have := (List.getElem?_eq_some_iff.1 hj).1; rw [hl] at this; simpa using this
    obtain ⟨y, h1, h2⟩ := mapM_get h j j (by simp [hlt])
    rw [hj] at h1
    simp only [Option.some.injEq] at h1
    subst h1
    exact h2
  · cases h

theorem spot_none {a : Addr} {v : Value} (h : W.cell? a = some v) : a.spot = none := by
  unfold World.cell? at h
  split at h
  · rename_i c e f hc
    cases hs : a.spot with
    | none => rfl
    | some s => rw [hs] at h; simp at h
  · cases h

theorem block_lt {a : Addr} {v : Value} (h : W.cell? a = some v) : a.block < W.heap.size := World.block_lt_of_cell? W a h

abbrev Low (W : World) : Nat → Prop := fun b => b < W.heap.size

/-- Elements, one behind the other. -/
theorem open_elems {e : TypeId} {fuel es b o : Nat} {T : Ty} (hes : 0 < es) (ih : ∀ (cs : List Value) (d : DataW H) (ps : List MemPlace), DataW.trod enc P W base sp held fuel e cs = some (d, ps) → (∀ x ∈ d.weights P e, x ≤ 140737488351232) → ∃ a, RelC W (Low W) noIds a cs ∧ T.has a) : ∀ (n k : Nat) (xs : List (DataW H × List MemPlace)),
    xs.length = n → (∀ i, i < n → (W.cells? base ((⟨b, o, none⟩ : Addr).add ((k + i) * es)) es).bind (DataW.trod enc P W base sp held fuel e) = xs[i]?) → (∀ x ∈ DataW.weightsAll P e (xs.map (·.1)), x ≤ 140737488351232) →
    ∃ ts cs, ts.length = n ∧ RelE W (Low W) es ts cs ∧ Reads W b (o + k * es) cs ∧ ∀ t ∈ ts, T.has t
  | 0, k, xs, hn, h, hw => ⟨[], [], rfl, .nil, fun j v hj => by simp at hj, fun t ht => by cases ht⟩
  | n + 1, k, [], hn, h, hw => by simp at hn
  | n + 1, k, y :: ys, hn, h, hw => by
    have h1 := h 0 (by omega)
    simp only [List.map_cons, DataW.weightsAll, List.mem_append] at hw
    obtain ⟨ts, cs, h3, h4, h5, h6⟩ := open_elems hes ih n (k + 1) ys (by simpa using hn) (fun i hi => by
      have := h (i + 1) (by omega)
      rw [show k + (i + 1) = k + 1 + i by omega] at this
      simpa using this) (fun x hx => hw x (.inr hx))
    simp only [Nat.add_zero, List.getElem?_cons_zero] at h1
    cases hc : W.cells? base ((⟨b, o, none⟩ : Addr).add (k * es)) es with
    | none => rw [hc] at h1; cases h1
    | some c =>
      rw [hc] at h1
      simp only [Option.bind_some] at h1
      obtain ⟨h7, h8⟩ := cells_at hc
      obtain ⟨d, ps⟩ := y
      obtain ⟨a, h9, h10⟩ := ih c d ps h1 (fun x hx => hw x (.inl hx))
      refine ⟨a :: ts, c ++ cs, by simp [h3], .cons h9 h7 h4, fun j v hj => ?_, fun t ht => ?_⟩
      · by_cases hjc : j < c.length
        · rw [List.getElem?_append_left hjc] at hj
          have := h8 j v hj
          rwa [add_lit, add_lit] at this
        · rw [List.getElem?_append_right (by omega)] at hj
          have := h5 _ v hj
          rw [Nat.add_mul, Nat.one_mul] at this
          rw [show o + k * es + j = o + (k * es + es) + (j - c.length) by omega]
          exact this
      · rcases List.mem_cons.1 ht with rfl | ht
        · exact h10
        · exact h6 t ht

theorem open_fields {fuel : Nat} {whole : List Value} {D : Nat} (ih : ∀ (m : Nat), m < D → ∀ (t : TypeId) (T : Ty) (cs : List Value) (d : DataW H) (ps : List MemPlace), tyT P m t = some T → DataW.trod enc P W base sp held fuel t cs = some (d, ps) → (∀ x ∈ d.weights P t, x ≤ 140737488351232) → ∃ a, RelC W (Low W) noIds a cs ∧ T.has a) :
    ∀ (fs : List Field) (d o : Nat) (xs : List (DataW H × List MemPlace)) (l : List Ty) (m : Nat), d ≤ D → tyFs P d o fs = some (l, m) → xs.length = fs.length → (∀ (i : Nat) (f : Field), fs[i]? = some f → DataW.trod enc P W base sp held fuel f.type ((whole.drop f.offset).take (P.cellsOf f.type)) = xs[i]?) →
      (∀ x ∈ DataW.weightsEach P (fs.map (·.type)) (xs.map (·.1)), x ≤ 140737488351232) → m ≤ whole.length → o ≤ m ∧ ∃ ts, RelL W (Low W) noIds ts ((whole.drop o).take (m - o)) ∧ Ty.hasL l ts
  | [], d, o, xs, l, m, hd, hT, hn, h, hw, hm => by
    simp only [tyFs, Option.some.injEq, Prod.mk.injEq] at hT
    obtain ⟨rfl, rfl⟩ := hT
    exact ⟨Nat.le_refl _, [], by simp; exact .nil, rfl⟩
  | f :: fs, 0, o, xs, l, m, hd, hT, hn, h, hw, hm => by simp [tyFs] at hT
  | f :: fs, d + 1, o, [], l, m, hd, hT, hn, h, hw, hm => by simp at hn
  | f :: fs, d + 1, o, y :: ys, l, m, hd, hT, hn, h, hw, hm => by
    simp only [tyFs] at hT
    split at hT
    · rename_i hoff
      split at hT
      · rename_i T l' m' hT1 hT2
        simp only [Option.some.injEq, Prod.mk.injEq] at hT
        obtain ⟨rfl, rfl⟩ := hT
        simp only [List.map_cons, DataW.weightsEach, List.mem_append] at hw
        obtain ⟨h1, ts, h2, h3⟩ := open_fields ih fs d (o + P.cellsOf f.type) ys l' m' (by omega) hT2 (by simpa using hn) (fun i g hg => by simpa using h (i + 1) g (by simpa using hg)) (fun x hx => hw x (.inr hx)) hm
        have h4 := h 0 f rfl
        simp only [List.getElem?_cons_zero] at h4
        obtain ⟨dd, ps⟩ := y
        obtain ⟨a, h5, h6⟩ := ih d (by omega) f.type T _ dd ps hT1 h4 (fun x hx => hw x (.inl hx))
        refine ⟨by omega, a :: ts, ?_, ⟨a, ts, rfl, h6, h3⟩⟩
        have e1 : (whole.drop o).take (m' - o) = (whole.drop f.offset).take (P.cellsOf f.type) ++ (whole.drop (o + P.cellsOf f.type)).take (m' - (o + P.cellsOf f.type)) := by
          rw [hoff, show m' - o = P.cellsOf f.type + (m' - (o + P.cellsOf f.type)) by omega, List.take_add, List.drop_drop]
        rw [e1]
        exact .cons h5 h2
      · cases hT
    · cases hT

theorem open_parts {e : TypeId} {fuel es : Nat} {T : Ty} {whole : List Value} (ih : ∀ (cs : List Value) (d : DataW H) (ps : List MemPlace), DataW.trod enc P W base sp held fuel e cs = some (d, ps) → (∀ x ∈ d.weights P e, x ≤ 140737488351232) → ∃ a, RelC W (Low W) noIds a cs ∧ T.has a) : ∀ (n k : Nat) (xs : List (DataW H × List MemPlace)),
    xs.length = n → (∀ i, i < n → DataW.trod enc P W base sp held fuel e ((whole.drop ((k + i) * es)).take es) = xs[i]?) → (k + n) * es ≤ whole.length → (∀ x ∈ DataW.weightsAll P e (xs.map (·.1)), x ≤ 140737488351232) →
    ∃ ts, ts.length = n ∧ RelE W (Low W) es ts ((whole.drop (k * es)).take (n * es)) ∧ ∀ t ∈ ts, T.has t
  | 0, k, xs, hn, h, hl, hw => ⟨[], rfl, by simp; exact .nil, fun t ht => by cases ht⟩
  | n + 1, k, [], hn, h, hl, hw => by simp at hn
  | n + 1, k, y :: ys, hn, h, hl, hw => by
    have h1 := h 0 (by omega)
    simp only [Nat.add_zero, List.getElem?_cons_zero] at h1
    simp only [List.map_cons, DataW.weightsAll, List.mem_append] at hw
    obtain ⟨ts, h3, h4, h6⟩ := open_parts ih n (k + 1) ys (by simpa using hn) (fun i hi => by
      have := h (i + 1) (by omega)
      rw [show k + (i + 1) = k + 1 + i by omega] at this
      simpa using this) (by rw [show k + 1 + n = k + (n + 1) by omega]; exact hl) (fun x hx => hw x (.inr hx))
    obtain ⟨d, ps⟩ := y
    obtain ⟨a, h9, h10⟩ := ih _ d ps h1 (fun x hx => hw x (.inl hx))
    have hlen : ((whole.drop (k * es)).take es).length = es := by
      simp only [List.length_take, List.length_drop]
      have : (k + (n + 1)) * es = k * es + es + n * es := by rw [Nat.add_mul, Nat.add_mul, Nat.one_mul]; omega
      omega
    refine ⟨a :: ts, by simp [h3], ?_, fun t ht => ?_⟩
    · have e1 : (whole.drop (k * es)).take ((n + 1) * es) = (whole.drop (k * es)).take es ++ (whole.drop ((k + 1) * es)).take (n * es) := by
        rw [show (n + 1) * es = es + n * es by rw [Nat.add_mul, Nat.one_mul]; omega, List.take_add, List.drop_drop, show k * es + es = (k + 1) * es by rw [Nat.add_mul, Nat.one_mul]]
      rw [e1]
      exact .cons h9 hlen h4
    · rcases List.mem_cons.1 ht with rfl | ht
      · exact h10
      · exact h6 t ht

theorem open_trod : ∀ (n : Nat) (t : TypeId) (T : Ty) (fuel : Nat) (cs : List Value) (d : DataW H) (ps : List MemPlace), tyT P n t = some T → DataW.trod enc P W base sp held fuel t cs = some (d, ps) →
    (∀ x ∈ d.weights P t, x ≤ 140737488351232) → ∃ a, RelC W (Low W) noIds a cs ∧ T.has a := by
  intro n
  induction n using Nat.strongRecOn with
  | _ n ih =>
  intro t T fuel cs d ps hT h hw
  cases n with
  | zero => simp [tyT] at hT
  | succ n =>
    simp only [tyT] at hT
    split at hT
    · rename_i k hu
      simp only [Option.some.injEq] at hT
      subst hT
      obtain ⟨x, rfl, _, h2⟩ := DataW.trod_int hu h
      exact ⟨.sc (.int k x), .sc rfl, ⟨x, rfl, h2⟩⟩
    · rename_i hu
      simp only [Option.some.injEq] at hT
      subst hT
      obtain ⟨b, rfl, _⟩ := DataW.trod_bool hu h
      exact ⟨.sc (.bool b), .sc rfl, ⟨b, rfl⟩⟩
    · rename_i hu
      simp only [Option.some.injEq] at hT
      subst hT
      obtain ⟨s, rfl, _, h2⟩ := DataW.trod_string hu h
      exact ⟨.sc (.string s), .sc rfl, ⟨s, rfl, h2⟩⟩
    · rename_i e hu
      split at hT
      · rename_i T' hT'
        split at hT
        · cases hT
        · rename_i hes
          simp only [Option.some.injEq] at hT
          subst hT
          have hes' : 0 < P.cellsOf e := Nat.pos_of_ne_zero hes
          rcases DataW.trod_slice hu h with ⟨rfl, hx⟩ | ⟨a, len, cap, elems, rest, m, rfl, rfl, hx, hb, hlc, hcm, hel, hat, _⟩
          · exact ⟨.fro false (P.cellsOf e) [], .fro0 (fun h => by cases h), ⟨[], rfl, by simp, fun t ht => by cases ht⟩⟩
          · simp only [Prod.mk.injEq] at hx
            obtain ⟨rfl, rfl⟩ := hx
            simp only [DataW.weights, hu, List.mem_cons, List.mem_append] at hw
            have hw1 := hw _ (.inl rfl)
            simp only [List.length_map] at hw1
            cases len with
            | zero => exact ⟨.fro false (P.cellsOf e) [], .fro0 (fun h => by cases h), ⟨[], rfl, by simp, fun t ht => by cases ht⟩⟩
            | succ len =>
              have h0 := hat 0 (by omega)
              rw [List.getElem?_eq_getElem (by omega), Nat.zero_mul] at h0
              cases hc : W.cells? base (a.add 0) (P.cellsOf e) with
              | none => rw [hc] at h0; cases h0
              | some c =>
                obtain ⟨h7, h8⟩ := cells_at hc
                have h9 := h8 0 c[0] (List.getElem?_eq_getElem (by omega))
                have hadd : (a.add 0).add 0 = a := by simp [Addr.add]
                rw [hadd] at h9
                have hspot := spot_none h9
                obtain ⟨b, o, sp'⟩ := a
                simp only at hspot
                subst hspot
                obtain ⟨ts, cs, g1, g2, g3, g4⟩ := open_elems hes' (fun cs d ps h1 h2 => ih n (by omega) e T' m cs d ps hT' h1 h2) (len + 1) 0 elems hel (fun i hi => by rw [Nat.zero_add]; exact hat i hi) (fun x hx => hw x (.inr (.inl hx)))
                rw [Nat.zero_mul, Nat.add_zero] at g3
                refine ⟨.fro false (P.cellsOf e) ts, ?_, ⟨ts, rfl, ?_, g4⟩⟩
                · rw [← g1]
                  exact .fro g2 g3 (block_lt h9) (fun h => by cases h) (by rw [g1]; exact hlc)
                · rw [g1]
                  rw [hel] at hw1
                  exact Nat.le_trans (Nat.mul_le_mul_right _ (by omega)) hw1
      · cases hT
    · rename_i fs hu
      split at hT
      · rename_i l m hl
        split at hT
        · rename_i hm
          simp only [Option.some.injEq] at hT
          subst hT
          obtain ⟨xs, k, rfl, hx, hlen, hxl, hat⟩ := DataW.trod_struct hu h
          simp only [Prod.mk.injEq] at hx
          obtain ⟨rfl, rfl⟩ := hx
          simp only [DataW.weights, hu] at hw
          obtain ⟨_, ts, h2, h3⟩ := open_fields (D := n) (whole := cs) (fuel := k) (fun m hm t T cs d ps h1 h2 h3 => ih m (by omega) t T k cs d ps h1 h2 h3) fs.toList n 0 xs l m (Nat.le_refl _) hl (by simpa using hxl) (fun i f hf => hat i f (by simpa using hf)) hw (by omega)
          refine ⟨.agg m ts, ?_, ⟨ts, rfl, h3⟩⟩
          have e1 : (cs.drop 0).take (m - 0) = cs := by
            rw [List.drop_zero, Nat.sub_zero]; exact List.take_of_length_le (by omega)
          rw [e1] at h2
          exact .agg h2 (by omega)
        · cases hT
      · cases hT
    · rename_i k e hu
      split at hT
      · rename_i T' hT'
        split at hT
        · rename_i hsz
          simp only [Option.some.injEq] at hT
          subst hT
          obtain ⟨xs, m, rfl, hx, hlen, hxl, hat⟩ := DataW.trod_array hu h
          simp only [Prod.mk.injEq] at hx
          obtain ⟨rfl, rfl⟩ := hx
          simp only [DataW.weights, hu] at hw
          obtain ⟨ts, g1, g2, g3⟩ := open_parts (whole := cs) (fun cs d ps h1 h2 => ih n (by omega) e T' m cs d ps hT' h1 h2) k 0 xs hxl (fun i hi => by rw [Nat.zero_add]; exact hat i hi) (by rw [Nat.zero_add]; omega) hw
          refine ⟨.arr k (P.cellsOf e) ts, ?_, ⟨ts, rfl, g1, g3⟩⟩
          have e1 : (cs.drop (0 * P.cellsOf e)).take (k * P.cellsOf e) = cs := by
            rw [Nat.zero_mul, List.drop_zero]; exact List.take_of_length_le (by omega)
          rw [e1] at g2
          exact .arr g2 g1
        · cases hT
      · cases hT
    · cases hT
end
end Go.Ra
