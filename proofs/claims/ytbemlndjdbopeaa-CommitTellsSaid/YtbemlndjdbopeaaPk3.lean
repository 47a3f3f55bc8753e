/- Texts put together. -/
import GoSem.ClaimJoined
import Derived.ProofKit
import Derived.OpenShut
import Derived.WideShapes
import Derived.Carry
import Derived.ChangeOld
import Derived.SizedLaws
import Derived.Test.YtbemlndjdbopeaaProg
import Derived.Test.YtbemlndjdbopeaaPk2
/- What comes in: the data of a row as abstract values. -/
namespace Go.Ra
open Go.RowKit (Below)
set_option linter.unusedVariables false
set_option linter.unusedSimpArgs false

/-- Types of what comes in. -/
inductive Ty where
  | int (k : IntKind)
  | bool
  | str
  | slice (es bytes : Nat) (e : Ty)
  | agg (n : Nat) (l : List Ty)
  | arr (n es : Nat) (e : Ty)
  deriving Inhabited

mutual
def Ty.has : Ty → AV → Prop
  | .int k, a => ∃ n, a = .sc (.int k n) ∧ (Lit.int k n).wf = true
  | .bool, a => ∃ b, a = .sc (.bool b)
  | .str, a => ∃ s, a = .sc (.string s) ∧ s.size ≤ maxLen
  | .slice es bytes e, a => ∃ ts, a = .fro false es ts ∧ ts.length * bytes ≤ 140737488351232 ∧ ∀ t ∈ ts, e.has t
  | .agg n l, a => ∃ ts, a = .agg n ts ∧ Ty.hasL l ts
  | .arr n es e, a => ∃ ts, a = .arr n es ts ∧ ts.length = n ∧ ∀ t ∈ ts, e.has t
def Ty.hasL : List Ty → List AV → Prop
  | [], ts => ts = []
  | T :: l, ts => ∃ t r, ts = t :: r ∧ T.has t ∧ Ty.hasL l r
end

mutual
def tyT (P : Program) : Nat → TypeId → Option Ty
  | 0, _ => none
  | d + 1, t =>
    match P.underlying t with
    | some (.int k) => some (.int k)
    | some .bool => some .bool
    | some .string => some .str
    | some (.slice e) =>
      match tyT P d e with
      | some T => if P.cellsOf e = 0 then none else some (.slice (P.cellsOf e) (P.bytesOf e) T)
      | none => none
    | some (.struct fs) =>
      match tyFs P d 0 fs.toList with
      | some (l, n) => if n = P.cellsOf t then some (.agg n l) else none
      | none => none
    | some (.array n e) =>
      match tyT P d e with
      | some T => if P.cellsOf t = n * P.cellsOf e then some (.arr n (P.cellsOf e) T) else none
      | none => none
    | _ => none
def tyFs (P : Program) : Nat → Nat → List Field → Option (List Ty × Nat)
  | _, o, [] => some ([], o)
  | 0, _, _ :: _ => none
  | d + 1, o, f :: fs =>
    if f.offset = o then
      match tyT P d f.type, tyFs P d (o + P.cellsOf f.type) fs with
      | some T, some (l, n) => some (T :: l, n)
      | _, _ => none
    else none
end

section
variable {P : Program} {H : Type} {enc : TypeId × Value → H} {W : World} {base : Nat} {sp : Nat → Bool} {held : Bool}

theorem cells_at {a : Addr} {n : Nat} {cs : List Value} (h : W.cells? base a n = some cs) : cs.length = n ∧ ∀ j v, cs[j]? = some v → W.cell? (a.add j) = some v := by
  unfold World.cells? at h
  split at h
  · have hl := mapM_len h
    refine ⟨by simpa using hl, fun j v hj => ?_⟩
    have hlt : j < n := by have := (List.getElem?_eq_some_iff.1 hj).1; rw [hl] at this; simpa using this
    obtain ⟨y, h1, h2⟩ := mapM_get h j j (by simp [hlt])
    rw [hj] at h1
    simp only [Option.some.injEq] at h1
    subst h1
    exact h2
  · cases h

theorem spot_none {a : Addr} {v : Value} (h : W.cell? a = some v) : a.spot = none := by
  unfold World.cell? at h
  split at h
  · rename_i c e f hc
    cases hs : a.spot with
    | none => rfl
    | some s => rw [hs] at h; simp at h
  · cases h

theorem block_lt {a : Addr} {v : Value} (h : W.cell? a = some v) : a.block < W.heap.size := World.block_lt_of_cell? W a h

abbrev Low (W : World) : Nat → Prop := fun b => b < W.heap.size

/-- Elements, one behind the other. -/
theorem open_elems {e : TypeId} {fuel es b o : Nat} {T : Ty} (hes : 0 < es) (ih : ∀ (cs : List Value) (d : DataW H) (ps : List MemPlace), DataW.trod enc P W base sp held fuel e cs = some (d, ps) → (∀ x ∈ d.weights P e, x ≤ 140737488351232) → ∃ a, RelC W (Low W) noIds a cs ∧ T.has a) : ∀ (n k : Nat) (xs : List (DataW H × List MemPlace)),
    xs.length = n → (∀ i, i < n → (W.cells? base ((⟨b, o, none⟩ : Addr).add ((k + i) * es)) es).bind (DataW.trod enc P W base sp held fuel e) = xs[i]?) → (∀ x ∈ DataW.weightsAll P e (xs.map (·.1)), x ≤ 140737488351232) →
    ∃ ts cs, ts.length = n ∧ RelE W (Low W) es ts cs ∧ Reads W b (o + k * es) cs ∧ ∀ t ∈ ts, T.has t
  | 0, k, xs, hn, h, hw => ⟨[], [], rfl, .nil, fun j v hj => by simp at hj, fun t ht => by cases ht⟩
  | n + 1, k, [], hn, h, hw => by simp at hn
  | n + 1, k, y :: ys, hn, h, hw => by
    have h1 := h 0 (by omega)
    simp only [List.map_cons, DataW.weightsAll, List.mem_append] at hw
    obtain ⟨ts, cs, h3, h4, h5, h6⟩ := open_elems hes ih n (k + 1) ys (by simpa using hn) (fun i hi => by
      have := h (i + 1) (by omega)
      rw [show k + (i + 1) = k + 1 + i by omega] at this
      simpa using this) (fun x hx => hw x (.inr hx))
    simp only [Nat.add_zero, List.getElem?_cons_zero] at h1
    cases hc : W.cells? base ((⟨b, o, none⟩ : Addr).add (k * es)) es with
    | none => rw [hc] at h1; cases h1
    | some c =>
      rw [hc] at h1
      simp only [Option.bind_some] at h1
      obtain ⟨h7, h8⟩ := cells_at hc
      obtain ⟨d, ps⟩ := y
      obtain ⟨a, h9, h10⟩ := ih c d ps h1 (fun x hx => hw x (.inl hx))
      refine ⟨a :: ts, c ++ cs, by simp [h3], .cons h9 h7 h4, fun j v hj => ?_, fun t ht => ?_⟩
      · by_cases hjc : j < c.length
        · rw [List.getElem?_append_left hjc] at hj
          have := h8 j v hj
          rwa [add_lit, add_lit] at this
        · rw [List.getElem?_append_right (by omega)] at hj
          have := h5 _ v hj
          rw [Nat.add_mul, Nat.one_mul] at this
          rw [show o + k * es + j = o + (k * es + es) + (j - c.length) by omega]
          exact this
      · rcases List.mem_cons.1 ht with rfl | ht
        · exact h10
        · exact h6 t ht

theorem open_fields {fuel : Nat} {whole : List Value} {D : Nat} (ih : ∀ (m : Nat), m < D → ∀ (t : TypeId) (T : Ty) (cs : List Value) (d : DataW H) (ps : List MemPlace), tyT P m t = some T → DataW.trod enc P W base sp held fuel t cs = some (d, ps) → (∀ x ∈ d.weights P t, x ≤ 140737488351232) → ∃ a, RelC W (Low W) noIds a cs ∧ T.has a) :
    ∀ (fs : List Field) (d o : Nat) (xs : List (DataW H × List MemPlace)) (l : List Ty) (m : Nat), d ≤ D → tyFs P d o fs = some (l, m) → xs.length = fs.length → (∀ (i : Nat) (f : Field), fs[i]? = some f → DataW.trod enc P W base sp held fuel f.type ((whole.drop f.offset).take (P.cellsOf f.type)) = xs[i]?) →
      (∀ x ∈ DataW.weightsEach P (fs.map (·.type)) (xs.map (·.1)), x ≤ 140737488351232) → m ≤ whole.length → o ≤ m ∧ ∃ ts, RelL W (Low W) noIds ts ((whole.drop o).take (m - o)) ∧ Ty.hasL l ts
  | [], d, o, xs, l, m, hd, hT, hn, h, hw, hm => by
    simp only [tyFs, Option.some.injEq, Prod.mk.injEq] at hT
    obtain ⟨rfl, rfl⟩ := hT
    exact ⟨Nat.le_refl _, [], by simp; exact .nil, rfl⟩
  | f :: fs, 0, o, xs, l, m, hd, hT, hn, h, hw, hm => by simp [tyFs] at hT
  | f :: fs, d + 1, o, [], l, m, hd, hT, hn, h, hw, hm => by simp at hn
  | f :: fs, d + 1, o, y :: ys, l, m, hd, hT, hn, h, hw, hm => by
    simp only [tyFs] at hT
    split at hT
    · rename_i hoff
      split at hT
      · rename_i T l' m' hT1 hT2
        simp only [Option.some.injEq, Prod.mk.injEq] at hT
        obtain ⟨rfl, rfl⟩ := hT
        simp only [List.map_cons, DataW.weightsEach, List.mem_append] at hw
        obtain ⟨h1, ts, h2, h3⟩ := open_fields ih fs d (o + P.cellsOf f.type) ys l' m' (by omega) hT2 (by simpa using hn) (fun i g hg => by simpa using h (i + 1) g (by simpa using hg)) (fun x hx => hw x (.inr hx)) hm
        have h4 := h 0 f rfl
        simp only [List.getElem?_cons_zero] at h4
        obtain ⟨dd, ps⟩ := y
        obtain ⟨a, h5, h6⟩ := ih d (by omega) f.type T _ dd ps hT1 h4 (fun x hx => hw x (.inl hx))
        refine ⟨by omega, a :: ts, ?_, ⟨a, ts, rfl, h6, h3⟩⟩
        have e1 : (whole.drop o).take (m' - o) = (whole.drop f.offset).take (P.cellsOf f.type) ++ (whole.drop (o + P.cellsOf f.type)).take (m' - (o + P.cellsOf f.type)) := by
          rw [hoff, show m' - o = P.cellsOf f.type + (m' - (o + P.cellsOf f.type)) by omega, List.take_add, List.drop_drop]
        rw [e1]
        exact .cons h5 h2
      · cases hT
    · cases hT

theorem open_parts {e : TypeId} {fuel es : Nat} {T : Ty} {whole : List Value} (ih : ∀ (cs : List Value) (d : DataW H) (ps : List MemPlace), DataW.trod enc P W base sp held fuel e cs = some (d, ps) → (∀ x ∈ d.weights P e, x ≤ 140737488351232) → ∃ a, RelC W (Low W) noIds a cs ∧ T.has a) : ∀ (n k : Nat) (xs : List (DataW H × List MemPlace)),
    xs.length = n → (∀ i, i < n → DataW.trod enc P W base sp held fuel e ((whole.drop ((k + i) * es)).take es) = xs[i]?) → (k + n) * es ≤ whole.length → (∀ x ∈ DataW.weightsAll P e (xs.map (·.1)), x ≤ 140737488351232) →
    ∃ ts, ts.length = n ∧ RelE W (Low W) es ts ((whole.drop (k * es)).take (n * es)) ∧ ∀ t ∈ ts, T.has t
  | 0, k, xs, hn, h, hl, hw => ⟨[], rfl, by simp; exact .nil, fun t ht => by cases ht⟩
  | n + 1, k, [], hn, h, hl, hw => by simp at hn
  | n + 1, k, y :: ys, hn, h, hl, hw => by
    have h1 := h 0 (by omega)
    simp only [Nat.add_zero, List.getElem?_cons_zero] at h1
    simp only [List.map_cons, DataW.weightsAll, List.mem_append] at hw
    obtain ⟨ts, h3, h4, h6⟩ := open_parts ih n (k + 1) ys (by simpa using hn) (fun i hi => by
      have := h (i + 1) (by omega)
      rw [show k + (i + 1) = k + 1 + i by omega] at this
      simpa using this) (by rw [show k + 1 + n = k + (n + 1) by omega]; exact hl) (fun x hx => hw x (.inr hx))
    obtain ⟨d, ps⟩ := y
    obtain ⟨a, h9, h10⟩ := ih _ d ps h1 (fun x hx => hw x (.inl hx))
    have hlen : ((whole.drop (k * es)).take es).length = es := by
      simp only [List.length_take, List.length_drop]
      have : (k + (n + 1)) * es = k * es + es + n * es := by rw [Nat.add_mul, Nat.add_mul, Nat.one_mul]; omega
      omega
    refine ⟨a :: ts, by simp [h3], ?_, fun t ht => ?_⟩
    · have e1 : (whole.drop (k * es)).take ((n + 1) * es) = (whole.drop (k * es)).take es ++ (whole.drop ((k + 1) * es)).take (n * es) := by
        rw [show (n + 1) * es = es + n * es by rw [Nat.add_mul, Nat.one_mul]; omega, List.take_add, List.drop_drop, show k * es + es = (k + 1) * es by rw [Nat.add_mul, Nat.one_mul]]
      rw [e1]
      exact .cons h9 hlen h4
    · rcases List.mem_cons.1 ht with rfl | ht
      · exact h10
      · exact h6 t ht

theorem open_trod : ∀ (n : Nat) (t : TypeId) (T : Ty) (fuel : Nat) (cs : List Value) (d : DataW H) (ps : List MemPlace), tyT P n t = some T → DataW.trod enc P W base sp held fuel t cs = some (d, ps) →
    (∀ x ∈ d.weights P t, x ≤ 140737488351232) → ∃ a, RelC W (Low W) noIds a cs ∧ T.has a := by
  intro n
  induction n using Nat.strongRecOn with
  | _ n ih =>
  intro t T fuel cs d ps hT h hw
  cases n with
  | zero => simp [tyT] at hT
  | succ n =>
    simp only [tyT] at hT
    split at hT
    · rename_i k hu
      simp only [Option.some.injEq] at hT
      subst hT
      obtain ⟨x, rfl, _, h2⟩ := DataW.trod_int hu h
      exact ⟨.sc (.int k x), .sc rfl, ⟨x, rfl, h2⟩⟩
    · rename_i hu
      simp only [Option.some.injEq] at hT
      subst hT
      obtain ⟨b, rfl, _⟩ := DataW.trod_bool hu h
      exact ⟨.sc (.bool b), .sc rfl, ⟨b, rfl⟩⟩
    · rename_i hu
      simp only [Option.some.injEq] at hT
      subst hT
      obtain ⟨s, rfl, _, h2⟩ := DataW.trod_string hu h
      exact ⟨.sc (.string s), .sc rfl, ⟨s, rfl, h2⟩⟩
    · rename_i e hu
      split at hT
      · rename_i T' hT'
        split at hT
        · cases hT
        · rename_i hes
          simp only [Option.some.injEq] at hT
          subst hT
          have hes' : 0 < P.cellsOf e := Nat.pos_of_ne_zero hes
          rcases DataW.trod_slice hu h with ⟨rfl, hx⟩ | ⟨a, len, cap, elems, rest, m, rfl, rfl, hx, hb, hlc, hcm, hel, hat, _⟩
          · exact ⟨.fro false (P.cellsOf e) [], .fro0 (fun h => by cases h), ⟨[], rfl, by simp, fun t ht => by cases ht⟩⟩
          · simp only [Prod.mk.injEq] at hx
            obtain ⟨rfl, rfl⟩ := hx
            simp only [DataW.weights, hu, List.mem_cons, List.mem_append] at hw
            have hw1 := hw _ (.inl rfl)
            simp only [List.length_map] at hw1
            cases len with
            | zero => exact ⟨.fro false (P.cellsOf e) [], .fro0 (fun h => by cases h), ⟨[], rfl, by simp, fun t ht => by cases ht⟩⟩
            | succ len =>
              have h0 := hat 0 (by omega)
              rw [List.getElem?_eq_getElem (by omega), Nat.zero_mul] at h0
              cases hc : W.cells? base (a.add 0) (P.cellsOf e) with
              | none => rw [hc] at h0; cases h0
              | some c =>
                obtain ⟨h7, h8⟩ := cells_at hc
                have h9 := h8 0 c[0] (List.getElem?_eq_getElem (by omega))
                have hadd : (a.add 0).add 0 = a := by simp [Addr.add]
                rw [hadd] at h9
                have hspot := spot_none h9
                obtain ⟨b, o, sp'⟩ := a
                simp only at hspot
                subst hspot
                obtain ⟨ts, cs, g1, g2, g3, g4⟩ := open_elems hes' (fun cs d ps h1 h2 => ih n (by omega) e T' m cs d ps hT' h1 h2) (len + 1) 0 elems hel (fun i hi => by rw [Nat.zero_add]; exact hat i hi) (fun x hx => hw x (.inr (.inl hx)))
                rw [Nat.zero_mul, Nat.add_zero] at g3
                refine ⟨.fro false (P.cellsOf e) ts, ?_, ⟨ts, rfl, ?_, g4⟩⟩
                · rw [← g1]
                  exact .fro g2 g3 (block_lt h9) (fun h => by cases h) (by rw [g1]; exact hlc)
                · rw [g1]
                  rw [hel] at hw1
                  exact Nat.le_trans (Nat.mul_le_mul_right _ (by omega)) hw1
      · cases hT
    · rename_i fs hu
      split at hT
      · rename_i l m hl
        split at hT
        · rename_i hm
          simp only [Option.some.injEq] at hT
          subst hT
          obtain ⟨xs, k, rfl, hx, hlen, hxl, hat⟩ := DataW.trod_struct hu h
          simp only [Prod.mk.injEq] at hx
          obtain ⟨rfl, rfl⟩ := hx
          simp only [DataW.weights, hu] at hw
          obtain ⟨_, ts, h2, h3⟩ := open_fields (D := n) (whole := cs) (fuel := k) (fun m hm t T cs d ps h1 h2 h3 => ih m (by omega) t T k cs d ps h1 h2 h3) fs.toList n 0 xs l m (Nat.le_refl _) hl (by simpa using hxl) (fun i f hf => hat i f (by simpa using hf)) hw (by omega)
          refine ⟨.agg m ts, ?_, ⟨ts, rfl, h3⟩⟩
          have e1 : (cs.drop 0).take (m - 0) = cs := by
            rw [List.drop_zero, Nat.sub_zero]; exact List.take_of_length_le (by omega)
          rw [e1] at h2
          exact .agg h2 (by omega)
        · cases hT
      · cases hT
    · rename_i k e hu
      split at hT
      · rename_i T' hT'
        split at hT
        · rename_i hsz
          simp only [Option.some.injEq] at hT
          subst hT
          obtain ⟨xs, m, rfl, hx, hlen, hxl, hat⟩ := DataW.trod_array hu h
          simp only [Prod.mk.injEq] at hx
          obtain ⟨rfl, rfl⟩ := hx
          simp only [DataW.weights, hu] at hw
          obtain ⟨ts, g1, g2, g3⟩ := open_parts (whole := cs) (fun cs d ps h1 h2 => ih n (by omega) e T' m cs d ps hT' h1 h2) k 0 xs hxl (fun i hi => by rw [Nat.zero_add]; exact hat i hi) (by rw [Nat.zero_add]; omega) hw
          refine ⟨.arr k (P.cellsOf e) ts, ?_, ⟨ts, rfl, g1, g3⟩⟩
          have e1 : (cs.drop (0 * P.cellsOf e)).take (k * P.cellsOf e) = cs := by
            rw [Nat.zero_mul, List.drop_zero]; exact List.take_of_length_le (by omega)
          rw [e1] at g2
          exact .arr g2 g1
        · cases hT
      · cases hT
    · cases hT
end
end Go.Ra

/- From what is shown of a law's function to the row's contract. -/
namespace Go.Ra
open Go.RowKit (Below)
open Go.ChangeShapes Go.WideShapes Go.ChangeAt Go.RowKit
set_option linter.unusedVariables false
set_option linter.unusedSimpArgs false
section
variable {P : Program} {H : Type} {enc : TypeId × Value → H} {W : World} {sp : Nat → Bool} {held : Bool} {base b0 : Nat}

theorem open_val {n : Nat} {t : TypeId} {T : Ty} {v : Value} {d : DataW H} {ps : List MemPlace} (hT : tyT P n t = some T) (hval : Value.okWide P W .any b0 t v) (h : DataW.Trod enc P W base sp held t v d ps) (hw : ∀ x ∈ d.weights P t, x ≤ 140737488351232) :
    ∃ a, RelV W (Low W) noIds a v ∧ T.has a := by
  obtain ⟨fuel, hf⟩ := h
  obtain ⟨a, h1, h2⟩ := open_trod n t T fuel _ d ps hT hf hw
  refine ⟨a, ?_, h2⟩
  cases n with
  | zero => simp [tyT] at hT
  | succ n =>
    simp only [tyT] at hT
    split at hT
    · rename_i k hu
      simp only [Option.some.injEq] at hT
      subst hT
      obtain ⟨x, rfl⟩ := okWide_int hu hval
      obtain ⟨y, rfl, _⟩ := h2
      exact .one (by simpa [Value.cells] using h1) rfl
    · rename_i hu
      simp only [Option.some.injEq] at hT
      subst hT
      obtain ⟨x, rfl⟩ := okWide_bool hu hval
      obtain ⟨y, rfl⟩ := h2
      exact .one (by simpa [Value.cells] using h1) rfl
    · rename_i hu
      simp only [Option.some.injEq] at hT
      subst hT
      obtain ⟨x, rfl⟩ := okWide_string hu hval
      obtain ⟨y, rfl, _⟩ := h2
      exact .one (by simpa [Value.cells] using h1) rfl
    · rename_i e hu
      obtain ⟨x, len, cap, rfl⟩ := okWide_slice hu hval
      split at hT
      · split at hT
        · cases hT
        · simp only [Option.some.injEq] at hT
          subst hT
          obtain ⟨ts, rfl, _⟩ := h2
          exact .one (by simpa [Value.cells] using h1) rfl
      · cases hT
    · rename_i fs hu
      simp only [Value.okWide, hu] at hval
      obtain ⟨cs, rfl, _⟩ := hval
      split at hT
      · split at hT
        · simp only [Option.some.injEq] at hT
          subst hT
          obtain ⟨ts, rfl, _⟩ := h2
          simpa using RelV.agg (cs := cs.toList) (by simpa [Value.cells] using h1) rfl
        · cases hT
      · cases hT
    · rename_i k e hu
      simp only [Value.okWide, hu] at hval
      obtain ⟨cs, rfl, _⟩ := hval
      split at hT
      · split at hT
        · simp only [Option.some.injEq] at hT
          subst hT
          obtain ⟨ts, rfl, _⟩ := h2
          simpa using RelV.agg (cs := cs.toList) (by simpa [Value.cells] using h1) rfl
        · cases hT
      · cases hT
    · cases hT

theorem open_all {n : Nat} : ∀ {ts : List TypeId} {Ts : List Ty} {vs : List Value} {ds : List (DataW H)} {ps : List MemPlace}, mapO (tyT P n) ts = some Ts → (∀ (j : Nat) (t : TypeId) (v : Value), ts[j]? = some t → vs[j]? = some v → Value.okWide P W .any b0 t v) →
    DataW.TrodAll enc P W base sp held ts vs ds ps → (∀ x ∈ DataW.weightsEach P ts ds, x ≤ 140737488351232) → ∃ as0, RelVs W (Low W) noIds as0 vs ∧ Ty.hasL Ts as0
  | [], Ts, [], [], ps, hT, hv, h, hw => by
    simp only [mapO, Option.some.injEq] at hT
    subst hT
    exact ⟨[], .nil, rfl⟩
  | t :: ts, Ts, v :: vs, d :: ds, ps, hT, hv, h, hw => by
    simp only [mapO] at hT
    split at hT
    · rename_i T Ts' hT1 hT2
      simp only [Option.some.injEq] at hT
      subst hT
      obtain ⟨p, q, h1, h2, rfl⟩ := h
      simp only [DataW.weightsEach, List.mem_append] at hw
      obtain ⟨a, h3, h4⟩ := open_val hT1 (hv 0 t v rfl rfl) h1 (fun x hx => hw x (.inl hx))
      obtain ⟨as0, h5, h6⟩ := open_all hT2 (fun j t' v' h7 h8 => hv (j + 1) t' v' (by simpa using h7) (by simpa using h8)) h2 (fun x hx => hw x (.inr hx))
      exact ⟨a :: as0, .cons h3 h5, ⟨a, as0, rfl, h4, h6⟩⟩
    · cases hT
  | [], Ts, v :: vs, ds, ps, hT, hv, h, hw => by cases ds <;> exact h.elim
  | [], Ts, [], d :: ds, ps, hT, hv, h, hw => h.elim
  | t :: ts, Ts, [], ds, ps, hT, hv, h, hw => by cases ds <;> exact h.elim
  | t :: ts, Ts, v :: vs, [], ps, hT, hv, h, hw => h.elim

theorem all_below (hl : laidOutB P = true) {W' : World} (hb : Below W.heap.size W W') : ∀ {ts : List TypeId} {vs : List Value} {ds : List (DataW H)} {ps : List MemPlace}, ts.all (fun t => P.readableRec t && decide (t < P.types.size)) = true →
    DataW.TrodAll enc P W 0 (fun _ => true) true ts vs ds ps → (∀ x ∈ ps, x.block < W.heap.size) → DataW.TrodAll enc P W' 0 (fun b => decide (b < W.heap.size)) true ts vs ds ps
  | [], [], [], ps, hr, h, hlt => h
  | t :: ts, v :: vs, d :: ds, ps, hr, h, hlt => by
    obtain ⟨p, q, h1, h2, rfl⟩ := h
    simp only [List.all_cons, Bool.and_eq_true, decide_eq_true_eq] at hr
    exact ⟨p, q, Below.trod hl hr.1.1 hr.1.2 h1 hb (fun x hx => hlt x (List.mem_append_left _ hx)), all_below hl hb hr.2 h2 (fun x hx => hlt x (List.mem_append_right _ hx)), rfl⟩
  | [], v :: vs, ds, ps, hr, h, hlt => by cases ds <;> exact h.elim
  | [], [], d :: ds, ps, hr, h, hlt => h.elim
  | t :: ts, [], ds, ps, hr, h, hlt => by cases ds <;> exact h.elim
  | t :: ts, v :: vs, [], ps, hr, h, hlt => h.elim

theorem all_len : ∀ {ts : List TypeId} {vs : List Value} {ds : List (DataW H)} {ps : List MemPlace}, DataW.TrodAll enc P W base sp held ts vs ds ps → ds.length = ts.length
  | [], [], [], ps, h => rfl
  | t :: ts, v :: vs, d :: ds, ps, h => by
    obtain ⟨p, q, h1, h2, rfl⟩ := h
    simp [all_len h2]
  | [], v :: vs, ds, ps, h => by cases ds <;> exact h.elim
  | [], [], d :: ds, ps, h => h.elim
  | t :: ts, [], ds, ps, h => by cases ds <;> exact h.elim
  | t :: ts, v :: vs, [], ps, h => h.elim
end

/-- The contract of a law that gives true whatever comes in. -/
theorem law_post {P : Program} {H : Type} {enc : TypeId × Value → H} {fn : Func} {f : Nat} {s : ChangeSpec} {ts : List TypeId} {Ts : List Ty} {tb : TypeId} {n : Nat} (hl : laidOutB P = true) (hp : fn.params.toList = ts) (hr : fn.resultTypes = #[tb]) (htb : P.underlying tb = some .bool)
    (hv : s.vars = []) (hTs : mapO (tyT P n) ts = some Ts) (hread : ts.all (fun t => P.readableRec t && decide (t < P.types.size)) = true)
    (hfn : ∀ ds : List (DataW H), ds.length = ts.length → (s.fn H ds).results = [.lit (.bool true)] ∧ (s.fn H ds).args = ds ∧ (s.fn H ds).vars = [])
    (hlaw : ∀ as0, Ty.hasL Ts as0 → Pure P f as0 (.sc (.bool true))) {apart : Bool} :
    ∀ (W : World) (base : Nat) (args : Array Value) (ds gs : List (DataW H)) (before : List MemPlace),
      (∀ (j : Nat) t v, fn.params[j]? = some t → args[j]? = some v → Value.okWide P W .any base t v) →
      DataW.Whole enc P fn.params.toList s.vars apart W args.toList ds gs before →
      (DataW.weightsEach P (fn.params.toList ++ s.plain.varTypes P) (ds ++ gs)).all (· ≤ reachBytes) = true →
      Calls P f args W fun e W' => ∃ v, e = .returned v ∧ s.post enc P fn apart true false false W args v W' := by
  intro W base args ds gs before hval hW hsz
  have hW' := hW
  obtain ⟨p, q, hA, hV, rfl, hfz, hnd⟩ := hW
  rw [hv] at hV
  have hgs : gs = [] ∧ q = [] := by
    cases gs with
    | nil => exact ⟨rfl, hV⟩
    | cons g gs => exact hV.elim
  obtain ⟨rfl, rfl⟩ := hgs
  rw [hp] at hA
  have hvt : s.plain.varTypes P = [] := by
    simp only [ChangeSpec.plain, DataSpec.varTypes, hv]
    rfl
  rw [hvt, List.append_nil, List.append_nil, hp] at hsz
  obtain ⟨as0, h1, h2⟩ := open_all (b0 := base) hTs (fun j t v hj hvj => hval j t v (by rw [← Array.getElem?_toList, hp]; exact hj) (by rw [← Array.getElem?_toList]; exact hvj)) hA (fun x hx => by
    have := List.all_eq_true.1 hsz x hx
    exact of_decide_eq_true this)
  obtain ⟨_, hc⟩ := hlaw as0 h2
  have := hc W (Low W) args.toList (fun b hb => hb) h1
  rw [Array.toArray_toList] at this
  refine this.mono fun e W' ⟨u, F', he, hb, _, _, hrel⟩ => ?_
  obtain ⟨hu, _⟩ := hrel.sc_inv
  subst hu
  obtain ⟨g1, g2, g3⟩ := hfn ds (all_len hA)
  have hlt := hA.lt
  refine ⟨_, he, ds, [], _, [], p, [], hW', ?_, ?_, ?_, hb.frame _, fun h => by cases h⟩
  · rw [List.append_nil, g1, hr]
    exact trodAll_mk1 (shut_bool htb _)
  · rw [List.append_nil, g2, hp]
    exact all_below hl hb hread hA hlt
  · rw [List.append_nil, g3, hv]
    rfl
end Go.Ra

/- Which functions leave memory alone, by number. -/
namespace Go.Proofs.Ytbemlndjdbopeaa
open Go.Ra
/-- A number n: that function leaves memory alone; n + 1000000: it only makes memory; n + 2000000: its appends onto nil are only read. -/
def qq : Nat → Bool := qs [0, 1, 2, 3, 4, 5, 6, 7, 8, 9, 10, 11, 12, 13, 14, 15, 16, 17, 19, 20, 21, 22, 23, 24, 25, 26, 27, 28, 29, 30, 31, 32, 33, 34, 35, 36, 40, 41, 50, 52, 53, 54, 55, 56, 57, 58, 63, 64, 65, 69, 71, 72, 73, 74, 75, 76, 77, 78, 79, 80, 81, 82, 83, 84, 85, 86, 87, 88, 89, 90, 91, 92, 1000039, 1000042, 1000043, 1000044, 1000045, 1000046, 1000047, 1000048, 2000003, 2000007, 2000009, 4000006011, 4000008015, 5000300018, 5000400018, 5000500018, 5000600018, 5000700018, 5000800018, 5000900018, 5001000018, 5001100018, 5001200018, 5001300018, 5002100018]
theorem mix : Try.prog.follows .mixedOrders = true := by kernel_rfl
end Go.Proofs.Ytbemlndjdbopeaa

/- Abstract code of the functions of bytes: printed by a program from what the given translation yields. -/
namespace Go.Proofs.Ytbemlndjdbopeaa
open Go.Ra
def c_bytes_Overlap : AC := (.seq (.ops [⟨(.some 8), (.mv (.c (.sc (.bool .false)))), .none⟩]) (.seq (.ops [⟨(.some 9), (.mv (.t 1)), .none⟩, ⟨(.some 10), (.bin .geq (.t 9) (.c (.sc (.int .i64 1)))), .none⟩, ⟨(.some 11), (.mv (.t 10)), .none⟩, ⟨(.some 12), (.mv (.t 3)), (.some (11, .true))⟩, ⟨(.some 13), (.bin .geq (.t 12) (.c (.sc (.int .i64 1)))), (.some (11, .true))⟩, ⟨(.some 14), (.pick (.t 11) (.t 13) (.c (.sc (.bool .false)))), .none⟩, ⟨(.some 15), (.mv (.t 14)), .none⟩, ⟨(.some 16), (.mv (.t 0)), (.some (15, .true))⟩, ⟨(.some 17), (.mv (.t 1)), (.some (15, .true))⟩, ⟨(.some 18), (.mv (.t 2)), (.some (15, .true))⟩, ⟨(.some 19), (.call 65 [(.t 16), (.t 17), (.t 18)]), (.some (15, .true))⟩, ⟨(.some 20), (.mv (.t 19)), (.some (15, .true))⟩, ⟨(.some 21), (.mv (.t 2)), (.some (20, .false))⟩, ⟨(.some 22), (.mv (.t 3)), (.some (20, .false))⟩, ⟨(.some 23), (.mv (.t 0)), (.some (20, .false))⟩, ⟨(.some 24), (.call 65 [(.t 21), (.t 22), (.t 23)]), (.some (20, .false))⟩, ⟨(.some 25), (.pick (.t 20) (.c (.sc (.bool .true))) (.t 24)), (.some (15, .true))⟩, ⟨(.some 26), (.pick (.t 15) (.t 25) (.c (.sc (.bool .false)))), .none⟩, ⟨(.some 8), (.mv (.t 26)), .none⟩]) .ret))
theorem t_bytes_Overlap : trF Try.prog qq 56 = some (27, [(.tmp 8)], c_bytes_Overlap) := by kernel_rfl
def c_bytes_before : AC := (.seq (.ops [⟨(.some 6), (.mv (.c (.sc (.bool .false)))), .none⟩]) (.seq (.ops [⟨(.some 7), (.mv (.t 0)), .none⟩, ⟨(.some 8), (.mv (.t 2)), .none⟩, ⟨(.some 9), (.bin .leq (.t 7) (.t 8)), .none⟩, ⟨(.some 10), (.mv (.t 9)), .none⟩, ⟨(.some 11), (.mv (.t 2)), (.some (10, .true))⟩, ⟨(.some 12), (.conv .u64 (.t 11)), (.some (10, .true))⟩, ⟨(.some 13), (.mv (.t 0)), (.some (10, .true))⟩, ⟨(.some 14), (.conv .u64 (.t 13)), (.some (10, .true))⟩, ⟨(.some 15), (.bin .sub (.t 12) (.t 14)), (.some (10, .true))⟩, ⟨(.some 16), (.mv (.t 1)), (.some (10, .true))⟩, ⟨(.some 17), (.conv .u64 (.t 16)), (.some (10, .true))⟩, ⟨(.some 18), (.bin .lss (.t 15) (.t 17)), (.some (10, .true))⟩, ⟨(.some 19), (.pick (.t 10) (.t 18) (.c (.sc (.bool .false)))), .none⟩, ⟨(.some 6), (.mv (.t 19)), .none⟩]) .ret))
theorem t_bytes_before : trF Try.prog qq 65 = some (20, [(.tmp 6)], c_bytes_before) := by kernel_rfl
def c_bytes_Write_l1 : AC := (.seq (.ops [⟨(.some 42), (.bin .lss (.t 41) (.t 40)), .none⟩]) (.seq (.cond (.t 42) .skip (.exit 0)) (.seq (.block 1 (.seq (.ops [⟨(.some 43), (.mv (.t 41)), .none⟩, ⟨(.some 4), (.mv (.t 43)), .none⟩]) (.ops [⟨(.some 44), (.mv (.t 0)), .none⟩, ⟨(.some 45), (.fadr 0 0 1 (.t 3)), .none⟩, ⟨(.some 46), (.load .false 1 (.t 45)), .none⟩, ⟨(.some 47), (.mv (.t 4)), .none⟩, ⟨(.some 48), (.bin .add (.t 46) (.t 47)), .none⟩, ⟨(.some 49), (.fadr 2 2 1 (.t 3)), .none⟩, ⟨(.some 50), (.load .false 1 (.t 49)), .none⟩, ⟨(.some 51), (.mv (.t 4)), .none⟩, ⟨(.some 52), (.bin .mul (.c (.sc (.int .i64 8))) (.t 51)), .none⟩, ⟨(.some 53), (.bin .shr (.t 50) (.t 52)), .none⟩, ⟨(.some 54), (.conv .u8 (.t 53)), .none⟩, ⟨(.some 55), (.iadr .none 1 (.t 44) (.t 48)), .none⟩, ⟨.none, (.store 1 (.t 55) (.t 54)), .none⟩]))) (.ops [⟨(.some 56), (.bin .add (.t 41) (.c (.sc (.int .i64 1)))), .none⟩, ⟨(.some 41), (.mv (.t 56)), .none⟩]))))
def c_bytes_Write : AC := (.seq (.ops [⟨(.some 3), (.box (.t 1)), .none⟩]) (.seq (.seq (.ops [⟨(.some 5), (.fadr 1 1 1 (.t 3)), .none⟩, ⟨(.some 6), (.load .false 1 (.t 5)), .none⟩, ⟨(.some 7), (.bin .neq (.t 6) (.c (.sc (.int .i64 1)))), .none⟩, ⟨(.some 8), (.mv (.t 7)), .none⟩, ⟨(.some 9), (.fadr 1 1 1 (.t 3)), (.some (8, .true))⟩, ⟨(.some 10), (.load .false 1 (.t 9)), (.some (8, .true))⟩, ⟨(.some 11), (.bin .neq (.t 10) (.c (.sc (.int .i64 2)))), (.some (8, .true))⟩, ⟨(.some 12), (.pick (.t 8) (.t 11) (.c (.sc (.bool .false)))), .none⟩, ⟨(.some 13), (.mv (.t 12)), .none⟩, ⟨(.some 14), (.fadr 1 1 1 (.t 3)), (.some (13, .true))⟩, ⟨(.some 15), (.load .false 1 (.t 14)), (.some (13, .true))⟩, ⟨(.some 16), (.bin .neq (.t 15) (.c (.sc (.int .i64 4)))), (.some (13, .true))⟩, ⟨(.some 17), (.pick (.t 13) (.t 16) (.c (.sc (.bool .false)))), .none⟩, ⟨(.some 18), (.mv (.t 17)), .none⟩, ⟨(.some 19), (.fadr 0 0 1 (.t 3)), (.some (18, .false))⟩, ⟨(.some 20), (.load .false 1 (.t 19)), (.some (18, .false))⟩, ⟨(.some 21), (.bin .lss (.t 20) (.c (.sc (.int .i64 0)))), (.some (18, .false))⟩, ⟨(.some 22), (.pick (.t 18) (.c (.sc (.bool .true))) (.t 21)), .none⟩, ⟨(.some 23), (.mv (.t 22)), .none⟩, ⟨(.some 24), (.fadr 0 0 1 (.t 3)), (.some (23, .false))⟩, ⟨(.some 25), (.load .false 1 (.t 24)), (.some (23, .false))⟩, ⟨(.some 26), (.bin .gtr (.t 25) (.c (.sc (.int .i64 4294967295)))), (.some (23, .false))⟩, ⟨(.some 27), (.pick (.t 23) (.c (.sc (.bool .true))) (.t 26)), .none⟩, ⟨(.some 28), (.mv (.t 27)), .none⟩, ⟨(.some 29), (.fadr 1 1 1 (.t 3)), (.some (28, .false))⟩, ⟨(.some 30), (.load .false 1 (.t 29)), (.some (28, .false))⟩, ⟨(.some 31), (.fadr 0 0 1 (.t 3)), (.some (28, .false))⟩, ⟨(.some 32), (.load .false 1 (.t 31)), (.some (28, .false))⟩, ⟨(.some 33), (.conv .u32 (.t 32)), (.some (28, .false))⟩, ⟨(.some 34), (.mv (.t 0)), (.some (28, .false))⟩, ⟨(.some 35), (.len .none (.t 34)), (.some (28, .false))⟩, ⟨(.some 36), (.call 71 [(.t 30), (.t 33), (.t 35)]), (.some (28, .false))⟩, ⟨(.some 37), (.bin .neq (.t 36) (.c (.sc (.int .i64 0)))), (.some (28, .false))⟩, ⟨(.some 38), (.pick (.t 28) (.c (.sc (.bool .true))) (.t 37)), .none⟩]) (.cond (.t 38) .ret .skip)) (.seq (.ops [⟨(.some 39), (.fadr 1 1 1 (.t 3)), .none⟩, ⟨(.some 40), (.load .false 1 (.t 39)), .none⟩, ⟨(.some 41), (.mv (.c (.sc (.int .i64 0)))), .none⟩]) (.block 0 (.loop c_bytes_Write_l1)))))
theorem t_bytes_Write : trF Try.prog qq 68 = some (57, [], c_bytes_Write) := by kernel_rfl
def c_bytes_Load_l1 : AC := (.seq (.ops [⟨(.some 25), (.bin .lss (.t 24) (.t 23)), .none⟩]) (.seq (.cond (.t 25) .skip (.exit 0)) (.seq (.block 1 (.seq (.ops [⟨(.some 26), (.mv (.t 24)), .none⟩, ⟨(.some 9), (.mv (.t 26)), .none⟩]) (.ops [⟨(.some 27), (.mv (.t 8)), .none⟩, ⟨(.some 28), (.mv (.t 0)), .none⟩, ⟨(.some 29), (.mv (.t 2)), .none⟩, ⟨(.some 30), (.conv .i64 (.t 29)), .none⟩, ⟨(.some 31), (.mv (.t 9)), .none⟩, ⟨(.some 32), (.bin .add (.t 30) (.t 31)), .none⟩, ⟨(.some 33), (.iadr .none 1 (.t 28) (.t 32)), .none⟩, ⟨(.some 34), (.load .false 1 (.t 33)), .none⟩, ⟨(.some 35), (.conv .u32 (.t 34)), .none⟩, ⟨(.some 36), (.mv (.t 9)), .none⟩, ⟨(.some 37), (.bin .mul (.c (.sc (.int .i64 8))) (.t 36)), .none⟩, ⟨(.some 38), (.bin .shl (.t 35) (.t 37)), .none⟩, ⟨(.some 39), (.bin .or (.t 27) (.t 38)), .none⟩, ⟨(.some 8), (.mv (.t 39)), .none⟩]))) (.ops [⟨(.some 40), (.bin .add (.t 24) (.c (.sc (.int .i64 1)))), .none⟩, ⟨(.some 24), (.mv (.t 40)), .none⟩]))))
def c_bytes_Load_p1 : AC := (.seq (.ops [⟨(.some 41), (.mv (.t 1)), .none⟩, ⟨(.some 42), (.mv (.t 8)), .none⟩, ⟨(.some 43), (.call 74 [(.t 41), (.t 42)]), .none⟩, ⟨(.some 6), (.mv (.t 43)), .none⟩]) .ret)
def c_bytes_Load : AC := (.seq (.ops [⟨(.some 6), (.mv (.c (.sc (.int .u32 0)))), .none⟩]) (.seq (.ops [⟨(.some 10), (.mv (.t 1)), .none⟩, ⟨(.some 11), (.call 72 [(.t 10)]), .none⟩, ⟨(.some 7), (.mv (.t 11)), .none⟩]) (.seq (.seq (.ops [⟨(.some 12), (.mv (.t 1)), .none⟩, ⟨(.some 13), (.call 73 [(.t 12)]), .none⟩, ⟨(.some 14), (.un .not (.t 13)), .none⟩, ⟨(.some 15), (.mv (.t 14)), .none⟩, ⟨(.some 16), (.mv (.t 7)), (.some (15, .false))⟩, ⟨(.some 17), (.mv (.t 2)), (.some (15, .false))⟩, ⟨(.some 18), (.mv (.t 0)), (.some (15, .false))⟩, ⟨(.some 19), (.len .none (.t 18)), (.some (15, .false))⟩, ⟨(.some 20), (.call 71 [(.t 16), (.t 17), (.t 19)]), (.some (15, .false))⟩, ⟨(.some 21), (.bin .neq (.t 20) (.c (.sc (.int .i64 0)))), (.some (15, .false))⟩, ⟨(.some 22), (.pick (.t 15) (.c (.sc (.bool .true))) (.t 21)), .none⟩]) (.cond (.t 22) (.seq (.ops [⟨(.some 6), (.mv (.c (.sc (.int .u32 0)))), .none⟩]) .ret) .skip)) (.seq (.ops [⟨(.some 8), (.mv (.c (.sc (.int .u32 0)))), .none⟩]) (.seq (.seq (.ops [⟨(.some 23), (.mv (.t 7)), .none⟩, ⟨(.some 24), (.mv (.c (.sc (.int .i64 0)))), .none⟩]) (.block 0 (.loop c_bytes_Load_l1))) c_bytes_Load_p1)))))
theorem t_bytes_Load : trF Try.prog qq 69 = some (44, [(.tmp 6)], c_bytes_Load) := by kernel_rfl
def c_bytes_Check : AC := (.seq (.ops [⟨(.some 6), (.mv (.c (.sc (.int .i64 0)))), .none⟩]) (.seq (.ops [⟨(.some 8), (.mv (.t 1)), .none⟩, ⟨(.some 9), (.conv .i64 (.t 8)), .none⟩, ⟨(.some 7), (.mv (.t 9)), .none⟩]) (.seq (.block 0 (.seq (.ops [⟨(.some 11), (.mv (.t 0)), .none⟩, ⟨(.some 12), (.bin .geq (.t 11) (.c (.sc (.int .i64 1)))), .none⟩, ⟨(.some 13), (.mv (.t 12)), .none⟩, ⟨(.some 14), (.mv (.t 7)), (.some (13, .true))⟩, ⟨(.some 15), (.mv (.t 0)), (.some (13, .true))⟩, ⟨(.some 16), (.bin .rem (.t 14) (.t 15)), (.some (13, .true))⟩, ⟨(.some 17), (.bin .neq (.t 16) (.c (.sc (.int .i64 0)))), (.some (13, .true))⟩, ⟨(.some 18), (.pick (.t 13) (.t 17) (.c (.sc (.bool .false)))), .none⟩, ⟨(.some 10), (.mv (.t 18)), .none⟩]) (.cond (.t 10) (.seq (.ops [⟨(.some 6), (.mv (.c (.sc (.int .i64 1)))), .none⟩]) .ret) (.seq (.ops [⟨(.some 20), (.mv (.t 0)), .none⟩, ⟨(.some 21), (.bin .gtr (.t 20) (.c (.sc (.int .i64 0)))), .none⟩, ⟨(.some 22), (.mv (.t 21)), .none⟩, ⟨(.some 23), (.mv (.t 0)), (.some (22, .true))⟩, ⟨(.some 24), (.mv (.t 2)), (.some (22, .true))⟩, ⟨(.some 25), (.bin .gtr (.t 23) (.t 24)), (.some (22, .true))⟩, ⟨(.some 26), (.mv (.t 25)), (.some (22, .true))⟩, ⟨(.some 27), (.mv (.t 7)), (.some (26, .false))⟩, ⟨(.some 28), (.mv (.t 2)), (.some (26, .false))⟩, ⟨(.some 29), (.mv (.t 0)), (.some (26, .false))⟩, ⟨(.some 30), (.bin .sub (.t 28) (.t 29)), (.some (26, .false))⟩, ⟨(.some 31), (.bin .gtr (.t 27) (.t 30)), (.some (26, .false))⟩, ⟨(.some 32), (.pick (.t 26) (.c (.sc (.bool .true))) (.t 31)), (.some (22, .true))⟩, ⟨(.some 33), (.pick (.t 22) (.t 32) (.c (.sc (.bool .false)))), .none⟩, ⟨(.some 34), (.mv (.t 33)), .none⟩, ⟨(.some 35), (.mv (.t 0)), (.some (34, .false))⟩, ⟨(.some 36), (.bin .leq (.t 35) (.c (.sc (.int .i64 0)))), (.some (34, .false))⟩, ⟨(.some 37), (.mv (.t 36)), (.some (34, .false))⟩, ⟨(.some 38), (.mv (.t 7)), (.some (37, .true))⟩, ⟨(.some 39), (.mv (.t 0)), (.some (37, .true))⟩, ⟨(.some 40), (.bin .add (.t 38) (.t 39)), (.some (37, .true))⟩, ⟨(.some 41), (.mv (.t 2)), (.some (37, .true))⟩, ⟨(.some 42), (.bin .gtr (.t 40) (.t 41)), (.some (37, .true))⟩, ⟨(.some 43), (.pick (.t 37) (.t 42) (.c (.sc (.bool .false)))), (.some (34, .false))⟩, ⟨(.some 44), (.pick (.t 34) (.c (.sc (.bool .true))) (.t 43)), .none⟩, ⟨(.some 19), (.mv (.t 44)), .none⟩]) (.cond (.t 19) (.seq (.ops [⟨(.some 6), (.mv (.c (.sc (.int .i64 2)))), .none⟩]) .ret) .skip))))) (.seq (.ops [⟨(.some 6), (.mv (.c (.sc (.int .i64 0)))), .none⟩]) .ret))))
theorem t_bytes_Check : trF Try.prog qq 71 = some (45, [(.tmp 6)], c_bytes_Check) := by kernel_rfl
def c_bytes_Size : AC := (.seq (.ops [⟨(.some 2), (.mv (.c (.sc (.int .i64 0)))), .none⟩]) (.seq (.seq (.ops [⟨(.some 3), (.mv (.t 0)), .none⟩]) (.block 0 (.seq (.seq (.ops [⟨(.some 5), (.bin .eql (.t 3) (.c (.sc (.int .i64 26)))), .none⟩, ⟨(.some 4), (.mv (.t 5)), .none⟩]) (.cond (.t 4) .skip (.ops [⟨(.some 6), (.bin .eql (.t 3) (.c (.sc (.int .i64 31)))), .none⟩, ⟨(.some 4), (.mv (.t 6)), .none⟩]))) (.cond (.t 4) (.seq (.ops [⟨(.some 2), (.mv (.c (.sc (.int .i64 4)))), .none⟩]) .ret) (.seq (.seq (.ops [⟨(.some 8), (.bin .eql (.t 3) (.c (.sc (.int .i64 27)))), .none⟩, ⟨(.some 7), (.mv (.t 8)), .none⟩]) (.cond (.t 7) .skip (.seq (.ops [⟨(.some 9), (.bin .eql (.t 3) (.c (.sc (.int .i64 28)))), .none⟩, ⟨(.some 7), (.mv (.t 9)), .none⟩]) (.cond (.t 7) .skip (.ops [⟨(.some 10), (.bin .eql (.t 3) (.c (.sc (.int .i64 32)))), .none⟩, ⟨(.some 7), (.mv (.t 10)), .none⟩]))))) (.cond (.t 7) (.seq (.ops [⟨(.some 2), (.mv (.c (.sc (.int .i64 2)))), .none⟩]) .ret) (.seq (.seq (.ops [⟨(.some 12), (.bin .eql (.t 3) (.c (.sc (.int .i64 29)))), .none⟩, ⟨(.some 11), (.mv (.t 12)), .none⟩]) (.cond (.t 11) .skip (.seq (.ops [⟨(.some 13), (.bin .eql (.t 3) (.c (.sc (.int .i64 30)))), .none⟩, ⟨(.some 11), (.mv (.t 13)), .none⟩]) (.cond (.t 11) .skip (.ops [⟨(.some 14), (.bin .eql (.t 3) (.c (.sc (.int .i64 33)))), .none⟩, ⟨(.some 11), (.mv (.t 14)), .none⟩]))))) (.cond (.t 11) (.seq (.ops [⟨(.some 2), (.mv (.c (.sc (.int .i64 1)))), .none⟩]) .ret) .skip)))))))) (.seq (.ops [⟨(.some 2), (.mv (.c (.sc (.int .i64 0)))), .none⟩]) .ret)))
theorem t_bytes_Size : trF Try.prog qq 72 = some (15, [(.tmp 2)], c_bytes_Size) := by kernel_rfl
def c_bytes_loads : AC := (.seq (.ops [⟨(.some 2), (.mv (.c (.sc (.bool .false)))), .none⟩]) (.seq (.ops [⟨(.some 3), (.mv (.t 0)), .none⟩, ⟨(.some 4), (.bin .geq (.t 3) (.c (.sc (.int .i64 26)))), .none⟩, ⟨(.some 5), (.mv (.t 4)), .none⟩, ⟨(.some 6), (.mv (.t 0)), (.some (5, .true))⟩, ⟨(.some 7), (.bin .leq (.t 6) (.c (.sc (.int .i64 30)))), (.some (5, .true))⟩, ⟨(.some 8), (.pick (.t 5) (.t 7) (.c (.sc (.bool .false)))), .none⟩, ⟨(.some 2), (.mv (.t 8)), .none⟩]) .ret))
theorem t_bytes_loads : trF Try.prog qq 73 = some (9, [(.tmp 2)], c_bytes_loads) := by kernel_rfl
def c_bytes_Sign : AC := (.seq (.ops [⟨(.some 4), (.mv (.c (.sc (.int .u32 0)))), .none⟩]) (.seq (.seq (.ops [⟨(.some 5), (.mv (.t 0)), .none⟩]) (.block 0 (.seq (.ops [⟨(.some 7), (.bin .eql (.t 5) (.c (.sc (.int .i64 27)))), .none⟩, ⟨(.some 6), (.mv (.t 7)), .none⟩]) (.cond (.t 6) (.seq (.ops [⟨(.some 8), (.mv (.t 1)), .none⟩, ⟨(.some 9), (.conv .i16 (.t 8)), .none⟩, ⟨(.some 10), (.conv .i32 (.t 9)), .none⟩, ⟨(.some 11), (.conv .u32 (.t 10)), .none⟩, ⟨(.some 4), (.mv (.t 11)), .none⟩]) .ret) (.seq (.ops [⟨(.some 13), (.bin .eql (.t 5) (.c (.sc (.int .i64 29)))), .none⟩, ⟨(.some 12), (.mv (.t 13)), .none⟩]) (.cond (.t 12) (.seq (.ops [⟨(.some 14), (.mv (.t 1)), .none⟩, ⟨(.some 15), (.conv .i8 (.t 14)), .none⟩, ⟨(.some 16), (.conv .i32 (.t 15)), .none⟩, ⟨(.some 17), (.conv .u32 (.t 16)), .none⟩, ⟨(.some 4), (.mv (.t 17)), .none⟩]) .ret) .skip)))))) (.seq (.ops [⟨(.some 18), (.mv (.t 1)), .none⟩, ⟨(.some 4), (.mv (.t 18)), .none⟩]) .ret)))
theorem t_bytes_Sign : trF Try.prog qq 74 = some (19, [(.tmp 4)], c_bytes_Sign) := by kernel_rfl
/-- The functions of bytes. -/
def cl_bytes : CodeL := [(56, 27, [(.tmp 8)], c_bytes_Overlap), (65, 20, [(.tmp 6)], c_bytes_before), (68, 57, [], c_bytes_Write), (69, 44, [(.tmp 6)], c_bytes_Load), (71, 45, [(.tmp 6)], c_bytes_Check), (72, 15, [(.tmp 2)], c_bytes_Size), (73, 9, [(.tmp 2)], c_bytes_loads), (74, 19, [(.tmp 4)], c_bytes_Sign)]
theorem clok_bytes : AllL (fun p => trF Try.prog qq p.1 = some p.2) cl_bytes := ⟨t_bytes_Overlap, t_bytes_before, t_bytes_Write, t_bytes_Load, t_bytes_Check, t_bytes_Size, t_bytes_loads, t_bytes_Sign, trivial⟩
end Go.Proofs.Ytbemlndjdbopeaa

/- Abstract code of the functions of ref1: printed by a program from what the given translation yields. -/
namespace Go.Proofs.Ytbemlndjdbopeaa
open Go.Ra
def c_ref1_Mask : AC := (.seq (.ops [⟨(.some 4), (.mv (.c (.sc (.int .u32 0)))), .none⟩]) (.seq (.seq (.ops [⟨(.some 5), (.mv (.t 1)), .none⟩]) (.block 0 (.seq (.ops [⟨(.some 7), (.bin .eql (.t 5) (.c (.sc (.int .i64 1)))), .none⟩, ⟨(.some 6), (.mv (.t 7)), .none⟩]) (.cond (.t 6) (.seq (.ops [⟨(.some 8), (.mv (.t 0)), .none⟩, ⟨(.some 9), (.bin .and (.t 8) (.c (.sc (.int .u32 255)))), .none⟩, ⟨(.some 4), (.mv (.t 9)), .none⟩]) .ret) (.seq (.ops [⟨(.some 11), (.bin .eql (.t 5) (.c (.sc (.int .i64 2)))), .none⟩, ⟨(.some 10), (.mv (.t 11)), .none⟩]) (.cond (.t 10) (.seq (.ops [⟨(.some 12), (.mv (.t 0)), .none⟩, ⟨(.some 13), (.bin .and (.t 12) (.c (.sc (.int .u32 65535)))), .none⟩, ⟨(.some 4), (.mv (.t 13)), .none⟩]) .ret) (.seq (.ops [⟨(.some 15), (.bin .eql (.t 5) (.c (.sc (.int .i64 4)))), .none⟩, ⟨(.some 14), (.mv (.t 15)), .none⟩]) (.cond (.t 14) (.seq (.ops [⟨(.some 16), (.mv (.t 0)), .none⟩, ⟨(.some 4), (.mv (.t 16)), .none⟩]) .ret) .skip)))))))) (.seq (.ops [⟨(.some 4), (.mv (.c (.sc (.int .u32 0)))), .none⟩]) .ret)))
theorem t_ref1_Mask : trF Try.prog qq 20 = some (17, [(.tmp 4)], c_ref1_Mask) := by kernel_rfl
def c_ref1_Size : AC := (.seq (.ops [⟨(.some 2), (.mv (.c (.sc (.int .i64 0)))), .none⟩]) (.seq (.seq (.ops [⟨(.some 3), (.mv (.t 0)), .none⟩]) (.block 0 (.seq (.seq (.ops [⟨(.some 5), (.bin .eql (.t 3) (.c (.sc (.int .i64 26)))), .none⟩, ⟨(.some 4), (.mv (.t 5)), .none⟩]) (.cond (.t 4) .skip (.ops [⟨(.some 6), (.bin .eql (.t 3) (.c (.sc (.int .i64 31)))), .none⟩, ⟨(.some 4), (.mv (.t 6)), .none⟩]))) (.cond (.t 4) (.seq (.ops [⟨(.some 2), (.mv (.c (.sc (.int .i64 4)))), .none⟩]) .ret) (.seq (.seq (.ops [⟨(.some 8), (.bin .eql (.t 3) (.c (.sc (.int .i64 27)))), .none⟩, ⟨(.some 7), (.mv (.t 8)), .none⟩]) (.cond (.t 7) .skip (.seq (.ops [⟨(.some 9), (.bin .eql (.t 3) (.c (.sc (.int .i64 28)))), .none⟩, ⟨(.some 7), (.mv (.t 9)), .none⟩]) (.cond (.t 7) .skip (.ops [⟨(.some 10), (.bin .eql (.t 3) (.c (.sc (.int .i64 32)))), .none⟩, ⟨(.some 7), (.mv (.t 10)), .none⟩]))))) (.cond (.t 7) (.seq (.ops [⟨(.some 2), (.mv (.c (.sc (.int .i64 2)))), .none⟩]) .ret) (.seq (.seq (.ops [⟨(.some 12), (.bin .eql (.t 3) (.c (.sc (.int .i64 29)))), .none⟩, ⟨(.some 11), (.mv (.t 12)), .none⟩]) (.cond (.t 11) .skip (.seq (.ops [⟨(.some 13), (.bin .eql (.t 3) (.c (.sc (.int .i64 30)))), .none⟩, ⟨(.some 11), (.mv (.t 13)), .none⟩]) (.cond (.t 11) .skip (.ops [⟨(.some 14), (.bin .eql (.t 3) (.c (.sc (.int .i64 33)))), .none⟩, ⟨(.some 11), (.mv (.t 14)), .none⟩]))))) (.cond (.t 11) (.seq (.ops [⟨(.some 2), (.mv (.c (.sc (.int .i64 1)))), .none⟩]) .ret) .skip)))))))) (.seq (.ops [⟨(.some 2), (.mv (.c (.sc (.int .i64 0)))), .none⟩]) .ret)))
theorem t_ref1_Size : trF Try.prog qq 30 = some (15, [(.tmp 2)], c_ref1_Size) := by kernel_rfl
def c_ref1_Form : AC := (.seq (.ops [⟨(.some 2), (.mv (.c (.sc (.int .i64 0)))), .none⟩]) (.seq (.block 0 (.seq (.ops [⟨(.some 4), (.mv (.t 0)), .none⟩, ⟨(.some 5), (.bin .lss (.t 4) (.c (.sc (.int .i64 1)))), .none⟩, ⟨(.some 6), (.mv (.t 5)), .none⟩, ⟨(.some 7), (.mv (.t 0)), (.some (6, .false))⟩, ⟨(.some 8), (.bin .gtr (.t 7) (.c (.sc (.int .i64 41)))), (.some (6, .false))⟩, ⟨(.some 9), (.pick (.t 6) (.c (.sc (.bool .true))) (.t 8)), .none⟩, ⟨(.some 3), (.mv (.t 9)), .none⟩]) (.cond (.t 3) (.seq (.ops [⟨(.some 2), (.mv (.c (.sc (.int .i64 0)))), .none⟩]) .ret) (.seq (.ops [⟨(.some 11), (.mv (.t 0)), .none⟩, ⟨(.some 12), (.bin .leq (.t 11) (.c (.sc (.int .i64 16)))), .none⟩, ⟨(.some 10), (.mv (.t 12)), .none⟩]) (.cond (.t 10) (.seq (.ops [⟨(.some 2), (.mv (.c (.sc (.int .i64 1)))), .none⟩]) .ret) (.seq (.ops [⟨(.some 14), (.mv (.t 0)), .none⟩, ⟨(.some 15), (.bin .leq (.t 14) (.c (.sc (.int .i64 24)))), .none⟩, ⟨(.some 13), (.mv (.t 15)), .none⟩]) (.cond (.t 13) (.seq (.ops [⟨(.some 2), (.mv (.c (.sc (.int .i64 2)))), .none⟩]) .ret) (.seq (.ops [⟨(.some 17), (.mv (.t 0)), .none⟩, ⟨(.some 18), (.bin .eql (.t 17) (.c (.sc (.int .i64 25)))), .none⟩, ⟨(.some 16), (.mv (.t 18)), .none⟩]) (.cond (.t 16) (.seq (.ops [⟨(.some 2), (.mv (.c (.sc (.int .i64 3)))), .none⟩]) .ret) (.seq (.ops [⟨(.some 20), (.mv (.t 0)), .none⟩, ⟨(.some 21), (.bin .leq (.t 20) (.c (.sc (.int .i64 30)))), .none⟩, ⟨(.some 19), (.mv (.t 21)), .none⟩]) (.cond (.t 19) (.seq (.ops [⟨(.some 2), (.mv (.c (.sc (.int .i64 4)))), .none⟩]) .ret) (.seq (.ops [⟨(.some 23), (.mv (.t 0)), .none⟩, ⟨(.some 24), (.bin .leq (.t 23) (.c (.sc (.int .i64 33)))), .none⟩, ⟨(.some 22), (.mv (.t 24)), .none⟩]) (.cond (.t 22) (.seq (.ops [⟨(.some 2), (.mv (.c (.sc (.int .i64 5)))), .none⟩]) .ret) (.seq (.ops [⟨(.some 26), (.mv (.t 0)), .none⟩, ⟨(.some 27), (.bin .leq (.t 26) (.c (.sc (.int .i64 39)))), .none⟩, ⟨(.some 25), (.mv (.t 27)), .none⟩]) (.cond (.t 25) (.seq (.ops [⟨(.some 2), (.mv (.c (.sc (.int .i64 6)))), .none⟩]) .ret) (.seq (.ops [⟨(.some 29), (.mv (.t 0)), .none⟩, ⟨(.some 30), (.bin .eql (.t 29) (.c (.sc (.int .i64 40)))), .none⟩, ⟨(.some 28), (.mv (.t 30)), .none⟩]) (.cond (.t 28) (.seq (.ops [⟨(.some 2), (.mv (.c (.sc (.int .i64 7)))), .none⟩]) .ret) .skip))))))))))))))))) (.seq (.ops [⟨(.some 2), (.mv (.c (.sc (.int .i64 8)))), .none⟩]) .ret)))
theorem t_ref1_Form : trF Try.prog qq 31 = some (31, [(.tmp 2)], c_ref1_Form) := by kernel_rfl
def c_ref1_Load_l1 : AC := (.seq (.seq (.ops [⟨(.some 23), (.mv (.t 9)), .none⟩, ⟨(.some 24), (.mv (.t 7)), .none⟩, ⟨(.some 25), (.bin .lss (.t 23) (.t 24)), .none⟩]) (.cond (.t 25) .skip (.exit 0))) (.seq (.block 1 (.ops [⟨(.some 28), (.mv (.t 8)), .none⟩, ⟨(.some 29), (.mv (.t 0)), .none⟩, ⟨(.some 30), (.mv (.t 2)), .none⟩, ⟨(.some 31), (.conv .i64 (.t 30)), .none⟩, ⟨(.some 32), (.mv (.t 9)), .none⟩, ⟨(.some 33), (.bin .add (.t 31) (.t 32)), .none⟩, ⟨(.some 34), (.iadr .none 1 (.t 29) (.t 33)), .none⟩, ⟨(.some 35), (.load .false 1 (.t 34)), .none⟩, ⟨(.some 36), (.conv .u32 (.t 35)), .none⟩, ⟨(.some 37), (.mv (.t 9)), .none⟩, ⟨(.some 38), (.bin .mul (.c (.sc (.int .i64 8))) (.t 37)), .none⟩, ⟨(.some 39), (.conv .u64 (.t 38)), .none⟩, ⟨(.some 40), (.bin .shl (.t 36) (.t 39)), .none⟩, ⟨(.some 41), (.bin .or (.t 28) (.t 40)), .none⟩, ⟨(.some 8), (.mv (.t 41)), .none⟩])) (.ops [⟨(.some 26), (.mv (.t 9)), .none⟩, ⟨(.some 27), (.bin .add (.t 26) (.c (.sc (.int .i64 1)))), .none⟩, ⟨(.some 9), (.mv (.t 27)), .none⟩])))
def c_ref1_Load_p1 : AC := (.seq (.ops [⟨(.some 42), (.mv (.t 1)), .none⟩, ⟨(.some 43), (.mv (.t 8)), .none⟩, ⟨(.some 44), (.call 53 [(.t 42), (.t 43)]), .none⟩, ⟨(.some 6), (.mv (.t 44)), .none⟩]) .ret)
def c_ref1_Load : AC := (.seq (.ops [⟨(.some 6), (.mv (.c (.sc (.int .u32 0)))), .none⟩]) (.seq (.ops [⟨(.some 10), (.mv (.t 1)), .none⟩, ⟨(.some 11), (.call 30 [(.t 10)]), .none⟩, ⟨(.some 7), (.mv (.t 11)), .none⟩]) (.seq (.seq (.ops [⟨(.some 12), (.mv (.t 1)), .none⟩, ⟨(.some 13), (.call 31 [(.t 12)]), .none⟩, ⟨(.some 14), (.bin .neq (.t 13) (.c (.sc (.int .i64 4)))), .none⟩, ⟨(.some 15), (.mv (.t 14)), .none⟩, ⟨(.some 16), (.mv (.t 7)), (.some (15, .false))⟩, ⟨(.some 17), (.mv (.t 2)), (.some (15, .false))⟩, ⟨(.some 18), (.mv (.t 0)), (.some (15, .false))⟩, ⟨(.some 19), (.len .none (.t 18)), (.some (15, .false))⟩, ⟨(.some 20), (.call 52 [(.t 16), (.t 17), (.t 19)]), (.some (15, .false))⟩, ⟨(.some 21), (.bin .neq (.t 20) (.c (.sc (.int .i64 0)))), (.some (15, .false))⟩, ⟨(.some 22), (.pick (.t 15) (.c (.sc (.bool .true))) (.t 21)), .none⟩]) (.cond (.t 22) (.seq (.ops [⟨(.some 6), (.mv (.c (.sc (.int .u32 0)))), .none⟩]) .ret) .skip)) (.seq (.ops [⟨(.some 8), (.mv (.c (.sc (.int .u32 0)))), .none⟩]) (.seq (.seq (.ops [⟨(.some 9), (.mv (.c (.sc (.int .i64 0)))), .none⟩]) (.block 0 (.loop c_ref1_Load_l1))) c_ref1_Load_p1)))))
theorem t_ref1_Load : trF Try.prog qq 32 = some (45, [(.tmp 6)], c_ref1_Load) := by kernel_rfl
def c_ref1_Overlap : AC := (.seq (.ops [⟨(.some 8), (.mv (.c (.sc (.bool .false)))), .none⟩]) (.seq (.seq (.ops [⟨(.some 9), (.mv (.t 1)), .none⟩, ⟨(.some 10), (.bin .lss (.t 9) (.c (.sc (.int .i64 1)))), .none⟩, ⟨(.some 11), (.mv (.t 10)), .none⟩, ⟨(.some 12), (.mv (.t 3)), (.some (11, .false))⟩, ⟨(.some 13), (.bin .lss (.t 12) (.c (.sc (.int .i64 1)))), (.some (11, .false))⟩, ⟨(.some 14), (.pick (.t 11) (.c (.sc (.bool .true))) (.t 13)), .none⟩]) (.cond (.t 14) (.seq (.ops [⟨(.some 8), (.mv (.c (.sc (.bool .false)))), .none⟩]) .ret) .skip)) (.seq (.seq (.ops [⟨(.some 15), (.mv (.t 0)), .none⟩, ⟨(.some 16), (.mv (.t 2)), .none⟩, ⟨(.some 17), (.bin .leq (.t 15) (.t 16)), .none⟩]) (.cond (.t 17) (.seq (.ops [⟨(.some 18), (.mv (.t 2)), .none⟩, ⟨(.some 19), (.mv (.t 0)), .none⟩, ⟨(.some 20), (.mv (.t 1)), .none⟩, ⟨(.some 21), (.bin .add (.t 19) (.t 20)), .none⟩, ⟨(.some 22), (.bin .lss (.t 18) (.t 21)), .none⟩, ⟨(.some 23), (.mv (.t 22)), .none⟩, ⟨(.some 24), (.mv (.t 0)), (.some (23, .false))⟩, ⟨(.some 25), (.mv (.t 1)), (.some (23, .false))⟩, ⟨(.some 26), (.bin .add (.t 24) (.t 25)), (.some (23, .false))⟩, ⟨(.some 27), (.mv (.t 0)), (.some (23, .false))⟩, ⟨(.some 28), (.bin .lss (.t 26) (.t 27)), (.some (23, .false))⟩, ⟨(.some 29), (.pick (.t 23) (.c (.sc (.bool .true))) (.t 28)), .none⟩, ⟨(.some 8), (.mv (.t 29)), .none⟩]) .ret) .skip)) (.seq (.ops [⟨(.some 30), (.mv (.t 0)), .none⟩, ⟨(.some 31), (.mv (.t 2)), .none⟩, ⟨(.some 32), (.mv (.t 3)), .none⟩, ⟨(.some 33), (.bin .add (.t 31) (.t 32)), .none⟩, ⟨(.some 34), (.bin .lss (.t 30) (.t 33)), .none⟩, ⟨(.some 35), (.mv (.t 34)), .none⟩, ⟨(.some 36), (.mv (.t 2)), (.some (35, .false))⟩, ⟨(.some 37), (.mv (.t 3)), (.some (35, .false))⟩, ⟨(.some 38), (.bin .add (.t 36) (.t 37)), (.some (35, .false))⟩, ⟨(.some 39), (.mv (.t 2)), (.some (35, .false))⟩, ⟨(.some 40), (.bin .lss (.t 38) (.t 39)), (.some (35, .false))⟩, ⟨(.some 41), (.pick (.t 35) (.c (.sc (.bool .true))) (.t 40)), .none⟩, ⟨(.some 8), (.mv (.t 41)), .none⟩]) .ret))))
theorem t_ref1_Overlap : trF Try.prog qq 34 = some (42, [(.tmp 8)], c_ref1_Overlap) := by kernel_rfl
def c_ref1_Check : AC := (.seq (.ops [⟨(.some 6), (.mv (.c (.sc (.int .i64 0)))), .none⟩]) (.seq (.seq (.ops [⟨(.some 7), (.mv (.t 0)), .none⟩, ⟨(.some 8), (.bin .geq (.t 7) (.c (.sc (.int .i64 1)))), .none⟩, ⟨(.some 9), (.mv (.t 8)), .none⟩, ⟨(.some 10), (.mv (.t 1)), (.some (9, .true))⟩, ⟨(.some 11), (.conv .i64 (.t 10)), (.some (9, .true))⟩, ⟨(.some 12), (.mv (.t 0)), (.some (9, .true))⟩, ⟨(.some 13), (.bin .rem (.t 11) (.t 12)), (.some (9, .true))⟩, ⟨(.some 14), (.bin .neq (.t 13) (.c (.sc (.int .i64 0)))), (.some (9, .true))⟩, ⟨(.some 15), (.pick (.t 9) (.t 14) (.c (.sc (.bool .false)))), .none⟩]) (.cond (.t 15) (.seq (.ops [⟨(.some 6), (.mv (.c (.sc (.int .i64 1)))), .none⟩]) .ret) .skip)) (.seq (.seq (.ops [⟨(.some 16), (.mv (.t 0)), .none⟩, ⟨(.some 17), (.bin .gtr (.t 16) (.c (.sc (.int .i64 0)))), .none⟩, ⟨(.some 18), (.mv (.t 17)), .none⟩, ⟨(.some 19), (.mv (.t 2)), (.some (18, .true))⟩, ⟨(.some 20), (.mv (.t 0)), (.some (18, .true))⟩, ⟨(.some 21), (.bin .lss (.t 19) (.t 20)), (.some (18, .true))⟩, ⟨(.some 22), (.mv (.t 21)), (.some (18, .true))⟩, ⟨(.some 23), (.mv (.t 1)), (.some (22, .false))⟩, ⟨(.some 24), (.conv .i64 (.t 23)), (.some (22, .false))⟩, ⟨(.some 25), (.mv (.t 2)), (.some (22, .false))⟩, ⟨(.some 26), (.mv (.t 0)), (.some (22, .false))⟩, ⟨(.some 27), (.bin .sub (.t 25) (.t 26)), (.some (22, .false))⟩, ⟨(.some 28), (.bin .gtr (.t 24) (.t 27)), (.some (22, .false))⟩, ⟨(.some 29), (.pick (.t 22) (.c (.sc (.bool .true))) (.t 28)), (.some (18, .true))⟩, ⟨(.some 30), (.pick (.t 18) (.t 29) (.c (.sc (.bool .false)))), .none⟩, ⟨(.some 31), (.mv (.t 30)), .none⟩, ⟨(.some 32), (.mv (.t 0)), (.some (31, .false))⟩, ⟨(.some 33), (.bin .leq (.t 32) (.c (.sc (.int .i64 0)))), (.some (31, .false))⟩, ⟨(.some 34), (.mv (.t 33)), (.some (31, .false))⟩, ⟨(.some 35), (.mv (.t 2)), (.some (34, .true))⟩, ⟨(.some 36), (.mv (.t 1)), (.some (34, .true))⟩, ⟨(.some 37), (.conv .i64 (.t 36)), (.some (34, .true))⟩, ⟨(.some 38), (.mv (.t 0)), (.some (34, .true))⟩, ⟨(.some 39), (.bin .add (.t 37) (.t 38)), (.some (34, .true))⟩, ⟨(.some 40), (.bin .lss (.t 35) (.t 39)), (.some (34, .true))⟩, ⟨(.some 41), (.pick (.t 34) (.t 40) (.c (.sc (.bool .false)))), (.some (31, .false))⟩, ⟨(.some 42), (.pick (.t 31) (.c (.sc (.bool .true))) (.t 41)), .none⟩]) (.cond (.t 42) (.seq (.ops [⟨(.some 6), (.mv (.c (.sc (.int .i64 2)))), .none⟩]) .ret) .skip)) (.seq (.ops [⟨(.some 6), (.mv (.c (.sc (.int .i64 0)))), .none⟩]) .ret))))
theorem t_ref1_Check : trF Try.prog qq 52 = some (43, [(.tmp 6)], c_ref1_Check) := by kernel_rfl
def c_ref1_Extend : AC := (.seq (.ops [⟨(.some 4), (.mv (.c (.sc (.int .u32 0)))), .none⟩]) (.seq (.seq (.ops [⟨(.some 5), (.mv (.t 0)), .none⟩]) (.block 0 (.seq (.ops [⟨(.some 7), (.bin .eql (.t 5) (.c (.sc (.int .i64 27)))), .none⟩, ⟨(.some 6), (.mv (.t 7)), .none⟩]) (.cond (.t 6) (.seq (.ops [⟨(.some 8), (.mv (.t 1)), .none⟩, ⟨(.some 9), (.bin .shl (.t 8) (.c (.sc (.int .u64 16)))), .none⟩, ⟨(.some 10), (.call 63 [(.t 9)]), .none⟩, ⟨(.some 11), (.bin .shr (.t 10) (.c (.sc (.int .u64 16)))), .none⟩, ⟨(.some 12), (.conv .u32 (.t 11)), .none⟩, ⟨(.some 4), (.mv (.t 12)), .none⟩]) .ret) (.seq (.ops [⟨(.some 14), (.bin .eql (.t 5) (.c (.sc (.int .i64 29)))), .none⟩, ⟨(.some 13), (.mv (.t 14)), .none⟩]) (.cond (.t 13) (.seq (.ops [⟨(.some 15), (.mv (.t 1)), .none⟩, ⟨(.some 16), (.bin .shl (.t 15) (.c (.sc (.int .u64 24)))), .none⟩, ⟨(.some 17), (.call 63 [(.t 16)]), .none⟩, ⟨(.some 18), (.bin .shr (.t 17) (.c (.sc (.int .u64 24)))), .none⟩, ⟨(.some 19), (.conv .u32 (.t 18)), .none⟩, ⟨(.some 4), (.mv (.t 19)), .none⟩]) .ret) .skip)))))) (.seq (.ops [⟨(.some 20), (.mv (.t 1)), .none⟩, ⟨(.some 4), (.mv (.t 20)), .none⟩]) .ret)))
theorem t_ref1_Extend : trF Try.prog qq 53 = some (21, [(.tmp 4)], c_ref1_Extend) := by kernel_rfl
def c_ref1_Store_l1 : AC := (.seq (.seq (.ops [⟨(.some 44), (.mv (.t 6)), .none⟩, ⟨(.some 45), (.fadr 1 1 1 (.t 3)), .none⟩, ⟨(.some 46), (.load .false 1 (.t 45)), .none⟩, ⟨(.some 47), (.bin .lss (.t 44) (.t 46)), .none⟩]) (.cond (.t 47) .skip (.exit 0))) (.seq (.block 1 (.ops [⟨(.some 50), (.mv (.t 5)), .none⟩, ⟨(.some 51), (.fadr 0 0 1 (.t 3)), .none⟩, ⟨(.some 52), (.load .false 1 (.t 51)), .none⟩, ⟨(.some 53), (.mv (.t 6)), .none⟩, ⟨(.some 54), (.bin .add (.t 52) (.t 53)), .none⟩, ⟨(.some 55), (.fadr 2 2 1 (.t 3)), .none⟩, ⟨(.some 56), (.load .false 1 (.t 55)), .none⟩, ⟨(.some 57), (.mv (.t 6)), .none⟩, ⟨(.some 58), (.bin .mul (.c (.sc (.int .i64 8))) (.t 57)), .none⟩, ⟨(.some 59), (.conv .u64 (.t 58)), .none⟩, ⟨(.some 60), (.bin .shr (.t 56) (.t 59)), .none⟩, ⟨(.some 61), (.conv .u8 (.t 60)), .none⟩, ⟨(.some 62), (.iadr .none 1 (.t 50) (.t 54)), .none⟩, ⟨.none, (.store 1 (.t 62) (.t 61)), .none⟩])) (.ops [⟨(.some 48), (.mv (.t 6)), .none⟩, ⟨(.some 49), (.bin .add (.t 48) (.c (.sc (.int .i64 1)))), .none⟩, ⟨(.some 6), (.mv (.t 49)), .none⟩])))
def c_ref1_Store_p1 : AC := (.seq (.ops [⟨(.some 63), (.mv (.t 5)), .none⟩, ⟨(.some 4), (.mv (.t 63)), .none⟩]) .ret)
def c_ref1_Store : AC := (.seq (.ops [⟨(.some 3), (.box (.t 1)), .none⟩, ⟨(.some 4), (.mv (.c (.fro .true 0 []))), .none⟩]) (.seq (.ops [⟨(.some 7), (.mv (.t 0)), .none⟩, ⟨(.some 8), (.app 1 1 (.c (.fro .true 0 [])) (.t 7)), .none⟩, ⟨(.some 5), (.mv (.t 8)), .none⟩]) (.seq (.seq (.ops [⟨(.some 9), (.fadr 1 1 1 (.t 3)), .none⟩, ⟨(.some 10), (.load .false 1 (.t 9)), .none⟩, ⟨(.some 11), (.bin .neq (.t 10) (.c (.sc (.int .i64 1)))), .none⟩, ⟨(.some 12), (.mv (.t 11)), .none⟩, ⟨(.some 13), (.fadr 1 1 1 (.t 3)), (.some (12, .true))⟩, ⟨(.some 14), (.load .false 1 (.t 13)), (.some (12, .true))⟩, ⟨(.some 15), (.bin .neq (.t 14) (.c (.sc (.int .i64 2)))), (.some (12, .true))⟩, ⟨(.some 16), (.pick (.t 12) (.t 15) (.c (.sc (.bool .false)))), .none⟩, ⟨(.some 17), (.mv (.t 16)), .none⟩, ⟨(.some 18), (.fadr 1 1 1 (.t 3)), (.some (17, .true))⟩, ⟨(.some 19), (.load .false 1 (.t 18)), (.some (17, .true))⟩, ⟨(.some 20), (.bin .neq (.t 19) (.c (.sc (.int .i64 4)))), (.some (17, .true))⟩, ⟨(.some 21), (.pick (.t 17) (.t 20) (.c (.sc (.bool .false)))), .none⟩, ⟨(.some 22), (.mv (.t 21)), .none⟩, ⟨(.some 23), (.fadr 0 0 1 (.t 3)), (.some (22, .false))⟩, ⟨(.some 24), (.load .false 1 (.t 23)), (.some (22, .false))⟩, ⟨(.some 25), (.bin .lss (.t 24) (.c (.sc (.int .i64 0)))), (.some (22, .false))⟩, ⟨(.some 26), (.pick (.t 22) (.c (.sc (.bool .true))) (.t 25)), .none⟩, ⟨(.some 27), (.mv (.t 26)), .none⟩, ⟨(.some 28), (.fadr 0 0 1 (.t 3)), (.some (27, .false))⟩, ⟨(.some 29), (.load .false 1 (.t 28)), (.some (27, .false))⟩, ⟨(.some 30), (.bin .gtr (.t 29) (.c (.sc (.int .i64 4294967295)))), (.some (27, .false))⟩, ⟨(.some 31), (.pick (.t 27) (.c (.sc (.bool .true))) (.t 30)), .none⟩, ⟨(.some 32), (.mv (.t 31)), .none⟩, ⟨(.some 33), (.fadr 1 1 1 (.t 3)), (.some (32, .false))⟩, ⟨(.some 34), (.load .false 1 (.t 33)), (.some (32, .false))⟩, ⟨(.some 35), (.fadr 0 0 1 (.t 3)), (.some (32, .false))⟩, ⟨(.some 36), (.load .false 1 (.t 35)), (.some (32, .false))⟩, ⟨(.some 37), (.conv .u32 (.t 36)), (.some (32, .false))⟩, ⟨(.some 38), (.mv (.t 0)), (.some (32, .false))⟩, ⟨(.some 39), (.len .none (.t 38)), (.some (32, .false))⟩, ⟨(.some 40), (.call 52 [(.t 34), (.t 37), (.t 39)]), (.some (32, .false))⟩, ⟨(.some 41), (.bin .neq (.t 40) (.c (.sc (.int .i64 0)))), (.some (32, .false))⟩, ⟨(.some 42), (.pick (.t 32) (.c (.sc (.bool .true))) (.t 41)), .none⟩]) (.cond (.t 42) (.seq (.ops [⟨(.some 43), (.mv (.t 5)), .none⟩, ⟨(.some 4), (.mv (.t 43)), .none⟩]) .ret) .skip)) (.seq (.seq (.ops [⟨(.some 6), (.mv (.c (.sc (.int .i64 0)))), .none⟩]) (.block 0 (.loop c_ref1_Store_l1))) c_ref1_Store_p1))))
theorem t_ref1_Store : trF Try.prog qq 61 = some (64, [(.tmp 4)], c_ref1_Store) := by kernel_rfl
def c_ref1_Int : AC := (.seq (.ops [⟨(.some 2), (.mv (.c (.sc (.int .i64 0)))), .none⟩]) (.seq (.ops [⟨(.some 4), (.mv (.t 0)), .none⟩, ⟨(.some 5), (.conv .i64 (.t 4)), .none⟩, ⟨(.some 3), (.mv (.t 5)), .none⟩]) (.seq (.seq (.ops [⟨(.some 6), (.mv (.t 3)), .none⟩, ⟨(.some 7), (.bin .geq (.t 6) (.c (.sc (.int .i64 2147483648)))), .none⟩]) (.cond (.t 7) (.seq (.ops [⟨(.some 8), (.mv (.t 3)), .none⟩, ⟨(.some 9), (.bin .sub (.t 8) (.c (.sc (.int .i64 4294967296)))), .none⟩, ⟨(.some 2), (.mv (.t 9)), .none⟩]) .ret) .skip)) (.seq (.ops [⟨(.some 10), (.mv (.t 3)), .none⟩, ⟨(.some 2), (.mv (.t 10)), .none⟩]) .ret))))
theorem t_ref1_Int : trF Try.prog qq 63 = some (11, [(.tmp 2)], c_ref1_Int) := by kernel_rfl
/-- The functions of ref1. -/
def cl_ref1 : CodeL := [(20, 17, [(.tmp 4)], c_ref1_Mask), (30, 15, [(.tmp 2)], c_ref1_Size), (31, 31, [(.tmp 2)], c_ref1_Form), (32, 45, [(.tmp 6)], c_ref1_Load), (34, 42, [(.tmp 8)], c_ref1_Overlap), (52, 43, [(.tmp 6)], c_ref1_Check), (53, 21, [(.tmp 4)], c_ref1_Extend), (61, 64, [(.tmp 4)], c_ref1_Store), (63, 11, [(.tmp 2)], c_ref1_Int)]
theorem clok_ref1 : AllL (fun p => trF Try.prog qq p.1 = some p.2) cl_ref1 := ⟨t_ref1_Mask, t_ref1_Size, t_ref1_Form, t_ref1_Load, t_ref1_Overlap, t_ref1_Check, t_ref1_Extend, t_ref1_Store, t_ref1_Int, trivial⟩
end Go.Proofs.Ytbemlndjdbopeaa

/- Abstract code of the functions of slices: printed by a program from what the given translation yields. -/
namespace Go.Proofs.Ytbemlndjdbopeaa
open Go.Ra
def c_slices_Clone_Slot_Slot : AC := cloneC 3 16
theorem t_slices_Clone_Slot_Slot : trF Try.prog qq 42 = some (8, [(.tmp 2)], c_slices_Clone_Slot_Slot) := by kernel_rfl
def c_slices_Clone_Entry_Entry : AC := cloneC 5 32
theorem t_slices_Clone_Entry_Entry : trF Try.prog qq 43 = some (8, [(.tmp 2)], c_slices_Clone_Entry_Entry) := by kernel_rfl
def c_slices_Clone_Request_Request : AC := cloneC 8 64
theorem t_slices_Clone_Request_Request : trF Try.prog qq 44 = some (8, [(.tmp 2)], c_slices_Clone_Request_Request) := by kernel_rfl
def c_slices_Clone_uint32_uint32 : AC := cloneC 1 4
theorem t_slices_Clone_uint32_uint32 : trF Try.prog qq 45 = some (8, [(.tmp 2)], c_slices_Clone_uint32_uint32) := by kernel_rfl
def c_slices_Clone_bool_bool : AC := cloneC 1 1
theorem t_slices_Clone_bool_bool : trF Try.prog qq 46 = some (8, [(.tmp 2)], c_slices_Clone_bool_bool) := by kernel_rfl
def c_slices_Clone_byte_byte : AC := cloneC 1 1
theorem t_slices_Clone_byte_byte : trF Try.prog qq 47 = some (8, [(.tmp 2)], c_slices_Clone_byte_byte) := by kernel_rfl
def c_slices_Clone_Write_Write : AC := cloneC 3 24
theorem t_slices_Clone_Write_Write : trF Try.prog qq 48 = some (8, [(.tmp 2)], c_slices_Clone_Write_Write) := by kernel_rfl
def c_slices_ContainsFunc_Request_Request : AC := (.seq (.ops [⟨(.some 4), (.mv (.c (.sc (.bool .false)))), .none⟩]) (.seq (.ops [⟨(.some 5), (.mv (.t 0)), .none⟩, ⟨(.some 6), (.mv (.t 1)), .none⟩, ⟨(.some 7), (.call 64 [(.t 5), (.t 6)]), .none⟩, ⟨(.some 8), (.bin .geq (.t 7) (.c (.sc (.int .i64 0)))), .none⟩, ⟨(.some 4), (.mv (.t 8)), .none⟩]) .ret))
theorem t_slices_ContainsFunc_Request_Request : trF Try.prog qq 54 = some (9, [(.tmp 4)], c_slices_ContainsFunc_Request_Request) := by kernel_rfl
def c_slices_IndexFunc_Request_Request_l1 : AC := (.seq (.ops [⟨(.some 9), (.bin .lss (.t 8) (.t 7)), .none⟩]) (.seq (.cond (.t 9) .skip (.exit 0)) (.seq (.block 1 (.seq (.ops [⟨(.some 10), (.mv (.t 8)), .none⟩, ⟨(.some 5), (.mv (.t 10)), .none⟩]) (.seq (.ops [⟨(.some 11), (.mv (.t 1)), .none⟩, ⟨(.some 12), (.mv (.t 0)), .none⟩, ⟨(.some 13), (.mv (.t 5)), .none⟩, ⟨(.some 14), (.iadr .none 8 (.t 12) (.t 13)), .none⟩, ⟨(.some 15), (.load .true 8 (.t 14)), .none⟩, ⟨(.some 16), (.callv (.t 11) [(.t 15)]), .none⟩]) (.cond (.t 16) (.seq (.ops [⟨(.some 17), (.mv (.t 5)), .none⟩, ⟨(.some 4), (.mv (.t 17)), .none⟩]) .ret) .skip)))) (.ops [⟨(.some 18), (.bin .add (.t 8) (.c (.sc (.int .i64 1)))), .none⟩, ⟨(.some 8), (.mv (.t 18)), .none⟩]))))
def c_slices_IndexFunc_Request_Request_p1 : AC := (.seq (.ops [⟨(.some 4), (.mv (.c (.sc (.int .i64 (-1))))), .none⟩]) .ret)
def c_slices_IndexFunc_Request_Request : AC := (.seq (.ops [⟨(.some 4), (.mv (.c (.sc (.int .i64 0)))), .none⟩]) (.seq (.seq (.ops [⟨(.some 6), (.mv (.t 0)), .none⟩, ⟨(.some 7), (.len .none (.t 6)), .none⟩, ⟨(.some 8), (.mv (.c (.sc (.int .i64 0)))), .none⟩]) (.block 0 (.loop c_slices_IndexFunc_Request_Request_l1))) c_slices_IndexFunc_Request_Request_p1))
theorem t_slices_IndexFunc_Request_Request : trF Try.prog qq 64 = some (19, [(.tmp 4)], c_slices_IndexFunc_Request_Request) := by kernel_rfl
def c_slices_IndexFunc_Slot_Slot_l1 : AC := (.seq (.ops [⟨(.some 9), (.bin .lss (.t 8) (.t 7)), .none⟩]) (.seq (.cond (.t 9) .skip (.exit 0)) (.seq (.block 1 (.seq (.ops [⟨(.some 10), (.mv (.t 8)), .none⟩, ⟨(.some 5), (.mv (.t 10)), .none⟩]) (.seq (.ops [⟨(.some 11), (.mv (.t 1)), .none⟩, ⟨(.some 12), (.mv (.t 0)), .none⟩, ⟨(.some 13), (.mv (.t 5)), .none⟩, ⟨(.some 14), (.iadr .none 3 (.t 12) (.t 13)), .none⟩, ⟨(.some 15), (.load .true 3 (.t 14)), .none⟩, ⟨(.some 16), (.callv (.t 11) [(.t 15)]), .none⟩]) (.cond (.t 16) (.seq (.ops [⟨(.some 17), (.mv (.t 5)), .none⟩, ⟨(.some 4), (.mv (.t 17)), .none⟩]) .ret) .skip)))) (.ops [⟨(.some 18), (.bin .add (.t 8) (.c (.sc (.int .i64 1)))), .none⟩, ⟨(.some 8), (.mv (.t 18)), .none⟩]))))
def c_slices_IndexFunc_Slot_Slot_p1 : AC := (.seq (.ops [⟨(.some 4), (.mv (.c (.sc (.int .i64 (-1))))), .none⟩]) .ret)
def c_slices_IndexFunc_Slot_Slot : AC := (.seq (.ops [⟨(.some 4), (.mv (.c (.sc (.int .i64 0)))), .none⟩]) (.seq (.seq (.ops [⟨(.some 6), (.mv (.t 0)), .none⟩, ⟨(.some 7), (.len .none (.t 6)), .none⟩, ⟨(.some 8), (.mv (.c (.sc (.int .i64 0)))), .none⟩]) (.block 0 (.loop c_slices_IndexFunc_Slot_Slot_l1))) c_slices_IndexFunc_Slot_Slot_p1))
theorem t_slices_IndexFunc_Slot_Slot : trF Try.prog qq 75 = some (19, [(.tmp 4)], c_slices_IndexFunc_Slot_Slot) := by kernel_rfl
/-- The functions of slices. -/
def cl_slices : CodeL := [(42, 8, [(.tmp 2)], c_slices_Clone_Slot_Slot), (43, 8, [(.tmp 2)], c_slices_Clone_Entry_Entry), (44, 8, [(.tmp 2)], c_slices_Clone_Request_Request), (45, 8, [(.tmp 2)], c_slices_Clone_uint32_uint32), (46, 8, [(.tmp 2)], c_slices_Clone_bool_bool), (47, 8, [(.tmp 2)], c_slices_Clone_byte_byte), (48, 8, [(.tmp 2)], c_slices_Clone_Write_Write), (54, 9, [(.tmp 4)], c_slices_ContainsFunc_Request_Request), (64, 19, [(.tmp 4)], c_slices_IndexFunc_Request_Request), (75, 19, [(.tmp 4)], c_slices_IndexFunc_Slot_Slot)]
theorem clok_slices : AllL (fun p => trF Try.prog qq p.1 = some p.2) cl_slices := ⟨t_slices_Clone_Slot_Slot, t_slices_Clone_Entry_Entry, t_slices_Clone_Request_Request, t_slices_Clone_uint32_uint32, t_slices_Clone_bool_bool, t_slices_Clone_byte_byte, t_slices_Clone_Write_Write, t_slices_ContainsFunc_Request_Request, t_slices_IndexFunc_Request_Request, t_slices_IndexFunc_Slot_Slot, trivial⟩
/-- What is told of those that only make memory. -/
def gl_slices : SgL := [(42, makeS 3 16), (43, makeS 5 32), (44, makeS 8 64), (45, makeS 1 4), (46, makeS 1 1), (47, makeS 1 1), (48, makeS 3 24)]
theorem glok_slices : AllL (SgOk Try.prog qq) gl_slices := ⟨makeS_ok fun x es0 ts h1 h2 h3 => makes_clone mix t_slices_Clone_Slot_Slot (by decide) x es0 ts h1 h2 h3, makeS_ok fun x es0 ts h1 h2 h3 => makes_clone mix t_slices_Clone_Entry_Entry (by decide) x es0 ts h1 h2 h3, makeS_ok fun x es0 ts h1 h2 h3 => makes_clone mix t_slices_Clone_Request_Request (by decide) x es0 ts h1 h2 h3, makeS_ok fun x es0 ts h1 h2 h3 => makes_clone mix t_slices_Clone_uint32_uint32 (by decide) x es0 ts h1 h2 h3, makeS_ok fun x es0 ts h1 h2 h3 => makes_clone mix t_slices_Clone_bool_bool (by decide) x es0 ts h1 h2 h3, makeS_ok fun x es0 ts h1 h2 h3 => makes_clone mix t_slices_Clone_byte_byte (by decide) x es0 ts h1 h2 h3, makeS_ok fun x es0 ts h1 h2 h3 => makes_clone mix t_slices_Clone_Write_Write (by decide) x es0 ts h1 h2 h3, trivial⟩
end Go.Proofs.Ytbemlndjdbopeaa

/- Code gone through up to its loops. -/
namespace Go.Ra
set_option linter.unusedVariables false
set_option linter.unusedSimpArgs false

/-- What is read by a name. -/
def readX : AX → List Nat
  | .t i => [i]
  | .c _ => []
def memN (i : Nat) : List Nat → Bool
  | [] => false
  | k :: l => bif Nat.beq i k then true else memN i l
def diffN (l r : List Nat) : List Nat := l.filter fun i => !memN i r
def readsX : List AX → List Nat
  | [] => []
  | x :: l => readX x ++ readsX l
def dstL : Option Nat → List Nat
  | some d => [d]
  | none => []
def usesO : List AG → List Nat → List Nat
  | [], _ => []
  | ⟨d, o, g⟩ :: r, df => diffN ((match g with | some (t, _) => [t] | none => []) ++ readsX (opnds o)) df ++ usesO r (dstL d ++ df)
def mustO : List AG → List Nat
  | [] => []
  | ⟨d, _, _⟩ :: r => dstL d ++ mustO r
/-- The names that code sets, whatever comes. -/
def mustD : AC → List Nat
  | .ops l => mustO l
  | .opsD l _ => mustO l
  | .seq a b => mustD a ++ mustD b
  | _ => []
/-- The names that code may read before it sets them. -/
def usesC : AC → List Nat
  | .ops l => usesO l []
  | .opsD l _ => usesO l []
  | .seq a b => usesC a ++ diffN (usesC b) (mustD a)
  | .cond c x y => readX c ++ (usesC x ++ usesC y)
  | .block _ c => usesC c
  | .loop c => usesC c
  | _ => []
def delN (k : Nat) (l : List Nat) : List Nat := l.filter fun i => !Nat.beq i k
/-- The names of a list alone. -/
def pruneE : List Nat → List (Nat × XV) → List (Nat × XV)
  | _, [] => []
  | l, (k, v) :: r => bif memN k l then (k, v) :: pruneE (delN k l) r else pruneE l r

theorem memN_del {i k : Nat} : ∀ {l : List Nat}, memN i (delN k l) = true → memN i l = true
  | [], h => h
  | a :: l, h => by
    simp only [delN, List.filter_cons] at h
    simp only [memN]
    cases hb : Nat.beq i a
    · rw [cond_false]
      split at h
      · simp only [memN, hb, cond_false] at h
        exact memN_del (k := k) h
      · exact memN_del (k := k) h
    · rfl
theorem getX_prune_none {i : Nat} : ∀ (l : List Nat) (env : List (Nat × XV)), memN i l = false → getX (pruneE l env) i = .unk
  | l, [], h => rfl
  | l, (k, v) :: r, h => by
    simp only [pruneE]
    cases hk : memN k l
    · exact getX_prune_none l r h
    · simp only [cond_true, getX, beq_if]
      have : ¬ i = k := fun e => by rw [e, hk] at h; cases h
      rw [if_neg this]
      refine getX_prune_none _ r ?_
      cases hd : memN i (delN k l)
      · rfl
      · rw [memN_del hd] at h; cases h
theorem getX_prune {i : Nat} : ∀ (l : List Nat) (env : List (Nat × XV)), getX (pruneE l env) i = .unk ∨ getX (pruneE l env) i = getX env i
  | l, [] => .inl rfl
  | l, (k, v) :: r => by
    simp only [pruneE]
    cases hk : memN k l
    · rw [cond_false]
      by_cases hi : i = k
      · subst hi
        exact .inl (getX_prune_none l r hk)
      · simp only [getX, beq_if, if_neg hi]
        exact getX_prune l r
    · simp only [cond_true, getX, beq_if]
      by_cases hi : i = k
      · rw [if_pos hi, if_pos hi]; exact .inr rfl
      · rw [if_neg hi, if_neg hi]
        exact getX_prune _ r
def XSt.prune (l : List Nat) (σ : XSt) : XSt := ⟨pruneE l σ.env, σ.hl, σ.n⟩
theorem prune_weak (l : List Nat) (σ : XSt) : Weak σ.st (σ.prune l).st := by
  refine ⟨fun i => ?_, fun _ => .inr rfl, Nat.le_refl _⟩
  show leA (get (conE σ.env) i) (get (conE (pruneE l σ.env)) i)
  rw [get_conE, get_conE]
  rcases getX_prune l σ.env (i := i) with h | h
  · rw [h]; exact .inl rfl
  · rw [h]; exact .inr (.inl rfl)
theorem leA_trans {a b c : AV} (h1 : leA a b) (h2 : leA b c) : leA a c := by
  rcases h2 with rfl | rfl | ⟨x, es, es', ts, rfl, rfl, h⟩
  · exact .inl rfl
  · exact h1
  · rcases h1 with h1 | h1 | ⟨x', e1, e2, us, rfl, h3, h4⟩
    · cases h1
    · subst h1; exact .inr (.inr ⟨x, es, es', ts, rfl, rfl, h⟩)
    · simp only [AV.fro.injEq] at h3
      obtain ⟨_, rfl, rfl⟩ := h3
      refine .inr (.inr ⟨x', e1, es', ts, rfl, rfl, ?_⟩)
      rcases h with rfl | h
      · exact h4
      · exact .inr h
theorem Weak.trans {σ τ υ : St} (h1 : Weak σ τ) (h2 : Weak τ υ) : Weak σ υ :=
  ⟨fun i => leA_trans (h1.1 i) (h2.1 i), fun i => by
    rcases h2.2.1 i with h | h
    · exact .inl h
    · rw [h]; exact h1.2.1 i, Nat.le_trans h1.2.2 h2.2.2⟩

theorem weakE_less {m k : Nat} {σ τ : St} (hm : m ≤ k) (h : WeakE k σ τ) : WeakE m σ τ := fun fr G0 w0 nt a w hl hs => h fr G0 w0 nt a w (fun i l hi => Nat.lt_of_lt_of_le (hl i l hi) hm) hs
theorem weakE_trans {m : Nat} {σ τ υ : St} (h1 : Weak σ τ) (h2 : WeakE m τ υ) : WeakE m σ υ := (WeakE.of h1).trans h2

inductive Frm where
  | seq (b : AC)
  | blk (id : Nat)
  | lp (c : AC) (A : XSt → Prop)

def usesF : List Frm → List Nat
  | [] => []
  | .seq b :: s => usesC b ++ usesF s
  | .blk _ :: s => usesF s
  | .lp c _ :: s => usesC c ++ usesF s

/-- What is asked behind code that stands in other code. -/
def unwind (C : Orc) : List Frm → (AE → St → Prop) → AE → St → Prop
  | [], Φ => Φ
  | .seq b :: s, Φ => AE.then (fun σ => wpC C b σ (unwind C s Φ)) (unwind C s Φ)
  | .blk id :: s, Φ => AE.inBlock id (unwind C s Φ)
  | .lp _ A :: s, Φ => AE.then (fun t => ∃ σ : XSt, Weak t σ.st ∧ A σ) (unwind C s Φ)

/-- A loop, and what stands behind it. -/
structure LoopAt (C : Orc) (c : AC) (σ : XSt) (s : List Frm) (Φ : AE → St → Prop) : Prop where
  out : wpC C (.loop c) σ.st (unwind C s Φ)

inductive Job where
  | run (c : AC)
  | back (e : AE)

section
variable (T : Tab) (C : Orc) (ci : Nat → List XV → XSt → (XV → XSt → Prop) → Prop) (kp : List Nat) (fin : AE → XSt → Prop) (Φ : AE → St → Prop)
/-- Code, with what stands behind it; loops are left. -/
def exS : Nat → Job → List Frm → XSt → Prop
  | 0, _, _, _ => False
  | n + 1, .run c, s, σ =>
    match c with
    | .skip => exS n (.back .normal) s σ
    | .ops l => exO T ci (grp l) σ fun σ' => exS n (.back .normal) s σ'
    | .opsD l ps => exO T ci (grp l) σ fun σ' => need (sepXs σ' ps) (exS n (.back .normal) s σ')
    | .seq a b => exS n (.run a) (.seq b :: s) σ
    | .cond c x y =>
      match strip (σ.ev c) with
      | .bool b => need (isThere (σ.ev c)) (cond b (exS n (.run x) s σ) (exS n (.run y) s σ))
      | _ => False
    | .block id c => exS n (.run c) (.blk id :: s) σ
    | .loop c => LoopAt C c (σ.prune (usesC c ++ (usesF s ++ kp))) s Φ
    | .exit id => exS n (.back (.exit id)) s σ
    | .ret => exS n (.back .ret) s σ
    | .frz => need σ.fz.1 (exS n (.back .normal) s σ.fz.2)
  | n + 1, .back e, s, σ =>
    match s with
    | [] => fin e σ
    | .seq b :: s =>
      match e with
      | .normal => exS n (.run b) s σ
      | e => exS n (.back e) s σ
    | .blk id :: s =>
      match e with
      | .exit i => cond (Nat.beq i id) (exS n (.back .normal) s σ) (exS n (.back (.exit i)) s σ)
      | e => exS n (.back e) s σ
    | .lp c A :: s =>
      match e with
      | .normal => A (σ.prune (usesC c ++ (usesF s ++ kp)))
      | e => exS n (.back e) s σ
end

section
variable {P : Program} {T : Tab} {ci : Nat → List XV → XSt → (XV → XSt → Prop) → Prop} {kp : List Nat} {fin : AE → XSt → Prop} {Φ : AE → St → Prop}
def jobWp (C : Orc) (j : Job) (σ : XSt) (Ψ : AE → St → Prop) : Prop :=
  match j with
  | .run c => wpC C c σ.st Ψ
  | .back e => Ψ e σ.st

theorem wpC_loop_weak {C : Orc} {c : AC} {σ τ : St} {Ψ : AE → St → Prop} (hw : Weak σ τ) (h : wpC C (.loop c) τ Ψ) : wpC C (.loop c) σ Ψ := by
  unfold wpC at h ⊢
  obtain ⟨Inv, μ, ⟨υ, h1, h2⟩, h3⟩ := h
  refine ⟨Inv, μ, ⟨υ, weakE_trans hw (weakE_less hw.2.2 h1), h2⟩, fun τ' hτ => wpC_mono _ _ (fun e t he => ?_) c τ' (h3 τ' hτ)⟩
  cases e with
  | normal =>
    obtain ⟨t', g1, g2, g3⟩ := he
    exact ⟨t', weakE_less hw.2.2 g1, g2, g3⟩
  | exit _ => exact he
  | ret => exact he

theorem exS_ok (hT : TabOk P T) (hci : CiOk P T.q ci) (hfin : ∀ e σ, fin e σ → Φ e σ.st) : ∀ (n : Nat) (j : Job) (s : List Frm) (σ : XSt), exS T (Ok P T.q) ci kp fin Φ n j s σ → jobWp (Ok P T.q) j σ (unwind (Ok P T.q) s Φ)
  | 0, _, _, _, h => h.elim
  | n + 1, .run c, s, σ, h => by
    have ih := exS_ok hT hci hfin n
    simp only [jobWp]
    cases c with
    | skip => exact ih (.back .normal) s σ h
    | ops l =>
      simp only [exS] at h
      obtain ⟨h1, h2⟩ := grp_ung l
      obtain ⟨σ', h3, h4⟩ := exO_ok hT hci (grp l) σ _ h h2
      rw [h1] at h4
      exact h4 _ (ih (.back .normal) s σ' h3)
    | opsD l ps =>
      simp only [exS] at h
      obtain ⟨h1, h2⟩ := grp_ung l
      obtain ⟨σ', h3, h4⟩ := exO_ok hT hci (grp l) σ _ h h2
      rw [h1] at h4
      rw [need_iff] at h3
      exact h4 _ ⟨sepXs_ok h3.1, ih (.back .normal) s σ' h3.2⟩
    | seq a b => exact ih (.run a) (.seq b :: s) σ h
    | cond c x y =>
      simp only [exS] at h
      split at h
      · rename_i b hb
        rw [need_iff] at h
        have hc : σ.st.ev c = .sc (.bool b) := by rw [st_ev, strip_con h.1, hb]; rfl
        unfold wpC
        rw [hc]
        cases b with
        | true => exact ⟨fun _ => ih (.run x) s σ h.2, fun e => by cases e⟩
        | false => exact ⟨fun e => (by cases e), fun _ => ih (.run y) s σ h.2⟩
      · cases h
    | block id c => exact ih (.run c) (.blk id :: s) σ h
    | loop c => exact wpC_loop_weak (prune_weak _ σ) h.out
    | exit id => exact ih (.back (.exit id)) s σ h
    | ret => exact ih (.back .ret) s σ h
    | frz =>
      simp only [exS] at h
      rw [need_iff] at h
      exact ⟨_, fz_ok h.1, ih (.back .normal) s _ h.2⟩
  | n + 1, .back e, s, σ, h => by
    have ih := exS_ok hT hci hfin n
    simp only [jobWp]
    cases s with
    | nil => exact hfin e σ h
    | cons f s =>
      cases f with
      | seq b =>
        cases e with
        | normal => exact ih (.run b) s σ h
        | exit i => exact ih (.back (.exit i)) s σ h
        | ret => exact ih (.back .ret) s σ h
      | blk id =>
        cases e with
        | normal => exact ih (.back .normal) s σ h
        | ret => exact ih (.back .ret) s σ h
        | exit i =>
          simp only [exS] at h
          simp only [unwind, AE.inBlock]
          cases hi : Nat.beq i id <;> rw [hi] at h
          · rw [if_neg (Nat.ne_of_beq_eq_false hi)]
            exact ih (.back (.exit i)) s σ h
          · rw [if_pos (Nat.eq_of_beq_eq_true hi)]
            exact ih (.back .normal) s σ h
      | lp c A =>
        cases e with
        | normal => exact ⟨_, prune_weak _ σ, h⟩
        | exit i => exact ih (.back (.exit i)) s σ h
        | ret => exact ih (.back .ret) s σ h

/-- What is asked at the end of a function that leaves memory alone and gives r. -/
def finP (rs : List AR) (r : AV) : AE → XSt → Prop := retX rs (frzK fun v => con v = r)
def finR (rs : List AR) (r : AV) : AE → St → Prop := retP rs fun v τ => frz τ 6 v = some r
def keepR : List AR → List Nat
  | [] => []
  | .tmp t :: r => t :: keepR r
  | .cell t _ _ :: r => t :: keepR r

theorem finP_ok {rs : List AR} {r : AV} (e : AE) (σ : XSt) (h : finP rs r e σ) : finR rs r e σ.st := by
  obtain ⟨v, h3, h4⟩ := retX_ok h
  refine h4 (fun v τ => frz τ 6 v = some r) ?_
  unfold frzK at h3
  split at h3
  · rename_i nd r' hz
    rw [need_iff] at h3
    rw [← h3.2]
    exact frzX_con (st_H σ) 6 v nd r' hz h3.1
  · cases h3

/-- Code of a function up to its loops. -/
abbrev goS (P : Program) (T : Tab) (rs : List AR) (r : AV) (j : Job) (s : List Frm) (σ : XSt) : Prop := exS T (Ok P T.q) (callI T 80 20) (keepR rs) (finP rs r) (finR rs r) 2000 j s σ

/-- A function that leaves memory alone, gone through up to its loops. -/
theorem pureS (hmix : P.follows .mixedOrders = true) (hT : TabOk P T) {f nt : Nat} {rs : List AR} {c : AC} (hF : trF P T.q f = some (nt, rs, c)) {args : List XV} {r : AV} (hl : args.length ≤ nt) (h : goS P T rs r (.run c) [] ⟨envX 0 args, [], 0⟩) : Pure P f (cons args) r := by
  have := exS_ok hT (callI_ok hmix hT 20) finP_ok 2000 _ _ _ h
  refine pure_of (k := 6) hmix Ok.ok Ok.quiet hF (by rw [cons_len]; exact hl) ?_
  simpa [jobWp, unwind, XSt.st, envX_con, conH, finR] using this

/-- A loop whose states are numbered: one round, from each of them, and what stands behind the loop. -/
theorem loopS (hmix : P.follows .mixedOrders = true) (hT : TabOk P T) {rs : List AR} {r : AV} {c : AC} {σ : XSt} {s : List Frm} {ι : Type} (S : ι → XSt) (V : ι → Prop) (m : ι → Nat) (i0 : ι) (hV : V i0) (h0 : Weak σ.st (S i0).st)
    (hr : ∀ i, V i → goS P T rs r (.run c) (.lp c (fun τ => ∃ j, V j ∧ Weak τ.st (S j).st ∧ m j < m i) :: s) (S i)) : LoopAt (Ok P T.q) c σ s (finR rs r) :=
  ⟨wpC_for (fun i => (S i).st) V m i0 hV h0 fun i hi => by
    have h := exS_ok hT (callI_ok hmix hT 20) finP_ok 2000 _ _ _ (hr i hi)
    refine wpC_mono _ _ (fun e t he => ?_) c _ h
    cases e with
    | normal =>
      obtain ⟨τ, hw, j, h1, h2, h3⟩ := he
      exact ⟨j, h1, hw.trans h2, h3⟩
    | exit _ => exact he
    | ret => exact he⟩

theorem cnd2 {b : Bool} {p q : Prop} (h1 : b = true → p) (h2 : b = false → q) : cond b p q := by
  cases b
  · exact h2 rfl
  · exact h1 rfl
theorem cndF {b : Bool} {p : Prop} (h1 : b = true) (h2 : p) : cond b p False := by subst h1; exact h2
theorem pk_and (b : Bool) : (bif b then b else true) = true := by cases b <;> rfl
theorem pk_or (b : Bool) : (bif b then true else !b) = true := by cases b <;> rfl
theorem allN_true (n : Nat) : allN (fun _ => true) n = true := allN_iff.2 fun _ _ => rfl

/-- The state says no more than is so. -/
def agreeX : List (Nat × XV) → List (Nat × XV) → Prop
  | [], _ => True
  | (k, v) :: r, e => con (getX e k) = con v ∧ agreeX r e
def agreeXH : List (Nat × Option XV) → List (Nat × Option XV) → Prop
  | [], _ => True
  | (k, v) :: r, e => (lookX e k).map con = v.map con ∧ agreeXH r e
theorem agreeX_ok : ∀ {l e : List (Nat × XV)}, agreeX l e → agrees (conE l) (conE e)
  | [], e, h => trivial
  | (k, v) :: r, e, h => ⟨by rw [get_conE]; exact .inr (.inl h.1.symm), agreeX_ok h.2⟩
theorem agreeXH_ok : ∀ {l e : List (Nat × Option XV)}, agreeXH l e → agreesH (conH l) (conH e) (fun _ => none)
  | [], e, h => trivial
  | (k, v) :: r, e, h => ⟨by rw [look_conH]; exact h.1, agreeXH_ok h.2⟩
/-- The same, where less may be said of rows. -/
def agreeN : List (Nat × XV) → List (Nat × XV) → Prop
  | [], _ => True
  | (k, v) :: r, e => leA (con (getX e k)) (con v) ∧ agreeN r e
theorem agreeN_ok : ∀ {l e : List (Nat × XV)}, agreeN l e → agrees (conE l) (conE e)
  | [], e, h => trivial
  | (k, v) :: r, e, h => ⟨by rw [get_conE]; exact h.1, agreeN_ok h.2⟩
theorem weakN {σ τ : XSt} (h1 : agreeN τ.env σ.env) (h2 : agreeXH τ.hl σ.hl) (h3 : σ.n ≤ τ.n) : Weak σ.st τ.st := weak_of (agreeN_ok h1) (agreeXH_ok h2) h3
theorem le_is {a b : AV} (h : a = b) : leA a b := .inr (.inl h.symm)
theorem le_row {x : Bool} {e es n m : Nat} {f g : Nat → XV} (hn : n = m) (he : es = e ∨ n = 0) (h : ∀ i, i < n → con (f i) = con (g i)) : leA (con (.row x e n f)) (con (.row false es m g)) := by
  subst hn
  refine .inr (.inr ⟨x, e, es, _, rfl, ?_, ?_⟩)
  · simp only [con]
    rw [tabL_congr h]
  · exact he.imp id fun h => tabL_nil.2 h
theorem weakX {σ τ : XSt} (h1 : agreeX τ.env σ.env) (h2 : agreeXH τ.hl σ.hl) (h3 : σ.n ≤ τ.n) : Weak σ.st τ.st := weak_of (agreeX_ok h1) (agreeXH_ok h2) h3
mutual
def XV.low (n : Nat) : XV → Bool
  | .agg _ ts => XV.lows n ts
  | .clo _ cs => XV.lows n cs
  | .tup ts => XV.lows n ts
  | .sl id _ _ _ _ _ => Nat.blt id n
  | .ptr id _ _ => Nat.blt id n
  | .opt _ v => v.low n
  | .raw v => v.lowA n
  | _ => true
def XV.lows (n : Nat) : List XV → Bool
  | [] => true
  | t :: ts => bif t.low n then XV.lows n ts else false
end
mutual
theorem con_low {n : Nat} : ∀ t : XV, t.low n = true → (con t).lowA n = true
  | .opt g v, h => by
    cases g
    · rfl
    · exact con_low v h
  | .tri z b, h => by cases z <;> rfl
  | .int .., h => rfl
  | .bool _, h => rfl
  | .str .., h => rfl
  | .agg m ts, h => by simp only [con, AV.lowA]; exact cons_low ts h
  | .tab .., h => rfl
  | .row .., h => rfl
  | .fptr _, h => rfl
  | .sl .., h => h
  | .ptr .., h => h
  | .clo f cs, h => by simp only [con, AV.lowA]; exact cons_low cs h
  | .tup ts, h => by simp only [con, AV.lowA]; exact cons_low ts h
  | .anyb, h => rfl
  | .unk, h => rfl
  | .raw _, h => h
theorem cons_low {n : Nat} : ∀ ts : List XV, XV.lows n ts = true → AV.lowAs n (cons ts) = true
  | [], h => rfl
  | t :: ts, h => by
    simp only [XV.lows] at h
    cases ht : t.low n <;> rw [ht] at h
    · cases h
    · simp only [cons, AV.lowAs, con_low t ht, cons_low ts h, Bool.and_self]
end
def lowE (n : Nat) : List (Nat × XV) → Bool
  | [] => true
  | (_, v) :: r => bif v.low n then lowE n r else false
def lowH (n : Nat) : List (Nat × Option XV) → Bool
  | [] => true
  | (k, v) :: r => bif Nat.blt k n then (bif (match v with | some t => t.low n | none => true) then lowH n r else false) else false
/-- Nothing with a name from n on is spoken of. -/
def XSt.low (σ : XSt) : Bool := bif lowE σ.n σ.env then lowH σ.n σ.hl else false
theorem lowE_get {n i : Nat} : ∀ {l : List (Nat × XV)}, lowE n l = true → (get (conE l) i).lowA n = true
  | [], h => rfl
  | (k, v) :: r, h => by
    simp only [lowE] at h
    cases hv : v.low n <;> rw [hv] at h
    · cases h
    · show (if i = k then con v else get (conE r) i).lowA n = true
      split
      · exact con_low v hv
      · exact lowE_get h
theorem lowH_get {n i : Nat} : ∀ {l : List (Nat × Option XV)}, lowH n l = true → (n ≤ i → look (conH l) (fun _ => none) i = none) ∧ ∀ t, look (conH l) (fun _ => none) i = some t → t.lowA n = true
  | [], h => ⟨fun _ => rfl, fun t ht => by cases ht⟩
  | (k, v) :: r, h => by
    simp only [lowH] at h
    cases hk : Nat.blt k n <;> rw [hk] at h
    · cases h
    · rw [cond_true] at h
      have hkn : k < n := Nat.le_of_ble_eq_true hk
      have hr : lowH n r = true := by
        cases v with
        | none => exact h
        | some u =>
          simp only at h
          cases hu : u.low n <;> rw [hu] at h
          · cases h
          · exact h
      obtain ⟨i1, i2⟩ := lowH_get (i := i) (l := r) hr
      show (n ≤ i → (if i = k then v.map con else look (conH r) _ i) = none) ∧ ∀ t, (if i = k then v.map con else look (conH r) _ i) = some t → t.lowA n = true
      by_cases hik : i = k
      · subst hik
        refine ⟨fun hn => by omega, fun t ht => ?_⟩
        rw [if_pos rfl] at ht
        cases v with
        | none => cases ht
        | some u =>
          simp only [Option.map_some, Option.some.injEq] at ht
          subst ht
          simp only at h
          cases hu : u.low n <;> rw [hu] at h
          · cases h
          · exact con_low u hu
      · rw [if_neg hik]
        exact ⟨i1, i2⟩
theorem low_of {m : Nat} {σ τ : XSt} (h1 : m ≤ τ.n) (h2 : τ.low = true) : LowN m σ.st τ.st := by
  unfold XSt.low at h2
  cases he : lowE τ.n τ.env <;> rw [he] at h2
  · cases h2
  · rw [cond_true] at h2
    exact .inr ⟨h1, fun i => lowE_get he, fun i hi => (lowH_get h2).1 hi, fun i t ht => (lowH_get h2).2 t ht⟩
/-- The same for rounds that begin with the same names anew. -/
theorem weakT {m : Nat} {σ τ : XSt} (h1 : agreeN τ.env σ.env) (h2 : agreeXH τ.hl σ.hl) (h3 : m ≤ τ.n) (h4 : τ.low = true) : WeakL m σ.st τ.st :=
  ⟨agrees_get (agreeN_ok h1), agreesH_look (agreeXH_ok h2), low_of h3 h4⟩

/-- A loop whose states are numbered; the names of own memory that a round makes are given up behind it. -/
theorem loopT (hmix : P.follows .mixedOrders = true) (hT : TabOk P T) {rs : List AR} {r : AV} {c : AC} {σ : XSt} {s : List Frm} {ι : Type} (S : ι → XSt) (V : ι → Prop) (m : ι → Nat) (i0 : ι) (hV : V i0) (h0 : Weak σ.st (S i0).st)
    (hr : ∀ i, V i → goS P T rs r (.run c) (.lp c (fun τ => ∃ j, V j ∧ WeakL σ.n τ.st (S j).st ∧ m j < m i) :: s) (S i)) : LoopAt (Ok P T.q) c σ s (finR rs r) :=
  ⟨wpC_forL (fun i => (S i).st) V m i0 hV h0 fun i hi => by
    have h := exS_ok hT (callI_ok hmix hT 20) finP_ok 2000 _ _ _ (hr i hi)
    refine wpC_mono _ _ (fun e t he => ?_) c _ h
    cases e with
    | normal =>
      obtain ⟨τ, hw, j, h1, h2, h3⟩ := he
      exact ⟨j, h1, ⟨fun i => leA_trans (hw.1 i) (h2.1 i), fun i => by
        rcases h2.2.1 i with h | h
        · exact .inl h
        · rw [h]; exact hw.2.1 i, h2.2.2.imp (fun h => Nat.le_trans hw.2.2 h) id⟩, h3⟩
    | exit _ => exact he
    | ret => exact he⟩

def kap (l : List (Nat × Nat)) (j : Nat) : Option Nat :=
  match l with
  | [] => none
  | (k, i) :: r => bif Nat.beq j k then some i else kap r j
def kapLow (n : Nat) : List (Nat × Nat) → Bool
  | [] => true
  | (k, _) :: r => bif Nat.blt k n then kapLow n r else false
def kapNo (i : Nat) : List (Nat × Nat) → Bool
  | [] => true
  | (_, a) :: r => bif Nat.beq i a then false else kapNo i r
/-- Each name stands for another one. -/
def kapInj : List (Nat × Nat) → Bool
  | [] => true
  | (_, i) :: r => bif kapNo i r then kapInj r else false
def keysLow (n : Nat) : List (Nat × Option XV) → Bool
  | [] => true
  | (k, _) :: r => bif Nat.blt k n then keysLow n r else false
/-- The names ahead of the loop stay. -/
def kapId (l : List (Nat × Nat)) (m : Nat) : Bool := allN (fun j => match kap l j with | some i => Nat.beq i j | none => false) m
theorem kap_high {n j : Nat} : ∀ {l : List (Nat × Nat)}, kapLow n l = true → n ≤ j → kap l j = none
  | [], _, _ => rfl
  | (k, i) :: r, h, hj => by
    simp only [kapLow] at h
    cases hk : Nat.blt k n <;> rw [hk] at h
    · cases h
    · have hkn : k < n := Nat.le_of_ble_eq_true hk
      have : ¬ j = k := by omega
      simp only [kap, beq_if, if_neg this]
      exact kap_high h hj
theorem kap_no {i : Nat} : ∀ {l : List (Nat × Nat)}, kapNo i l = true → ∀ j, kap l j ≠ some i
  | [], _, j, h => by cases h
  | (k, a) :: r, h, j, hj => by
    simp only [kapNo, beq_if] at h
    split at h
    · cases h
    · rename_i hia
      simp only [kap, beq_if] at hj
      split at hj
      · simp only [Option.some.injEq] at hj
        exact hia hj.symm
      · exact kap_no h j hj
theorem kap_inj : ∀ {l : List (Nat × Nat)}, kapInj l = true → ∀ i j j', kap l j = some i → kap l j' = some i → j = j'
  | [], _, i, j, j', h, _ => by cases h
  | (k, a) :: r, h, i, j, j', h1, h2 => by
    simp only [kapInj] at h
    cases hno : kapNo a r <;> rw [hno] at h
    · cases h
    · rw [cond_true] at h
      simp only [kap, beq_if] at h1 h2
      split at h1
      · rename_i hj
        simp only [Option.some.injEq] at h1
        subst h1
        split at h2
        · rename_i hj'
          rw [hj, hj']
        · exact absurd h2 (kap_no hno j')
      · split at h2
        · simp only [Option.some.injEq] at h2
          subst h2
          exact absurd h1 (kap_no hno j)
        · exact kap_inj h i j j' h1 h2
theorem keys_high {n j : Nat} : ∀ {l : List (Nat × Option XV)}, keysLow n l = true → n ≤ j → look (conH l) (fun _ => none) j = none
  | [], _, _ => rfl
  | (k, v) :: r, h, hj => by
    simp only [keysLow] at h
    cases hk : Nat.blt k n <;> rw [hk] at h
    · cases h
    · have hkn : k < n := Nat.le_of_ble_eq_true hk
      have : ¬ j = k := by omega
      show (if j = k then v.map con else look (conH r) _ j) = none
      rw [if_neg this]
      exact keys_high h hj
def agreeK (κ : Nat → Option Nat) : List (Nat × XV) → List (Nat × XV) → Prop
  | [], _ => True
  | (k, v) :: r, e => leK κ (con (getX e k)) (con v) ∧ agreeK κ r e
def agreeKH (κ : Nat → Option Nat) : List (Nat × Option XV) → List (Nat × Option XV) → Prop
  | [], _ => True
  | (j, some t') :: r, e => (match κ j with
      | some i => (match lookX e i with | some t => leK κ (con t) (con t') | none => False)
      | none => ∃ es, con t' = .arr 0 es []) ∧ agreeKH κ r e
  | (_, none) :: r, e => agreeKH κ r e
theorem agreeK_get {κ : Nat → Option Nat} {i : Nat} : ∀ {l e : List (Nat × XV)}, agreeK κ l e → get (conE l) i = .unk ∨ leK κ (get (conE e) i) (get (conE l) i)
  | [], e, h => .inl rfl
  | (k, v) :: r, e, h => by
    show (if i = k then con v else get (conE r) i) = .unk ∨ leK κ _ (if i = k then con v else get (conE r) i)
    by_cases hi : i = k
    · subst hi
      rw [if_pos rfl, get_conE]
      exact .inr h.1
    · rw [if_neg hi]
      exact agreeK_get h.2
theorem agreeKH_get {κ : Nat → Option Nat} {j : Nat} {t' : AV} : ∀ {l e : List (Nat × Option XV)}, agreeKH κ l e → look (conH l) (fun _ => none) j = some t' → (∃ i t, κ j = some i ∧ look (conH e) (fun _ => none) i = some t ∧ leK κ t t') ∨ (κ j = none ∧ ∃ es, t' = .arr 0 es [])
  | [], e, h, hj => by cases hj
  | (k, v) :: r, e, h, hj => by
    have hj' : (if j = k then v.map con else look (conH r) (fun _ => none) j) = some t' := hj
    by_cases hk : j = k
    · subst hk
      rw [if_pos rfl] at hj'
      cases v with
      | none => cases hj'
      | some t =>
        simp only [Option.map_some, Option.some.injEq] at hj'
        subst hj'
        have h1 := h.1
        cases hκ : κ j with
        | none =>
          rw [hκ] at h1
          exact .inr ⟨rfl, h1⟩
        | some i =>
          rw [hκ] at h1
          simp only at h1
          cases hl : lookX e i with
          | none => rw [hl] at h1; cases h1
          | some u =>
            rw [hl] at h1
            exact .inl ⟨i, con u, rfl, by rw [look_conH, hl]; rfl, h1⟩
    · rw [if_neg hk] at hj'
      cases v with
      | none => exact agreeKH_get (l := r) h hj'
      | some t => exact agreeKH_get (l := r) h.2 hj'
/-- The state says no more than is so, under other names. -/
theorem weakK {m : Nat} {σ τ : XSt} (kl : List (Nat × Nat)) (h1 : kapId kl m = true) (h2 : kapLow τ.n kl = true) (h3 : keysLow τ.n τ.hl = true) (h4 : Nat.ble m τ.n = true) (h5 : kapInj kl = true) (h6 : agreeK (kap kl) τ.env σ.env) (h7 : agreeKH (kap kl) τ.hl σ.hl) : WeakE m σ.st τ.st :=
  .ofK ⟨kap kl, (fun j hj => by
    have h8 := allN_spec h1 j hj
    cases hk : kap kl j with
    | none => rw [hk] at h8; cases h8
    | some i =>
      rw [hk] at h8
      rw [Nat.eq_of_beq_eq_true h8]), (fun j hj => ⟨keys_high h3 hj, kap_high h2 hj⟩), Nat.le_of_ble_eq_true h4, kap_inj h5, (fun t => agreeK_get h6), (fun j t' hj => agreeKH_get h7 hj)⟩
theorem k_is {κ : Nat → Option Nat} {a b : XV} (h : con a = con b) (hl : b.low 0 = true) : leK κ (con a) (con b) := by
  rw [h]; exact .same (con_low b hl)
theorem k_row {κ : Nat → Option Nat} {x : Bool} {e es n m : Nat} {f g : Nat → XV} (hn : n = m) (he : es = e ∨ n = 0) (h : ∀ i, i < n → con (f i) = con (g i)) : leK κ (con (.row x e n f)) (con (.row false es m g)) := by
  subst hn
  show leK κ (.fro x e (tabL n fun i => con (f i))) (.fro false es (tabL n fun i => con (g i)))
  rw [tabL_congr h]
  exact .fro (he.imp id fun h => tabL_nil.2 h)
theorem k_tab {κ : Nat → Option Nat} {es n : Nat} {f g : Nat → XV} (h : ∀ i, i < n → con (f i) = con (g i)) : leK κ (con (.tab n es f)) (con (.tab n es g)) := by
  refine k_is ?_ rfl
  simp only [con]
  rw [tabL_congr h]
theorem k_nil {κ : Nat → Option Nat} {e es j off k n : Nat} {path : List Nat} {f : Nat → XV} (hn : n = 0) : leK κ (con (.row true e n f)) (con (.sl j path off k 0 es)) := by
  subst hn
  exact .nil

/-- A loop whose states are numbered; own memory may get other names in each round. -/
theorem loopK (hmix : P.follows .mixedOrders = true) (hT : TabOk P T) {rs : List AR} {r : AV} {c : AC} {σ : XSt} {s : List Frm} {ι : Type} (S : ι → XSt) (V : ι → Prop) (m : ι → Nat) (i0 : ι) (hV : V i0) (h0 : WeakE σ.n σ.st (S i0).st)
    (hr : ∀ i, V i → goS P T rs r (.run c) (.lp c (fun τ => ∃ j, V j ∧ WeakE σ.n τ.st (S j).st ∧ m j < m i) :: s) (S i)) : LoopAt (Ok P T.q) c σ s (finR rs r) :=
  ⟨wpC_forE (fun i => (S i).st) V m i0 hV h0 fun i hi => by
    have h := exS_ok hT (callI_ok hmix hT 20) finP_ok 2000 _ _ _ (hr i hi)
    refine wpC_mono _ _ (fun e t he => ?_) c _ h
    cases e with
    | normal =>
      obtain ⟨τ, hw, j, h1, h2, h3⟩ := he
      exact ⟨j, h1, weakE_trans hw h2, h3⟩
    | exit _ => exact he
    | ret => exact he⟩
end
end Go.Ra

/- Rows of structs: their fields, and when two are one. -/
namespace Go.Ra
set_option linter.unusedVariables false
set_option linter.unusedSimpArgs false

def asB : XV → Bool
  | .bool b => b
  | _ => false
/-- A struct's field. -/
def fld (k : Nat) : XV → XV
  | .agg _ ts =>
    match nth ts k with
    | some t => t
    | none => .unk
  | _ => .unk
/-- Is it of these kinds? -/
inductive KD where
  | i (k : IntKind)
  | b
def isK : KD → XV → Bool
  | .i k, .int k' _ => decide (k = k')
  | .b, .bool _ => true
  | _, _ => false
def isKs : List KD → List XV → Bool
  | [], [] => true
  | k :: ks, t :: ts => bif isK k t then isKs ks ts else false
  | _, _ => false
def isS (ks : List KD) : XV → Bool
  | .agg n ts => bif Nat.beq n ks.length then isKs ks ts else false
  | _ => false
def mkK : KD → XV → XV
  | .i k, v => .int k (asN v)
  | .b, v => .bool (asB v)
def mkKs : List KD → Nat → XV → List XV
  | [], _, _ => []
  | k :: ks, j, v => mkK k (fld j v) :: mkKs ks (j + 1) v
/-- The struct, its fields read and put together. -/
def mkS (ks : List KD) (v : XV) : XV := .agg ks.length (mkKs ks 0 v)

theorem mkK_eq {k : KD} {v : XV} (h : isK k v = true) : mkK k v = v := by
  cases k <;> cases v <;> simp only [isK, Bool.false_eq_true, decide_eq_true_eq] at h
  · subst h; rfl
  · rfl
theorem mkKs_eq : ∀ (ks : List KD) (pre ts : List XV) (n : Nat), isKs ks ts = true → mkKs ks pre.length (.agg n (pre ++ ts)) = ts
  | [], pre, [], n, h => rfl
  | k :: ks, pre, t :: ts, n, h => by
    simp only [isKs] at h
    cases hk : isK k t <;> rw [hk] at h
    · cases h
    · have h1 : fld pre.length (.agg n (pre ++ t :: ts)) = t := by
        simp only [fld, nth_get]
        rw [List.getElem?_append_right (Nat.le_refl _), Nat.sub_self]
        rfl
      have h2 := mkKs_eq ks (pre ++ [t]) ts n h
      simp only [List.length_append, List.length_cons, List.length_nil, List.append_assoc, List.cons_append, List.nil_append] at h2
      simp only [mkKs, h1, mkK_eq hk]
      rw [show pre.length + 1 = pre.length + (0 + 1) from rfl, h2]
  | [], pre, _ :: _, n, h => by simp [isKs] at h
  | _ :: _, pre, [], n, h => by simp [isKs] at h
theorem mkS_eq {ks : List KD} {v : XV} (h : isS ks v = true) : mkS ks v = v := by
  cases v <;> simp only [isS, Bool.false_eq_true] at h
  rename_i n ts
  cases hn : Nat.beq n ks.length <;> rw [hn] at h
  · cases h
  · have := Nat.eq_of_beq_eq_true hn
    subst this
    rw [cond_true] at h
    have h1 := mkKs_eq ks [] ts ks.length h
    simp only [List.length_nil, List.nil_append] at h1
    simp only [mkS, h1]

/-- Rows of one length, alike in each place. -/
def eqR (n m : Nat) (p : Nat → Bool) : Bool := bif Nat.beq n m then allN p n else false
theorem eqR_iff {n m : Nat} {p : Nat → Bool} : eqR n m p = true ↔ n = m ∧ ∀ i, i < n → p i = true := by
  unfold eqR
  cases h : Nat.beq n m
  · simp only [cond_false, Bool.false_eq_true, false_iff]
    rintro ⟨h1, _⟩
    subst h1
    rw [Nat.beq_refl] at h
    cases h
  · rw [cond_true, allN_iff]
    exact ⟨fun h1 => ⟨Nat.eq_of_beq_eq_true h, h1⟩, fun h1 => h1.2⟩
theorem eqR_self {n : Nat} {p : Nat → Bool} (h : ∀ i, i < n → p i = true) : eqR n n p = true := eqR_iff.2 ⟨rfl, h⟩

/-- Whether two rows are alike. -/
def eqRow (p : XV → XV → Bool) (n m : Nat) (f g : Nat → XV) : Bool := eqR n m fun i => p (f i) (g i)
theorem eqRow_self {p : XV → XV → Bool} (hp : ∀ a, p a a = true) (n : Nat) (f : Nat → XV) : eqRow p n n f f = true := eqR_self fun i _ => hp (f i)

def okE (e es n : Nat) : Bool := Nat.beq e es || Nat.beq n 0

theorem con_row {x : Bool} {es n : Nat} {f g : Nat → XV} (h : ∀ i, i < n → con (f i) = con (g i)) : con (.row x es n f) = con (.row x es n g) := by
  simp only [con]
  rw [tabL_congr h]

/-- The same but for what an empty row's elements would be. -/
def nilEq (a b : AV) : Prop := a = b ∨ ∃ x es es', a = .fro x es [] ∧ b = .fro x es' []
inductive nilEqs : List AV → List AV → Prop
  | nil : nilEqs [] []
  | cons {a b : AV} {l r : List AV} : nilEq a b → nilEqs l r → nilEqs (a :: l) (b :: r)
theorem nilEq.rel {w : World} {F : Nat → Prop} {ρ : Nat → Option Loc} {a b : AV} {v : Value} (h : nilEq a b) (hr : RelV w F ρ a v) : RelV w F ρ b v := by
  rcases h with rfl | ⟨x, es, es', rfl, rfl⟩
  · exact hr
  · obtain ⟨a, cap, rfl, _, hc, _⟩ := hr.fro_inv
    exact .one (.fro0 fun hx => hc hx) rfl
theorem nilEqs.rel {w : World} {F : Nat → Prop} {ρ : Nat → Option Loc} : ∀ {l r : List AV} {vs : List Value}, nilEqs l r → RelVs w F ρ l vs → RelVs w F ρ r vs
  | _, _, _, .nil, .nil => .nil
  | _, _, _, .cons h1 h2, .cons h3 h4 => .cons (h1.rel h3) (nilEqs.rel h2 h4)
theorem Pure.nilEqs {P : Program} {f : Nat} {l r : List AV} {v : AV} (hp : Pure P f r v) (h : nilEqs l r) : Pure P f l v :=
  ⟨hp.1, fun w F vs hF hr => hp.2 w F vs hF (h.rel hr)⟩

theorem nil_row {x : Bool} {e es n : Nat} {f g : Nat → XV} (ho : okE e es n = true) (h : ∀ i, i < n → con (f i) = con (g i)) : nilEq (con (.row x e n f)) (con (.row x es n g)) := by
  simp only [okE, Bool.or_eq_true] at ho
  rcases ho with ho | ho
  · have := Nat.eq_of_beq_eq_true ho
    subst this
    exact .inl (con_row h)
  · have := Nat.eq_of_beq_eq_true ho
    subst this
    exact .inr ⟨x, e, es, rfl, rfl⟩
theorem nil_self (a : AV) : nilEq a a := .inl rfl
mutual
/-- The same but for what empty rows' elements would be, within structs too. -/
inductive nilQ : AV → AV → Prop
  | refl (a : AV) : nilQ a a
  | row {x : Bool} {es es' : Nat} : nilQ (.fro x es []) (.fro x es' [])
  | agg {n : Nat} {l r : List AV} : nilQs l r → nilQ (.agg n l) (.agg n r)
inductive nilQs : List AV → List AV → Prop
  | nil : nilQs [] []
  | cons {a b : AV} {l r : List AV} : nilQ a b → nilQs l r → nilQs (a :: l) (b :: r)
end
mutual
theorem nilQ.relC {w : World} {F : Nat → Prop} : ∀ {ρ : Nat → Option Loc} {a b : AV} {cs : List Value}, nilQ a b → RelC w F ρ a cs → RelC w F ρ b cs
  | _, _, _, _, .refl a, h => h
  | _, _, _, _, .row, h => by
    cases h with
    | fro0 h => exact .fro0 h
    | fro h1 h2 h3 h4 h5 => exact .fro0 h4
  | _, _, _, _, .agg hl, h => by
    cases h with
    | agg h hn => exact .agg (nilQs.relL hl h) hn
theorem nilQs.relL {w : World} {F : Nat → Prop} : ∀ {ρ : Nat → Option Loc} {l r : List AV} {cs : List Value}, nilQs l r → RelL w F ρ l cs → RelL w F ρ r cs
  | _, _, _, _, .nil, h => h
  | _, _, _, _, .cons h1 h2, .cons h3 h4 => .cons (nilQ.relC h1 h3) (nilQs.relL h2 h4)
end
theorem nilQ.isAgg {a b : AV} (h : nilQ a b) : b.isAgg = a.isAgg := by cases h <;> rfl
theorem nilQ.rel {w : World} {F : Nat → Prop} {ρ : Nat → Option Loc} {a b : AV} {v : Value} (h : nilQ a b) (hr : RelV w F ρ a v) : RelV w F ρ b v := by
  cases h with
  | refl => exact hr
  | row =>
    cases hr with
    | one h1 h2 => exact .one (nilQ.row.relC h1) rfl
    | agg h1 h2 => cases h2
  | agg hl =>
    cases hr with
    | one h1 h2 => cases h2
    | agg h1 h2 => exact .agg ((nilQ.agg hl).relC h1) rfl
theorem nilQs.rels {w : World} {F : Nat → Prop} {ρ : Nat → Option Loc} : ∀ {l r : List AV} {vs : List Value}, nilQs l r → RelVs w F ρ l vs → RelVs w F ρ r vs
  | _, _, _, .nil, .nil => .nil
  | _, _, _, .cons h1 h2, .cons h3 h4 => .cons (h1.rel h3) (nilQs.rels h2 h4)
theorem Pure.nilQ {P : Program} {f : Nat} {l r : List AV} {v : AV} (hp : Pure P f r v) (h : nilQs l r) : Pure P f l v :=
  ⟨hp.1, fun w F vs hF hr => hp.2 w F vs hF (h.rels hr)⟩
theorem nilQ_row {x : Bool} {e es n : Nat} {f g : Nat → XV} (ho : okE e es n = true) (h : ∀ i, i < n → con (f i) = con (g i)) : nilQ (con (.row x e n f)) (con (.row x es n g)) := by
  simp only [okE, Bool.or_eq_true] at ho
  rcases ho with ho | ho
  · have := Nat.eq_of_beq_eq_true ho
    subst this
    rw [con_row h]
    exact .refl _
  · have := Nat.eq_of_beq_eq_true ho
    subst this
    exact .row
theorem nilQs_refl : ∀ l : List AV, nilQs l l
  | [] => .nil
  | a :: l => .cons (.refl a) (nilQs_refl l)

/-- Whether two rows of such structs are one. -/
def sameS (es : Nat) (ks : List KD) (p : XV → XV → Bool) : List XV → Option (List Bool × XV)
  | [.row _ e1 n f, .row _ e2 m g] => bif (okE e1 es n && okE e2 es m) then some ([decide (n ≤ 4611686018427387904), allN (fun i => isS ks (f i)) n, allN (fun i => isS ks (g i)) m], .bool (eqRow p n m f g)) else none
  | _ => none
theorem sameS_ok {P : Program} {fn es : Nat} {ks : List KD} {p : XV → XV → Bool}
    (h : ∀ (x y : Bool) (n m : Nat) (f g : Nat → XV), n ≤ 4611686018427387904 → Pure P fn (cons [.row x es n (fun i => mkS ks (f i)), .row y es m (fun i => mkS ks (g i))]) (B (eqR n m fun i => p (mkS ks (f i)) (mkS ks (g i))))) :
    SpOk P (fn, sameS es ks p) := by
  intro args nd v ha hn
  simp only [sameS] at ha
  split at ha
  · rename_i x e1 n f y e2 m g
    cases hc : (okE e1 es n && okE e2 es m) <;> rw [hc] at ha
    · cases ha
    · simp only [cond_true, Option.some.injEq, Prod.mk.injEq] at ha
      obtain ⟨rfl, rfl⟩ := ha
      simp only [Bool.and_eq_true] at hc
      simp only [allT_cons, decide_eq_true_eq, allN_iff] at hn
      have h1 := h x y n m f g hn.1
      unfold eqRow
      have h2 : eqR n m (fun i => p (mkS ks (f i)) (mkS ks (g i))) = eqR n m fun i => p (f i) (g i) := by
        rw [Bool.eq_iff_iff, eqR_iff, eqR_iff]
        constructor
        · rintro ⟨h3, h4⟩
          subst h3
          exact ⟨rfl, fun i hi => by have := h4 i hi; rw [mkS_eq (hn.2.1 i hi), mkS_eq (hn.2.2.1 i hi)] at this; exact this⟩
        · rintro ⟨h3, h4⟩
          subst h3
          exact ⟨rfl, fun i hi => by rw [mkS_eq (hn.2.1 i hi), mkS_eq (hn.2.2.1 i hi)]; exact h4 i hi⟩
      rw [h2] at h1
      refine h1.nilEqs (.cons (nil_row hc.1 fun i hi => ?_) (.cons (nil_row hc.2 fun i hi => ?_) .nil))
      · rw [mkS_eq (hn.2.1 i hi)]
      · rw [mkS_eq (hn.2.2.1 i hi)]
  · cases ha

/-- What a function of a row of structs, and of more, gives. -/
def rowSp (es : Nat) (ks : List KD) (N : Nat) (g : Nat → (Nat → XV) → List XV → Option (List Bool × XV)) : List XV → Option (List Bool × XV)
  | .row _ e n f :: rest => bif okE e es n then
      match g n f rest with
      | some (nd, v) => some (decide (n ≤ N) :: allN (fun i => isS ks (f i)) n :: nd, v)
      | none => none
    else none
  | _ => none
theorem nilEqs_refl : ∀ l : List AV, nilEqs l l
  | [] => .nil
  | a :: l => .cons (nil_self a) (nilEqs_refl l)
theorem rowSp_ok {P : Program} {fn es N : Nat} {ks : List KD} {g : Nat → (Nat → XV) → List XV → Option (List Bool × XV)}
    (h : ∀ (x : Bool) (n : Nat) (f : Nat → XV) (rest : List XV) (nd : List Bool) (v : XV), n ≤ N → g n f rest = some (nd, v) → allT nd → Pure P fn (cons (.row x es n (fun i => mkS ks (f i)) :: rest)) (con v)) : SpOk P (fn, rowSp es ks N g) := by
  intro args nd v ha hn
  simp only [rowSp] at ha
  split at ha
  · rename_i x e n f rest
    cases hc : okE e es n <;> rw [hc] at ha
    · cases ha
    · rw [cond_true] at ha
      split at ha
      · rename_i nd' v' hg
        simp only [Option.some.injEq, Prod.mk.injEq] at ha
        obtain ⟨rfl, rfl⟩ := ha
        simp only [allT_cons, decide_eq_true_eq, allN_iff] at hn
        refine (h x n f rest nd' v' hn.1 hg hn.2.2).nilEqs (.cons (nil_row hc fun i hi => ?_) (nilEqs_refl _))
        rw [mkS_eq (hn.2.1 i hi)]
      · cases ha
  · cases ha

/-- What a function of a row of plain values, and of more, gives. -/
def rowKSp (es : Nat) (k : KD) (N : Nat) (g : Nat → (Nat → XV) → List XV → Option (List Bool × XV)) : List XV → Option (List Bool × XV)
  | .row _ e n f :: rest => bif okE e es n then
      match g n f rest with
      | some (nd, v) => some (decide (n ≤ N) :: allN (fun i => isK k (f i)) n :: nd, v)
      | none => none
    else none
  | _ => none
theorem rowKSp_ok {P : Program} {fn es N : Nat} {k : KD} {g : Nat → (Nat → XV) → List XV → Option (List Bool × XV)}
    (h : ∀ (x : Bool) (n : Nat) (f : Nat → XV) (rest : List XV) (nd : List Bool) (v : XV), n ≤ N → g n f rest = some (nd, v) → allT nd → Pure P fn (cons (.row x es n (fun i => mkK k (f i)) :: rest)) (con v)) : SpOk P (fn, rowKSp es k N g) := by
  intro args nd v ha hn
  simp only [rowKSp] at ha
  split at ha
  · rename_i x e n f rest
    cases hc : okE e es n <;> rw [hc] at ha
    · cases ha
    · rw [cond_true] at ha
      split at ha
      · rename_i nd' v' hg
        simp only [Option.some.injEq, Prod.mk.injEq] at ha
        obtain ⟨rfl, rfl⟩ := ha
        simp only [allT_cons, decide_eq_true_eq, allN_iff] at hn
        refine (h x n f rest nd' v' hn.1 hg hn.2.2).nilEqs (.cons (nil_row hc fun i hi => ?_) (nilEqs_refl _))
        rw [mkK_eq (hn.2.1 i hi)]
      · cases ha
  · cases ha
end Go.Ra

/- The first place of a row that has something; the last. -/
namespace Go.Ra
set_option linter.unusedVariables false
set_option linter.unusedSimpArgs false
/-- The first place below n where p is true; n if there is none. -/
def fstI (p : Nat → Bool) : Nat → Nat
  | 0 => 0
  | n + 1 => bif decide (fstI p n < n) then fstI p n else bif p n then n else n + 1
theorem fstI_spec (p : Nat → Bool) : ∀ n, fstI p n ≤ n ∧ (∀ j, j < fstI p n → p j = false) ∧ (fstI p n < n → p (fstI p n) = true)
  | 0 => ⟨Nat.le_refl _, fun j hj => absurd hj (Nat.not_lt_zero _), fun h => absurd h (Nat.not_lt_zero _)⟩
  | n + 1 => by
    obtain ⟨h1, h2, h3⟩ := fstI_spec p n
    simp only [fstI]
    by_cases h : fstI p n < n
    · simp only [h, decide_true, cond_true]
      exact ⟨by omega, h2, fun _ => h3 h⟩
    · have he : fstI p n = n := by omega
      simp only [h, decide_false, cond_false]
      rw [he] at h2
      cases hp : p n
      · simp only [cond_false]
        refine ⟨Nat.le_refl _, fun j hj => ?_, fun h => absurd h (Nat.lt_irrefl _)⟩
        by_cases hjn : j = n
        · subst hjn; exact hp
        · exact h2 j (by omega)
      · simp only [cond_true]
        exact ⟨by omega, h2, fun _ => hp⟩
theorem fstI_is {p : Nat → Bool} {n i : Nat} (hi : i < n) (hp : p i = true) (hn : ∀ j, j < i → p j = false) : fstI p n = i := by
  obtain ⟨h1, h2, h3⟩ := fstI_spec p n
  rcases Nat.lt_trichotomy (fstI p n) i with h | h | h
  · have := hn _ h
    rw [h3 (by omega)] at this; cases this
  · exact h
  · have := h2 i h
    rw [hp] at this; cases this
theorem fstI_none {p : Nat → Bool} {n : Nat} (hn : ∀ j, j < n → p j = false) : fstI p n = n := by
  obtain ⟨h1, h2, h3⟩ := fstI_spec p n
  rcases Nat.lt_or_ge (fstI p n) n with h | h
  · have := hn _ h
    rw [h3 h] at this; cases this
  · omega
theorem fstI_congr {p q : Nat → Bool} {n : Nat} (h : ∀ j, j < n → p j = q j) : fstI p n = fstI q n := by
  obtain ⟨h1, h2, h3⟩ := fstI_spec p n
  by_cases hlt : fstI p n < n
  · exact (fstI_is hlt (by rw [← h _ hlt]; exact h3 hlt) fun j hj => by rw [← h j (by omega)]; exact h2 j hj).symm
  · have he : fstI p n = n := by omega
    rw [he]
    exact (fstI_none fun j hj => by rw [← h j hj]; exact h2 j (by omega)).symm
/-- The place behind the last one below n where p is true; 0 if there is none. -/
def lstI (p : Nat → Bool) : Nat → Nat
  | 0 => 0
  | n + 1 => bif p n then n + 1 else lstI p n
theorem lstI_spec (p : Nat → Bool) : ∀ n, lstI p n ≤ n ∧ (∀ j, lstI p n ≤ j → j < n → p j = false) ∧ (0 < lstI p n → p (lstI p n - 1) = true)
  | 0 => ⟨Nat.le_refl _, fun j _ hj => absurd hj (Nat.not_lt_zero _), fun h => absurd h (Nat.lt_irrefl _)⟩
  | n + 1 => by
    obtain ⟨h1, h2, h3⟩ := lstI_spec p n
    simp only [lstI]
    cases hp : p n
    · simp only [cond_false]
      refine ⟨by omega, fun j hj hj2 => ?_, h3⟩
      by_cases hjn : j = n
      · subst hjn; exact hp
      · exact h2 j hj (by omega)
    · simp only [cond_true, Nat.add_sub_cancel]
      exact ⟨Nat.le_refl _, fun j hj hj2 => by omega, fun _ => hp⟩
theorem allN_congr {p q : Nat → Bool} {n : Nat} (h : ∀ i, i < n → p i = q i) : allN p n = allN q n := by
  rw [Bool.eq_iff_iff, allN_iff, allN_iff]
  exact ⟨fun h1 i hi => by rw [← h i hi]; exact h1 i hi, fun h1 i hi => by rw [h i hi]; exact h1 i hi⟩
theorem conI {k : IntKind} {a b : Int} (h : a = b) : con (.int k a) = con (.int k b) := by rw [h]
theorem conB {a b : Bool} (h : a = b) : con (.bool a) = con (.bool b) := by rw [h]
theorem conR {x : Bool} {es n m : Nat} {f g : Nat → XV} (hn : n = m) (h : ∀ i, i < n → con (f i) = con (g i)) : con (.row x es n f) = con (.row x es m g) := by
  subst hn; exact con_row h
theorem conT2 {a b a' b' : XV} (h1 : con a = con a') (h2 : con b = con b') : con (.tup [a, b]) = con (.tup [a', b']) := by simp only [con, cons, h1, h2]
theorem conT3 {a b c a' b' c' : XV} (h1 : con a = con a') (h2 : con b = con b') (h3 : con c = con c') : con (.tup [a, b, c]) = con (.tup [a', b', c']) := by simp only [con, cons, h1, h2, h3]
theorem wI64 (n : Int) : IntKind.i64.wrap n = (n + 9223372036854775808) % 18446744073709551616 - 9223372036854775808 := by
  first | (rw [IntKind.wrap_i64]; done) | (rw [IntKind.wrap_i64]; omega)
theorem wI32 (n : Int) : IntKind.i32.wrap n = (n + 2147483648) % 4294967296 - 2147483648 := by
  first | (rw [IntKind.wrap_i32]; done) | (rw [IntKind.wrap_i32]; omega)
theorem wI16 (n : Int) : IntKind.i16.wrap n = (n + 32768) % 65536 - 32768 := by
  simp [IntKind.wrap, IntKind.signed, IntKind.bits]; split <;> omega
theorem wI8 (n : Int) : IntKind.i8.wrap n = (n + 128) % 256 - 128 := by
  simp [IntKind.wrap, IntKind.signed, IntKind.bits]; split <;> omega
theorem wU64 (n : Int) : IntKind.u64.wrap n = n % 18446744073709551616 := rfl
theorem wU32 (n : Int) : IntKind.u32.wrap n = n % 4294967296 := rfl
theorem wU8 (n : Int) : IntKind.u8.wrap n = n % 256 := rfl
theorem beq_ne {i k : Nat} (h : ¬ i = k) : Nat.beq i k = false := by
  rw [← Bool.not_eq_true]
  exact fun e => h (Nat.eq_of_beq_eq_true e)
theorem fdivE {a b : Int} (h : 0 ≤ b) : a.fdiv b = a / b := Int.fdiv_eq_ediv_of_nonneg a h
/-- Bytes. -/
def rngB (n : Nat) (f : Nat → XV) : Bool := allN (fun i => decide (0 ≤ asN (f i)) && decide (asN (f i) ≤ 255)) n
theorem rngB_iff {n : Nat} {f : Nat → XV} : rngB n f = true ↔ ∀ i, i < n → 0 ≤ asN (f i) ∧ asN (f i) ≤ 255 := by
  simp only [rngB, allN_iff, Bool.and_eq_true, decide_eq_true_eq]
theorem or_u32 {x b : Int} {k : Nat} (hx : 0 ≤ x) (hx2 : x < 2 ^ k) (hb : 0 ≤ b) (hb2 : b * 2 ^ k + x ≤ 4294967295) : bitsI .or .u32 x (b * 2 ^ k) = x + b * 2 ^ k := by
  obtain ⟨m, rfl⟩ := Int.eq_ofNat_of_zero_le hx
  obtain ⟨c, rfl⟩ := Int.eq_ofNat_of_zero_le hb
  have hp : ((2 : Int) ^ k) = ((2 ^ k : Nat) : Int) := (Int.natCast_pow 2 k).symm
  rw [hp] at hx2 hb2 ⊢
  have hm : m < 2 ^ k := by exact_mod_cast hx2
  have h2 : (c : Int) * ((2 ^ k : Nat) : Int) = ((c * 2 ^ k : Nat) : Int) := (Int.natCast_mul c (2 ^ k)).symm
  rw [h2] at hb2 ⊢
  have h1 : c * 2 ^ k + m ≤ 4294967295 := by
    generalize c * 2 ^ k = d at *
    omega
  clear hb2
  have h3 := Nat.two_pow_add_eq_or_of_lt hm c
  have h4 : m ||| c * 2 ^ k = m + c * 2 ^ k := by rw [Nat.or_comm, Nat.mul_comm, ← h3, Nat.add_comm]
  generalize c * 2 ^ k = d at *
  show IntKind.u32.wrap (((BitVec.ofInt 32 (m : Int)) ||| (BitVec.ofInt 32 (d : Int))).toNat : Int) = _
  have e1 : (BitVec.ofInt 32 (m : Int)).toNat = m := by rw [BitVec.toNat_ofInt]; omega
  have e2 : (BitVec.ofInt 32 (d : Int)).toNat = d := by rw [BitVec.toNat_ofInt]; omega
  rw [BitVec.toNat_or, e1, e2, h4, wU32]
  omega
end Go.Ra

/- What comes in, read by its type. -/
namespace Go.Ra
set_option linter.unusedVariables false
set_option linter.unusedSimpArgs false
def avs : AV → List AV
  | .agg _ ts => ts
  | .arr _ _ ts => ts
  | .fro _ _ ts => ts
  | _ => []
def avI : AV → Int
  | .sc (.int _ n) => n
  | _ => 0
def avB : AV → Bool
  | .sc (.bool b) => b
  | _ => false
def avN (a : AV) : Nat := (avs a).length
def avAt (a : AV) (i : Nat) : AV := (avs a).getD i .unk
mutual
/-- A value of a type. -/
def rd : Ty → AV → XV
  | .int k, a => .int k (avI a)
  | .bool, a => .bool (avB a)
  | .str, a => .raw a
  | .slice es _ T, a => .row false es (avN a) (fun i => rd T (avAt a i))
  | .agg n l, a => .agg n (rdL l a 0)
  | .arr n es T, a => .tab n es (fun i => rd T (avAt a i))
def rdL : List Ty → AV → Nat → List XV
  | [], _, _ => []
  | T :: l, a, j => rd T (avAt a j) :: rdL l a (j + 1)
end

theorem avAt_mem {a : AV} {i : Nat} (h : i < avN a) : avAt a i ∈ avs a := by
  unfold avAt
  rw [List.getD_eq_getElem?_getD, List.getElem?_eq_getElem h]
  exact List.getElem_mem h

mutual
theorem con_rd : ∀ (T : Ty) (a : AV), T.has a → con (rd T a) = a
  | .int k, a, h => by
    simp only [Ty.has] at h
    obtain ⟨n, rfl, _⟩ := h; rfl
  | .bool, a, h => by
    simp only [Ty.has] at h
    obtain ⟨b, rfl⟩ := h; rfl
  | .str, a, h => rfl
  | .slice es bytes T, a, h => by
    simp only [Ty.has] at h
    obtain ⟨ts, rfl, _, h2⟩ := h
    simp only [rd, con]
    congr 1
    refine (tabL_eq rfl fun i hi => ?_).symm
    have hi : i < ts.length := hi
    show ts[i]? = _
    rw [List.getElem?_eq_getElem hi]
    have h3 : avAt (.fro false es ts) i = ts[i] := by
      show (ts.getD i .unk) = _
      rw [List.getD_eq_getElem?_getD, List.getElem?_eq_getElem hi]; rfl
    rw [h3, con_rd T _ (h2 _ (List.getElem_mem hi))]
  | .agg n l, a, h => by
    simp only [Ty.has] at h
    obtain ⟨ts, rfl, h2⟩ := h
    simp only [rd, con]
    have h3 := cons_rdL l [] ts n h2
    simp only [List.nil_append, List.length_nil] at h3
    rw [h3]
  | .arr n es T, a, h => by
    simp only [Ty.has] at h
    obtain ⟨ts, rfl, h1, h2⟩ := h
    simp only [rd, con]
    congr 1
    refine (tabL_eq h1 fun i hi => ?_).symm
    rw [List.getElem?_eq_getElem (by omega)]
    have h3 : avAt (.arr n es ts) i = ts[i] := by
      show (ts.getD i .unk) = _
      rw [List.getD_eq_getElem?_getD, List.getElem?_eq_getElem (by omega)]; rfl
    rw [h3, con_rd T _ (h2 _ (List.getElem_mem (by omega)))]
theorem cons_rdL : ∀ (l : List Ty) (pre ts : List AV) (n : Nat), Ty.hasL l ts → cons (rdL l (.agg n (pre ++ ts)) pre.length) = ts
  | [], pre, ts, n, h => by
    simp only [Ty.hasL] at h
    subst h; rfl
  | T :: l, pre, ts, n, h => by
    simp only [Ty.hasL] at h
    obtain ⟨t, r, rfl, h1, h2⟩ := h
    have h3 : avAt (.agg n (pre ++ t :: r)) pre.length = t := by
      show ((pre ++ t :: r).getD pre.length .unk) = t
      rw [List.getD_eq_getElem?_getD, List.getElem?_append_right (Nat.le_refl _), Nat.sub_self]; rfl
    have h4 := cons_rdL l (pre ++ [t]) r n h2
    simp only [List.length_append, List.length_cons, List.length_nil, List.append_assoc, List.cons_append, List.nil_append] at h4
    simp only [rdL, cons, h3, con_rd T t h1]
    rw [show pre.length + 1 = pre.length + (0 + 1) from rfl, h4]
end

/-- The elements of a row that comes in. -/
def o_el (T : Ty) (a : AV) (i : Nat) : XV := rd T (avAt a i)
/-- All that comes in. -/
def rdA : List Ty → List AV → List XV
  | T :: l, a :: r => rd T a :: rdA l r
  | _, _ => []
theorem cons_rdA : ∀ (l : List Ty) (as0 : List AV), Ty.hasL l as0 → cons (rdA l as0) = as0
  | [], as0, h => by
    simp only [Ty.hasL] at h
    subst h; rfl
  | T :: l, as0, h => by
    simp only [Ty.hasL] at h
    obtain ⟨t, r, rfl, h1, h2⟩ := h
    simp only [rdA, cons, con_rd T t h1, cons_rdA l r h2]
theorem lawX {P : Program} {f : Nat} {Ts : List Ty} {as0 : List AV} (h : Ty.hasL Ts as0) (hp : Pure P f (cons (rdA Ts as0)) (con (.bool true))) : Pure P f as0 (.sc (.bool true)) := by
  rw [cons_rdA Ts as0 h] at hp
  exact hp
theorem has_nat {es bytes : Nat} {T : Ty} {a : AV} (h : (Ty.slice es bytes T).has a) : avN a * bytes ≤ 140737488351232 := by
  simp only [Ty.has] at h
  obtain ⟨ts, rfl, h1, _⟩ := h
  exact h1
theorem has_at {es bytes : Nat} {T : Ty} {a : AV} (h : (Ty.slice es bytes T).has a) {i : Nat} (hi : i < avN a) : T.has (avAt a i) := by
  simp only [Ty.has] at h
  obtain ⟨ts, rfl, _, h2⟩ := h
  exact h2 _ (avAt_mem hi)
theorem has_arr {n es : Nat} {T : Ty} {a : AV} (h : (Ty.arr n es T).has a) {i : Nat} (hi : i < n) : T.has (avAt a i) := by
  simp only [Ty.has] at h
  obtain ⟨ts, rfl, h1, h2⟩ := h
  exact h2 _ (avAt_mem (by show i < ts.length; omega))
theorem has_u32 {a : AV} (h : (Ty.int .u32).has a) : 0 ≤ avI a ∧ avI a ≤ 4294967295 := by
  simp only [Ty.has] at h
  obtain ⟨n, rfl, h1⟩ := h
  simpa [Lit.wf, IntKind.min, IntKind.max, IntKind.signed, IntKind.bits, avI] using h1
theorem has_i64 {a : AV} (h : (Ty.int .i64).has a) : -9223372036854775808 ≤ avI a ∧ avI a ≤ 9223372036854775807 := by
  simp only [Ty.has] at h
  obtain ⟨n, rfl, h1⟩ := h
  simpa [Lit.wf, IntKind.min, IntKind.max, IntKind.signed, IntKind.bits, avI] using h1
theorem has_u8 {a : AV} (h : (Ty.int .u8).has a) : 0 ≤ avI a ∧ avI a ≤ 255 := by
  simp only [Ty.has] at h
  obtain ⟨n, rfl, h1⟩ := h
  simpa [Lit.wf, IntKind.min, IntKind.max, IntKind.signed, IntKind.bits, avI] using h1
theorem strEq_self (n : Nat) (f : Nat → Int) : strEq n f n f = true := by
  unfold strEq
  rw [Nat.beq_refl, cond_true, allN_iff]
  exact fun i _ => by simp
theorem rng_el {a : AV} {bytes : Nat} {T : Ty} (h : (Ty.slice 1 bytes (.int .u8)).has a) (hT : T = .int .u8) : rngB (avN a) (o_el T a) = true := by
  subst hT
  refine rngB_iff.2 fun i hi => ?_
  exact has_u8 (has_at h hi)
end Go.Ra

/- What the small functions on bytes give, and the document's. -/
namespace Go.Proofs.Ytbemlndjdbopeaa
open Go.Ra
set_option linter.unusedVariables false
set_option linter.unusedSimpArgs false
def TB1 : Tab := mkT qq (cl_bytes ++ cl_ref1 ++ cl_slices) [] gl_slices
/-- How many bytes an operation has. -/
def szI (op : Int) : Int := if op = 26 ∨ op = 31 then 4 else if op = 27 ∨ op = 28 ∨ op = 32 then 2 else if op = 29 ∨ op = 30 ∨ op = 33 then 1 else 0
def szSp : List XV → Option (List Bool × XV)
  | [.int .i64 op] => some ([], .int .i64 (szI op))
  | _ => none
/-- What is wrong with so many bytes at an address. -/
def chkI (s a n : Int) : Int := if s ≥ 1 ∧ ¬ (IntKind.i64.wrap a).tmod s = 0 then 1 else if (s > 0 ∧ (s > n ∨ IntKind.i64.wrap a > IntKind.i64.wrap (n - s))) ∨ (s ≤ 0 ∧ IntKind.i64.wrap (IntKind.i64.wrap a + s) > n) then 2 else 0
def chkSp : List XV → Option (List Bool × XV)
  | [.int .i64 s, .int .u32 a, .int .i64 n] => some ([], .int .i64 (chkI s a n))
  | _ => none
/-- A word's lowest bytes with their sign. -/
def extI (op w : Int) : Int := if op = 27 then (if w % 65536 ≥ 32768 then w % 65536 + 4294901760 else w % 65536) else if op = 29 then (if w % 256 ≥ 128 then w % 256 + 4294967040 else w % 256) else w
def extSp : List XV → Option (List Bool × XV)
  | [.int .i64 op, .int .u32 w] => some ([decide (0 ≤ w), decide (w ≤ 4294967295)], .int .u32 (extI op w))
  | _ => none
/-- A word's lowest bytes. -/
def mskI (w n : Int) : Int := if n = 1 then bitsI .and .u32 w 255 else if n = 2 then bitsI .and .u32 w 65535 else if n = 4 then w else 0
def mskSp : List XV → Option (List Bool × XV)
  | [.int .u32 w, .int .i64 n] => some ([], .int .u32 (mskI w n))
  | _ => none
/-- Is b one of the n from a on? -/
def befB (a n b : Int) : Bool := bif decide (a ≤ b) then decide (IntKind.u64.wrap (IntKind.u64.wrap b - IntKind.u64.wrap a) < IntKind.u64.wrap n) else false
def befSp : List XV → Option (List Bool × XV)
  | [.int .i64 a, .int .i64 n, .int .i64 b] => some ([], .bool (befB a n b))
  | _ => none
/-- The form of an operation. -/
def formI (op : Int) : Int := if op < 1 ∨ op > 41 then 0 else if op ≤ 16 then 1 else if op ≤ 24 then 2 else if op = 25 then 3 else if op ≤ 30 then 4 else if op ≤ 33 then 5 else if op ≤ 39 then 6 else if op = 40 then 7 else 8
def formSp : List XV → Option (List Bool × XV)
  | [.int .i64 op] => some ([], .int .i64 (formI op))
  | _ => none
theorem TB1ok : TabOk Try.prog TB1 := mkT_ok ((clok_bytes.app clok_ref1).app clok_slices) trivial glok_slices
theorem r_size1 (op : Int) (K : XV → Prop) : (quietGo TB1 80 (callI TB1 80 20) 72 [.int .i64 op] K) = (bif decide (op = 26) then bif decide (op = 26) then K (.int .i64 4) else bif decide (op = 27) then bif decide (op = 27) then K (.int .i64 2) else bif decide
 (op = 29) then bif decide (op = 29) then K (.int .i64 1) else K (.int .i64 0) else bif decide (op = 30) then bif decide (op = 30) then K (.int .i64 1) else K (.int
 .i64 0) else bif decide (op = 33) then K (.int .i64 1) else K (.int .i64 0) else bif decide (op = 28) then bif decide (op = 28) then K (.int .i64 2) else bif decide
 (op = 29) then bif decide (op = 29) then K (.int .i64 1) else K (.int .i64 0) else bif decide (op = 30) then bif decide (op = 30) then K (.int .i64 1) else K (.int
 .i64 0) else bif decide (op = 33) then K (.int .i64 1) else K (.int .i64 0) else bif decide (op = 32) then K (.int .i64 2) else bif decide (op = 29) then bif decide
 (op = 29) then K (.int .i64 1) else K (.int .i64 0) else bif decide (op = 30) then bif decide (op = 30) then K (.int .i64 1) else K (.int .i64 0) else bif decide
 (op = 33) then K (.int .i64 1) else K (.int .i64 0)
else bif decide (op = 31) then K (.int .i64 4) else bif decide (op = 27) then bif decide (op = 27) then K (.int
 .i64 2) else bif decide (op = 29) then bif decide (op = 29) then K (.int .i64 1) else K (.int .i64 0) else bif decide (op = 30) then bif decide (op = 30) then K
 (.int .i64 1) else K (.int .i64 0) else bif decide (op = 33) then K (.int .i64 1) else K (.int .i64 0) else bif decide (op = 28) then bif decide (op = 28) then K
 (.int .i64 2) else bif decide (op = 29) then bif decide (op = 29) then K (.int .i64 1) else K (.int .i64 0) else bif decide (op = 30) then bif decide (op = 30) then
 K (.int .i64 1) else K (.int .i64 0) else bif decide (op = 33) then K (.int .i64 1) else K (.int .i64 0) else bif decide (op = 32) then K (.int .i64 2) else bif
 decide (op = 29) then bif decide (op = 29) then K (.int .i64 1) else K (.int .i64 0) else bif decide (op = 30) then bif decide (op = 30) then K (.int .i64 1) else
 K (.int .i64 0) else bif decide (op = 33) then K (.int .i64 1) else K (.int .i64 0)) := by kernel_rfl
theorem r_size2 (op : Int) (K : XV → Prop) : (quietGo TB1 80 (callI TB1 80 20) 30 [.int .i64 op] K) = (bif decide (op = 26) then bif decide (op = 26) then K (.int .i64 4) else bif decide (op = 27) then bif decide (op = 27) then K (.int .i64 2) else bif decide
 (op = 29) then bif decide (op = 29) then K (.int .i64 1) else K (.int .i64 0) else bif decide (op = 30) then bif decide (op = 30) then K (.int .i64 1) else K (.int
 .i64 0) else bif decide (op = 33) then K (.int .i64 1) else K (.int .i64 0) else bif decide (op = 28) then bif decide (op = 28) then K (.int .i64 2) else bif decide
 (op = 29) then bif decide (op = 29) then K (.int .i64 1) else K (.int .i64 0) else bif decide (op = 30) then bif decide (op = 30) then K (.int .i64 1) else K (.int
 .i64 0) else bif decide (op = 33) then K (.int .i64 1) else K (.int .i64 0) else bif decide (op = 32) then K (.int .i64 2) else bif decide (op = 29) then bif decide
 (op = 29) then K (.int .i64 1) else K (.int .i64 0) else bif decide (op = 30) then bif decide (op = 30) then K (.int .i64 1) else K (.int .i64 0) else bif decide
 (op = 33) then K (.int .i64 1) else K (.int .i64 0)
else bif decide (op = 31) then K (.int .i64 4) else bif decide (op = 27) then bif decide (op = 27) then K (.int
 .i64 2) else bif decide (op = 29) then bif decide (op = 29) then K (.int .i64 1) else K (.int .i64 0) else bif decide (op = 30) then bif decide (op = 30) then K
 (.int .i64 1) else K (.int .i64 0) else bif decide (op = 33) then K (.int .i64 1) else K (.int .i64 0) else bif decide (op = 28) then bif decide (op = 28) then K
 (.int .i64 2) else bif decide (op = 29) then bif decide (op = 29) then K (.int .i64 1) else K (.int .i64 0) else bif decide (op = 30) then bif decide (op = 30) then
 K (.int .i64 1) else K (.int .i64 0) else bif decide (op = 33) then K (.int .i64 1) else K (.int .i64 0) else bif decide (op = 32) then K (.int .i64 2) else bif
 decide (op = 29) then bif decide (op = 29) then K (.int .i64 1) else K (.int .i64 0) else bif decide (op = 30) then bif decide (op = 30) then K (.int .i64 1) else
 K (.int .i64 0) else bif decide (op = 33) then K (.int .i64 1) else K (.int .i64 0)) := by kernel_rfl
theorem r_check1 (s a n : Int) (K : XV → Prop) : (quietGo TB1 80 (callI TB1 80 20) 71 [.int .i64 s, .int .u32 a, .int .i64 n] K) = (bif bif !decide (s = 0) then true else !decide (s ≥ 1) then bif bif decide (s ≥ 1) then decide (s ≥ 1) else true then bif bif decide (s ≥ 1) then decide ¬Int.tmod
 (IntKind.wrap .i64 a) s = 0 else false then K (.int .i64 1) else bif bif decide (s > 0) then true else !decide (s > 0) then bif bif bif decide (s > n) then true
 else bif decide (s > 0) then !decide (s > n) else false then true else !decide (s > 0) then bif bif decide (s > 0) then decide (s > 0) else true then bif bif !bif
 decide (s > 0) then bif decide (s > n) then true else decide (IntKind.wrap .i64 a > IntKind.wrap .i64 (n - s)) else false then true else !!bif decide (s > 0) then
 bif decide (s > n) then true else decide (IntKind.wrap .i64 a > IntKind.wrap .i64 (n - s)) else false then bif bif bif decide (s ≤ 0) then bif !bif decide (s > 0)
 then bif decide (s > n) then true else decide (IntKind.wrap .i64 a > IntKind.wrap .i64 (n - s)) else false then decide (s ≤ 0) else false else true then true else
 !!bif decide (s > 0) then bif decide (s > n) then true else decide (IntKind.wrap .i64 a > IntKind.wrap .i64 (n - s)) else false then bif bif bif decide (s > 0) then
 bif decide (s > n) then true else decide (IntKind.wrap .i64 a > IntKind.wrap .i64 (n - s)) else false then true else !bif decide (s > 0) then bif decide (s > n)
 then true else decide (IntKind.wrap .i64 a > IntKind.wrap .i64 (n - s)) else false then bif bif bif decide (s > 0) then bif decide (s > n) then true else decide
 (IntKind.wrap .i64 a > IntKind.wrap .i64 (n - s)) else false then true else bif decide (s ≤ 0) then decide (IntKind.wrap .i64 (IntKind.wrap .i64 a + s) > n) else
 false then K (.int .i64 2) else K (.int .i64 0) else False else False else False else False else False else False else False
else False) := by kernel_rfl
theorem r_check2 (s a n : Int) (K : XV → Prop) : (quietGo TB1 80 (callI TB1 80 20) 52 [.int .i64 s, .int .u32 a, .int .i64 n] K) = (bif bif !decide (s = 0) then true else !decide (s ≥ 1) then bif bif decide (s ≥ 1) then decide (s ≥ 1) else true then bif bif decide (s ≥ 1) then decide ¬Int.tmod
 (IntKind.wrap .i64 a) s = 0 else false then K (.int .i64 1) else bif bif decide (s > 0) then true else !decide (s > 0) then bif bif bif decide (n < s) then true
 else bif decide (s > 0) then !decide (n < s) else false then true else !decide (s > 0) then bif bif decide (s > 0) then decide (s > 0) else true then bif bif !bif
 decide (s > 0) then bif decide (n < s) then true else decide (IntKind.wrap .i64 a > IntKind.wrap .i64 (n - s)) else false then true else !!bif decide (s > 0) then
 bif decide (n < s) then true else decide (IntKind.wrap .i64 a > IntKind.wrap .i64 (n - s)) else false then bif bif bif decide (s ≤ 0) then bif !bif decide (s > 0)
 then bif decide (n < s) then true else decide (IntKind.wrap .i64 a > IntKind.wrap .i64 (n - s)) else false then decide (s ≤ 0) else false else true then true else
 !!bif decide (s > 0) then bif decide (n < s) then true else decide (IntKind.wrap .i64 a > IntKind.wrap .i64 (n - s)) else false then bif bif bif decide (s > 0) then
 bif decide (n < s) then true else decide (IntKind.wrap .i64 a > IntKind.wrap .i64 (n - s)) else false then true else !bif decide (s > 0) then bif decide (n < s)
 then true else decide (IntKind.wrap .i64 a > IntKind.wrap .i64 (n - s)) else false then bif bif bif decide (s > 0) then bif decide (n < s) then true else decide
 (IntKind.wrap .i64 a > IntKind.wrap .i64 (n - s)) else false then true else bif decide (s ≤ 0) then decide (n < IntKind.wrap .i64 (IntKind.wrap .i64 a + s)) else
 false then K (.int .i64 2) else K (.int .i64 0) else False else False else False else False else False else False else False
else False) := by kernel_rfl
theorem r_sign1 (op w : Int) (K : XV → Prop) : (quietGo TB1 80 (callI TB1 80 20) 74 [.int .i64 op, .int .u32 w] K) = (bif decide (op = 27) then K (.int .u32 (IntKind.wrap .u32 (IntKind.wrap .i32 (IntKind.wrap .i16 w))))
else bif decide (op = 29) then K (.int .u32 (IntKind.wrap
 .u32 (IntKind.wrap .i32 (IntKind.wrap .i8 w)))) else K (.int .u32 w)) := by kernel_rfl
theorem r_sign2 (op w : Int) (K : XV → Prop) : (quietGo TB1 80 (callI TB1 80 20) 53 [.int .i64 op, .int .u32 w] K) = (bif decide (op = 27) then bif decide (IntKind.wrap .i64 (IntKind.wrap .u32 (w * (65536 : Int))) ≥ 2147483648) then K (.int .u32 (IntKind.wrap .u32 (Int.fdiv
 (IntKind.wrap .i64 (IntKind.wrap .i64 (IntKind.wrap .u32 (w * (65536 : Int))) - (4294967296 : Int))) (65536 : Int)))) else K (.int .u32 (IntKind.wrap .u32 (Int.fdiv
 (IntKind.wrap .i64 (IntKind.wrap .u32 (w * (65536 : Int)))) (65536 : Int))))
else bif decide (op = 29) then bif decide (IntKind.wrap .i64 (IntKind.wrap .u32 (w *
 (16777216 : Int))) ≥ 2147483648) then K (.int .u32 (IntKind.wrap .u32 (Int.fdiv (IntKind.wrap .i64 (IntKind.wrap .i64 (IntKind.wrap .u32 (w * (16777216 : Int)))
 - (4294967296 : Int))) (16777216 : Int)))) else K (.int .u32 (IntKind.wrap .u32 (Int.fdiv (IntKind.wrap .i64 (IntKind.wrap .u32 (w * (16777216 : Int)))) (16777216
 : Int)))) else K (.int .u32 w)) := by kernel_rfl
theorem r_mask (a n : Int) (K : XV → Prop) : (quietGo TB1 80 (callI TB1 80 20) 20 [.int .u32 a, .int .i64 n] K) = (bif decide (n = 1) then K (.int .u32 (bitsI .and .u32 a (255 : Int)))
else bif decide (n = 2) then K (.int .u32 (bitsI .and .u32 a (65535 : Int))) else bif decide
 (n = 4) then K (.int .u32 a) else K (.int .u32 0)) := by kernel_rfl
theorem r_bef (a n b : Int) (K : XV → Prop) : (quietGo TB1 80 (callI TB1 80 20) 65 [.int .i64 a, .int .i64 n, .int .i64 b] K) = (bif bif decide (a ≤ b) then decide (a ≤ b) else true then K (.bool (bif decide (a ≤ b) then decide (IntKind.wrap .u64 (IntKind.wrap .u64 b - IntKind.wrap .u64
 a) < IntKind.wrap .u64 n) else false))
else False) := by kernel_rfl
theorem r_form (a : Int) (K : XV → Prop) : (quietGo TB1 80 (callI TB1 80 20) 31 [.int .i64 a] K) = (bif bif decide (a < 1) then true else !decide (a < 1) then bif bif decide (a < 1) then true else decide (a > 41) then K (.int .i64 0) else bif decide (a ≤ 16)
 then K (.int .i64 1) else bif decide (a ≤ 24) then K (.int .i64 2) else bif decide (a = 25) then K (.int .i64 3) else bif decide (a ≤ 30) then K (.int .i64 4) else
 bif decide (a ≤ 33) then K (.int .i64 5) else bif decide (a ≤ 39) then K (.int .i64 6) else bif decide (a = 40) then K (.int .i64 7) else K (.int .i64 8)
else False)
 := by kernel_rfl
theorem size1 (op : Int) : Pure Try.prog 72 (cons [.int .i64 op]) (con (.int .i64 (szI op))) := by
  refine pureX (u := 80) (k := 20) mix TB1ok ?_
  rw [r_size1]
  unfold szI
  by_cases h1 : op = 26
  · subst h1; simp
  by_cases h2 : op = 27
  · subst h2; simp
  by_cases h3 : op = 28
  · subst h3; simp
  by_cases h4 : op = 29
  · subst h4; simp
  by_cases h5 : op = 30
  · subst h5; simp
  by_cases h6 : op = 31
  · subst h6; simp
  by_cases h7 : op = 32
  · subst h7; simp
  by_cases h8 : op = 33
  · subst h8; simp
  simp [h1, h2, h3, h4, h5, h6, h7, h8]
theorem sp_size1 : SpOk Try.prog (72, szSp) := by
  intro args nd v ha hn
  simp only [szSp] at ha
  split at ha <;> simp only [Option.some.injEq, Prod.mk.injEq, reduceCtorEq] at ha
  obtain ⟨hnd, rfl⟩ := ha
  clear hnd hn
  exact size1 _
theorem sp_size2 : SpOk Try.prog (30, szSp) := by
  intro args nd v ha hn
  simp only [szSp] at ha
  split at ha <;> simp only [Option.some.injEq, Prod.mk.injEq, reduceCtorEq] at ha
  obtain ⟨hnd, rfl⟩ := ha
  clear hnd hn
  rename_i op
  refine pureX (u := 80) (k := 20) mix TB1ok ?_
  rw [r_size2]
  unfold szI
  by_cases h1 : op = 26
  · subst h1; simp
  by_cases h2 : op = 27
  · subst h2; simp
  by_cases h3 : op = 28
  · subst h3; simp
  by_cases h4 : op = 29
  · subst h4; simp
  by_cases h5 : op = 30
  · subst h5; simp
  by_cases h6 : op = 31
  · subst h6; simp
  by_cases h7 : op = 32
  · subst h7; simp
  by_cases h8 : op = 33
  · subst h8; simp
  simp [h1, h2, h3, h4, h5, h6, h7, h8]
theorem check_res (s a n : Int) : quietGo TB1 80 (callI TB1 80 20) 71 [.int .i64 s, .int .u32 a, .int .i64 n] (fun v => con v = con (.int .i64 (chkI s a n))) := by
  rw [r_check1]
  unfold chkI
  by_cases h1 : s ≥ 1
  · have h0 : ¬ s = 0 := by omega
    have h2 : s > 0 := by omega
    have h3 : ¬ s ≤ 0 := by omega
    by_cases h4 : (IntKind.i64.wrap a).tmod s = 0
    · by_cases h5 : s > n
      · simp [h0, h1, h2, h3, h4, h5]
      · by_cases h6 : IntKind.i64.wrap a > IntKind.i64.wrap (n - s)
        · simp [h0, h1, h2, h3, h4, h5, h6]
        · simp [h0, h1, h2, h3, h4, h5, h6]
    · simp [h0, h1, h2, h3, h4]
  · have h2 : ¬ s > 0 := by omega
    have h3 : s ≤ 0 := by omega
    by_cases h6 : IntKind.i64.wrap (IntKind.i64.wrap a + s) > n
    · simp [h1, h2, h3, h6]
    · simp [h1, h2, h3, h6]
theorem sp_check1 : SpOk Try.prog (71, chkSp) := by
  intro args nd v ha hn
  simp only [chkSp] at ha
  split at ha <;> simp only [Option.some.injEq, Prod.mk.injEq, reduceCtorEq] at ha
  obtain ⟨hnd, rfl⟩ := ha
  clear hnd hn
  exact pureX mix TB1ok (check_res _ _ _)
theorem sp_check2 : SpOk Try.prog (52, chkSp) := by
  intro args nd v ha hn
  simp only [chkSp] at ha
  split at ha <;> simp only [Option.some.injEq, Prod.mk.injEq, reduceCtorEq] at ha
  obtain ⟨hnd, rfl⟩ := ha
  clear hnd hn
  rename_i s a n
  refine pureX (u := 80) (k := 20) mix TB1ok ?_
  have h := check_res s a n
  rw [r_check1] at h
  rw [r_check2]
  exact h
theorem sp_sign : SpOk Try.prog (74, extSp) := by
  intro args nd v ha hn
  simp only [extSp] at ha
  split at ha <;> simp only [Option.some.injEq, Prod.mk.injEq, reduceCtorEq] at ha
  obtain ⟨rfl, rfl⟩ := ha
  simp only [allT_cons, decide_eq_true_eq] at hn
  obtain ⟨h1, h2, hnil⟩ := hn
  refine pureX (u := 80) (k := 20) mix TB1ok ?_
  rw [r_sign1]
  unfold extI
  rename_i op w
  by_cases ho : op = 27
  · simp only [ho, decide_true, cond_true, if_true, wU32, wI32, wI16]
    refine conI ?_
    split <;> omega
  · by_cases ho2 : op = 29
    · simp only [ho, ho2, decide_true, decide_false, cond_true, cond_false, if_true, if_false, wU32, wI32, wI8]
      refine conI ?_
      split <;> omega
    · simp only [ho, ho2, decide_false, cond_false, if_false]
theorem sp_ext : SpOk Try.prog (53, extSp) := by
  intro args nd v ha hn
  simp only [extSp] at ha
  split at ha <;> simp only [Option.some.injEq, Prod.mk.injEq, reduceCtorEq] at ha
  obtain ⟨rfl, rfl⟩ := ha
  simp only [allT_cons, decide_eq_true_eq] at hn
  obtain ⟨h1, h2, hnil⟩ := hn
  refine pureX (u := 80) (k := 20) mix TB1ok ?_
  rw [r_sign2]
  unfold extI
  rename_i op w
  by_cases ho : op = 27
  · simp only [ho, decide_true, cond_true, if_true, wU32, wI64]
    rw [fdivE (by omega), fdivE (by omega)]
    refine cnd2 (fun h => ?_) (fun h => ?_) <;> simp only [decide_eq_true_eq, decide_eq_false_iff_not] at h <;> refine conI ?_ <;> split <;> omega
  · by_cases ho2 : op = 29
    · subst ho2
      simp only [show ¬ (29 : Int) = 27 by decide, decide_true, decide_false, cond_true, cond_false, if_true, if_false, wU32, wI64]
      rw [fdivE (by omega), fdivE (by omega)]
      refine cnd2 (fun h => ?_) (fun h => ?_) <;> simp only [decide_eq_true_eq, decide_eq_false_iff_not] at h <;> refine conI ?_ <;> split <;> omega
    · simp only [ho, ho2, decide_false, cond_false, if_false]
theorem sp_mask : SpOk Try.prog (20, mskSp) := by
  intro args nd v ha hn
  simp only [mskSp] at ha
  split at ha <;> simp only [Option.some.injEq, Prod.mk.injEq, reduceCtorEq] at ha
  obtain ⟨hnd, rfl⟩ := ha
  clear hnd hn
  rename_i w n
  refine pureX (u := 80) (k := 20) mix TB1ok ?_
  rw [r_mask]
  unfold mskI
  by_cases h1 : n = 1
  · subst h1; simp
  by_cases h2 : n = 2
  · subst h2; simp
  by_cases h3 : n = 4
  · subst h3; simp
  simp [h1, h2, h3]
theorem sp_bef : SpOk Try.prog (65, befSp) := by
  intro args nd v ha hn
  simp only [befSp] at ha
  split at ha <;> simp only [Option.some.injEq, Prod.mk.injEq, reduceCtorEq] at ha
  obtain ⟨hnd, rfl⟩ := ha
  clear hnd hn
  rename_i a n b
  refine pureX (u := 80) (k := 20) mix TB1ok ?_
  rw [r_bef]
  simp only [pk_and, cond_true]
  rfl
theorem form_res (op : Int) : quietGo TB1 80 (callI TB1 80 20) 31 [.int .i64 op] (fun v => con v = con (.int .i64 (formI op))) := by
  rw [r_form]
  unfold formI
  simp only [pk_or, cond_true]
  by_cases h0 : op < 1 ∨ op > 41
  · rw [if_pos h0]
    rcases h0 with h | h <;> simp [h]
  · rw [if_neg h0]
    have h1 : ¬ op < 1 := fun h => h0 (.inl h)
    have h2 : ¬ op > 41 := fun h => h0 (.inr h)
    simp only [h1, h2, decide_false, cond_false]
    by_cases h3 : op ≤ 16
    · simp only [h3, decide_true, cond_true, if_true]
    simp only [h3, decide_false, cond_false, if_false]
    by_cases h4 : op ≤ 24
    · simp only [h4, decide_true, cond_true, if_true]
    simp only [h4, decide_false, cond_false, if_false]
    by_cases h5 : op = 25
    · simp only [h5, decide_true, cond_true, if_true]
    simp only [h5, decide_false, cond_false, if_false]
    by_cases h6 : op ≤ 30
    · simp only [h6, decide_true, cond_true, if_true]
    simp only [h6, decide_false, cond_false, if_false]
    by_cases h7 : op ≤ 33
    · simp only [h7, decide_true, cond_true, if_true]
    simp only [h7, decide_false, cond_false, if_false]
    by_cases h8 : op ≤ 39
    · simp only [h8, decide_true, cond_true, if_true]
    simp only [h8, decide_false, cond_false, if_false]
    by_cases h9 : op = 40
    · simp only [h9, decide_true, cond_true, if_true]
    simp only [h9, decide_false, cond_false, if_false]
theorem sp_form : SpOk Try.prog (31, formSp) := by
  intro args nd v ha hn
  simp only [formSp] at ha
  split at ha <;> simp only [Option.some.injEq, Prod.mk.injEq, reduceCtorEq] at ha
  obtain ⟨hnd, rfl⟩ := ha
  exact pureX mix TB1ok (form_res _)
end Go.Proofs.Ytbemlndjdbopeaa

/- Stretches that overlap. -/
namespace Go.Proofs.Ytbemlndjdbopeaa
open Go.Ra
set_option linter.unusedVariables false
set_option linter.unusedSimpArgs false
def TB4 : Tab := mkT qq (cl_bytes ++ cl_ref1 ++ cl_slices) [(65, befSp)] gl_slices
def i64B (a : Int) : Bool := decide (-9223372036854775808 ≤ a) && decide (a ≤ 9223372036854775807)
/-- Is some byte in both? -/
def ovlB (a n b m : Int) : Bool := decide (n ≥ 1 ∧ m ≥ 1 ∧ ((a ≤ b ∧ b - a < n) ∨ (b ≤ a ∧ a - b < m)))
def ovlSp : List XV → Option (List Bool × XV)
  | [.int .i64 a, .int .i64 n, .int .i64 b, .int .i64 m] => some ([i64B a, i64B n, i64B b, i64B m], .bool (ovlB a n b m))
  | _ => none
theorem TB4ok : TabOk Try.prog TB4 := mkT_ok ((clok_bytes.app clok_ref1).app clok_slices) ⟨sp_bef, trivial⟩ glok_slices
theorem i64B_iff {a : Int} : i64B a = true ↔ -9223372036854775808 ≤ a ∧ a ≤ 9223372036854775807 := by simp [i64B]
theorem r_ovl1 (a n b m : Int) (K : XV → Prop) : (quietGo TB4 80 (callI TB4 80 20) 56 [.int .i64 a, .int .i64 n, .int .i64 b, .int .i64 m] K) = (bif bif decide (n ≥ 1) then decide (n ≥ 1) else true then bif bif bif decide (n ≥ 1) then decide (m ≥ 1) else false then true else !bif decide (n ≥ 1) then decide
 (m ≥ 1) else false then bif bif bif befB a n b then true else bif bif decide (n ≥ 1) then decide (m ≥ 1) else false then !befB a n b else false then true else !bif
 decide (n ≥ 1) then decide (m ≥ 1) else false then bif bif bif decide (n ≥ 1) then decide (m ≥ 1) else false then bif decide (n ≥ 1) then decide (m ≥ 1) else false
 else true then K (.bool (bif bif decide (n ≥ 1) then decide (m ≥ 1) else false then bif befB a n b then true else befB b m a else false)) else False else False else
 False
else False) := by kernel_rfl
theorem r_ovl2 (a n b m : Int) (K : XV → Prop) : (quietGo TB4 80 (callI TB4 80 20) 34 [.int .i64 a, .int .i64 n, .int .i64 b, .int .i64 m] K) = (bif bif decide (n < 1) then true else !decide (n < 1) then bif bif decide (n < 1) then true else decide (m < 1) then K (.bool false) else bif decide (a ≤ b)
 then bif bif decide (b < IntKind.wrap .i64 (a + n)) then true else !decide (b < IntKind.wrap .i64 (a + n)) then K (.bool (bif decide (b < IntKind.wrap .i64 (a +
 n)) then true else decide (IntKind.wrap .i64 (a + n) < a))) else False else bif bif decide (a < IntKind.wrap .i64 (b + m)) then true else !decide (a < IntKind.wrap
 .i64 (b + m)) then K (.bool (bif decide (a < IntKind.wrap .i64 (b + m)) then true else decide (IntKind.wrap .i64 (b + m) < b))) else False
else False) := by kernel_rfl 

theorem bef_is {a n b : Int} (ha : -9223372036854775808 ≤ a ∧ a ≤ 9223372036854775807) (hb : -9223372036854775808 ≤ b ∧ b ≤ 9223372036854775807) (hn : 1 ≤ n ∧ n ≤ 9223372036854775807) : (bif decide (a ≤ b) then decide (IntKind.u64.wrap (IntKind.u64.wrap b - IntKind.u64.wrap a) < IntKind.u64.wrap n) else false) = decide (a ≤ b ∧ b - a < n) := by
  rw [Bool.eq_iff_iff]
  simp only [Bool.cond_false_right, Bool.and_eq_true, decide_eq_true_eq]
  simp only [wU64]
  have h1 : a ≤ b → (b % 18446744073709551616 - a % 18446744073709551616) % 18446744073709551616 = b - a := fun h => by omega
  have h2 : n % 18446744073709551616 = n := by omega
  constructor
  · rintro ⟨g1, g2⟩
    rw [h1 g1, h2] at g2
    exact ⟨g1, g2⟩
  · rintro ⟨g1, g2⟩
    rw [h1 g1, h2]
    exact ⟨g1, g2⟩
theorem sp_ovl : SpOk Try.prog (56, ovlSp) := by
  intro args nd v ha hn
  simp only [ovlSp] at ha
  split at ha <;> simp only [Option.some.injEq, Prod.mk.injEq, reduceCtorEq] at ha
  obtain ⟨rfl, rfl⟩ := ha
  rename_i a n b m
  simp only [allT_cons, i64B_iff] at hn
  obtain ⟨h1, h2, h3, h4, h5⟩ := hn
  refine pureX (u := 80) (k := 20) mix TB4ok ?_
  rw [r_ovl1]
  have e : ovlB a n b m = (bif (bif decide (n ≥ 1) then decide (m ≥ 1) else false) then (bif befB a n b then true else befB b m a) else false) := by
    unfold befB
    by_cases hn : n ≥ 1
    · by_cases hm : m ≥ 1
      · rw [bef_is h1 h3 ⟨hn, h2.2⟩, bef_is h3 h1 ⟨hm, h4.2⟩]
        simp [ovlB, hn, hm]
      · simp [ovlB, hn, hm]
    · simp [ovlB, hn]
  rw [e]
  generalize decide (n ≥ 1) = p
  generalize decide (m ≥ 1) = q
  generalize befB a n b = r
  generalize befB b m a = s
  cases p <;> cases q <;> cases r <;> cases s <;> rfl
theorem sp_rovl : SpOk Try.prog (34, ovlSp) := by
  intro args nd v ha hn
  simp only [ovlSp] at ha
  split at ha <;> simp only [Option.some.injEq, Prod.mk.injEq, reduceCtorEq] at ha
  obtain ⟨rfl, rfl⟩ := ha
  rename_i a n b m
  simp only [allT_cons, i64B_iff] at hn
  obtain ⟨h1, h2, h3, h4, h5⟩ := hn
  refine pureX (u := 80) (k := 20) mix TB4ok ?_
  rw [r_ovl2]
  simp only [pk_or, cond_true]
  refine cnd2 (fun h => conB ?_) (fun h => cnd2 (fun g => conB ?_) (fun g => conB ?_))
  all_goals
    rw [Bool.eq_iff_iff]
    simp only [Bool.cond_true_left, Bool.cond_false_right, Bool.cond_true_right, Bool.cond_false_left, Bool.or_eq_false_iff, Bool.or_eq_true, Bool.and_eq_true, Bool.and_eq_false_iff, decide_eq_false_iff_not, decide_eq_true_eq, Bool.not_eq_true', Bool.not_eq_false', Bool.not_not, Int.not_lt, Int.not_le, gt_iff_lt, ge_iff_le, ovlB, wI64, Bool.false_eq_true, false_iff] at *
    first
      | omega
      | (constructor <;> intro hh <;> first | omega | (rcases hh with hh | hh <;> omega) | (obtain ⟨hh1, hh2, hh3 | hh3⟩ := hh <;> omega))
end Go.Proofs.Ytbemlndjdbopeaa

/- Abstract code of the functions of law18: printed by a program from what the given translation yields. -/
namespace Go.Proofs.Ytbemlndjdbopeaa
open Go.Ra
def c_law18_BanksTell : AC := (.seq (.ops [⟨(.some 6), (.box (.t 0)), .none⟩, ⟨(.some 7), (.box (.t 1)), .none⟩, ⟨(.some 8), (.box (.t 2)), .none⟩, ⟨(.some 12), (.mv (.c (.sc (.bool .false)))), .none⟩]) (.seq (.ops [⟨(.some 14), (.call 21 []), .none⟩, ⟨(.some 13), (.mv (.t 14)), .none⟩]) (.seq (.seq (.ops [⟨(.some 15), (.mv (.t 13)), .none⟩, ⟨(.some 16), (.un .not (.t 15)), .none⟩, ⟨(.some 17), (.mv (.t 16)), .none⟩, ⟨(.some 18), (.load .true 92 (.t 8)), (.some (17, .false))⟩, ⟨(.some 19), (.call 13 [(.t 18)]), (.some (17, .false))⟩, ⟨(.some 20), (.un .not (.t 19)), (.some (17, .false))⟩, ⟨(.some 21), (.pick (.t 17) (.c (.sc (.bool .true))) (.t 20)), .none⟩, ⟨(.some 22), (.mv (.t 21)), .none⟩, ⟨(.some 23), (.fadr 0 0 1 (.t 7)), (.some (22, .false))⟩, ⟨(.some 24), (.load .false 1 (.t 23)), (.some (22, .false))⟩, ⟨(.some 25), (.len .none (.t 24)), (.some (22, .false))⟩, ⟨(.some 26), (.bin .gtr (.t 25) (.c (.sc (.int .i64 60)))), (.some (22, .false))⟩, ⟨(.some 27), (.pick (.t 22) (.c (.sc (.bool .true))) (.t 26)), .none⟩, ⟨(.some 28), (.mv (.t 27)), .none⟩, ⟨(.some 29), (.fadr 1 1 1 (.t 7)), (.some (28, .false))⟩, ⟨(.some 30), (.load .false 1 (.t 29)), (.some (28, .false))⟩, ⟨(.some 31), (.len .none (.t 30)), (.some (28, .false))⟩, ⟨(.some 32), (.bin .gtr (.t 31) (.c (.sc (.int .i64 60)))), (.some (28, .false))⟩, ⟨(.some 33), (.pick (.t 28) (.c (.sc (.bool .true))) (.t 32)), .none⟩]) (.cond (.t 33) (.seq (.ops [⟨(.some 34), (.mv (.t 13)), .none⟩, ⟨(.some 12), (.mv (.t 34)), .none⟩]) .ret) .skip)) (.seq (.ops [⟨(.some 35), (.mv (.t 3)), .none⟩, ⟨(.some 36), (.mv (.t 5)), .none⟩, ⟨(.some 37), (.call 22 [(.t 35), (.t 36)]), .none⟩, ⟨(.some 38), (.mv (.t 3)), .none⟩, ⟨(.some 39), (.mv (.t 5)), .none⟩, ⟨(.some 40), (.call 23 [(.t 38), (.t 39)]), .none⟩, ⟨(.some 41), (.bin .eql (.t 37) (.t 40)), .none⟩, ⟨(.some 42), (.mv (.t 41)), .none⟩, ⟨(.some 43), (.load .true 2 (.t 7)), (.some (42, .true))⟩, ⟨(.some 44), (.mv (.t 4)), (.some (42, .true))⟩, ⟨(.some 45), (.mv (.t 5)), (.some (42, .true))⟩, ⟨(.some 46), (.call 24 [(.t 43), (.t 44), (.t 45)]), (.some (42, .true))⟩, ⟨(.some 47), (.load .true 2 (.t 7)), (.some (42, .true))⟩, ⟨(.some 48), (.mv (.t 4)), (.some (42, .true))⟩, ⟨(.some 49), (.mv (.t 5)), (.some (42, .true))⟩, ⟨(.some 50), (.call 25 [(.t 47), (.t 48), (.t 49)]), (.some (42, .true))⟩, ⟨(.some 51), (.bin .eql (.t 46) (.t 50)), (.some (42, .true))⟩, ⟨(.some 52), (.pick (.t 42) (.t 51) (.c (.sc (.bool .false)))), .none⟩, ⟨(.some 53), (.mv (.t 52)), .none⟩, ⟨(.some 54), (.load .true 2 (.t 7)), (.some (53, .true))⟩, ⟨(.some 55), (.mv (.t 4)), (.some (53, .true))⟩, ⟨(.some 56), (.mv (.t 5)), (.some (53, .true))⟩, ⟨(.some 57), (.call 26 [(.t 54), (.t 55), (.t 56)]), (.some (53, .true))⟩, ⟨(.some 58), (.load .true 2 (.t 7)), (.some (53, .true))⟩, ⟨(.some 59), (.mv (.t 4)), (.some (53, .true))⟩, ⟨(.some 60), (.mv (.t 5)), (.some (53, .true))⟩, ⟨(.some 61), (.call 27 [(.t 58), (.t 59), (.t 60)]), (.some (53, .true))⟩, ⟨(.some 62), (.bin .eql (.t 57) (.t 61)), (.some (53, .true))⟩, ⟨(.some 63), (.pick (.t 53) (.t 62) (.c (.sc (.bool .false)))), .none⟩, ⟨(.some 64), (.mv (.t 63)), .none⟩, ⟨(.some 65), (.load .true 12 (.t 6)), (.some (64, .true))⟩, ⟨(.some 66), (.load .true 2 (.t 7)), (.some (64, .true))⟩, ⟨(.some 67), (.load .true 92 (.t 8)), (.some (64, .true))⟩, ⟨(.some 68), (.callq 18 [(.t 67)]), (.some (64, .true))⟩, ⟨(.some 69), (.call 28 [(.t 65), (.t 66), (.t 68)]), (.some (64, .true))⟩, ⟨(.some 70), (.load .true 12 (.t 6)), (.some (64, .true))⟩, ⟨(.some 71), (.load .true 2 (.t 7)), (.some (64, .true))⟩, ⟨(.some 72), (.load .true 92 (.t 8)), (.some (64, .true))⟩, ⟨(.some 73), (.call 29 [(.t 70), (.t 71), (.t 72)]), (.some (64, .true))⟩, ⟨(.some 74), (.call 16 [(.t 69), (.t 73)]), (.some (64, .true))⟩, ⟨(.some 75), (.pick (.t 64) (.t 74) (.c (.sc (.bool .false)))), .none⟩, ⟨(.some 12), (.mv (.t 75)), .none⟩]) .ret))))
theorem t_law18_BanksTell : trF Try.prog qq 7 = some (76, [(.tmp 12)], c_law18_BanksTell) := by kernel_rfl
def c_law18_BanksServe_l1 : AC := (.seq (.seq (.ops [⟨(.some 67), (.mv (.t 11)), .none⟩, ⟨(.some 68), (.mv (.t 3)), .none⟩, ⟨(.some 69), (.len .none (.t 68)), .none⟩, ⟨(.some 70), (.bin .lss (.t 67) (.t 69)), .none⟩]) (.cond (.t 70) .skip (.exit 0))) (.seq (.block 1 (.seq (.ops [⟨(.some 73), (.mv (.t 3)), .none⟩, ⟨(.some 74), (.mv (.t 11)), .none⟩, ⟨(.some 75), (.iadr .none 8 (.t 73) (.t 74)), .none⟩, ⟨(.some 76), (.load .true 8 (.t 75)), .none⟩, ⟨(.some 12), (.box (.c (.agg 8 [(.sc (.bool .false)), (.sc (.int .i64 0)), (.sc (.int .i64 0)), (.sc (.int .i64 0)), (.sc (.int .u32 0)), (.sc (.int .i64 0)), (.sc (.int .i64 0)), (.sc (.int .i64 0))]))), .none⟩, ⟨.none, (.store 8 (.t 12) (.t 76)), .none⟩]) (.seq (.ops [⟨(.some 77), (.fadr 5 5 1 (.t 12)), .none⟩, ⟨.none, (.store 1 (.t 77) (.c (.sc (.int .i64 0)))), .none⟩]) (.seq (.ops [⟨(.some 78), (.fadr 6 6 1 (.t 12)), .none⟩, ⟨.none, (.store 1 (.t 78) (.c (.sc (.int .i64 0)))), .none⟩]) (.ops [⟨(.some 79), (.fadr 9 83 1 (.t 10)), .none⟩, ⟨(.some 80), (.load .false 1 (.t 79)), .none⟩, ⟨(.some 81), (.load .true 8 (.t 12)), .none⟩, ⟨(.some 82), (.bsl 8 [(.t 81)]), .none⟩, ⟨(.some 83), (.app 8 64 (.t 80) (.t 82)), .none⟩, ⟨(.some 84), (.fadr 9 83 1 (.t 10)), .none⟩, ⟨.none, (.store 1 (.t 84) (.t 83)), .none⟩]))))) (.ops [⟨(.some 71), (.mv (.t 11)), .none⟩, ⟨(.some 72), (.bin .add (.t 71) (.c (.sc (.int .i64 1)))), .none⟩, ⟨(.some 11), (.mv (.t 72)), .none⟩])))
def c_law18_BanksServe_l2 : AC := (.seq (.seq (.ops [⟨(.some 107), (.mv (.t 15)), .none⟩, ⟨(.some 108), (.mv (.t 14)), .none⟩, ⟨(.some 109), (.bin .lss (.t 107) (.t 108)), .none⟩]) (.cond (.t 109) .skip (.exit 6))) (.seq (.block 7 (.seq (.ops [⟨(.some 112), (.fadr 9 83 1 (.t 10)), .none⟩, ⟨(.some 113), (.load .false 1 (.t 112)), .none⟩, ⟨(.some 114), (.mv (.t 14)), .none⟩, ⟨(.some 115), (.iadr .none 8 (.t 113) (.t 114)), .none⟩, ⟨(.some 116), (.fadr 5 5 1 (.t 115)), .none⟩, ⟨(.some 117), (.load .false 1 (.t 116)), .none⟩, ⟨(.some 118), (.bin .gtr (.t 117) (.c (.sc (.int .i64 0)))), .none⟩, ⟨(.some 119), (.mv (.t 118)), .none⟩, ⟨(.some 120), (.fadr 9 83 1 (.t 10)), (.some (119, .true))⟩, ⟨(.some 121), (.load .false 1 (.t 120)), (.some (119, .true))⟩, ⟨(.some 122), (.mv (.t 15)), (.some (119, .true))⟩, ⟨(.some 123), (.iadr .none 8 (.t 121) (.t 122)), (.some (119, .true))⟩, ⟨(.some 124), (.fadr 5 5 1 (.t 123)), (.some (119, .true))⟩, ⟨(.some 125), (.load .false 1 (.t 124)), (.some (119, .true))⟩, ⟨(.some 126), (.bin .gtr (.t 125) (.c (.sc (.int .i64 0)))), (.some (119, .true))⟩, ⟨(.some 127), (.pick (.t 119) (.t 126) (.c (.sc (.bool .false)))), .none⟩, ⟨(.some 128), (.mv (.t 127)), .none⟩, ⟨(.some 129), (.fadr 9 83 1 (.t 10)), (.some (128, .true))⟩, ⟨(.some 130), (.load .false 1 (.t 129)), (.some (128, .true))⟩, ⟨(.some 131), (.mv (.t 14)), (.some (128, .true))⟩, ⟨(.some 132), (.iadr .none 8 (.t 130) (.t 131)), (.some (128, .true))⟩, ⟨(.some 133), (.fadr 2 2 1 (.t 132)), (.some (128, .true))⟩, ⟨(.some 134), (.load .false 1 (.t 133)), (.some (128, .true))⟩, ⟨(.some 135), (.fadr 6 6 1 (.t 4)), (.some (128, .true))⟩, ⟨(.some 136), (.load .false 1 (.t 135)), (.some (128, .true))⟩, ⟨(.some 137), (.call 22 [(.t 134), (.t 136)]), (.some (128, .true))⟩, ⟨(.some 138), (.fadr 9 83 1 (.t 10)), (.some (128, .true))⟩, ⟨(.some 139), (.load .false 1 (.t 138)), (.some (128, .true))⟩, ⟨(.some 140), (.mv (.t 15)), (.some (128, .true))⟩, ⟨(.some 141), (.iadr .none 8 (.t 139) (.t 140)), (.some (128, .true))⟩, ⟨(.some 142), (.fadr 2 2 1 (.t 141)), (.some (128, .true))⟩, ⟨(.some 143), (.load .false 1 (.t 142)), (.some (128, .true))⟩, ⟨(.some 144), (.fadr 6 6 1 (.t 4)), (.some (128, .true))⟩, ⟨(.some 145), (.load .false 1 (.t 144)), (.some (128, .true))⟩, ⟨(.some 146), (.call 22 [(.t 143), (.t 145)]), (.some (128, .true))⟩, ⟨(.some 147), (.bin .eql (.t 137) (.t 146)), (.some (128, .true))⟩, ⟨(.some 148), (.pick (.t 128) (.t 147) (.c (.sc (.bool .false)))), .none⟩]) (.cond (.t 148) (.seq (.ops [⟨(.some 8), (.mv (.c (.sc (.bool .false)))), .none⟩]) .ret) .skip))) (.ops [⟨(.some 110), (.mv (.t 15)), .none⟩, ⟨(.some 111), (.bin .add (.t 110) (.c (.sc (.int .i64 1)))), .none⟩, ⟨(.some 15), (.mv (.t 111)), .none⟩])))
def c_law18_BanksServe_p1 : AC := (.seq (.ops [⟨(.some 149), (.fadr 9 83 1 (.t 10)), .none⟩, ⟨(.some 150), (.load .false 1 (.t 149)), .none⟩, ⟨(.some 151), (.mv (.t 14)), .none⟩, ⟨(.some 152), (.iadr .none 8 (.t 150) (.t 151)), .none⟩, ⟨(.some 153), (.fadr 5 5 1 (.t 152)), .none⟩, ⟨(.some 154), (.load .false 1 (.t 153)), .none⟩, ⟨(.some 155), (.bin .lss (.t 154) (.c (.sc (.int .i64 0)))), .none⟩, ⟨(.some 156), (.mv (.t 155)), .none⟩, ⟨(.some 157), (.fadr 9 83 1 (.t 10)), (.some (156, .false))⟩, ⟨(.some 158), (.load .false 1 (.t 157)), (.some (156, .false))⟩, ⟨(.some 159), (.mv (.t 14)), (.some (156, .false))⟩, ⟨(.some 160), (.iadr .none 8 (.t 158) (.t 159)), (.some (156, .false))⟩, ⟨(.some 161), (.fadr 5 5 1 (.t 160)), (.some (156, .false))⟩, ⟨(.some 162), (.load .false 1 (.t 161)), (.some (156, .false))⟩, ⟨(.some 163), (.fadr 9 9 1 (.t 4)), (.some (156, .false))⟩, ⟨(.some 164), (.load .false 1 (.t 163)), (.some (156, .false))⟩, ⟨(.some 165), (.bin .gtr (.t 162) (.t 164)), (.some (156, .false))⟩, ⟨(.some 166), (.pick (.t 156) (.c (.sc (.bool .true))) (.t 165)), .none⟩]) (.cond (.t 166) (.seq (.ops [⟨(.some 8), (.mv (.c (.sc (.bool .false)))), .none⟩]) .ret) .skip))
def c_law18_BanksServe_p2 : AC := (.ops [⟨(.some 105), (.mv (.t 14)), .none⟩, ⟨(.some 106), (.bin .add (.t 105) (.c (.sc (.int .i64 1)))), .none⟩, ⟨(.some 14), (.mv (.t 106)), .none⟩])
def c_law18_BanksServe_l3 : AC := (.seq (.seq (.ops [⟨(.some 100), (.mv (.t 14)), .none⟩, ⟨(.some 101), (.fadr 9 83 1 (.t 10)), .none⟩, ⟨(.some 102), (.load .false 1 (.t 101)), .none⟩, ⟨(.some 103), (.len .none (.t 102)), .none⟩, ⟨(.some 104), (.bin .lss (.t 100) (.t 103)), .none⟩]) (.cond (.t 104) .skip (.exit 4))) (.seq (.block 5 (.seq (.seq (.ops [⟨(.some 15), (.mv (.c (.sc (.int .i64 0)))), .none⟩]) (.block 6 (.loop c_law18_BanksServe_l2))) c_law18_BanksServe_p1)) c_law18_BanksServe_p2))
def c_law18_BanksServe_p3 : AC := (.ops [⟨(.some 94), (.mv (.t 13)), .none⟩, ⟨(.some 95), (.bin .add (.t 94) (.c (.sc (.int .i64 1)))), .none⟩, ⟨(.some 13), (.mv (.t 95)), .none⟩])
def c_law18_BanksServe_l4 : AC := (.seq (.seq (.ops [⟨(.some 85), (.mv (.t 13)), .none⟩, ⟨(.some 86), (.mv (.t 3)), .none⟩, ⟨(.some 87), (.len .none (.t 86)), .none⟩, ⟨(.some 88), (.bin .add (.t 87) (.c (.sc (.int .i64 1)))), .none⟩, ⟨(.some 89), (.fadr 9 9 1 (.t 4)), .none⟩, ⟨(.some 90), (.load .false 1 (.t 89)), .none⟩, ⟨(.some 91), (.bin .add (.t 90) (.c (.sc (.int .i64 1)))), .none⟩, ⟨(.some 92), (.bin .mul (.t 88) (.t 91)), .none⟩, ⟨(.some 93), (.bin .lss (.t 85) (.t 92)), .none⟩]) (.cond (.t 93) .skip (.exit 2))) (.seq (.block 3 (.seq (.seq .frz (.ops [⟨(.some 96), (.load .true 12 (.t 4)), .none⟩, ⟨(.some 97), (.load .true 2 (.t 5)), .none⟩, ⟨(.some 98), (.load .true 92 (.t 10)), .none⟩, ⟨(.some 99), (.call 28 [(.t 96), (.t 97), (.t 98)]), .none⟩, ⟨.none, (.store 92 (.t 10) (.t 99)), .none⟩])) (.seq (.ops [⟨(.some 14), (.mv (.c (.sc (.int .i64 0)))), .none⟩]) (.block 4 (.loop c_law18_BanksServe_l3))))) c_law18_BanksServe_p3))
def c_law18_BanksServe_l5 : AC := (.seq (.seq (.ops [⟨(.some 167), (.mv (.t 17)), .none⟩, ⟨(.some 168), (.mv (.t 3)), .none⟩, ⟨(.some 169), (.len .none (.t 168)), .none⟩, ⟨(.some 170), (.bin .lss (.t 167) (.t 169)), .none⟩]) (.cond (.t 170) .skip (.exit 8))) (.seq (.block 9 (.seq (.ops [⟨(.some 173), (.mv (.t 3)), .none⟩, ⟨(.some 174), (.mv (.t 17)), .none⟩, ⟨(.some 175), (.iadr .none 8 (.t 173) (.t 174)), .none⟩, ⟨(.some 176), (.fadr 0 0 1 (.t 175)), .none⟩, ⟨(.some 177), (.load .false 1 (.t 176)), .none⟩]) (.cond (.t 177) (.ops [⟨(.some 178), (.mv (.t 16)), .none⟩, ⟨(.some 179), (.bin .add (.t 178) (.c (.sc (.int .i64 1)))), .none⟩, ⟨(.some 16), (.mv (.t 179)), .none⟩]) .skip))) (.ops [⟨(.some 171), (.mv (.t 17)), .none⟩, ⟨(.some 172), (.bin .add (.t 171) (.c (.sc (.int .i64 1)))), .none⟩, ⟨(.some 17), (.mv (.t 172)), .none⟩])))
def c_law18_BanksServe_p4 : AC := (.seq (.ops [⟨(.some 180), (.fadr 9 83 1 (.t 10)), .none⟩, ⟨(.some 181), (.load .false 1 (.t 180)), .none⟩, ⟨(.some 182), (.len .none (.t 181)), .none⟩, ⟨(.some 183), (.bin .eql (.t 182) (.c (.sc (.int .i64 0)))), .none⟩, ⟨(.some 184), (.mv (.t 183)), .none⟩, ⟨(.some 185), (.fadr 11 85 1 (.t 10)), (.some (184, .true))⟩, ⟨(.some 186), (.load .false 1 (.t 185)), (.some (184, .true))⟩, ⟨(.some 187), (.len .none (.t 186)), (.some (184, .true))⟩, ⟨(.some 188), (.mv (.t 16)), (.some (184, .true))⟩, ⟨(.some 189), (.bin .eql (.t 187) (.t 188)), (.some (184, .true))⟩, ⟨(.some 190), (.pick (.t 184) (.t 189) (.c (.sc (.bool .false)))), .none⟩, ⟨(.some 191), (.mv (.t 190)), .none⟩, ⟨(.some 192), (.fadr 13 89 1 (.t 10)), (.some (191, .true))⟩, ⟨(.some 193), (.load .false 1 (.t 192)), (.some (191, .true))⟩, ⟨(.some 194), (.mv (.t 3)), (.some (191, .true))⟩, ⟨(.some 195), (.len .none (.t 194)), (.some (191, .true))⟩, ⟨(.some 196), (.bin .eql (.t 193) (.t 195)), (.some (191, .true))⟩, ⟨(.some 197), (.pick (.t 191) (.t 196) (.c (.sc (.bool .false)))), .none⟩, ⟨(.some 8), (.mv (.t 197)), .none⟩]) .ret)
def c_law18_BanksServe_p5 : AC := (.seq (.ops [⟨(.some 16), (.mv (.c (.sc (.int .i64 0)))), .none⟩]) (.seq (.seq (.ops [⟨(.some 17), (.mv (.c (.sc (.int .i64 0)))), .none⟩]) (.block 8 (.loop c_law18_BanksServe_l5))) c_law18_BanksServe_p4))
def c_law18_BanksServe_p6 : AC := (.seq (.seq (.ops [⟨(.some 13), (.mv (.c (.sc (.int .i64 0)))), .none⟩]) (.block 2 (.loop c_law18_BanksServe_l4))) c_law18_BanksServe_p5)
def c_law18_BanksServe : AC := (.seq (.ops [⟨(.some 4), (.box (.t 0)), .none⟩, ⟨(.some 5), (.box (.t 1)), .none⟩, ⟨(.some 8), (.mv (.c (.sc (.bool .false)))), .none⟩]) (.seq (.ops [⟨(.some 18), (.call 21 []), .none⟩, ⟨(.some 9), (.mv (.t 18)), .none⟩]) (.seq (.seq (.ops [⟨(.some 19), (.mv (.t 9)), .none⟩, ⟨(.some 20), (.un .not (.t 19)), .none⟩, ⟨(.some 21), (.mv (.t 20)), .none⟩, ⟨(.some 22), (.mv (.t 3)), (.some (21, .false))⟩, ⟨(.some 23), (.len .none (.t 22)), (.some (21, .false))⟩, ⟨(.some 24), (.bin .gtr (.t 23) (.c (.sc (.int .i64 20)))), (.some (21, .false))⟩, ⟨(.some 25), (.pick (.t 21) (.c (.sc (.bool .true))) (.t 24)), .none⟩, ⟨(.some 26), (.mv (.t 25)), .none⟩, ⟨(.some 27), (.mv (.t 2)), (.some (26, .false))⟩, ⟨(.some 28), (.len .none (.t 27)), (.some (26, .false))⟩, ⟨(.some 29), (.bin .gtr (.t 28) (.c (.sc (.int .i64 300)))), (.some (26, .false))⟩, ⟨(.some 30), (.pick (.t 26) (.c (.sc (.bool .true))) (.t 29)), .none⟩, ⟨(.some 31), (.mv (.t 30)), .none⟩, ⟨(.some 32), (.fadr 0 0 1 (.t 5)), (.some (31, .false))⟩, ⟨(.some 33), (.load .false 1 (.t 32)), (.some (31, .false))⟩, ⟨(.some 34), (.len .none (.t 33)), (.some (31, .false))⟩, ⟨(.some 35), (.bin .gtr (.t 34) (.c (.sc (.int .i64 60)))), (.some (31, .false))⟩, ⟨(.some 36), (.pick (.t 31) (.c (.sc (.bool .true))) (.t 35)), .none⟩, ⟨(.some 37), (.mv (.t 36)), .none⟩, ⟨(.some 38), (.fadr 1 1 1 (.t 5)), (.some (37, .false))⟩, ⟨(.some 39), (.load .false 1 (.t 38)), (.some (37, .false))⟩, ⟨(.some 40), (.len .none (.t 39)), (.some (37, .false))⟩, ⟨(.some 41), (.bin .gtr (.t 40) (.c (.sc (.int .i64 60)))), (.some (37, .false))⟩, ⟨(.some 42), (.pick (.t 37) (.c (.sc (.bool .true))) (.t 41)), .none⟩, ⟨(.some 43), (.mv (.t 42)), .none⟩, ⟨(.some 44), (.fadr 6 6 1 (.t 4)), (.some (43, .false))⟩, ⟨(.some 45), (.load .false 1 (.t 44)), (.some (43, .false))⟩, ⟨(.some 46), (.bin .lss (.t 45) (.c (.sc (.int .i64 1)))), (.some (43, .false))⟩, ⟨(.some 47), (.pick (.t 43) (.c (.sc (.bool .true))) (.t 46)), .none⟩, ⟨(.some 48), (.mv (.t 47)), .none⟩, ⟨(.some 49), (.fadr 6 6 1 (.t 4)), (.some (48, .false))⟩, ⟨(.some 50), (.load .false 1 (.t 49)), (.some (48, .false))⟩, ⟨(.some 51), (.bin .gtr (.t 50) (.c (.sc (.int .i64 16)))), (.some (48, .false))⟩, ⟨(.some 52), (.pick (.t 48) (.c (.sc (.bool .true))) (.t 51)), .none⟩, ⟨(.some 53), (.mv (.t 52)), .none⟩, ⟨(.some 54), (.fadr 9 9 1 (.t 4)), (.some (53, .false))⟩, ⟨(.some 55), (.load .false 1 (.t 54)), (.some (53, .false))⟩, ⟨(.some 56), (.bin .lss (.t 55) (.c (.sc (.int .i64 1)))), (.some (53, .false))⟩, ⟨(.some 57), (.pick (.t 53) (.c (.sc (.bool .true))) (.t 56)), .none⟩, ⟨(.some 58), (.mv (.t 57)), .none⟩, ⟨(.some 59), (.fadr 9 9 1 (.t 4)), (.some (58, .false))⟩, ⟨(.some 60), (.load .false 1 (.t 59)), (.some (58, .false))⟩, ⟨(.some 61), (.bin .gtr (.t 60) (.c (.sc (.int .i64 30)))), (.some (58, .false))⟩, ⟨(.some 62), (.pick (.t 58) (.c (.sc (.bool .true))) (.t 61)), .none⟩]) (.cond (.t 62) (.seq (.ops [⟨(.some 63), (.mv (.t 9)), .none⟩, ⟨(.some 8), (.mv (.t 63)), .none⟩]) .ret) .skip)) (.seq (.ops [⟨(.some 64), (.mv (.t 2)), .none⟩, ⟨(.some 65), (.app 1 1 (.c (.fro .true 0 [])) (.t 64)), .none⟩, ⟨(.some 66), (.build 92 [(.sc (.int .i64 0)), (.agg 38 [(.arr 16 1 [(.sc (.int .u32 0)), (.sc (.int .u32 0)), (.sc (.int .u32 0)), (.sc (.int .u32 0)), (.sc (.int .u32 0)), (.sc (.int .u32 0)), (.sc (.int .u32 0)), (.sc (.int .u32 0)), (.sc (.int .u32 0)), (.sc (.int .u32 0)), (.sc (.int .u32 0)), (.sc (.int .u32 0)), (.sc (.int .u32 0)), (.sc (.int .u32 0)), (.sc (.int .u32 0)), (.sc (.int .u32 0))]), (.arr 16 1 [(.sc (.int .i64 0)), (.sc (.int .i64 0)), (.sc (.int .i64 0)), (.sc (.int .i64 0)), (.sc (.int .i64 0)), (.sc (.int .i64 0)), (.sc (.int .i64 0)), (.sc (.int .i64 0)), (.sc (.int .i64 0)), (.sc (.int .i64 0)), (.sc (.int .i64 0)), (.sc (.int .i64 0)), (.sc (.int .i64 0)), (.sc (.int .i64 0)), (.sc (.int .i64 0)), (.sc (.int .i64 0))]), (.agg 3 [(.sc (.int .i64 0)), (.sc (.int .i64 0)), (.sc (.int .i64 0))]), (.sc (.int .i64 0)), (.sc (.bool .false)), (.sc (.int .i64 0))]), (.agg 38 [(.arr 16 1 [(.sc (.int .u32 0)), (.sc (.int .u32 0)), (.sc (.int .u32 0)), (.sc (.int .u32 0)), (.sc (.int .u32 0)), (.sc (.int .u32 0)), (.sc (.int .u32 0)), (.sc (.int .u32 0)), (.sc (.int .u32 0)), (.sc (.int .u32 0)), (.sc (.int .u32 0)), (.sc (.int .u32 0)), (.sc (.int .u32 0)), (.sc (.int .u32 0)), (.sc (.int .u32 0)), (.sc (.int .u32 0))]), (.arr 16 1 [(.sc (.int .i64 0)), (.sc (.int .i64 0)), (.sc (.int .i64 0)), (.sc (.int .i64 0)), (.sc (.int .i64 0)), (.sc (.int .i64 0)), (.sc (.int .i64 0)), (.sc (.int .i64 0)), (.sc (.int .i64 0)), (.sc (.int .i64 0)), (.sc (.int .i64 0)), (.sc (.int .i64 0)), (.sc (.int .i64 0)), (.sc (.int .i64 0)), (.sc (.int .i64 0)), (.sc (.int .i64 0))]), (.agg 3 [(.sc (.int .i64 0)), (.sc (.int .i64 0)), (.sc (.int .i64 0))]), (.sc (.int .i64 0)), (.sc (.bool .false)), (.sc (.int .i64 0))]), (.fro .true 0 []), (.fro .true 0 []), (.fro .true 0 []), (.fro .true 0 []), (.fro .true 0 []), (.fro .true 0 []), (.fro .true 0 []), (.fro .true 0 []), (.fro .true 0 []), (.agg 3 [(.sc (.int .i64 0)), (.sc (.int .i64 0)), (.sc (.int .i64 0))]), (.sc (.int .i64 0)), (.sc (.int .i64 0)), (.sc (.int .i64 0))] [(10, (.t 65))]), .none⟩, ⟨(.some 10), (.box (.c (.agg 92 [(.sc (.int .i64 0)), (.agg 38 [(.arr 16 1 [(.sc (.int .u32 0)), (.sc (.int .u32 0)), (.sc (.int .u32 0)), (.sc (.int .u32 0)), (.sc (.int .u32 0)), (.sc (.int .u32 0)), (.sc (.int .u32 0)), (.sc (.int .u32 0)), (.sc (.int .u32 0)), (.sc (.int .u32 0)), (.sc (.int .u32 0)), (.sc (.int .u32 0)), (.sc (.int .u32 0)), (.sc (.int .u32 0)), (.sc (.int .u32 0)), (.sc (.int .u32 0))]), (.arr 16 1 [(.sc (.int .i64 0)), (.sc (.int .i64 0)), (.sc (.int .i64 0)), (.sc (.int .i64 0)), (.sc (.int .i64 0)), (.sc (.int .i64 0)), (.sc (.int .i64 0)), (.sc (.int .i64 0)), (.sc (.int .i64 0)), (.sc (.int .i64 0)), (.sc (.int .i64 0)), (.sc (.int .i64 0)), (.sc (.int .i64 0)), (.sc (.int .i64 0)), (.sc (.int .i64 0)), (.sc (.int .i64 0))]), (.agg 3 [(.sc (.int .i64 0)), (.sc (.int .i64 0)), (.sc (.int .i64 0))]), (.sc (.int .i64 0)), (.sc (.bool .false)), (.sc (.int .i64 0))]), (.agg 38 [(.arr 16 1 [(.sc (.int .u32 0)), (.sc (.int .u32 0)), (.sc (.int .u32 0)), (.sc (.int .u32 0)), (.sc (.int .u32 0)), (.sc (.int .u32 0)), (.sc (.int .u32 0)), (.sc (.int .u32 0)), (.sc (.int .u32 0)), (.sc (.int .u32 0)), (.sc (.int .u32 0)), (.sc (.int .u32 0)), (.sc (.int .u32 0)), (.sc (.int .u32 0)), (.sc (.int .u32 0)), (.sc (.int .u32 0))]), (.arr 16 1 [(.sc (.int .i64 0)), (.sc (.int .i64 0)), (.sc (.int .i64 0)), (.sc (.int .i64 0)), (.sc (.int .i64 0)), (.sc (.int .i64 0)), (.sc (.int .i64 0)), (.sc (.int .i64 0)), (.sc (.int .i64 0)), (.sc (.int .i64 0)), (.sc (.int .i64 0)), (.sc (.int .i64 0)), (.sc (.int .i64 0)), (.sc (.int .i64 0)), (.sc (.int .i64 0)), (.sc (.int .i64 0))]), (.agg 3 [(.sc (.int .i64 0)), (.sc (.int .i64 0)), (.sc (.int .i64 0))]), (.sc (.int .i64 0)), (.sc (.bool .false)), (.sc (.int .i64 0))]), (.fro .true 0 []), (.fro .true 0 []), (.fro .true 0 []), (.fro .true 0 []), (.fro .true 0 []), (.fro .true 0 []), (.fro .true 0 []), (.fro .true 0 []), (.fro .true 0 []), (.agg 3 [(.sc (.int .i64 0)), (.sc (.int .i64 0)), (.sc (.int .i64 0))]), (.sc (.int .i64 0)), (.sc (.int .i64 0)), (.sc (.int .i64 0))]))), .none⟩, ⟨.none, (.store 92 (.t 10) (.t 66)), .none⟩]) (.seq (.seq (.ops [⟨(.some 11), (.mv (.c (.sc (.int .i64 0)))), .none⟩]) (.block 0 (.loop c_law18_BanksServe_l1))) c_law18_BanksServe_p6)))))
theorem t_law18_BanksServe : trF Try.prog qq 8 = some (198, [(.tmp 8)], c_law18_BanksServe) := by kernel_rfl
def c_law18_BanksAnswer_l1 : AC := (.seq (.seq (.ops [⟨(.some 107), (.mv (.t 18)), .none⟩, ⟨(.some 108), (.mv (.t 17)), .none⟩, ⟨(.some 109), (.bin .lss (.t 107) (.t 108)), .none⟩]) (.cond (.t 109) .skip (.exit 0))) (.seq (.block 1 (.seq (.ops [⟨(.some 112), (.load .true 12 (.t 6)), .none⟩, ⟨(.some 113), (.load .true 2 (.t 7)), .none⟩, ⟨(.some 114), (.load .true 92 (.t 16)), .none⟩, ⟨(.some 115), (.call 28 [(.t 112), (.t 113), (.t 114)]), .none⟩, ⟨.none, (.store 92 (.t 16) (.t 115)), .none⟩]) (.seq (.ops [⟨(.some 116), (.fadr 0 0 1 (.t 16)), .none⟩, ⟨(.some 117), (.load .false 1 (.t 116)), .none⟩, ⟨(.some 118), (.bin .add (.t 117) (.c (.sc (.int .i64 1)))), .none⟩, ⟨(.some 119), (.fadr 0 0 1 (.t 16)), .none⟩, ⟨.none, (.store 1 (.t 119) (.t 118)), .none⟩]) (.seq (.ops [⟨(.some 120), (.fadr 9 83 1 (.t 16)), .none⟩, ⟨(.some 121), (.load .false 1 (.t 120)), .none⟩, ⟨(.some 122), (.len .none (.t 121)), .none⟩, ⟨(.some 123), (.bin .neq (.t 122) (.c (.sc (.int .i64 1)))), .none⟩]) (.cond (.t 123) (.seq (.ops [⟨(.some 12), (.mv (.c (.sc (.bool .false)))), .none⟩]) .ret) .skip))))) (.ops [⟨(.some 110), (.mv (.t 18)), .none⟩, ⟨(.some 111), (.bin .add (.t 110) (.c (.sc (.int .i64 1)))), .none⟩, ⟨(.some 18), (.mv (.t 111)), .none⟩])))
def c_law18_BanksAnswer_p1 : AC := (.seq (.ops [⟨(.some 124), (.load .true 12 (.t 6)), .none⟩, ⟨(.some 125), (.load .true 2 (.t 7)), .none⟩, ⟨(.some 126), (.load .true 92 (.t 16)), .none⟩, ⟨(.some 127), (.call 28 [(.t 124), (.t 125), (.t 126)]), .none⟩, ⟨.none, (.store 92 (.t 16) (.t 127)), .none⟩]) (.seq (.ops [⟨(.some 128), (.mv (.t 2)), .none⟩, ⟨(.some 129), (.mv (.t 3)), .none⟩, ⟨(.some 130), (.mv (.t 15)), .none⟩, ⟨(.some 131), (.conv .u32 (.t 130)), .none⟩, ⟨(.some 132), (.call 32 [(.t 128), (.t 129), (.t 131)]), .none⟩, ⟨(.some 19), (.mv (.t 132)), .none⟩]) (.seq (.seq (.ops [⟨(.some 133), (.fadr 9 83 1 (.t 16)), .none⟩, ⟨(.some 134), (.load .false 1 (.t 133)), .none⟩, ⟨(.some 135), (.len .none (.t 134)), .none⟩, ⟨(.some 136), (.bin .neq (.t 135) (.c (.sc (.int .i64 0)))), .none⟩, ⟨(.some 137), (.mv (.t 136)), .none⟩, ⟨(.some 138), (.fadr 3 77 1 (.t 16)), (.some (137, .false))⟩, ⟨(.some 139), (.load .false 1 (.t 138)), (.some (137, .false))⟩, ⟨(.some 140), (.len .none (.t 139)), (.some (137, .false))⟩, ⟨(.some 141), (.bin .neq (.t 140) (.c (.sc (.int .i64 1)))), (.some (137, .false))⟩, ⟨(.some 142), (.pick (.t 137) (.c (.sc (.bool .true))) (.t 141)), .none⟩]) (.cond (.t 142) (.seq (.ops [⟨(.some 12), (.mv (.c (.sc (.bool .false)))), .none⟩]) .ret) .skip)) (.seq (.seq (.ops [⟨(.some 143), (.mv (.t 5)), .none⟩, ⟨(.some 144), (.bin .lss (.t 143) (.c (.sc (.int .i64 0)))), .none⟩]) (.cond (.t 144) (.seq (.ops [⟨(.some 145), (.fadr 3 77 1 (.t 16)), .none⟩, ⟨(.some 146), (.load .false 1 (.t 145)), .none⟩, ⟨(.some 147), (.iadr .none 3 (.t 146) (.c (.sc (.int .i64 0)))), .none⟩, ⟨(.some 148), (.load .true 3 (.t 147)), .none⟩, ⟨(.some 149), (.mv (.t 19)), .none⟩, ⟨(.some 150), (.build 3 [(.sc (.int .i64 0)), (.sc (.bool .false)), (.sc (.int .u32 0))] [(0, (.c (.sc (.int .i64 7)))), (1, (.c (.sc (.bool .true)))), (2, (.t 149))]), .none⟩, ⟨(.some 151), (.eqs .false (.agg [(1, .int), (1, .bool), (1, .int)]) (.t 148) (.t 150)), .none⟩, ⟨(.some 12), (.mv (.t 151)), .none⟩]) .ret) .skip)) (.seq (.ops [⟨(.some 152), (.mv (.t 5)), .none⟩, ⟨(.some 153), (.fadr 1 1 38 (.t 16)), .none⟩, ⟨(.some 154), (.fadr 0 0 16 (.t 153)), .none⟩, ⟨(.some 155), (.iadr (.some 16) 1 (.t 154) (.t 152)), .none⟩, ⟨(.some 156), (.load .false 1 (.t 155)), .none⟩, ⟨(.some 157), (.mv (.t 19)), .none⟩, ⟨(.some 158), (.bin .eql (.t 156) (.t 157)), .none⟩, ⟨(.some 159), (.mv (.t 158)), .none⟩, ⟨(.some 160), (.mv (.t 5)), (.some (159, .true))⟩, ⟨(.some 161), (.fadr 1 1 38 (.t 16)), (.some (159, .true))⟩, ⟨(.some 162), (.fadr 1 16 16 (.t 161)), (.some (159, .true))⟩, ⟨(.some 163), (.iadr (.some 16) 1 (.t 162) (.t 160)), (.some (159, .true))⟩, ⟨(.some 164), (.load .false 1 (.t 163)), (.some (159, .true))⟩, ⟨(.some 165), (.mv (.t 17)), (.some (159, .true))⟩, ⟨(.some 166), (.bin .add (.t 165) (.c (.sc (.int .i64 1)))), (.some (159, .true))⟩, ⟨(.some 167), (.bin .eql (.t 164) (.t 166)), (.some (159, .true))⟩, ⟨(.some 168), (.pick (.t 159) (.t 167) (.c (.sc (.bool .false)))), .none⟩, ⟨(.some 169), (.mv (.t 168)), .none⟩, ⟨(.some 170), (.fadr 3 77 1 (.t 16)), (.some (169, .true))⟩, ⟨(.some 171), (.load .false 1 (.t 170)), (.some (169, .true))⟩, ⟨(.some 172), (.iadr .none 3 (.t 171) (.c (.sc (.int .i64 0)))), (.some (169, .true))⟩, ⟨(.some 173), (.fadr 1 1 1 (.t 172)), (.some (169, .true))⟩, ⟨(.some 174), (.load .false 1 (.t 173)), (.some (169, .true))⟩, ⟨(.some 175), (.un .not (.t 174)), (.some (169, .true))⟩, ⟨(.some 176), (.pick (.t 169) (.t 175) (.c (.sc (.bool .false)))), .none⟩, ⟨(.some 12), (.mv (.t 176)), .none⟩]) .ret)))))
def c_law18_BanksAnswer : AC := (.seq (.ops [⟨(.some 6), (.box (.t 0)), .none⟩, ⟨(.some 7), (.box (.t 1)), .none⟩, ⟨(.some 12), (.mv (.c (.sc (.bool .false)))), .none⟩]) (.seq (.ops [⟨(.some 20), (.call 21 []), .none⟩, ⟨(.some 13), (.mv (.t 20)), .none⟩]) (.seq (.ops [⟨(.some 21), (.mv (.t 3)), .none⟩, ⟨(.some 22), (.call 30 [(.t 21)]), .none⟩, ⟨(.some 14), (.mv (.t 22)), .none⟩]) (.seq (.seq (.ops [⟨(.some 23), (.mv (.t 13)), .none⟩, ⟨(.some 24), (.un .not (.t 23)), .none⟩, ⟨(.some 25), (.mv (.t 24)), .none⟩, ⟨(.some 26), (.mv (.t 2)), (.some (25, .false))⟩, ⟨(.some 27), (.len .none (.t 26)), (.some (25, .false))⟩, ⟨(.some 28), (.bin .gtr (.t 27) (.c (.sc (.int .i64 200)))), (.some (25, .false))⟩, ⟨(.some 29), (.pick (.t 25) (.c (.sc (.bool .true))) (.t 28)), .none⟩, ⟨(.some 30), (.mv (.t 29)), .none⟩, ⟨(.some 31), (.fadr 0 0 1 (.t 7)), (.some (30, .false))⟩, ⟨(.some 32), (.load .false 1 (.t 31)), (.some (30, .false))⟩, ⟨(.some 33), (.len .none (.t 32)), (.some (30, .false))⟩, ⟨(.some 34), (.bin .gtr (.t 33) (.c (.sc (.int .i64 60)))), (.some (30, .false))⟩, ⟨(.some 35), (.pick (.t 30) (.c (.sc (.bool .true))) (.t 34)), .none⟩, ⟨(.some 36), (.mv (.t 35)), .none⟩, ⟨(.some 37), (.fadr 6 6 1 (.t 6)), (.some (36, .false))⟩, ⟨(.some 38), (.load .false 1 (.t 37)), (.some (36, .false))⟩, ⟨(.some 39), (.bin .lss (.t 38) (.c (.sc (.int .i64 1)))), (.some (36, .false))⟩, ⟨(.some 40), (.pick (.t 36) (.c (.sc (.bool .true))) (.t 39)), .none⟩, ⟨(.some 41), (.mv (.t 40)), .none⟩, ⟨(.some 42), (.fadr 6 6 1 (.t 6)), (.some (41, .false))⟩, ⟨(.some 43), (.load .false 1 (.t 42)), (.some (41, .false))⟩, ⟨(.some 44), (.bin .gtr (.t 43) (.c (.sc (.int .i64 16)))), (.some (41, .false))⟩, ⟨(.some 45), (.pick (.t 41) (.c (.sc (.bool .true))) (.t 44)), .none⟩, ⟨(.some 46), (.mv (.t 45)), .none⟩, ⟨(.some 47), (.fadr 9 9 1 (.t 6)), (.some (46, .false))⟩, ⟨(.some 48), (.load .false 1 (.t 47)), (.some (46, .false))⟩, ⟨(.some 49), (.bin .lss (.t 48) (.c (.sc (.int .i64 1)))), (.some (46, .false))⟩, ⟨(.some 50), (.pick (.t 46) (.c (.sc (.bool .true))) (.t 49)), .none⟩, ⟨(.some 51), (.mv (.t 50)), .none⟩, ⟨(.some 52), (.fadr 9 9 1 (.t 6)), (.some (51, .false))⟩, ⟨(.some 53), (.load .false 1 (.t 52)), (.some (51, .false))⟩, ⟨(.some 54), (.bin .gtr (.t 53) (.c (.sc (.int .i64 30)))), (.some (51, .false))⟩, ⟨(.some 55), (.pick (.t 51) (.c (.sc (.bool .true))) (.t 54)), .none⟩, ⟨(.some 56), (.mv (.t 55)), .none⟩, ⟨(.some 57), (.mv (.t 3)), (.some (56, .false))⟩, ⟨(.some 58), (.call 31 [(.t 57)]), (.some (56, .false))⟩, ⟨(.some 59), (.bin .neq (.t 58) (.c (.sc (.int .i64 4)))), (.some (56, .false))⟩, ⟨(.some 60), (.pick (.t 56) (.c (.sc (.bool .true))) (.t 59)), .none⟩, ⟨(.some 61), (.mv (.t 60)), .none⟩, ⟨(.some 62), (.mv (.t 4)), (.some (61, .false))⟩, ⟨(.some 63), (.bin .lss (.t 62) (.c (.sc (.int .i64 0)))), (.some (61, .false))⟩, ⟨(.some 64), (.pick (.t 61) (.c (.sc (.bool .true))) (.t 63)), .none⟩, ⟨(.some 65), (.mv (.t 64)), .none⟩, ⟨(.some 66), (.mv (.t 2)), (.some (65, .false))⟩, ⟨(.some 67), (.len .none (.t 66)), (.some (65, .false))⟩, ⟨(.some 68), (.mv (.t 14)), (.some (65, .false))⟩, ⟨(.some 69), (.bin .lss (.t 67) (.t 68)), (.some (65, .false))⟩, ⟨(.some 70), (.pick (.t 65) (.c (.sc (.bool .true))) (.t 69)), .none⟩, ⟨(.some 71), (.mv (.t 70)), .none⟩, ⟨(.some 72), (.mv (.t 5)), (.some (71, .false))⟩, ⟨(.some 73), (.bin .lss (.t 72) (.c (.sc (.int .i64 (-1))))), (.some (71, .false))⟩, ⟨(.some 74), (.pick (.t 71) (.c (.sc (.bool .true))) (.t 73)), .none⟩, ⟨(.some 75), (.mv (.t 74)), .none⟩, ⟨(.some 76), (.mv (.t 5)), (.some (75, .false))⟩, ⟨(.some 77), (.bin .gtr (.t 76) (.c (.sc (.int .i64 15)))), (.some (75, .false))⟩, ⟨(.some 78), (.pick (.t 75) (.c (.sc (.bool .true))) (.t 77)), .none⟩, ⟨(.some 79), (.mv (.t 78)), .none⟩, ⟨(.some 80), (.mv (.t 5)), (.some (79, .false))⟩, ⟨(.some 81), (.bin .eql (.t 80) (.c (.sc (.int .i64 0)))), (.some (79, .false))⟩, ⟨(.some 82), (.pick (.t 79) (.c (.sc (.bool .true))) (.t 81)), .none⟩]) (.cond (.t 82) (.seq (.ops [⟨(.some 83), (.mv (.t 13)), .none⟩, ⟨(.some 12), (.mv (.t 83)), .none⟩]) .ret) .skip)) (.seq (.ops [⟨(.some 84), (.mv (.t 4)), .none⟩, ⟨(.some 85), (.mv (.t 2)), .none⟩, ⟨(.some 86), (.len .none (.t 85)), .none⟩, ⟨(.some 87), (.mv (.t 14)), .none⟩, ⟨(.some 88), (.bin .quo (.t 86) (.t 87)), .none⟩, ⟨(.some 89), (.bin .rem (.t 84) (.t 88)), .none⟩, ⟨(.some 90), (.mv (.t 14)), .none⟩, ⟨(.some 91), (.bin .mul (.t 89) (.t 90)), .none⟩, ⟨(.some 15), (.mv (.t 91)), .none⟩]) (.seq (.ops [⟨(.some 92), (.mv (.t 2)), .none⟩, ⟨(.some 93), (.appf 1 1 (.t 92)), .none⟩, ⟨(.some 94), (.build 3 [(.sc (.int .i64 0)), (.sc (.bool .false)), (.sc (.int .u32 0))] [(0, (.c (.sc (.int .i64 7))))]), .none⟩, ⟨(.some 95), (.bsl 3 [(.t 94)]), .none⟩, ⟨(.some 96), (.mv (.t 3)), .none⟩, ⟨(.some 97), (.mv (.t 15)), .none⟩, ⟨(.some 98), (.mv (.t 14)), .none⟩, ⟨(.some 99), (.mv (.t 5)), .none⟩, ⟨(.some 100), (.build 8 [(.sc (.bool .false)), (.sc (.int .i64 0)), (.sc (.int .i64 0)), (.sc (.int .i64 0)), (.sc (.int .u32 0)), (.sc (.int .i64 0)), (.sc (.int .i64 0)), (.sc (.int .i64 0))] [(1, (.t 96)), (2, (.t 97)), (3, (.t 98)), (6, (.t 99)), (7, (.c (.sc (.int .i64 7))))]), .none⟩, ⟨(.some 101), (.bsl 8 [(.t 100)]), .none⟩, ⟨(.some 102), (.build 92 [(.sc (.int .i64 0)), (.agg 38 [(.arr 16 1 [(.sc (.int .u32 0)), (.sc (.int .u32 0)), (.sc (.int .u32 0)), (.sc (.int .u32 0)), (.sc (.int .u32 0)), (.sc (.int .u32 0)), (.sc (.int .u32 0)), (.sc (.int .u32 0)), (.sc (.int .u32 0)), (.sc (.int .u32 0)), (.sc (.int .u32 0)), (.sc (.int .u32 0)), (.sc (.int .u32 0)), (.sc (.int .u32 0)), (.sc (.int .u32 0)), (.sc (.int .u32 0))]), (.arr 16 1 [(.sc (.int .i64 0)), (.sc (.int .i64 0)), (.sc (.int .i64 0)), (.sc (.int .i64 0)), (.sc (.int .i64 0)), (.sc (.int .i64 0)), (.sc (.int .i64 0)), (.sc (.int .i64 0)), (.sc (.int .i64 0)), (.sc (.int .i64 0)), (.sc (.int .i64 0)), (.sc (.int .i64 0)), (.sc (.int .i64 0)), (.sc (.int .i64 0)), (.sc (.int .i64 0)), (.sc (.int .i64 0))]), (.agg 3 [(.sc (.int .i64 0)), (.sc (.int .i64 0)), (.sc (.int .i64 0))]), (.sc (.int .i64 0)), (.sc (.bool .false)), (.sc (.int .i64 0))]), (.agg 38 [(.arr 16 1 [(.sc (.int .u32 0)), (.sc (.int .u32 0)), (.sc (.int .u32 0)), (.sc (.int .u32 0)), (.sc (.int .u32 0)), (.sc (.int .u32 0)), (.sc (.int .u32 0)), (.sc (.int .u32 0)), (.sc (.int .u32 0)), (.sc (.int .u32 0)), (.sc (.int .u32 0)), (.sc (.int .u32 0)), (.sc (.int .u32 0)), (.sc (.int .u32 0)), (.sc (.int .u32 0)), (.sc (.int .u32 0))]), (.arr 16 1 [(.sc (.int .i64 0)), (.sc (.int .i64 0)), (.sc (.int .i64 0)), (.sc (.int .i64 0)), (.sc (.int .i64 0)), (.sc (.int .i64 0)), (.sc (.int .i64 0)), (.sc (.int .i64 0)), (.sc (.int .i64 0)), (.sc (.int .i64 0)), (.sc (.int .i64 0)), (.sc (.int .i64 0)), (.sc (.int .i64 0)), (.sc (.int .i64 0)), (.sc (.int .i64 0)), (.sc (.int .i64 0))]), (.agg 3 [(.sc (.int .i64 0)), (.sc (.int .i64 0)), (.sc (.int .i64 0))]), (.sc (.int .i64 0)), (.sc (.bool .false)), (.sc (.int .i64 0))]), (.fro .true 0 []), (.fro .true 0 []), (.fro .true 0 []), (.fro .true 0 []), (.fro .true 0 []), (.fro .true 0 []), (.fro .true 0 []), (.fro .true 0 []), (.fro .true 0 []), (.agg 3 [(.sc (.int .i64 0)), (.sc (.int .i64 0)), (.sc (.int .i64 0))]), (.sc (.int .i64 0)), (.sc (.int .i64 0)), (.sc (.int .i64 0))] [(10, (.t 93)), (3, (.t 95)), (9, (.t 101))]), .none⟩, ⟨(.some 16), (.box (.c (.agg 92 [(.sc (.int .i64 0)), (.agg 38 [(.arr 16 1 [(.sc (.int .u32 0)), (.sc (.int .u32 0)), (.sc (.int .u32 0)), (.sc (.int .u32 0)), (.sc (.int .u32 0)), (.sc (.int .u32 0)), (.sc (.int .u32 0)), (.sc (.int .u32 0)), (.sc (.int .u32 0)), (.sc (.int .u32 0)), (.sc (.int .u32 0)), (.sc (.int .u32 0)), (.sc (.int .u32 0)), (.sc (.int .u32 0)), (.sc (.int .u32 0)), (.sc (.int .u32 0))]), (.arr 16 1 [(.sc (.int .i64 0)), (.sc (.int .i64 0)), (.sc (.int .i64 0)), (.sc (.int .i64 0)), (.sc (.int .i64 0)), (.sc (.int .i64 0)), (.sc (.int .i64 0)), (.sc (.int .i64 0)), (.sc (.int .i64 0)), (.sc (.int .i64 0)), (.sc (.int .i64 0)), (.sc (.int .i64 0)), (.sc (.int .i64 0)), (.sc (.int .i64 0)), (.sc (.int .i64 0)), (.sc (.int .i64 0))]), (.agg 3 [(.sc (.int .i64 0)), (.sc (.int .i64 0)), (.sc (.int .i64 0))]), (.sc (.int .i64 0)), (.sc (.bool .false)), (.sc (.int .i64 0))]), (.agg 38 [(.arr 16 1 [(.sc (.int .u32 0)), (.sc (.int .u32 0)), (.sc (.int .u32 0)), (.sc (.int .u32 0)), (.sc (.int .u32 0)), (.sc (.int .u32 0)), (.sc (.int .u32 0)), (.sc (.int .u32 0)), (.sc (.int .u32 0)), (.sc (.int .u32 0)), (.sc (.int .u32 0)), (.sc (.int .u32 0)), (.sc (.int .u32 0)), (.sc (.int .u32 0)), (.sc (.int .u32 0)), (.sc (.int .u32 0))]), (.arr 16 1 [(.sc (.int .i64 0)), (.sc (.int .i64 0)), (.sc (.int .i64 0)), (.sc (.int .i64 0)), (.sc (.int .i64 0)), (.sc (.int .i64 0)), (.sc (.int .i64 0)), (.sc (.int .i64 0)), (.sc (.int .i64 0)), (.sc (.int .i64 0)), (.sc (.int .i64 0)), (.sc (.int .i64 0)), (.sc (.int .i64 0)), (.sc (.int .i64 0)), (.sc (.int .i64 0)), (.sc (.int .i64 0))]), (.agg 3 [(.sc (.int .i64 0)), (.sc (.int .i64 0)), (.sc (.int .i64 0))]), (.sc (.int .i64 0)), (.sc (.bool .false)), (.sc (.int .i64 0))]), (.fro .true 0 []), (.fro .true 0 []), (.fro .true 0 []), (.fro .true 0 []), (.fro .true 0 []), (.fro .true 0 []), (.fro .true 0 []), (.fro .true 0 []), (.fro .true 0 []), (.agg 3 [(.sc (.int .i64 0)), (.sc (.int .i64 0)), (.sc (.int .i64 0))]), (.sc (.int .i64 0)), (.sc (.int .i64 0)), (.sc (.int .i64 0))]))), .none⟩, ⟨.none, (.store 92 (.t 16) (.t 102)), .none⟩]) (.seq (.ops [⟨(.some 103), (.load .true 2 (.t 7)), .none⟩, ⟨(.some 104), (.fadr 9 9 1 (.t 6)), .none⟩, ⟨(.some 105), (.load .false 1 (.t 104)), .none⟩, ⟨(.some 106), (.call 25 [(.t 103), (.c (.sc (.int .i64 0))), (.t 105)]), .none⟩, ⟨(.some 17), (.mv (.t 106)), .none⟩]) (.seq (.seq (.ops [⟨(.some 18), (.mv (.c (.sc (.int .i64 0)))), .none⟩]) (.block 0 (.loop c_law18_BanksAnswer_l1))) c_law18_BanksAnswer_p1))))))))
theorem t_law18_BanksAnswer : trF Try.prog qq 9 = some (177, [(.tmp 12)], c_law18_BanksAnswer) := by kernel_rfl
def c_law18_BanksScript : AC := (.seq (.ops [⟨(.some 4), (.box (.t 0)), .none⟩, ⟨(.some 8), (.mv (.c (.sc (.bool .false)))), .none⟩]) (.seq (.ops [⟨(.some 12), (.call 21 []), .none⟩, ⟨(.some 9), (.mv (.t 12)), .none⟩]) (.seq (.seq (.ops [⟨(.some 13), (.mv (.t 9)), .none⟩, ⟨(.some 14), (.un .not (.t 13)), .none⟩, ⟨(.some 15), (.mv (.t 14)), .none⟩, ⟨(.some 16), (.fadr 0 0 1 (.t 4)), (.some (15, .false))⟩, ⟨(.some 17), (.load .false 1 (.t 16)), (.some (15, .false))⟩, ⟨(.some 18), (.len .none (.t 17)), (.some (15, .false))⟩, ⟨(.some 19), (.bin .gtr (.t 18) (.c (.sc (.int .i64 60)))), (.some (15, .false))⟩, ⟨(.some 20), (.pick (.t 15) (.c (.sc (.bool .true))) (.t 19)), .none⟩, ⟨(.some 21), (.mv (.t 20)), .none⟩, ⟨(.some 22), (.fadr 1 1 1 (.t 4)), (.some (21, .false))⟩, ⟨(.some 23), (.load .false 1 (.t 22)), (.some (21, .false))⟩, ⟨(.some 24), (.len .none (.t 23)), (.some (21, .false))⟩, ⟨(.some 25), (.bin .gtr (.t 24) (.c (.sc (.int .i64 60)))), (.some (21, .false))⟩, ⟨(.some 26), (.pick (.t 21) (.c (.sc (.bool .true))) (.t 25)), .none⟩, ⟨(.some 27), (.mv (.t 26)), .none⟩, ⟨(.some 28), (.mv (.t 1)), (.some (27, .false))⟩, ⟨(.some 29), (.bin .lss (.t 28) (.c (.sc (.int .i64 0)))), (.some (27, .false))⟩, ⟨(.some 30), (.pick (.t 27) (.c (.sc (.bool .true))) (.t 29)), .none⟩, ⟨(.some 31), (.mv (.t 30)), .none⟩, ⟨(.some 32), (.mv (.t 1)), (.some (31, .false))⟩, ⟨(.some 33), (.bin .gtr (.t 32) (.c (.sc (.int .i64 1099511627776)))), (.some (31, .false))⟩, ⟨(.some 34), (.pick (.t 31) (.c (.sc (.bool .true))) (.t 33)), .none⟩, ⟨(.some 35), (.mv (.t 34)), .none⟩, ⟨(.some 36), (.mv (.t 2)), (.some (35, .false))⟩, ⟨(.some 37), (.bin .lss (.t 36) (.c (.sc (.int .i64 1)))), (.some (35, .false))⟩, ⟨(.some 38), (.pick (.t 35) (.c (.sc (.bool .true))) (.t 37)), .none⟩, ⟨(.some 39), (.mv (.t 38)), .none⟩, ⟨(.some 40), (.mv (.t 3)), (.some (39, .false))⟩, ⟨(.some 41), (.bin .lss (.t 40) (.c (.sc (.int .i64 1)))), (.some (39, .false))⟩, ⟨(.some 42), (.pick (.t 39) (.c (.sc (.bool .true))) (.t 41)), .none⟩]) (.cond (.t 42) (.seq (.ops [⟨(.some 43), (.mv (.t 9)), .none⟩, ⟨(.some 8), (.mv (.t 43)), .none⟩]) .ret) .skip)) (.seq (.ops [⟨(.some 44), (.load .true 2 (.t 4)), .none⟩, ⟨(.some 45), (.mv (.t 1)), .none⟩, ⟨(.some 46), (.mv (.t 2)), .none⟩, ⟨(.some 47), (.call 24 [(.t 44), (.t 45), (.t 46)]), .none⟩, ⟨(.some 10), (.mv (.t 47)), .none⟩]) (.seq (.ops [⟨(.some 48), (.load .true 2 (.t 4)), .none⟩, ⟨(.some 49), (.mv (.t 1)), .none⟩, ⟨(.some 50), (.mv (.t 3)), .none⟩, ⟨(.some 51), (.call 26 [(.t 48), (.t 49), (.t 50)]), .none⟩, ⟨(.some 11), (.mv (.t 51)), .none⟩]) (.seq (.ops [⟨(.some 52), (.mv (.t 10)), .none⟩, ⟨(.some 53), (.bin .geq (.t 52) (.c (.sc (.int .i64 1)))), .none⟩, ⟨(.some 54), (.mv (.t 53)), .none⟩, ⟨(.some 55), (.mv (.t 10)), (.some (54, .true))⟩, ⟨(.some 56), (.mv (.t 2)), (.some (54, .true))⟩, ⟨(.some 57), (.bin .leq (.t 55) (.t 56)), (.some (54, .true))⟩, ⟨(.some 58), (.pick (.t 54) (.t 57) (.c (.sc (.bool .false)))), .none⟩, ⟨(.some 59), (.mv (.t 58)), .none⟩, ⟨(.some 60), (.mv (.t 11)), (.some (59, .true))⟩, ⟨(.some 61), (.bin .geq (.t 60) (.c (.sc (.int .i64 0)))), (.some (59, .true))⟩, ⟨(.some 62), (.pick (.t 59) (.t 61) (.c (.sc (.bool .false)))), .none⟩, ⟨(.some 63), (.mv (.t 62)), .none⟩, ⟨(.some 64), (.mv (.t 11)), (.some (63, .true))⟩, ⟨(.some 65), (.mv (.t 3)), (.some (63, .true))⟩, ⟨(.some 66), (.bin .lss (.t 64) (.t 65)), (.some (63, .true))⟩, ⟨(.some 67), (.pick (.t 63) (.t 66) (.c (.sc (.bool .false)))), .none⟩, ⟨(.some 68), (.mv (.t 67)), .none⟩, ⟨(.some 69), (.mv (.t 10)), (.some (68, .true))⟩, ⟨(.some 70), (.load .true 2 (.t 4)), (.some (68, .true))⟩, ⟨(.some 71), (.mv (.t 1)), (.some (68, .true))⟩, ⟨(.some 72), (.fadr 0 0 1 (.t 4)), (.some (68, .true))⟩, ⟨(.some 73), (.load .false 1 (.t 72)), (.some (68, .true))⟩, ⟨(.some 74), (.len .none (.t 73)), (.some (68, .true))⟩, ⟨(.some 75), (.bin .add (.t 71) (.t 74)), (.some (68, .true))⟩, ⟨(.some 76), (.mv (.t 2)), (.some (68, .true))⟩, ⟨(.some 77), (.call 24 [(.t 70), (.t 75), (.t 76)]), (.some (68, .true))⟩, ⟨(.some 78), (.bin .eql (.t 69) (.t 77)), (.some (68, .true))⟩, ⟨(.some 79), (.pick (.t 68) (.t 78) (.c (.sc (.bool .false)))), .none⟩, ⟨(.some 80), (.mv (.t 79)), .none⟩, ⟨(.some 81), (.mv (.t 11)), (.some (80, .true))⟩, ⟨(.some 82), (.load .true 2 (.t 4)), (.some (80, .true))⟩, ⟨(.some 83), (.mv (.t 1)), (.some (80, .true))⟩, ⟨(.some 84), (.fadr 1 1 1 (.t 4)), (.some (80, .true))⟩, ⟨(.some 85), (.load .false 1 (.t 84)), (.some (80, .true))⟩, ⟨(.some 86), (.len .none (.t 85)), (.some (80, .true))⟩, ⟨(.some 87), (.bin .add (.t 83) (.t 86)), (.some (80, .true))⟩, ⟨(.some 88), (.mv (.t 3)), (.some (80, .true))⟩, ⟨(.some 89), (.call 26 [(.t 82), (.t 87), (.t 88)]), (.some (80, .true))⟩, ⟨(.some 90), (.bin .eql (.t 81) (.t 89)), (.some (80, .true))⟩, ⟨(.some 91), (.pick (.t 80) (.t 90) (.c (.sc (.bool .false)))), .none⟩, ⟨(.some 92), (.mv (.t 91)), .none⟩, ⟨(.some 93), (.load .true 2 (.t 4)), (.some (92, .true))⟩, ⟨(.some 94), (.mv (.t 1)), (.some (92, .true))⟩, ⟨(.some 95), (.call 24 [(.t 93), (.t 94), (.c (.sc (.int .i64 1)))]), (.some (92, .true))⟩, ⟨(.some 96), (.bin .eql (.t 95) (.c (.sc (.int .i64 1)))), (.some (92, .true))⟩, ⟨(.some 97), (.pick (.t 92) (.t 96) (.c (.sc (.bool .false)))), .none⟩, ⟨(.some 98), (.mv (.t 97)), .none⟩, ⟨(.some 99), (.load .true 2 (.t 4)), (.some (98, .true))⟩, ⟨(.some 100), (.mv (.t 1)), (.some (98, .true))⟩, ⟨(.some 101), (.call 26 [(.t 99), (.t 100), (.c (.sc (.int .i64 1)))]), (.some (98, .true))⟩, ⟨(.some 102), (.bin .eql (.t 101) (.c (.sc (.int .i64 0)))), (.some (98, .true))⟩, ⟨(.some 103), (.pick (.t 98) (.t 102) (.c (.sc (.bool .false)))), .none⟩, ⟨(.some 8), (.mv (.t 103)), .none⟩]) .ret))))))
theorem t_law18_BanksScript : trF Try.prog qq 10 = some (104, [(.tmp 8)], c_law18_BanksScript) := by kernel_rfl
def c_law18_BanksApart_l1 : AC := (.seq (.seq (.ops [⟨(.some 32), (.mv (.t 7)), .none⟩, ⟨(.some 33), (.bin .lss (.t 32) (.c (.sc (.int .i64 4)))), .none⟩]) (.cond (.t 33) .skip (.exit 0))) (.seq (.block 1 (.seq (.ops [⟨(.some 36), (.mv (.t 0)), .none⟩, ⟨(.some 37), (.bin .mul (.c (.sc (.int .i64 4))) (.t 36)), .none⟩, ⟨(.some 38), (.mv (.t 7)), .none⟩, ⟨(.some 39), (.bin .add (.t 37) (.t 38)), .none⟩, ⟨(.some 40), (.mv (.t 1)), .none⟩, ⟨(.some 41), (.call 22 [(.t 39), (.t 40)]), .none⟩, ⟨(.some 42), (.mv (.t 6)), .none⟩, ⟨(.some 43), (.bin .neq (.t 41) (.t 42)), .none⟩]) (.cond (.t 43) (.seq (.ops [⟨(.some 4), (.mv (.c (.sc (.bool .false)))), .none⟩]) .ret) .skip))) (.ops [⟨(.some 34), (.mv (.t 7)), .none⟩, ⟨(.some 35), (.bin .add (.t 34) (.c (.sc (.int .i64 1)))), .none⟩, ⟨(.some 7), (.mv (.t 35)), .none⟩])))
def c_law18_BanksApart_p1 : AC := (.seq (.ops [⟨(.some 44), (.mv (.t 6)), .none⟩, ⟨(.some 45), (.bin .geq (.t 44) (.c (.sc (.int .i64 0)))), .none⟩, ⟨(.some 46), (.mv (.t 45)), .none⟩, ⟨(.some 47), (.mv (.t 6)), (.some (46, .true))⟩, ⟨(.some 48), (.mv (.t 1)), (.some (46, .true))⟩, ⟨(.some 49), (.bin .lss (.t 47) (.t 48)), (.some (46, .true))⟩, ⟨(.some 50), (.pick (.t 46) (.t 49) (.c (.sc (.bool .false)))), .none⟩, ⟨(.some 51), (.mv (.t 50)), .none⟩, ⟨(.some 52), (.mv (.t 0)), (.some (51, .true))⟩, ⟨(.some 53), (.bin .mul (.c (.sc (.int .i64 4))) (.t 52)), (.some (51, .true))⟩, ⟨(.some 54), (.bin .add (.t 53) (.c (.sc (.int .i64 4)))), (.some (51, .true))⟩, ⟨(.some 55), (.mv (.t 1)), (.some (51, .true))⟩, ⟨(.some 56), (.call 22 [(.t 54), (.t 55)]), (.some (51, .true))⟩, ⟨(.some 57), (.mv (.t 6)), (.some (51, .true))⟩, ⟨(.some 58), (.bin .add (.t 57) (.c (.sc (.int .i64 1)))), (.some (51, .true))⟩, ⟨(.some 59), (.mv (.t 1)), (.some (51, .true))⟩, ⟨(.some 60), (.bin .rem (.t 58) (.t 59)), (.some (51, .true))⟩, ⟨(.some 61), (.bin .eql (.t 56) (.t 60)), (.some (51, .true))⟩, ⟨(.some 62), (.pick (.t 51) (.t 61) (.c (.sc (.bool .false)))), .none⟩, ⟨(.some 63), (.mv (.t 62)), .none⟩, ⟨(.some 64), (.mv (.t 0)), (.some (63, .true))⟩, ⟨(.some 65), (.mv (.t 1)), (.some (63, .true))⟩, ⟨(.some 66), (.bin .add (.t 64) (.t 65)), (.some (63, .true))⟩, ⟨(.some 67), (.bin .mul (.c (.sc (.int .i64 4))) (.t 66)), (.some (63, .true))⟩, ⟨(.some 68), (.mv (.t 1)), (.some (63, .true))⟩, ⟨(.some 69), (.call 22 [(.t 67), (.t 68)]), (.some (63, .true))⟩, ⟨(.some 70), (.mv (.t 6)), (.some (63, .true))⟩, ⟨(.some 71), (.bin .eql (.t 69) (.t 70)), (.some (63, .true))⟩, ⟨(.some 72), (.pick (.t 63) (.t 71) (.c (.sc (.bool .false)))), .none⟩, ⟨(.some 4), (.mv (.t 72)), .none⟩]) .ret)
def c_law18_BanksApart : AC := (.seq (.ops [⟨(.some 4), (.mv (.c (.sc (.bool .false)))), .none⟩]) (.seq (.ops [⟨(.some 8), (.call 21 []), .none⟩, ⟨(.some 5), (.mv (.t 8)), .none⟩]) (.seq (.seq (.ops [⟨(.some 9), (.mv (.t 5)), .none⟩, ⟨(.some 10), (.un .not (.t 9)), .none⟩, ⟨(.some 11), (.mv (.t 10)), .none⟩, ⟨(.some 12), (.mv (.t 0)), (.some (11, .false))⟩, ⟨(.some 13), (.bin .lss (.t 12) (.c (.sc (.int .i64 0)))), (.some (11, .false))⟩, ⟨(.some 14), (.pick (.t 11) (.c (.sc (.bool .true))) (.t 13)), .none⟩, ⟨(.some 15), (.mv (.t 14)), .none⟩, ⟨(.some 16), (.mv (.t 0)), (.some (15, .false))⟩, ⟨(.some 17), (.bin .gtr (.t 16) (.c (.sc (.int .i64 100000)))), (.some (15, .false))⟩, ⟨(.some 18), (.pick (.t 15) (.c (.sc (.bool .true))) (.t 17)), .none⟩, ⟨(.some 19), (.mv (.t 18)), .none⟩, ⟨(.some 20), (.mv (.t 1)), (.some (19, .false))⟩, ⟨(.some 21), (.bin .lss (.t 20) (.c (.sc (.int .i64 1)))), (.some (19, .false))⟩, ⟨(.some 22), (.pick (.t 19) (.c (.sc (.bool .true))) (.t 21)), .none⟩, ⟨(.some 23), (.mv (.t 22)), .none⟩, ⟨(.some 24), (.mv (.t 1)), (.some (23, .false))⟩, ⟨(.some 25), (.bin .gtr (.t 24) (.c (.sc (.int .i64 16)))), (.some (23, .false))⟩, ⟨(.some 26), (.pick (.t 23) (.c (.sc (.bool .true))) (.t 25)), .none⟩]) (.cond (.t 26) (.seq (.ops [⟨(.some 27), (.mv (.t 5)), .none⟩, ⟨(.some 4), (.mv (.t 27)), .none⟩]) .ret) .skip)) (.seq (.ops [⟨(.some 28), (.mv (.t 0)), .none⟩, ⟨(.some 29), (.bin .mul (.c (.sc (.int .i64 4))) (.t 28)), .none⟩, ⟨(.some 30), (.mv (.t 1)), .none⟩, ⟨(.some 31), (.call 22 [(.t 29), (.t 30)]), .none⟩, ⟨(.some 6), (.mv (.t 31)), .none⟩]) (.seq (.seq (.ops [⟨(.some 7), (.mv (.c (.sc (.int .i64 1)))), .none⟩]) (.block 0 (.loop c_law18_BanksApart_l1))) c_law18_BanksApart_p1)))))
theorem t_law18_BanksApart : trF Try.prog qq 11 = some (73, [(.tmp 4)], c_law18_BanksApart) := by kernel_rfl
def c_law18_Few : AC := (.seq (.ops [⟨(.some 1), (.box (.t 0)), .none⟩, ⟨(.some 2), (.mv (.c (.sc (.bool .false)))), .none⟩]) (.seq (.ops [⟨(.some 3), (.fadr 10 84 1 (.t 1)), .none⟩, ⟨(.some 4), (.load .false 1 (.t 3)), .none⟩, ⟨(.some 5), (.len .none (.t 4)), .none⟩, ⟨(.some 6), (.bin .leq (.t 5) (.c (.sc (.int .i64 1000)))), .none⟩, ⟨(.some 7), (.mv (.t 6)), .none⟩, ⟨(.some 8), (.fadr 9 83 1 (.t 1)), (.some (7, .true))⟩, ⟨(.some 9), (.load .false 1 (.t 8)), (.some (7, .true))⟩, ⟨(.some 10), (.len .none (.t 9)), (.some (7, .true))⟩, ⟨(.some 11), (.bin .leq (.t 10) (.c (.sc (.int .i64 64)))), (.some (7, .true))⟩, ⟨(.some 12), (.pick (.t 7) (.t 11) (.c (.sc (.bool .false)))), .none⟩, ⟨(.some 13), (.mv (.t 12)), .none⟩, ⟨(.some 14), (.fadr 8 82 1 (.t 1)), (.some (13, .true))⟩, ⟨(.some 15), (.load .false 1 (.t 14)), (.some (13, .true))⟩, ⟨(.some 16), (.len .none (.t 15)), (.some (13, .true))⟩, ⟨(.some 17), (.bin .leq (.t 16) (.c (.sc (.int .i64 64)))), (.some (13, .true))⟩, ⟨(.some 18), (.pick (.t 13) (.t 17) (.c (.sc (.bool .false)))), .none⟩, ⟨(.some 19), (.mv (.t 18)), .none⟩, ⟨(.some 20), (.fadr 3 77 1 (.t 1)), (.some (19, .true))⟩, ⟨(.some 21), (.load .false 1 (.t 20)), (.some (19, .true))⟩, ⟨(.some 22), (.len .none (.t 21)), (.some (19, .true))⟩, ⟨(.some 23), (.bin .leq (.t 22) (.c (.sc (.int .i64 64)))), (.some (19, .true))⟩, ⟨(.some 24), (.pick (.t 19) (.t 23) (.c (.sc (.bool .false)))), .none⟩, ⟨(.some 25), (.mv (.t 24)), .none⟩, ⟨(.some 26), (.fadr 11 85 1 (.t 1)), (.some (25, .true))⟩, ⟨(.some 27), (.load .false 1 (.t 26)), (.some (25, .true))⟩, ⟨(.some 28), (.len .none (.t 27)), (.some (25, .true))⟩, ⟨(.some 29), (.bin .leq (.t 28) (.c (.sc (.int .i64 100)))), (.some (25, .true))⟩, ⟨(.some 30), (.pick (.t 25) (.t 29) (.c (.sc (.bool .false)))), .none⟩, ⟨(.some 31), (.mv (.t 30)), .none⟩, ⟨(.some 32), (.fadr 4 78 1 (.t 1)), (.some (31, .true))⟩, ⟨(.some 33), (.load .false 1 (.t 32)), (.some (31, .true))⟩, ⟨(.some 34), (.len .none (.t 33)), (.some (31, .true))⟩, ⟨(.some 35), (.bin .leq (.t 34) (.c (.sc (.int .i64 64)))), (.some (31, .true))⟩, ⟨(.some 36), (.pick (.t 31) (.t 35) (.c (.sc (.bool .false)))), .none⟩, ⟨(.some 37), (.mv (.t 36)), .none⟩, ⟨(.some 38), (.fadr 5 79 1 (.t 1)), (.some (37, .true))⟩, ⟨(.some 39), (.load .false 1 (.t 38)), (.some (37, .true))⟩, ⟨(.some 40), (.len .none (.t 39)), (.some (37, .true))⟩, ⟨(.some 41), (.bin .leq (.t 40) (.c (.sc (.int .i64 64)))), (.some (37, .true))⟩, ⟨(.some 42), (.pick (.t 37) (.t 41) (.c (.sc (.bool .false)))), .none⟩, ⟨(.some 43), (.mv (.t 42)), .none⟩, ⟨(.some 44), (.fadr 6 80 1 (.t 1)), (.some (43, .true))⟩, ⟨(.some 45), (.load .false 1 (.t 44)), (.some (43, .true))⟩, ⟨(.some 46), (.len .none (.t 45)), (.some (43, .true))⟩, ⟨(.some 47), (.bin .leq (.t 46) (.c (.sc (.int .i64 64)))), (.some (43, .true))⟩, ⟨(.some 48), (.pick (.t 43) (.t 47) (.c (.sc (.bool .false)))), .none⟩, ⟨(.some 49), (.mv (.t 48)), .none⟩, ⟨(.some 50), (.fadr 7 81 1 (.t 1)), (.some (49, .true))⟩, ⟨(.some 51), (.load .false 1 (.t 50)), (.some (49, .true))⟩, ⟨(.some 52), (.len .none (.t 51)), (.some (49, .true))⟩, ⟨(.some 53), (.bin .leq (.t 52) (.c (.sc (.int .i64 64)))), (.some (49, .true))⟩, ⟨(.some 54), (.pick (.t 49) (.t 53) (.c (.sc (.bool .false)))), .none⟩, ⟨(.some 2), (.mv (.t 54)), .none⟩]) .ret))
theorem t_law18_Few : trF Try.prog qq 13 = some (55, [(.tmp 2)], c_law18_Few) := by kernel_rfl
def c_law18_alive : AC := (.seq (.ops [⟨(.some 0), (.mv (.c (.sc (.bool .false)))), .none⟩]) (.seq (.ops [⟨(.some 2), (.build 12 [(.sc (.int .i64 0)), (.sc (.int .i64 0)), (.sc (.int .i64 0)), (.sc (.int .i64 0)), (.sc (.int .i64 0)), (.sc (.int .i64 0)), (.sc (.int .i64 0)), (.sc (.int .i64 0)), (.sc (.int .i64 0)), (.sc (.int .i64 0)), (.sc (.int .i64 0)), (.sc (.int .i64 0))] [(6, (.c (.sc (.int .i64 1)))), (9, (.c (.sc (.int .i64 5))))]), .none⟩, ⟨(.some 3), (.bsl 1 [(.c (.sc (.int .i64 3)))]), .none⟩, ⟨(.some 4), (.build 2 [(.fro .true 0 []), (.fro .true 0 [])] [(0, (.t 3))]), .none⟩, ⟨(.some 5), (.build 8 [(.sc (.bool .false)), (.sc (.int .i64 0)), (.sc (.int .i64 0)), (.sc (.int .i64 0)), (.sc (.int .u32 0)), (.sc (.int .i64 0)), (.sc (.int .i64 0)), (.sc (.int .i64 0))] [(1, (.c (.sc (.int .i64 26)))), (3, (.c (.sc (.int .i64 4))))]), .none⟩, ⟨(.some 6), (.bsl 8 [(.t 5)]), .none⟩, ⟨(.some 7), (.build 92 [(.sc (.int .i64 0)), (.agg 38 [(.arr 16 1 [(.sc (.int .u32 0)), (.sc (.int .u32 0)), (.sc (.int .u32 0)), (.sc (.int .u32 0)), (.sc (.int .u32 0)), (.sc (.int .u32 0)), (.sc (.int .u32 0)), (.sc (.int .u32 0)), (.sc (.int .u32 0)), (.sc (.int .u32 0)), (.sc (.int .u32 0)), (.sc (.int .u32 0)), (.sc (.int .u32 0)), (.sc (.int .u32 0)), (.sc (.int .u32 0)), (.sc (.int .u32 0))]), (.arr 16 1 [(.sc (.int .i64 0)), (.sc (.int .i64 0)), (.sc (.int .i64 0)), (.sc (.int .i64 0)), (.sc (.int .i64 0)), (.sc (.int .i64 0)), (.sc (.int .i64 0)), (.sc (.int .i64 0)), (.sc (.int .i64 0)), (.sc (.int .i64 0)), (.sc (.int .i64 0)), (.sc (.int .i64 0)), (.sc (.int .i64 0)), (.sc (.int .i64 0)), (.sc (.int .i64 0)), (.sc (.int .i64 0))]), (.agg 3 [(.sc (.int .i64 0)), (.sc (.int .i64 0)), (.sc (.int .i64 0))]), (.sc (.int .i64 0)), (.sc (.bool .false)), (.sc (.int .i64 0))]), (.agg 38 [(.arr 16 1 [(.sc (.int .u32 0)), (.sc (.int .u32 0)), (.sc (.int .u32 0)), (.sc (.int .u32 0)), (.sc (.int .u32 0)), (.sc (.int .u32 0)), (.sc (.int .u32 0)), (.sc (.int .u32 0)), (.sc (.int .u32 0)), (.sc (.int .u32 0)), (.sc (.int .u32 0)), (.sc (.int .u32 0)), (.sc (.int .u32 0)), (.sc (.int .u32 0)), (.sc (.int .u32 0)), (.sc (.int .u32 0))]), (.arr 16 1 [(.sc (.int .i64 0)), (.sc (.int .i64 0)), (.sc (.int .i64 0)), (.sc (.int .i64 0)), (.sc (.int .i64 0)), (.sc (.int .i64 0)), (.sc (.int .i64 0)), (.sc (.int .i64 0)), (.sc (.int .i64 0)), (.sc (.int .i64 0)), (.sc (.int .i64 0)), (.sc (.int .i64 0)), (.sc (.int .i64 0)), (.sc (.int .i64 0)), (.sc (.int .i64 0)), (.sc (.int .i64 0))]), (.agg 3 [(.sc (.int .i64 0)), (.sc (.int .i64 0)), (.sc (.int .i64 0))]), (.sc (.int .i64 0)), (.sc (.bool .false)), (.sc (.int .i64 0))]), (.fro .true 0 []), (.fro .true 0 []), (.fro .true 0 []), (.fro .true 0 []), (.fro .true 0 []), (.fro .true 0 []), (.fro .true 0 []), (.fro .true 0 []), (.fro .true 0 []), (.agg 3 [(.sc (.int .i64 0)), (.sc (.int .i64 0)), (.sc (.int .i64 0))]), (.sc (.int .i64 0)), (.sc (.int .i64 0)), (.sc (.int .i64 0))] [(9, (.t 6))]), .none⟩, ⟨(.some 8), (.call 28 [(.t 2), (.t 4), (.t 7)]), .none⟩, ⟨(.some 1), (.box (.c (.agg 92 [(.sc (.int .i64 0)), (.agg 38 [(.arr 16 1 [(.sc (.int .u32 0)), (.sc (.int .u32 0)), (.sc (.int .u32 0)), (.sc (.int .u32 0)), (.sc (.int .u32 0)), (.sc (.int .u32 0)), (.sc (.int .u32 0)), (.sc (.int .u32 0)), (.sc (.int .u32 0)), (.sc (.int .u32 0)), (.sc (.int .u32 0)), (.sc (.int .u32 0)), (.sc (.int .u32 0)), (.sc (.int .u32 0)), (.sc (.int .u32 0)), (.sc (.int .u32 0))]), (.arr 16 1 [(.sc (.int .i64 0)), (.sc (.int .i64 0)), (.sc (.int .i64 0)), (.sc (.int .i64 0)), (.sc (.int .i64 0)), (.sc (.int .i64 0)), (.sc (.int .i64 0)), (.sc (.int .i64 0)), (.sc (.int .i64 0)), (.sc (.int .i64 0)), (.sc (.int .i64 0)), (.sc (.int .i64 0)), (.sc (.int .i64 0)), (.sc (.int .i64 0)), (.sc (.int .i64 0)), (.sc (.int .i64 0))]), (.agg 3 [(.sc (.int .i64 0)), (.sc (.int .i64 0)), (.sc (.int .i64 0))]), (.sc (.int .i64 0)), (.sc (.bool .false)), (.sc (.int .i64 0))]), (.agg 38 [(.arr 16 1 [(.sc (.int .u32 0)), (.sc (.int .u32 0)), (.sc (.int .u32 0)), (.sc (.int .u32 0)), (.sc (.int .u32 0)), (.sc (.int .u32 0)), (.sc (.int .u32 0)), (.sc (.int .u32 0)), (.sc (.int .u32 0)), (.sc (.int .u32 0)), (.sc (.int .u32 0)), (.sc (.int .u32 0)), (.sc (.int .u32 0)), (.sc (.int .u32 0)), (.sc (.int .u32 0)), (.sc (.int .u32 0))]), (.arr 16 1 [(.sc (.int .i64 0)), (.sc (.int .i64 0)), (.sc (.int .i64 0)), (.sc (.int .i64 0)), (.sc (.int .i64 0)), (.sc (.int .i64 0)), (.sc (.int .i64 0)), (.sc (.int .i64 0)), (.sc (.int .i64 0)), (.sc (.int .i64 0)), (.sc (.int .i64 0)), (.sc (.int .i64 0)), (.sc (.int .i64 0)), (.sc (.int .i64 0)), (.sc (.int .i64 0)), (.sc (.int .i64 0))]), (.agg 3 [(.sc (.int .i64 0)), (.sc (.int .i64 0)), (.sc (.int .i64 0))]), (.sc (.int .i64 0)), (.sc (.bool .false)), (.sc (.int .i64 0))]), (.fro .true 0 []), (.fro .true 0 []), (.fro .true 0 []), (.fro .true 0 []), (.fro .true 0 []), (.fro .true 0 []), (.fro .true 0 []), (.fro .true 0 []), (.fro .true 0 []), (.agg 3 [(.sc (.int .i64 0)), (.sc (.int .i64 0)), (.sc (.int .i64 0))]), (.sc (.int .i64 0)), (.sc (.int .i64 0)), (.sc (.int .i64 0))]))), .none⟩, ⟨.none, (.store 92 (.t 1) (.t 8)), .none⟩]) (.seq (.ops [⟨(.some 9), (.call 22 [(.c (.sc (.int .i64 8))), (.c (.sc (.int .i64 2)))]), .none⟩, ⟨(.some 10), (.bin .eql (.t 9) (.c (.sc (.int .i64 0)))), .none⟩, ⟨(.some 11), (.mv (.t 10)), .none⟩, ⟨(.some 12), (.bsl 1 [(.c (.sc (.int .i64 7)))]), (.some (11, .true))⟩, ⟨(.some 13), (.build 2 [(.fro .true 0 []), (.fro .true 0 [])] [(0, (.t 12))]), (.some (11, .true))⟩, ⟨(.some 14), (.call 24 [(.t 13), (.c (.sc (.int .i64 0))), (.c (.sc (.int .i64 5)))]), (.some (11, .true))⟩, ⟨(.some 15), (.bin .eql (.t 14) (.c (.sc (.int .i64 3)))), (.some (11, .true))⟩, ⟨(.some 16), (.pick (.t 11) (.t 15) (.c (.sc (.bool .false)))), .none⟩, ⟨(.some 17), (.mv (.t 16)), .none⟩, ⟨(.some 18), (.build 2 [(.fro .true 0 []), (.fro .true 0 [])] []), (.some (17, .true))⟩, ⟨(.some 19), (.call 26 [(.t 18), (.c (.sc (.int .i64 0))), (.c (.sc (.int .i64 5)))]), (.some (17, .true))⟩, ⟨(.some 20), (.bin .eql (.t 19) (.c (.sc (.int .i64 0)))), (.some (17, .true))⟩, ⟨(.some 21), (.pick (.t 17) (.t 20) (.c (.sc (.bool .false)))), .none⟩, ⟨(.some 22), (.mv (.t 21)), .none⟩, ⟨(.some 23), (.fadr 9 83 1 (.t 1)), (.some (22, .true))⟩, ⟨(.some 24), (.load .false 1 (.t 23)), (.some (22, .true))⟩, ⟨(.some 25), (.len .none (.t 24)), (.some (22, .true))⟩, ⟨(.some 26), (.bin .eql (.t 25) (.c (.sc (.int .i64 1)))), (.some (22, .true))⟩, ⟨(.some 27), (.pick (.t 22) (.t 26) (.c (.sc (.bool .false)))), .none⟩, ⟨(.some 28), (.mv (.t 27)), .none⟩, ⟨(.some 29), (.fadr 9 83 1 (.t 1)), (.some (28, .true))⟩, ⟨(.some 30), (.load .false 1 (.t 29)), (.some (28, .true))⟩, ⟨(.some 31), (.iadr .none 8 (.t 30) (.c (.sc (.int .i64 0)))), (.some (28, .true))⟩, ⟨(.some 32), (.fadr 5 5 1 (.t 31)), (.some (28, .true))⟩, ⟨(.some 33), (.load .false 1 (.t 32)), (.some (28, .true))⟩, ⟨(.some 34), (.bin .eql (.t 33) (.c (.sc (.int .i64 4)))), (.some (28, .true))⟩, ⟨(.some 35), (.pick (.t 28) (.t 34) (.c (.sc (.bool .false)))), .none⟩, ⟨(.some 0), (.mv (.t 35)), .none⟩]) .ret)))
theorem t_law18_alive : trF Try.prog qq 21 = some (36, [(.tmp 0)], c_law18_alive) := by kernel_rfl
/-- The functions of law18. -/
def cl_law18 : CodeL := [(7, 76, [(.tmp 12)], c_law18_BanksTell), (8, 198, [(.tmp 8)], c_law18_BanksServe), (9, 177, [(.tmp 12)], c_law18_BanksAnswer), (10, 104, [(.tmp 8)], c_law18_BanksScript), (11, 73, [(.tmp 4)], c_law18_BanksApart), (13, 55, [(.tmp 2)], c_law18_Few), (21, 36, [(.tmp 0)], c_law18_alive)]
theorem clok_law18 : AllL (fun p => trF Try.prog qq p.1 = some p.2) cl_law18 := ⟨t_law18_BanksTell, t_law18_BanksServe, t_law18_BanksAnswer, t_law18_BanksScript, t_law18_BanksApart, t_law18_Few, t_law18_alive, trivial⟩
end Go.Proofs.Ytbemlndjdbopeaa

/- Abstract code of the functions of law23: printed by a program from what the given translation yields. -/
namespace Go.Proofs.Ytbemlndjdbopeaa
open Go.Ra
def c_law23_CommitTells : AC := (.seq (.ops [⟨(.some 2), (.box (.t 0)), .none⟩, ⟨(.some 3), (.box (.t 1)), .none⟩, ⟨(.some 4), (.mv (.c (.sc (.bool .false)))), .none⟩]) (.seq (.ops [⟨(.some 6), (.call 12 []), .none⟩, ⟨(.some 5), (.mv (.t 6)), .none⟩]) (.seq (.seq (.ops [⟨(.some 7), (.mv (.t 5)), .none⟩, ⟨(.some 8), (.un .not (.t 7)), .none⟩, ⟨(.some 9), (.mv (.t 8)), .none⟩, ⟨(.some 10), (.load .true 92 (.t 3)), (.some (9, .false))⟩, ⟨(.some 11), (.call 13 [(.t 10)]), (.some (9, .false))⟩, ⟨(.some 12), (.un .not (.t 11)), (.some (9, .false))⟩, ⟨(.some 13), (.pick (.t 9) (.c (.sc (.bool .true))) (.t 12)), .none⟩]) (.cond (.t 13) (.seq (.ops [⟨(.some 14), (.mv (.t 5)), .none⟩, ⟨(.some 4), (.mv (.t 14)), .none⟩]) .ret) .skip)) (.seq (.ops [⟨(.some 15), (.load .true 12 (.t 2)), .none⟩, ⟨(.some 16), (.load .true 92 (.t 3)), .none⟩, ⟨(.some 17), (.call 14 [(.t 15), (.t 16)]), .none⟩, ⟨(.some 18), (.load .true 12 (.t 2)), .none⟩, ⟨(.some 19), (.load .true 92 (.t 3)), .none⟩, ⟨(.some 20), (.call 15 [(.t 18), (.t 19)]), .none⟩, ⟨(.some 21), (.eqs .false .bool (.t 17) (.t 20)), .none⟩, ⟨(.some 22), (.mv (.t 21)), .none⟩, ⟨(.some 23), (.load .true 12 (.t 2)), (.some (22, .true))⟩, ⟨(.some 24), (.load .true 92 (.t 3)), (.some (22, .true))⟩, ⟨(.some 25), (.callq 18 [(.t 24)]), (.some (22, .true))⟩, ⟨(.some 26), (.call 17 [(.t 23), (.t 25)]), (.some (22, .true))⟩, ⟨(.some 27), (.load .true 12 (.t 2)), (.some (22, .true))⟩, ⟨(.some 28), (.load .true 92 (.t 3)), (.some (22, .true))⟩, ⟨(.some 29), (.call 19 [(.t 27), (.t 28)]), (.some (22, .true))⟩, ⟨(.some 30), (.call 16 [(.t 26), (.t 29)]), (.some (22, .true))⟩, ⟨(.some 31), (.pick (.t 22) (.t 30) (.c (.sc (.bool .false)))), .none⟩, ⟨(.some 4), (.mv (.t 31)), .none⟩]) .ret))))
theorem t_law23_CommitTells : trF Try.prog qq 3 = some (32, [(.tmp 4)], c_law23_CommitTells) := by kernel_rfl
def c_law23_CommitOne : AC := (.seq (.ops [⟨(.some 2), (.box (.t 0)), .none⟩, ⟨(.some 3), (.box (.t 1)), .none⟩, ⟨(.some 4), (.mv (.c (.sc (.bool .false)))), .none⟩]) (.seq (.ops [⟨(.some 9), (.call 12 []), .none⟩, ⟨(.some 5), (.mv (.t 9)), .none⟩]) (.seq (.seq (.ops [⟨(.some 10), (.mv (.t 5)), .none⟩, ⟨(.some 11), (.un .not (.t 10)), .none⟩, ⟨(.some 12), (.mv (.t 11)), .none⟩, ⟨(.some 13), (.load .true 92 (.t 3)), (.some (12, .false))⟩, ⟨(.some 14), (.call 13 [(.t 13)]), (.some (12, .false))⟩, ⟨(.some 15), (.un .not (.t 14)), (.some (12, .false))⟩, ⟨(.some 16), (.pick (.t 12) (.c (.sc (.bool .true))) (.t 15)), .none⟩, ⟨(.some 17), (.mv (.t 16)), .none⟩, ⟨(.some 18), (.load .true 12 (.t 2)), (.some (17, .false))⟩, ⟨(.some 19), (.load .true 92 (.t 3)), (.some (17, .false))⟩, ⟨(.some 20), (.call 14 [(.t 18), (.t 19)]), (.some (17, .false))⟩, ⟨(.some 21), (.un .not (.t 20)), (.some (17, .false))⟩, ⟨(.some 22), (.pick (.t 17) (.c (.sc (.bool .true))) (.t 21)), .none⟩]) (.cond (.t 22) (.seq (.ops [⟨(.some 23), (.mv (.t 5)), .none⟩, ⟨(.some 4), (.mv (.t 23)), .none⟩]) .ret) .skip)) (.seq (.ops [⟨(.some 24), (.load .true 12 (.t 2)), .none⟩, ⟨(.some 25), (.load .true 92 (.t 3)), .none⟩, ⟨(.some 26), (.callq 18 [(.t 25)]), .none⟩, ⟨(.some 27), (.call 17 [(.t 24), (.t 26)]), .none⟩, ⟨(.some 6), (.box (.c (.agg 92 [(.sc (.int .i64 0)), (.agg 38 [(.arr 16 1 [(.sc (.int .u32 0)), (.sc (.int .u32 0)), (.sc (.int .u32 0)), (.sc (.int .u32 0)), (.sc (.int .u32 0)), (.sc (.int .u32 0)), (.sc (.int .u32 0)), (.sc (.int .u32 0)), (.sc (.int .u32 0)), (.sc (.int .u32 0)), (.sc (.int .u32 0)), (.sc (.int .u32 0)), (.sc (.int .u32 0)), (.sc (.int .u32 0)), (.sc (.int .u32 0)), (.sc (.int .u32 0))]), (.arr 16 1 [(.sc (.int .i64 0)), (.sc (.int .i64 0)), (.sc (.int .i64 0)), (.sc (.int .i64 0)), (.sc (.int .i64 0)), (.sc (.int .i64 0)), (.sc (.int .i64 0)), (.sc (.int .i64 0)), (.sc (.int .i64 0)), (.sc (.int .i64 0)), (.sc (.int .i64 0)), (.sc (.int .i64 0)), (.sc (.int .i64 0)), (.sc (.int .i64 0)), (.sc (.int .i64 0)), (.sc (.int .i64 0))]), (.agg 3 [(.sc (.int .i64 0)), (.sc (.int .i64 0)), (.sc (.int .i64 0))]), (.sc (.int .i64 0)), (.sc (.bool .false)), (.sc (.int .i64 0))]), (.agg 38 [(.arr 16 1 [(.sc (.int .u32 0)), (.sc (.int .u32 0)), (.sc (.int .u32 0)), (.sc (.int .u32 0)), (.sc (.int .u32 0)), (.sc (.int .u32 0)), (.sc (.int .u32 0)), (.sc (.int .u32 0)), (.sc (.int .u32 0)), (.sc (.int .u32 0)), (.sc (.int .u32 0)), (.sc (.int .u32 0)), (.sc (.int .u32 0)), (.sc (.int .u32 0)), (.sc (.int .u32 0)), (.sc (.int .u32 0))]), (.arr 16 1 [(.sc (.int .i64 0)), (.sc (.int .i64 0)), (.sc (.int .i64 0)), (.sc (.int .i64 0)), (.sc (.int .i64 0)), (.sc (.int .i64 0)), (.sc (.int .i64 0)), (.sc (.int .i64 0)), (.sc (.int .i64 0)), (.sc (.int .i64 0)), (.sc (.int .i64 0)), (.sc (.int .i64 0)), (.sc (.int .i64 0)), (.sc (.int .i64 0)), (.sc (.int .i64 0)), (.sc (.int .i64 0))]), (.agg 3 [(.sc (.int .i64 0)), (.sc (.int .i64 0)), (.sc (.int .i64 0))]), (.sc (.int .i64 0)), (.sc (.bool .false)), (.sc (.int .i64 0))]), (.fro .true 0 []), (.fro .true 0 []), (.fro .true 0 []), (.fro .true 0 []), (.fro .true 0 []), (.fro .true 0 []), (.fro .true 0 []), (.fro .true 0 []), (.fro .true 0 []), (.agg 3 [(.sc (.int .i64 0)), (.sc (.int .i64 0)), (.sc (.int .i64 0))]), (.sc (.int .i64 0)), (.sc (.int .i64 0)), (.sc (.int .i64 0))]))), .none⟩, ⟨.none, (.store 92 (.t 6) (.t 27)), .none⟩]) (.seq (.seq (.ops [⟨(.some 28), (.fadr 8 82 1 (.t 6)), .none⟩, ⟨(.some 29), (.load .false 1 (.t 28)), .none⟩, ⟨(.some 30), (.len .none (.t 29)), .none⟩, ⟨(.some 31), (.fadr 8 82 1 (.t 3)), .none⟩, ⟨(.some 32), (.load .false 1 (.t 31)), .none⟩, ⟨(.some 33), (.len .none (.t 32)), .none⟩, ⟨(.some 34), (.bin .neq (.t 30) (.t 33)), .none⟩, ⟨(.some 35), (.mv (.t 34)), .none⟩, ⟨(.some 36), (.fadr 4 78 1 (.t 6)), (.some (35, .false))⟩, ⟨(.some 37), (.load .false 1 (.t 36)), (.some (35, .false))⟩, ⟨(.some 38), (.len .none (.t 37)), (.some (35, .false))⟩, ⟨(.some 39), (.fadr 4 78 1 (.t 3)), (.some (35, .false))⟩, ⟨(.some 40), (.load .false 1 (.t 39)), (.some (35, .false))⟩, ⟨(.some 41), (.len .none (.t 40)), (.some (35, .false))⟩, ⟨(.some 42), (.bin .sub (.t 41) (.c (.sc (.int .i64 1)))), (.some (35, .false))⟩, ⟨(.some 43), (.bin .neq (.t 38) (.t 42)), (.some (35, .false))⟩, ⟨(.some 44), (.pick (.t 35) (.c (.sc (.bool .true))) (.t 43)), .none⟩, ⟨(.some 45), (.mv (.t 44)), .none⟩, ⟨(.some 46), (.fadr 9 83 1 (.t 6)), (.some (45, .false))⟩, ⟨(.some 47), (.load .false 1 (.t 46)), (.some (45, .false))⟩, ⟨(.some 48), (.len .none (.t 47)), (.some (45, .false))⟩, ⟨(.some 49), (.fadr 9 83 1 (.t 3)), (.some (45, .false))⟩, ⟨(.some 50), (.load .false 1 (.t 49)), (.some (45, .false))⟩, ⟨(.some 51), (.len .none (.t 50)), (.some (45, .false))⟩, ⟨(.some 52), (.bin .add (.t 51) (.c (.sc (.int .i64 1)))), (.some (45, .false))⟩, ⟨(.some 53), (.bin .neq (.t 48) (.t 52)), (.some (45, .false))⟩, ⟨(.some 54), (.pick (.t 45) (.c (.sc (.bool .true))) (.t 53)), .none⟩]) (.cond (.t 54) (.seq (.ops [⟨(.some 4), (.mv (.c (.sc (.bool .false)))), .none⟩]) .ret) .skip)) (.seq (.ops [⟨(.some 55), (.fadr 9 83 1 (.t 6)), .none⟩, ⟨(.some 56), (.load .false 1 (.t 55)), .none⟩, ⟨(.some 57), (.fadr 9 83 1 (.t 3)), .none⟩, ⟨(.some 58), (.load .false 1 (.t 57)), .none⟩, ⟨(.some 59), (.len .none (.t 58)), .none⟩, ⟨(.some 60), (.iadr .none 8 (.t 56) (.t 59)), .none⟩, ⟨(.some 61), (.load .true 8 (.t 60)), .none⟩, ⟨(.some 7), (.box (.c (.agg 8 [(.sc (.bool .false)), (.sc (.int .i64 0)), (.sc (.int .i64 0)), (.sc (.int .i64 0)), (.sc (.int .u32 0)), (.sc (.int .i64 0)), (.sc (.int .i64 0)), (.sc (.int .i64 0))]))), .none⟩, ⟨.none, (.store 8 (.t 7) (.t 61)), .none⟩]) (.seq (.ops [⟨(.some 62), (.fadr 8 82 1 (.t 3)), .none⟩, ⟨(.some 63), (.load .false 1 (.t 62)), .none⟩, ⟨(.some 64), (.iadr .none 5 (.t 63) (.c (.sc (.int .i64 0)))), .none⟩, ⟨(.some 65), (.load .true 5 (.t 64)), .none⟩, ⟨(.some 8), (.box (.c (.agg 5 [(.sc (.int .i64 0)), (.sc (.int .i64 0)), (.sc (.int .i64 0)), (.sc (.bool .false)), (.sc (.int .u32 0))]))), .none⟩, ⟨.none, (.store 5 (.t 8) (.t 65)), .none⟩]) (.seq (.ops [⟨(.some 66), (.fadr 0 0 1 (.t 7)), .none⟩, ⟨(.some 67), (.load .false 1 (.t 66)), .none⟩, ⟨(.some 68), (.mv (.t 67)), .none⟩, ⟨(.some 69), (.fadr 2 2 1 (.t 7)), (.some (68, .true))⟩, ⟨(.some 70), (.load .false 1 (.t 69)), (.some (68, .true))⟩, ⟨(.some 71), (.fadr 0 0 1 (.t 8)), (.some (68, .true))⟩, ⟨(.some 72), (.load .false 1 (.t 71)), (.some (68, .true))⟩, ⟨(.some 73), (.bin .eql (.t 70) (.t 72)), (.some (68, .true))⟩, ⟨(.some 74), (.pick (.t 68) (.t 73) (.c (.sc (.bool .false)))), .none⟩, ⟨(.some 75), (.mv (.t 74)), .none⟩, ⟨(.some 76), (.fadr 3 3 1 (.t 7)), (.some (75, .true))⟩, ⟨(.some 77), (.load .false 1 (.t 76)), (.some (75, .true))⟩, ⟨(.some 78), (.fadr 1 1 1 (.t 8)), (.some (75, .true))⟩, ⟨(.some 79), (.load .false 1 (.t 78)), (.some (75, .true))⟩, ⟨(.some 80), (.bin .eql (.t 77) (.t 79)), (.some (75, .true))⟩, ⟨(.some 81), (.pick (.t 75) (.t 80) (.c (.sc (.bool .false)))), .none⟩, ⟨(.some 82), (.mv (.t 81)), .none⟩, ⟨(.some 83), (.fadr 4 4 1 (.t 7)), (.some (82, .true))⟩, ⟨(.some 84), (.load .false 1 (.t 83)), (.some (82, .true))⟩, ⟨(.some 85), (.fadr 4 78 1 (.t 3)), (.some (82, .true))⟩, ⟨(.some 86), (.load .false 1 (.t 85)), (.some (82, .true))⟩, ⟨(.some 87), (.iadr .none 1 (.t 86) (.c (.sc (.int .i64 0)))), (.some (82, .true))⟩, ⟨(.some 88), (.load .false 1 (.t 87)), (.some (82, .true))⟩, ⟨(.some 89), (.fadr 1 1 1 (.t 8)), (.some (82, .true))⟩, ⟨(.some 90), (.load .false 1 (.t 89)), (.some (82, .true))⟩, ⟨(.some 91), (.call 20 [(.t 88), (.t 90)]), (.some (82, .true))⟩, ⟨(.some 92), (.bin .eql (.t 84) (.t 91)), (.some (82, .true))⟩, ⟨(.some 93), (.pick (.t 82) (.t 92) (.c (.sc (.bool .false)))), .none⟩, ⟨(.some 94), (.mv (.t 93)), .none⟩, ⟨(.some 95), (.fadr 8 82 1 (.t 6)), (.some (94, .true))⟩, ⟨(.some 96), (.load .false 1 (.t 95)), (.some (94, .true))⟩, ⟨(.some 97), (.iadr .none 5 (.t 96) (.c (.sc (.int .i64 0)))), (.some (94, .true))⟩, ⟨(.some 98), (.fadr 3 3 1 (.t 97)), (.some (94, .true))⟩, ⟨(.some 99), (.load .false 1 (.t 98)), (.some (94, .true))⟩, ⟨(.some 100), (.pick (.t 94) (.t 99) (.c (.sc (.bool .false)))), .none⟩, ⟨(.some 101), (.mv (.t 100)), .none⟩, ⟨(.some 102), (.fadr 8 82 1 (.t 6)), (.some (101, .true))⟩, ⟨(.some 103), (.load .false 1 (.t 102)), (.some (101, .true))⟩, ⟨(.some 104), (.iadr .none 5 (.t 103) (.c (.sc (.int .i64 0)))), (.some (101, .true))⟩, ⟨(.some 105), (.fadr 4 4 1 (.t 104)), (.some (101, .true))⟩, ⟨(.some 106), (.load .false 1 (.t 105)), (.some (101, .true))⟩, ⟨(.some 107), (.fadr 4 4 1 (.t 7)), (.some (101, .true))⟩, ⟨(.some 108), (.load .false 1 (.t 107)), (.some (101, .true))⟩, ⟨(.some 109), (.bin .eql (.t 106) (.t 108)), (.some (101, .true))⟩, ⟨(.some 110), (.pick (.t 101) (.t 109) (.c (.sc (.bool .false)))), .none⟩, ⟨(.some 111), (.mv (.t 110)), .none⟩, ⟨(.some 112), (.load .true 12 (.t 2)), (.some (111, .true))⟩, ⟨(.some 113), (.load .true 92 (.t 6)), (.some (111, .true))⟩, ⟨(.some 114), (.call 14 [(.t 112), (.t 113)]), (.some (111, .true))⟩, ⟨(.some 115), (.un .not (.t 114)), (.some (111, .true))⟩, ⟨(.some 116), (.pick (.t 111) (.t 115) (.c (.sc (.bool .false)))), .none⟩, ⟨(.some 117), (.mv (.t 116)), .none⟩, ⟨(.some 118), (.load .true 12 (.t 2)), (.some (117, .true))⟩, ⟨(.some 119), (.load .true 92 (.t 6)), (.some (117, .true))⟩, ⟨(.some 120), (.callq 18 [(.t 119)]), (.some (117, .true))⟩, ⟨(.some 121), (.call 17 [(.t 118), (.t 120)]), (.some (117, .true))⟩, ⟨(.some 122), (.load .true 92 (.t 6)), (.some (117, .true))⟩, ⟨(.some 123), (.call 16 [(.t 121), (.t 122)]), (.some (117, .true))⟩, ⟨(.some 124), (.pick (.t 117) (.t 123) (.c (.sc (.bool .false)))), .none⟩, ⟨(.some 4), (.mv (.t 124)), .none⟩]) .ret))))))))
theorem t_law23_CommitOne : trF Try.prog qq 4 = some (125, [(.tmp 4)], c_law23_CommitOne) := by kernel_rfl
def c_law23_CommitTraps : AC := (.seq (.ops [⟨(.some 10), (.mv (.c (.sc (.bool .false)))), .none⟩]) (.seq (.ops [⟨(.some 15), (.call 12 []), .none⟩, ⟨(.some 11), (.mv (.t 15)), .none⟩]) (.seq (.seq (.ops [⟨(.some 16), (.mv (.t 11)), .none⟩, ⟨(.some 17), (.un .not (.t 16)), .none⟩, ⟨(.some 18), (.mv (.t 17)), .none⟩, ⟨(.some 19), (.mv (.t 0)), (.some (18, .false))⟩, ⟨(.some 20), (.bin .lss (.t 19) (.c (.sc (.int .i64 0)))), (.some (18, .false))⟩, ⟨(.some 21), (.pick (.t 18) (.c (.sc (.bool .true))) (.t 20)), .none⟩, ⟨(.some 22), (.mv (.t 21)), .none⟩, ⟨(.some 23), (.mv (.t 0)), (.some (22, .false))⟩, ⟨(.some 24), (.bin .gtr (.t 23) (.c (.sc (.int .i64 1000)))), (.some (22, .false))⟩, ⟨(.some 25), (.pick (.t 22) (.c (.sc (.bool .true))) (.t 24)), .none⟩, ⟨(.some 26), (.mv (.t 25)), .none⟩, ⟨(.some 27), (.mv (.t 1)), (.some (26, .false))⟩, ⟨(.some 28), (.bin .lss (.t 27) (.c (.sc (.int .i64 0)))), (.some (26, .false))⟩, ⟨(.some 29), (.pick (.t 26) (.c (.sc (.bool .true))) (.t 28)), .none⟩, ⟨(.some 30), (.mv (.t 29)), .none⟩, ⟨(.some 31), (.mv (.t 1)), (.some (30, .false))⟩, ⟨(.some 32), (.bin .gtr (.t 31) (.c (.sc (.int .i64 1000)))), (.some (30, .false))⟩, ⟨(.some 33), (.pick (.t 30) (.c (.sc (.bool .true))) (.t 32)), .none⟩, ⟨(.some 34), (.mv (.t 33)), .none⟩, ⟨(.some 35), (.mv (.t 2)), (.some (34, .false))⟩, ⟨(.some 36), (.bin .lss (.t 35) (.c (.sc (.int .i64 0)))), (.some (34, .false))⟩, ⟨(.some 37), (.pick (.t 34) (.c (.sc (.bool .true))) (.t 36)), .none⟩, ⟨(.some 38), (.mv (.t 37)), .none⟩, ⟨(.some 39), (.mv (.t 2)), (.some (38, .false))⟩, ⟨(.some 40), (.bin .gtr (.t 39) (.c (.sc (.int .i64 1000)))), (.some (38, .false))⟩, ⟨(.some 41), (.pick (.t 38) (.c (.sc (.bool .true))) (.t 40)), .none⟩, ⟨(.some 42), (.mv (.t 41)), .none⟩, ⟨(.some 43), (.mv (.t 3)), (.some (42, .false))⟩, ⟨(.some 44), (.bin .lss (.t 43) (.c (.sc (.int .i64 (-8))))), (.some (42, .false))⟩, ⟨(.some 45), (.pick (.t 42) (.c (.sc (.bool .true))) (.t 44)), .none⟩, ⟨(.some 46), (.mv (.t 45)), .none⟩, ⟨(.some 47), (.mv (.t 3)), (.some (46, .false))⟩, ⟨(.some 48), (.bin .gtr (.t 47) (.c (.sc (.int .i64 8)))), (.some (46, .false))⟩, ⟨(.some 49), (.pick (.t 46) (.c (.sc (.bool .true))) (.t 48)), .none⟩]) (.cond (.t 49) (.seq (.ops [⟨(.some 50), (.mv (.t 11)), .none⟩, ⟨(.some 10), (.mv (.t 50)), .none⟩]) .ret) .skip)) (.seq (.ops [⟨(.some 51), (.build 12 [(.sc (.int .i64 0)), (.sc (.int .i64 0)), (.sc (.int .i64 0)), (.sc (.int .i64 0)), (.sc (.int .i64 0)), (.sc (.int .i64 0)), (.sc (.int .i64 0)), (.sc (.int .i64 0)), (.sc (.int .i64 0)), (.sc (.int .i64 0)), (.sc (.int .i64 0)), (.sc (.int .i64 0))] [(7, (.c (.sc (.int .i64 9))))]), .none⟩, ⟨(.some 12), (.box (.c (.agg 12 [(.sc (.int .i64 0)), (.sc (.int .i64 0)), (.sc (.int .i64 0)), (.sc (.int .i64 0)), (.sc (.int .i64 0)), (.sc (.int .i64 0)), (.sc (.int .i64 0)), (.sc (.int .i64 0)), (.sc (.int .i64 0)), (.sc (.int .i64 0)), (.sc (.int .i64 0)), (.sc (.int .i64 0))]))), .none⟩, ⟨.none, (.store 12 (.t 12) (.t 51)), .none⟩]) (.seq (.ops [⟨(.some 52), (.mv (.t 2)), .none⟩, ⟨(.some 53), (.mv (.t 0)), .none⟩, ⟨(.some 54), (.build 5 [(.sc (.int .i64 0)), (.sc (.int .i64 0)), (.sc (.int .i64 0)), (.sc (.bool .false)), (.sc (.int .u32 0))] [(0, (.t 52)), (1, (.c (.sc (.int .i64 4)))), (2, (.t 53))]), .none⟩, ⟨(.some 55), (.bsl 5 [(.t 54)]), .none⟩, ⟨(.some 56), (.mv (.t 4)), .none⟩, ⟨(.some 57), (.bsl 1 [(.t 56)]), .none⟩, ⟨(.some 58), (.mv (.t 2)), .none⟩, ⟨(.some 59), (.mv (.t 3)), .none⟩, ⟨(.some 60), (.bin .add (.t 58) (.t 59)), .none⟩, ⟨(.some 61), (.build 8 [(.sc (.bool .false)), (.sc (.int .i64 0)), (.sc (.int .i64 0)), (.sc (.int .i64 0)), (.sc (.int .u32 0)), (.sc (.int .i64 0)), (.sc (.int .i64 0)), (.sc (.int .i64 0))] [(1, (.c (.sc (.int .i64 27)))), (2, (.t 60)), (3, (.c (.sc (.int .i64 2))))]), .none⟩, ⟨(.some 62), (.bsl 8 [(.t 61)]), .none⟩, ⟨(.some 63), (.build 92 [(.sc (.int .i64 0)), (.agg 38 [(.arr 16 1 [(.sc (.int .u32 0)), (.sc (.int .u32 0)), (.sc (.int .u32 0)), (.sc (.int .u32 0)), (.sc (.int .u32 0)), (.sc (.int .u32 0)), (.sc (.int .u32 0)), (.sc (.int .u32 0)), (.sc (.int .u32 0)), (.sc (.int .u32 0)), (.sc (.int .u32 0)), (.sc (.int .u32 0)), (.sc (.int .u32 0)), (.sc (.int .u32 0)), (.sc (.int .u32 0)), (.sc (.int .u32 0))]), (.arr 16 1 [(.sc (.int .i64 0)), (.sc (.int .i64 0)), (.sc (.int .i64 0)), (.sc (.int .i64 0)), (.sc (.int .i64 0)), (.sc (.int .i64 0)), (.sc (.int .i64 0)), (.sc (.int .i64 0)), (.sc (.int .i64 0)), (.sc (.int .i64 0)), (.sc (.int .i64 0)), (.sc (.int .i64 0)), (.sc (.int .i64 0)), (.sc (.int .i64 0)), (.sc (.int .i64 0)), (.sc (.int .i64 0))]), (.agg 3 [(.sc (.int .i64 0)), (.sc (.int .i64 0)), (.sc (.int .i64 0))]), (.sc (.int .i64 0)), (.sc (.bool .false)), (.sc (.int .i64 0))]), (.agg 38 [(.arr 16 1 [(.sc (.int .u32 0)), (.sc (.int .u32 0)), (.sc (.int .u32 0)), (.sc (.int .u32 0)), (.sc (.int .u32 0)), (.sc (.int .u32 0)), (.sc (.int .u32 0)), (.sc (.int .u32 0)), (.sc (.int .u32 0)), (.sc (.int .u32 0)), (.sc (.int .u32 0)), (.sc (.int .u32 0)), (.sc (.int .u32 0)), (.sc (.int .u32 0)), (.sc (.int .u32 0)), (.sc (.int .u32 0))]), (.arr 16 1 [(.sc (.int .i64 0)), (.sc (.int .i64 0)), (.sc (.int .i64 0)), (.sc (.int .i64 0)), (.sc (.int .i64 0)), (.sc (.int .i64 0)), (.sc (.int .i64 0)), (.sc (.int .i64 0)), (.sc (.int .i64 0)), (.sc (.int .i64 0)), (.sc (.int .i64 0)), (.sc (.int .i64 0)), (.sc (.int .i64 0)), (.sc (.int .i64 0)), (.sc (.int .i64 0)), (.sc (.int .i64 0))]), (.agg 3 [(.sc (.int .i64 0)), (.sc (.int .i64 0)), (.sc (.int .i64 0))]), (.sc (.int .i64 0)), (.sc (.bool .false)), (.sc (.int .i64 0))]), (.fro .true 0 []), (.fro .true 0 []), (.fro .true 0 []), (.fro .true 0 []), (.fro .true 0 []), (.fro .true 0 []), (.fro .true 0 []), (.fro .true 0 []), (.fro .true 0 []), (.agg 3 [(.sc (.int .i64 0)), (.sc (.int .i64 0)), (.sc (.int .i64 0))]), (.sc (.int .i64 0)), (.sc (.int .i64 0)), (.sc (.int .i64 0))] [(8, (.t 55)), (4, (.t 57)), (9, (.t 62))]), .none⟩, ⟨(.some 13), (.box (.c (.agg 92 [(.sc (.int .i64 0)), (.agg 38 [(.arr 16 1 [(.sc (.int .u32 0)), (.sc (.int .u32 0)), (.sc (.int .u32 0)), (.sc (.int .u32 0)), (.sc (.int .u32 0)), (.sc (.int .u32 0)), (.sc (.int .u32 0)), (.sc (.int .u32 0)), (.sc (.int .u32 0)), (.sc (.int .u32 0)), (.sc (.int .u32 0)), (.sc (.int .u32 0)), (.sc (.int .u32 0)), (.sc (.int .u32 0)), (.sc (.int .u32 0)), (.sc (.int .u32 0))]), (.arr 16 1 [(.sc (.int .i64 0)), (.sc (.int .i64 0)), (.sc (.int .i64 0)), (.sc (.int .i64 0)), (.sc (.int .i64 0)), (.sc (.int .i64 0)), (.sc (.int .i64 0)), (.sc (.int .i64 0)), (.sc (.int .i64 0)), (.sc (.int .i64 0)), (.sc (.int .i64 0)), (.sc (.int .i64 0)), (.sc (.int .i64 0)), (.sc (.int .i64 0)), (.sc (.int .i64 0)), (.sc (.int .i64 0))]), (.agg 3 [(.sc (.int .i64 0)), (.sc (.int .i64 0)), (.sc (.int .i64 0))]), (.sc (.int .i64 0)), (.sc (.bool .false)), (.sc (.int .i64 0))]), (.agg 38 [(.arr 16 1 [(.sc (.int .u32 0)), (.sc (.int .u32 0)), (.sc (.int .u32 0)), (.sc (.int .u32 0)), (.sc (.int .u32 0)), (.sc (.int .u32 0)), (.sc (.int .u32 0)), (.sc (.int .u32 0)), (.sc (.int .u32 0)), (.sc (.int .u32 0)), (.sc (.int .u32 0)), (.sc (.int .u32 0)), (.sc (.int .u32 0)), (.sc (.int .u32 0)), (.sc (.int .u32 0)), (.sc (.int .u32 0))]), (.arr 16 1 [(.sc (.int .i64 0)), (.sc (.int .i64 0)), (.sc (.int .i64 0)), (.sc (.int .i64 0)), (.sc (.int .i64 0)), (.sc (.int .i64 0)), (.sc (.int .i64 0)), (.sc (.int .i64 0)), (.sc (.int .i64 0)), (.sc (.int .i64 0)), (.sc (.int .i64 0)), (.sc (.int .i64 0)), (.sc (.int .i64 0)), (.sc (.int .i64 0)), (.sc (.int .i64 0)), (.sc (.int .i64 0))]), (.agg 3 [(.sc (.int .i64 0)), (.sc (.int .i64 0)), (.sc (.int .i64 0))]), (.sc (.int .i64 0)), (.sc (.bool .false)), (.sc (.int .i64 0))]), (.fro .true 0 []), (.fro .true 0 []), (.fro .true 0 []), (.fro .true 0 []), (.fro .true 0 []), (.fro .true 0 []), (.fro .true 0 []), (.fro .true 0 []), (.fro .true 0 []), (.agg 3 [(.sc (.int .i64 0)), (.sc (.int .i64 0)), (.sc (.int .i64 0))]), (.sc (.int .i64 0)), (.sc (.int .i64 0)), (.sc (.int .i64 0))]))), .none⟩, ⟨.none, (.store 92 (.t 13) (.t 63)), .none⟩]) (.seq (.ops [⟨(.some 64), (.mv (.t 3)), .none⟩, ⟨(.some 65), (.bin .geq (.t 64) (.c (.sc (.int .i64 4)))), .none⟩, ⟨(.some 66), (.mv (.t 65)), .none⟩, ⟨(.some 67), (.mv (.t 3)), (.some (66, .false))⟩, ⟨(.some 68), (.bin .leq (.t 67) (.c (.sc (.int .i64 (-2))))), (.some (66, .false))⟩, ⟨(.some 69), (.pick (.t 66) (.c (.sc (.bool .true))) (.t 68)), .none⟩, ⟨(.some 14), (.mv (.t 69)), .none⟩]) (.seq (.seq (.ops [⟨(.some 70), (.load .true 12 (.t 12)), .none⟩, ⟨(.some 71), (.load .true 92 (.t 13)), .none⟩, ⟨(.some 72), (.call 14 [(.t 70), (.t 71)]), .none⟩, ⟨(.some 73), (.mv (.t 14)), .none⟩, ⟨(.some 74), (.eqs .true .bool (.t 72) (.t 73)), .none⟩]) (.cond (.t 74) (.seq (.ops [⟨(.some 10), (.mv (.c (.sc (.bool .false)))), .none⟩]) .ret) .skip)) (.seq (.ops [⟨(.some 75), (.mv (.t 1)), .none⟩, ⟨(.some 76), (.build 3 [(.sc (.int .i64 0)), (.sc (.int .i64 0)), (.sc (.int .i64 0))] [(0, (.c (.sc (.int .i64 3)))), (1, (.t 75))]), .none⟩, ⟨(.some 77), (.fadr 12 86 3 (.t 13)), .none⟩, ⟨.none, (.store 3 (.t 77) (.t 76)), .none⟩]) (.seq (.ops [⟨(.some 78), (.load .true 12 (.t 12)), .none⟩, ⟨(.some 79), (.load .true 92 (.t 13)), .none⟩, ⟨(.some 80), (.call 14 [(.t 78), (.t 79)]), .none⟩, ⟨(.some 81), (.mv (.t 14)), .none⟩, ⟨(.some 82), (.mv (.t 81)), .none⟩, ⟨(.some 83), (.mv (.t 0)), (.some (82, .true))⟩, ⟨(.some 84), (.mv (.t 1)), (.some (82, .true))⟩, ⟨(.some 85), (.bin .lss (.t 83) (.t 84)), (.some (82, .true))⟩, ⟨(.some 86), (.pick (.t 82) (.t 85) (.c (.sc (.bool .false)))), .none⟩, ⟨(.some 87), (.eqs .false .bool (.t 80) (.t 86)), .none⟩, ⟨(.some 10), (.mv (.t 87)), .none⟩]) .ret)))))))))
theorem t_law23_CommitTraps : trF Try.prog qq 5 = some (88, [(.tmp 10)], c_law23_CommitTraps) := by kernel_rfl
def c_law23_CommitSizes_l1 : AC := (.seq (.seq (.ops [⟨(.some 58), (.mv (.t 13)), .none⟩, ⟨(.some 59), (.mv (.t 2)), .none⟩, ⟨(.some 60), (.bin .lss (.t 58) (.t 59)), .none⟩]) (.cond (.t 60) .skip (.exit 0))) (.seq (.block 1 (.ops [⟨(.some 63), (.fadr 9 83 1 (.t 12)), .none⟩, ⟨(.some 64), (.load .false 1 (.t 63)), .none⟩, ⟨(.some 65), (.mv (.t 13)), .none⟩, ⟨(.some 66), (.bin .mul (.c (.sc (.int .i64 4))) (.t 65)), .none⟩, ⟨(.some 67), (.bin .add (.c (.sc (.int .i64 5000))) (.t 66)), .none⟩, ⟨(.some 68), (.build 8 [(.sc (.bool .false)), (.sc (.int .i64 0)), (.sc (.int .i64 0)), (.sc (.int .i64 0)), (.sc (.int .u32 0)), (.sc (.int .i64 0)), (.sc (.int .i64 0)), (.sc (.int .i64 0))] [(1, (.c (.sc (.int .i64 26)))), (2, (.t 67)), (3, (.c (.sc (.int .i64 4))))]), .none⟩, ⟨(.some 69), (.bsl 8 [(.t 68)]), .none⟩, ⟨(.some 70), (.app 8 64 (.t 64) (.t 69)), .none⟩, ⟨(.some 71), (.fadr 9 83 1 (.t 12)), .none⟩, ⟨.none, (.store 1 (.t 71) (.t 70)), .none⟩])) (.ops [⟨(.some 61), (.mv (.t 13)), .none⟩, ⟨(.some 62), (.bin .add (.t 61) (.c (.sc (.int .i64 1)))), .none⟩, ⟨(.some 13), (.mv (.t 62)), .none⟩])))
def c_law23_CommitSizes_p1 : AC := (.seq (.seq .frz (.ops [⟨(.some 72), (.load .true 12 (.t 11)), .none⟩, ⟨(.some 73), (.load .true 92 (.t 12)), .none⟩, ⟨(.some 74), (.callq 18 [(.t 73)]), .none⟩, ⟨(.some 75), (.call 17 [(.t 72), (.t 74)]), .none⟩, ⟨(.some 14), (.box (.c (.agg 92 [(.sc (.int .i64 0)), (.agg 38 [(.arr 16 1 [(.sc (.int .u32 0)), (.sc (.int .u32 0)), (.sc (.int .u32 0)), (.sc (.int .u32 0)), (.sc (.int .u32 0)), (.sc (.int .u32 0)), (.sc (.int .u32 0)), (.sc (.int .u32 0)), (.sc (.int .u32 0)), (.sc (.int .u32 0)), (.sc (.int .u32 0)), (.sc (.int .u32 0)), (.sc (.int .u32 0)), (.sc (.int .u32 0)), (.sc (.int .u32 0)), (.sc (.int .u32 0))]), (.arr 16 1 [(.sc (.int .i64 0)), (.sc (.int .i64 0)), (.sc (.int .i64 0)), (.sc (.int .i64 0)), (.sc (.int .i64 0)), (.sc (.int .i64 0)), (.sc (.int .i64 0)), (.sc (.int .i64 0)), (.sc (.int .i64 0)), (.sc (.int .i64 0)), (.sc (.int .i64 0)), (.sc (.int .i64 0)), (.sc (.int .i64 0)), (.sc (.int .i64 0)), (.sc (.int .i64 0)), (.sc (.int .i64 0))]), (.agg 3 [(.sc (.int .i64 0)), (.sc (.int .i64 0)), (.sc (.int .i64 0))]), (.sc (.int .i64 0)), (.sc (.bool .false)), (.sc (.int .i64 0))]), (.agg 38 [(.arr 16 1 [(.sc (.int .u32 0)), (.sc (.int .u32 0)), (.sc (.int .u32 0)), (.sc (.int .u32 0)), (.sc (.int .u32 0)), (.sc (.int .u32 0)), (.sc (.int .u32 0)), (.sc (.int .u32 0)), (.sc (.int .u32 0)), (.sc (.int .u32 0)), (.sc (.int .u32 0)), (.sc (.int .u32 0)), (.sc (.int .u32 0)), (.sc (.int .u32 0)), (.sc (.int .u32 0)), (.sc (.int .u32 0))]), (.arr 16 1 [(.sc (.int .i64 0)), (.sc (.int .i64 0)), (.sc (.int .i64 0)), (.sc (.int .i64 0)), (.sc (.int .i64 0)), (.sc (.int .i64 0)), (.sc (.int .i64 0)), (.sc (.int .i64 0)), (.sc (.int .i64 0)), (.sc (.int .i64 0)), (.sc (.int .i64 0)), (.sc (.int .i64 0)), (.sc (.int .i64 0)), (.sc (.int .i64 0)), (.sc (.int .i64 0)), (.sc (.int .i64 0))]), (.agg 3 [(.sc (.int .i64 0)), (.sc (.int .i64 0)), (.sc (.int .i64 0))]), (.sc (.int .i64 0)), (.sc (.bool .false)), (.sc (.int .i64 0))]), (.fro .true 0 []), (.fro .true 0 []), (.fro .true 0 []), (.fro .true 0 []), (.fro .true 0 []), (.fro .true 0 []), (.fro .true 0 []), (.fro .true 0 []), (.fro .true 0 []), (.agg 3 [(.sc (.int .i64 0)), (.sc (.int .i64 0)), (.sc (.int .i64 0))]), (.sc (.int .i64 0)), (.sc (.int .i64 0)), (.sc (.int .i64 0))]))), .none⟩, ⟨.none, (.store 92 (.t 14) (.t 75)), .none⟩])) (.seq (.seq (.ops [⟨(.some 76), (.mv (.t 2)), .none⟩, ⟨(.some 77), (.bin .geq (.t 76) (.c (.sc (.int .i64 4)))), .none⟩]) (.cond (.t 77) (.seq (.ops [⟨(.some 78), (.load .true 92 (.t 14)), .none⟩, ⟨(.some 79), (.load .true 92 (.t 12)), .none⟩, ⟨(.some 80), (.call 16 [(.t 78), (.t 79)]), .none⟩, ⟨(.some 8), (.mv (.t 80)), .none⟩]) .ret) .skip)) (.seq (.ops [⟨(.some 81), (.load .true 92 (.t 12)), .none⟩, ⟨(.some 82), (.callq 18 [(.t 81)]), .none⟩, ⟨(.some 15), (.box (.c (.agg 92 [(.sc (.int .i64 0)), (.agg 38 [(.arr 16 1 [(.sc (.int .u32 0)), (.sc (.int .u32 0)), (.sc (.int .u32 0)), (.sc (.int .u32 0)), (.sc (.int .u32 0)), (.sc (.int .u32 0)), (.sc (.int .u32 0)), (.sc (.int .u32 0)), (.sc (.int .u32 0)), (.sc (.int .u32 0)), (.sc (.int .u32 0)), (.sc (.int .u32 0)), (.sc (.int .u32 0)), (.sc (.int .u32 0)), (.sc (.int .u32 0)), (.sc (.int .u32 0))]), (.arr 16 1 [(.sc (.int .i64 0)), (.sc (.int .i64 0)), (.sc (.int .i64 0)), (.sc (.int .i64 0)), (.sc (.int .i64 0)), (.sc (.int .i64 0)), (.sc (.int .i64 0)), (.sc (.int .i64 0)), (.sc (.int .i64 0)), (.sc (.int .i64 0)), (.sc (.int .i64 0)), (.sc (.int .i64 0)), (.sc (.int .i64 0)), (.sc (.int .i64 0)), (.sc (.int .i64 0)), (.sc (.int .i64 0))]), (.agg 3 [(.sc (.int .i64 0)), (.sc (.int .i64 0)), (.sc (.int .i64 0))]), (.sc (.int .i64 0)), (.sc (.bool .false)), (.sc (.int .i64 0))]), (.agg 38 [(.arr 16 1 [(.sc (.int .u32 0)), (.sc (.int .u32 0)), (.sc (.int .u32 0)), (.sc (.int .u32 0)), (.sc (.int .u32 0)), (.sc (.int .u32 0)), (.sc (.int .u32 0)), (.sc (.int .u32 0)), (.sc (.int .u32 0)), (.sc (.int .u32 0)), (.sc (.int .u32 0)), (.sc (.int .u32 0)), (.sc (.int .u32 0)), (.sc (.int .u32 0)), (.sc (.int .u32 0)), (.sc (.int .u32 0))]), (.arr 16 1 [(.sc (.int .i64 0)), (.sc (.int .i64 0)), (.sc (.int .i64 0)), (.sc (.int .i64 0)), (.sc (.int .i64 0)), (.sc (.int .i64 0)), (.sc (.int .i64 0)), (.sc (.int .i64 0)), (.sc (.int .i64 0)), (.sc (.int .i64 0)), (.sc (.int .i64 0)), (.sc (.int .i64 0)), (.sc (.int .i64 0)), (.sc (.int .i64 0)), (.sc (.int .i64 0)), (.sc (.int .i64 0))]), (.agg 3 [(.sc (.int .i64 0)), (.sc (.int .i64 0)), (.sc (.int .i64 0))]), (.sc (.int .i64 0)), (.sc (.bool .false)), (.sc (.int .i64 0))]), (.fro .true 0 []), (.fro .true 0 []), (.fro .true 0 []), (.fro .true 0 []), (.fro .true 0 []), (.fro .true 0 []), (.fro .true 0 []), (.fro .true 0 []), (.fro .true 0 []), (.agg 3 [(.sc (.int .i64 0)), (.sc (.int .i64 0)), (.sc (.int .i64 0))]), (.sc (.int .i64 0)), (.sc (.int .i64 0)), (.sc (.int .i64 0))]))), .none⟩, ⟨.none, (.store 92 (.t 15) (.t 82)), .none⟩]) (.seq (.ops [⟨(.some 83), (.fadr 4 78 1 (.t 15)), .none⟩, ⟨.none, (.store 1 (.t 83) (.c (.fro .true 0 []))), .none⟩]) (.seq (.ops [⟨(.some 84), (.load .true 12 (.t 11)), .none⟩, ⟨(.some 85), (.load .true 92 (.t 15)), .none⟩, ⟨(.some 86), (.call 17 [(.t 84), (.t 85)]), .none⟩, ⟨(.some 16), (.box (.c (.agg 92 [(.sc (.int .i64 0)), (.agg 38 [(.arr 16 1 [(.sc (.int .u32 0)), (.sc (.int .u32 0)), (.sc (.int .u32 0)), (.sc (.int .u32 0)), (.sc (.int .u32 0)), (.sc (.int .u32 0)), (.sc (.int .u32 0)), (.sc (.int .u32 0)), (.sc (.int .u32 0)), (.sc (.int .u32 0)), (.sc (.int .u32 0)), (.sc (.int .u32 0)), (.sc (.int .u32 0)), (.sc (.int .u32 0)), (.sc (.int .u32 0)), (.sc (.int .u32 0))]), (.arr 16 1 [(.sc (.int .i64 0)), (.sc (.int .i64 0)), (.sc (.int .i64 0)), (.sc (.int .i64 0)), (.sc (.int .i64 0)), (.sc (.int .i64 0)), (.sc (.int .i64 0)), (.sc (.int .i64 0)), (.sc (.int .i64 0)), (.sc (.int .i64 0)), (.sc (.int .i64 0)), (.sc (.int .i64 0)), (.sc (.int .i64 0)), (.sc (.int .i64 0)), (.sc (.int .i64 0)), (.sc (.int .i64 0))]), (.agg 3 [(.sc (.int .i64 0)), (.sc (.int .i64 0)), (.sc (.int .i64 0))]), (.sc (.int .i64 0)), (.sc (.bool .false)), (.sc (.int .i64 0))]), (.agg 38 [(.arr 16 1 [(.sc (.int .u32 0)), (.sc (.int .u32 0)), (.sc (.int .u32 0)), (.sc (.int .u32 0)), (.sc (.int .u32 0)), (.sc (.int .u32 0)), (.sc (.int .u32 0)), (.sc (.int .u32 0)), (.sc (.int .u32 0)), (.sc (.int .u32 0)), (.sc (.int .u32 0)), (.sc (.int .u32 0)), (.sc (.int .u32 0)), (.sc (.int .u32 0)), (.sc (.int .u32 0)), (.sc (.int .u32 0))]), (.arr 16 1 [(.sc (.int .i64 0)), (.sc (.int .i64 0)), (.sc (.int .i64 0)), (.sc (.int .i64 0)), (.sc (.int .i64 0)), (.sc (.int .i64 0)), (.sc (.int .i64 0)), (.sc (.int .i64 0)), (.sc (.int .i64 0)), (.sc (.int .i64 0)), (.sc (.int .i64 0)), (.sc (.int .i64 0)), (.sc (.int .i64 0)), (.sc (.int .i64 0)), (.sc (.int .i64 0)), (.sc (.int .i64 0))]), (.agg 3 [(.sc (.int .i64 0)), (.sc (.int .i64 0)), (.sc (.int .i64 0))]), (.sc (.int .i64 0)), (.sc (.bool .false)), (.sc (.int .i64 0))]), (.fro .true 0 []), (.fro .true 0 []), (.fro .true 0 []), (.fro .true 0 []), (.fro .true 0 []), (.fro .true 0 []), (.fro .true 0 []), (.fro .true 0 []), (.fro .true 0 []), (.agg 3 [(.sc (.int .i64 0)), (.sc (.int .i64 0)), (.sc (.int .i64 0))]), (.sc (.int .i64 0)), (.sc (.int .i64 0)), (.sc (.int .i64 0))]))), .none⟩, ⟨.none, (.store 92 (.t 16) (.t 86)), .none⟩]) (.seq (.ops [⟨(.some 87), (.bsl 1 [(.c (.sc (.int .i64 31))), (.c (.sc (.int .i64 32))), (.c (.sc (.int .i64 33)))]), .none⟩, ⟨(.some 88), (.mv (.t 1)), .none⟩, ⟨(.some 89), (.iadr .none 1 (.t 87) (.t 88)), .none⟩, ⟨(.some 90), (.load .false 1 (.t 89)), .none⟩, ⟨(.some 91), (.mv (.t 0)), .none⟩, ⟨(.some 92), (.mv (.t 10)), .none⟩, ⟨(.some 93), (.mv (.t 3)), .none⟩, ⟨(.some 94), (.mv (.t 10)), .none⟩, ⟨(.some 95), (.call 20 [(.t 93), (.t 94)]), .none⟩, ⟨(.some 96), (.build 8 [(.sc (.bool .false)), (.sc (.int .i64 0)), (.sc (.int .i64 0)), (.sc (.int .i64 0)), (.sc (.int .u32 0)), (.sc (.int .i64 0)), (.sc (.int .i64 0)), (.sc (.int .i64 0))] [(0, (.c (.sc (.bool .true)))), (1, (.t 90)), (2, (.t 91)), (3, (.t 92)), (4, (.t 95))]), .none⟩, ⟨(.some 17), (.box (.c (.agg 8 [(.sc (.bool .false)), (.sc (.int .i64 0)), (.sc (.int .i64 0)), (.sc (.int .i64 0)), (.sc (.int .u32 0)), (.sc (.int .i64 0)), (.sc (.int .i64 0)), (.sc (.int .i64 0))]))), .none⟩, ⟨.none, (.store 8 (.t 17) (.t 96)), .none⟩]) (.seq (.ops [⟨(.some 97), (.fadr 9 83 1 (.t 16)), .none⟩, ⟨(.some 98), (.load .false 1 (.t 97)), .none⟩, ⟨(.some 99), (.len .none (.t 98)), .none⟩, ⟨(.some 100), (.mv (.t 2)), .none⟩, ⟨(.some 101), (.bin .eql (.t 99) (.t 100)), .none⟩, ⟨(.some 102), (.mv (.t 101)), .none⟩, ⟨(.some 103), (.fadr 9 83 1 (.t 14)), (.some (102, .true))⟩, ⟨(.some 104), (.load .false 1 (.t 103)), (.some (102, .true))⟩, ⟨(.some 105), (.len .none (.t 104)), (.some (102, .true))⟩, ⟨(.some 106), (.mv (.t 2)), (.some (102, .true))⟩, ⟨(.some 107), (.bin .add (.t 106) (.c (.sc (.int .i64 1)))), (.some (102, .true))⟩, ⟨(.some 108), (.bin .eql (.t 105) (.t 107)), (.some (102, .true))⟩, ⟨(.some 109), (.pick (.t 102) (.t 108) (.c (.sc (.bool .false)))), .none⟩, ⟨(.some 110), (.mv (.t 109)), .none⟩, ⟨(.some 111), (.fadr 9 83 1 (.t 14)), (.some (110, .true))⟩, ⟨(.some 112), (.load .false 1 (.t 111)), (.some (110, .true))⟩, ⟨(.some 113), (.mv (.t 2)), (.some (110, .true))⟩, ⟨(.some 114), (.iadr .none 8 (.t 112) (.t 113)), (.some (110, .true))⟩, ⟨(.some 115), (.load .true 8 (.t 114)), (.some (110, .true))⟩, ⟨(.some 116), (.load .true 8 (.t 17)), (.some (110, .true))⟩, ⟨(.some 117), (.eqs .false (.agg [(1, .bool), (1, .int), (1, .int), (1, .int), (1, .int), (1, .int), (1, .int), (1, .int)]) (.t 115) (.t 116)), (.some (110, .true))⟩, ⟨(.some 118), (.pick (.t 110) (.t 117) (.c (.sc (.bool .false)))), .none⟩, ⟨(.some 119), (.mv (.t 118)), .none⟩, ⟨(.some 120), (.fadr 4 78 1 (.t 14)), (.some (119, .true))⟩, ⟨(.some 121), (.load .false 1 (.t 120)), (.some (119, .true))⟩, ⟨(.some 122), (.len .none (.t 121)), (.some (119, .true))⟩, ⟨(.some 123), (.bin .eql (.t 122) (.c (.sc (.int .i64 1)))), (.some (119, .true))⟩, ⟨(.some 124), (.pick (.t 119) (.t 123) (.c (.sc (.bool .false)))), .none⟩, ⟨(.some 125), (.mv (.t 124)), .none⟩, ⟨(.some 126), (.fadr 4 78 1 (.t 14)), (.some (125, .true))⟩, ⟨(.some 127), (.load .false 1 (.t 126)), (.some (125, .true))⟩, ⟨(.some 128), (.iadr .none 1 (.t 127) (.c (.sc (.int .i64 0)))), (.some (125, .true))⟩, ⟨(.some 129), (.load .false 1 (.t 128)), (.some (125, .true))⟩, ⟨(.some 130), (.bin .eql (.t 129) (.c (.sc (.int .u32 7)))), (.some (125, .true))⟩, ⟨(.some 131), (.pick (.t 125) (.t 130) (.c (.sc (.bool .false)))), .none⟩, ⟨(.some 8), (.mv (.t 131)), .none⟩]) .ret)))))))
def c_law23_CommitSizes : AC := (.seq (.ops [⟨(.some 8), (.mv (.c (.sc (.bool .false)))), .none⟩]) (.seq (.ops [⟨(.some 18), (.call 12 []), .none⟩, ⟨(.some 9), (.mv (.t 18)), .none⟩]) (.seq (.seq (.ops [⟨(.some 19), (.mv (.t 9)), .none⟩, ⟨(.some 20), (.un .not (.t 19)), .none⟩, ⟨(.some 21), (.mv (.t 20)), .none⟩, ⟨(.some 22), (.mv (.t 0)), (.some (21, .false))⟩, ⟨(.some 23), (.bin .lss (.t 22) (.c (.sc (.int .i64 0)))), (.some (21, .false))⟩, ⟨(.some 24), (.pick (.t 21) (.c (.sc (.bool .true))) (.t 23)), .none⟩, ⟨(.some 25), (.mv (.t 24)), .none⟩, ⟨(.some 26), (.mv (.t 0)), (.some (25, .false))⟩, ⟨(.some 27), (.bin .gtr (.t 26) (.c (.sc (.int .i64 1000)))), (.some (25, .false))⟩, ⟨(.some 28), (.pick (.t 25) (.c (.sc (.bool .true))) (.t 27)), .none⟩, ⟨(.some 29), (.mv (.t 28)), .none⟩, ⟨(.some 30), (.mv (.t 1)), (.some (29, .false))⟩, ⟨(.some 31), (.bin .lss (.t 30) (.c (.sc (.int .i64 0)))), (.some (29, .false))⟩, ⟨(.some 32), (.pick (.t 29) (.c (.sc (.bool .true))) (.t 31)), .none⟩, ⟨(.some 33), (.mv (.t 32)), .none⟩, ⟨(.some 34), (.mv (.t 1)), (.some (33, .false))⟩, ⟨(.some 35), (.bin .gtr (.t 34) (.c (.sc (.int .i64 2)))), (.some (33, .false))⟩, ⟨(.some 36), (.pick (.t 33) (.c (.sc (.bool .true))) (.t 35)), .none⟩, ⟨(.some 37), (.mv (.t 36)), .none⟩, ⟨(.some 38), (.mv (.t 2)), (.some (37, .false))⟩, ⟨(.some 39), (.bin .lss (.t 38) (.c (.sc (.int .i64 0)))), (.some (37, .false))⟩, ⟨(.some 40), (.pick (.t 37) (.c (.sc (.bool .true))) (.t 39)), .none⟩, ⟨(.some 41), (.mv (.t 40)), .none⟩, ⟨(.some 42), (.mv (.t 2)), (.some (41, .false))⟩, ⟨(.some 43), (.bin .gtr (.t 42) (.c (.sc (.int .i64 5)))), (.some (41, .false))⟩, ⟨(.some 44), (.pick (.t 41) (.c (.sc (.bool .true))) (.t 43)), .none⟩]) (.cond (.t 44) (.seq (.ops [⟨(.some 45), (.mv (.t 9)), .none⟩, ⟨(.some 8), (.mv (.t 45)), .none⟩]) .ret) .skip)) (.seq (.ops [⟨(.some 46), (.bsl 1 [(.c (.sc (.int .i64 4))), (.c (.sc (.int .i64 2))), (.c (.sc (.int .i64 1)))]), .none⟩, ⟨(.some 47), (.mv (.t 1)), .none⟩, ⟨(.some 48), (.iadr .none 1 (.t 46) (.t 47)), .none⟩, ⟨(.some 49), (.load .false 1 (.t 48)), .none⟩, ⟨(.some 10), (.mv (.t 49)), .none⟩]) (.seq (.ops [⟨(.some 50), (.build 12 [(.sc (.int .i64 0)), (.sc (.int .i64 0)), (.sc (.int .i64 0)), (.sc (.int .i64 0)), (.sc (.int .i64 0)), (.sc (.int .i64 0)), (.sc (.int .i64 0)), (.sc (.int .i64 0)), (.sc (.int .i64 0)), (.sc (.int .i64 0)), (.sc (.int .i64 0)), (.sc (.int .i64 0))] [(7, (.c (.sc (.int .i64 4))))]), .none⟩, ⟨(.some 11), (.box (.c (.agg 12 [(.sc (.int .i64 0)), (.sc (.int .i64 0)), (.sc (.int .i64 0)), (.sc (.int .i64 0)), (.sc (.int .i64 0)), (.sc (.int .i64 0)), (.sc (.int .i64 0)), (.sc (.int .i64 0)), (.sc (.int .i64 0)), (.sc (.int .i64 0)), (.sc (.int .i64 0)), (.sc (.int .i64 0))]))), .none⟩, ⟨.none, (.store 12 (.t 11) (.t 50)), .none⟩]) (.seq (.ops [⟨(.some 51), (.mv (.t 0)), .none⟩, ⟨(.some 52), (.mv (.t 10)), .none⟩, ⟨(.some 53), (.build 5 [(.sc (.int .i64 0)), (.sc (.int .i64 0)), (.sc (.int .i64 0)), (.sc (.bool .false)), (.sc (.int .u32 0))] [(0, (.t 51)), (1, (.t 52)), (2, (.c (.sc (.int .i64 3))))]), .none⟩, ⟨(.some 54), (.bsl 5 [(.t 53)]), .none⟩, ⟨(.some 55), (.mv (.t 3)), .none⟩, ⟨(.some 56), (.bsl 1 [(.t 55), (.c (.sc (.int .u32 7)))]), .none⟩, ⟨(.some 57), (.build 92 [(.sc (.int .i64 0)), (.agg 38 [(.arr 16 1 [(.sc (.int .u32 0)), (.sc (.int .u32 0)), (.sc (.int .u32 0)), (.sc (.int .u32 0)), (.sc (.int .u32 0)), (.sc (.int .u32 0)), (.sc (.int .u32 0)), (.sc (.int .u32 0)), (.sc (.int .u32 0)), (.sc (.int .u32 0)), (.sc (.int .u32 0)), (.sc (.int .u32 0)), (.sc (.int .u32 0)), (.sc (.int .u32 0)), (.sc (.int .u32 0)), (.sc (.int .u32 0))]), (.arr 16 1 [(.sc (.int .i64 0)), (.sc (.int .i64 0)), (.sc (.int .i64 0)), (.sc (.int .i64 0)), (.sc (.int .i64 0)), (.sc (.int .i64 0)), (.sc (.int .i64 0)), (.sc (.int .i64 0)), (.sc (.int .i64 0)), (.sc (.int .i64 0)), (.sc (.int .i64 0)), (.sc (.int .i64 0)), (.sc (.int .i64 0)), (.sc (.int .i64 0)), (.sc (.int .i64 0)), (.sc (.int .i64 0))]), (.agg 3 [(.sc (.int .i64 0)), (.sc (.int .i64 0)), (.sc (.int .i64 0))]), (.sc (.int .i64 0)), (.sc (.bool .false)), (.sc (.int .i64 0))]), (.agg 38 [(.arr 16 1 [(.sc (.int .u32 0)), (.sc (.int .u32 0)), (.sc (.int .u32 0)), (.sc (.int .u32 0)), (.sc (.int .u32 0)), (.sc (.int .u32 0)), (.sc (.int .u32 0)), (.sc (.int .u32 0)), (.sc (.int .u32 0)), (.sc (.int .u32 0)), (.sc (.int .u32 0)), (.sc (.int .u32 0)), (.sc (.int .u32 0)), (.sc (.int .u32 0)), (.sc (.int .u32 0)), (.sc (.int .u32 0))]), (.arr 16 1 [(.sc (.int .i64 0)), (.sc (.int .i64 0)), (.sc (.int .i64 0)), (.sc (.int .i64 0)), (.sc (.int .i64 0)), (.sc (.int .i64 0)), (.sc (.int .i64 0)), (.sc (.int .i64 0)), (.sc (.int .i64 0)), (.sc (.int .i64 0)), (.sc (.int .i64 0)), (.sc (.int .i64 0)), (.sc (.int .i64 0)), (.sc (.int .i64 0)), (.sc (.int .i64 0)), (.sc (.int .i64 0))]), (.agg 3 [(.sc (.int .i64 0)), (.sc (.int .i64 0)), (.sc (.int .i64 0))]), (.sc (.int .i64 0)), (.sc (.bool .false)), (.sc (.int .i64 0))]), (.fro .true 0 []), (.fro .true 0 []), (.fro .true 0 []), (.fro .true 0 []), (.fro .true 0 []), (.fro .true 0 []), (.fro .true 0 []), (.fro .true 0 []), (.fro .true 0 []), (.agg 3 [(.sc (.int .i64 0)), (.sc (.int .i64 0)), (.sc (.int .i64 0))]), (.sc (.int .i64 0)), (.sc (.int .i64 0)), (.sc (.int .i64 0))] [(8, (.t 54)), (4, (.t 56))]), .none⟩, ⟨(.some 12), (.box (.c (.agg 92 [(.sc (.int .i64 0)), (.agg 38 [(.arr 16 1 [(.sc (.int .u32 0)), (.sc (.int .u32 0)), (.sc (.int .u32 0)), (.sc (.int .u32 0)), (.sc (.int .u32 0)), (.sc (.int .u32 0)), (.sc (.int .u32 0)), (.sc (.int .u32 0)), (.sc (.int .u32 0)), (.sc (.int .u32 0)), (.sc (.int .u32 0)), (.sc (.int .u32 0)), (.sc (.int .u32 0)), (.sc (.int .u32 0)), (.sc (.int .u32 0)), (.sc (.int .u32 0))]), (.arr 16 1 [(.sc (.int .i64 0)), (.sc (.int .i64 0)), (.sc (.int .i64 0)), (.sc (.int .i64 0)), (.sc (.int .i64 0)), (.sc (.int .i64 0)), (.sc (.int .i64 0)), (.sc (.int .i64 0)), (.sc (.int .i64 0)), (.sc (.int .i64 0)), (.sc (.int .i64 0)), (.sc (.int .i64 0)), (.sc (.int .i64 0)), (.sc (.int .i64 0)), (.sc (.int .i64 0)), (.sc (.int .i64 0))]), (.agg 3 [(.sc (.int .i64 0)), (.sc (.int .i64 0)), (.sc (.int .i64 0))]), (.sc (.int .i64 0)), (.sc (.bool .false)), (.sc (.int .i64 0))]), (.agg 38 [(.arr 16 1 [(.sc (.int .u32 0)), (.sc (.int .u32 0)), (.sc (.int .u32 0)), (.sc (.int .u32 0)), (.sc (.int .u32 0)), (.sc (.int .u32 0)), (.sc (.int .u32 0)), (.sc (.int .u32 0)), (.sc (.int .u32 0)), (.sc (.int .u32 0)), (.sc (.int .u32 0)), (.sc (.int .u32 0)), (.sc (.int .u32 0)), (.sc (.int .u32 0)), (.sc (.int .u32 0)), (.sc (.int .u32 0))]), (.arr 16 1 [(.sc (.int .i64 0)), (.sc (.int .i64 0)), (.sc (.int .i64 0)), (.sc (.int .i64 0)), (.sc (.int .i64 0)), (.sc (.int .i64 0)), (.sc (.int .i64 0)), (.sc (.int .i64 0)), (.sc (.int .i64 0)), (.sc (.int .i64 0)), (.sc (.int .i64 0)), (.sc (.int .i64 0)), (.sc (.int .i64 0)), (.sc (.int .i64 0)), (.sc (.int .i64 0)), (.sc (.int .i64 0))]), (.agg 3 [(.sc (.int .i64 0)), (.sc (.int .i64 0)), (.sc (.int .i64 0))]), (.sc (.int .i64 0)), (.sc (.bool .false)), (.sc (.int .i64 0))]), (.fro .true 0 []), (.fro .true 0 []), (.fro .true 0 []), (.fro .true 0 []), (.fro .true 0 []), (.fro .true 0 []), (.fro .true 0 []), (.fro .true 0 []), (.fro .true 0 []), (.agg 3 [(.sc (.int .i64 0)), (.sc (.int .i64 0)), (.sc (.int .i64 0))]), (.sc (.int .i64 0)), (.sc (.int .i64 0)), (.sc (.int .i64 0))]))), .none⟩, ⟨.none, (.store 92 (.t 12) (.t 57)), .none⟩]) (.seq (.seq (.ops [⟨(.some 13), (.mv (.c (.sc (.int .i64 0)))), .none⟩]) (.block 0 (.loop c_law23_CommitSizes_l1))) c_law23_CommitSizes_p1)))))))
theorem t_law23_CommitSizes : trF Try.prog qq 6 = some (132, [(.tmp 8)], c_law23_CommitSizes) := by kernel_rfl
def c_law23_alive : AC := (.seq (.ops [⟨(.some 0), (.mv (.c (.sc (.bool .false)))), .none⟩]) (.seq (.ops [⟨(.some 2), (.build 12 [(.sc (.int .i64 0)), (.sc (.int .i64 0)), (.sc (.int .i64 0)), (.sc (.int .i64 0)), (.sc (.int .i64 0)), (.sc (.int .i64 0)), (.sc (.int .i64 0)), (.sc (.int .i64 0)), (.sc (.int .i64 0)), (.sc (.int .i64 0)), (.sc (.int .i64 0)), (.sc (.int .i64 0))] [(7, (.c (.sc (.int .i64 1))))]), .none⟩, ⟨(.some 3), (.build 5 [(.sc (.int .i64 0)), (.sc (.int .i64 0)), (.sc (.int .i64 0)), (.sc (.bool .false)), (.sc (.int .u32 0))] [(0, (.c (.sc (.int .i64 4)))), (1, (.c (.sc (.int .i64 1))))]), .none⟩, ⟨(.some 4), (.bsl 5 [(.t 3)]), .none⟩, ⟨(.some 5), (.bsl 1 [(.c (.sc (.int .u32 511)))]), .none⟩, ⟨(.some 6), (.build 92 [(.sc (.int .i64 0)), (.agg 38 [(.arr 16 1 [(.sc (.int .u32 0)), (.sc (.int .u32 0)), (.sc (.int .u32 0)), (.sc (.int .u32 0)), (.sc (.int .u32 0)), (.sc (.int .u32 0)), (.sc (.int .u32 0)), (.sc (.int .u32 0)), (.sc (.int .u32 0)), (.sc (.int .u32 0)), (.sc (.int .u32 0)), (.sc (.int .u32 0)), (.sc (.int .u32 0)), (.sc (.int .u32 0)), (.sc (.int .u32 0)), (.sc (.int .u32 0))]), (.arr 16 1 [(.sc (.int .i64 0)), (.sc (.int .i64 0)), (.sc (.int .i64 0)), (.sc (.int .i64 0)), (.sc (.int .i64 0)), (.sc (.int .i64 0)), (.sc (.int .i64 0)), (.sc (.int .i64 0)), (.sc (.int .i64 0)), (.sc (.int .i64 0)), (.sc (.int .i64 0)), (.sc (.int .i64 0)), (.sc (.int .i64 0)), (.sc (.int .i64 0)), (.sc (.int .i64 0)), (.sc (.int .i64 0))]), (.agg 3 [(.sc (.int .i64 0)), (.sc (.int .i64 0)), (.sc (.int .i64 0))]), (.sc (.int .i64 0)), (.sc (.bool .false)), (.sc (.int .i64 0))]), (.agg 38 [(.arr 16 1 [(.sc (.int .u32 0)), (.sc (.int .u32 0)), (.sc (.int .u32 0)), (.sc (.int .u32 0)), (.sc (.int .u32 0)), (.sc (.int .u32 0)), (.sc (.int .u32 0)), (.sc (.int .u32 0)), (.sc (.int .u32 0)), (.sc (.int .u32 0)), (.sc (.int .u32 0)), (.sc (.int .u32 0)), (.sc (.int .u32 0)), (.sc (.int .u32 0)), (.sc (.int .u32 0)), (.sc (.int .u32 0))]), (.arr 16 1 [(.sc (.int .i64 0)), (.sc (.int .i64 0)), (.sc (.int .i64 0)), (.sc (.int .i64 0)), (.sc (.int .i64 0)), (.sc (.int .i64 0)), (.sc (.int .i64 0)), (.sc (.int .i64 0)), (.sc (.int .i64 0)), (.sc (.int .i64 0)), (.sc (.int .i64 0)), (.sc (.int .i64 0)), (.sc (.int .i64 0)), (.sc (.int .i64 0)), (.sc (.int .i64 0)), (.sc (.int .i64 0))]), (.agg 3 [(.sc (.int .i64 0)), (.sc (.int .i64 0)), (.sc (.int .i64 0))]), (.sc (.int .i64 0)), (.sc (.bool .false)), (.sc (.int .i64 0))]), (.fro .true 0 []), (.fro .true 0 []), (.fro .true 0 []), (.fro .true 0 []), (.fro .true 0 []), (.fro .true 0 []), (.fro .true 0 []), (.fro .true 0 []), (.fro .true 0 []), (.agg 3 [(.sc (.int .i64 0)), (.sc (.int .i64 0)), (.sc (.int .i64 0))]), (.sc (.int .i64 0)), (.sc (.int .i64 0)), (.sc (.int .i64 0))] [(8, (.t 4)), (4, (.t 5))]), .none⟩, ⟨(.some 7), (.call 17 [(.t 2), (.t 6)]), .none⟩, ⟨(.some 1), (.box (.c (.agg 92 [(.sc (.int .i64 0)), (.agg 38 [(.arr 16 1 [(.sc (.int .u32 0)), (.sc (.int .u32 0)), (.sc (.int .u32 0)), (.sc (.int .u32 0)), (.sc (.int .u32 0)), (.sc (.int .u32 0)), (.sc (.int .u32 0)), (.sc (.int .u32 0)), (.sc (.int .u32 0)), (.sc (.int .u32 0)), (.sc (.int .u32 0)), (.sc (.int .u32 0)), (.sc (.int .u32 0)), (.sc (.int .u32 0)), (.sc (.int .u32 0)), (.sc (.int .u32 0))]), (.arr 16 1 [(.sc (.int .i64 0)), (.sc (.int .i64 0)), (.sc (.int .i64 0)), (.sc (.int .i64 0)), (.sc (.int .i64 0)), (.sc (.int .i64 0)), (.sc (.int .i64 0)), (.sc (.int .i64 0)), (.sc (.int .i64 0)), (.sc (.int .i64 0)), (.sc (.int .i64 0)), (.sc (.int .i64 0)), (.sc (.int .i64 0)), (.sc (.int .i64 0)), (.sc (.int .i64 0)), (.sc (.int .i64 0))]), (.agg 3 [(.sc (.int .i64 0)), (.sc (.int .i64 0)), (.sc (.int .i64 0))]), (.sc (.int .i64 0)), (.sc (.bool .false)), (.sc (.int .i64 0))]), (.agg 38 [(.arr 16 1 [(.sc (.int .u32 0)), (.sc (.int .u32 0)), (.sc (.int .u32 0)), (.sc (.int .u32 0)), (.sc (.int .u32 0)), (.sc (.int .u32 0)), (.sc (.int .u32 0)), (.sc (.int .u32 0)), (.sc (.int .u32 0)), (.sc (.int .u32 0)), (.sc (.int .u32 0)), (.sc (.int .u32 0)), (.sc (.int .u32 0)), (.sc (.int .u32 0)), (.sc (.int .u32 0)), (.sc (.int .u32 0))]), (.arr 16 1 [(.sc (.int .i64 0)), (.sc (.int .i64 0)), (.sc (.int .i64 0)), (.sc (.int .i64 0)), (.sc (.int .i64 0)), (.sc (.int .i64 0)), (.sc (.int .i64 0)), (.sc (.int .i64 0)), (.sc (.int .i64 0)), (.sc (.int .i64 0)), (.sc (.int .i64 0)), (.sc (.int .i64 0)), (.sc (.int .i64 0)), (.sc (.int .i64 0)), (.sc (.int .i64 0)), (.sc (.int .i64 0))]), (.agg 3 [(.sc (.int .i64 0)), (.sc (.int .i64 0)), (.sc (.int .i64 0))]), (.sc (.int .i64 0)), (.sc (.bool .false)), (.sc (.int .i64 0))]), (.fro .true 0 []), (.fro .true 0 []), (.fro .true 0 []), (.fro .true 0 []), (.fro .true 0 []), (.fro .true 0 []), (.fro .true 0 []), (.fro .true 0 []), (.fro .true 0 []), (.agg 3 [(.sc (.int .i64 0)), (.sc (.int .i64 0)), (.sc (.int .i64 0))]), (.sc (.int .i64 0)), (.sc (.int .i64 0)), (.sc (.int .i64 0))]))), .none⟩, ⟨.none, (.store 92 (.t 1) (.t 7)), .none⟩]) (.seq (.ops [⟨(.some 8), (.build 12 [(.sc (.int .i64 0)), (.sc (.int .i64 0)), (.sc (.int .i64 0)), (.sc (.int .i64 0)), (.sc (.int .i64 0)), (.sc (.int .i64 0)), (.sc (.int .i64 0)), (.sc (.int .i64 0)), (.sc (.int .i64 0)), (.sc (.int .i64 0)), (.sc (.int .i64 0)), (.sc (.int .i64 0))] []), .none⟩, ⟨(.some 9), (.build 92 [(.sc (.int .i64 0)), (.agg 38 [(.arr 16 1 [(.sc (.int .u32 0)), (.sc (.int .u32 0)), (.sc (.int .u32 0)), (.sc (.int .u32 0)), (.sc (.int .u32 0)), (.sc (.int .u32 0)), (.sc (.int .u32 0)), (.sc (.int .u32 0)), (.sc (.int .u32 0)), (.sc (.int .u32 0)), (.sc (.int .u32 0)), (.sc (.int .u32 0)), (.sc (.int .u32 0)), (.sc (.int .u32 0)), (.sc (.int .u32 0)), (.sc (.int .u32 0))]), (.arr 16 1 [(.sc (.int .i64 0)), (.sc (.int .i64 0)), (.sc (.int .i64 0)), (.sc (.int .i64 0)), (.sc (.int .i64 0)), (.sc (.int .i64 0)), (.sc (.int .i64 0)), (.sc (.int .i64 0)), (.sc (.int .i64 0)), (.sc (.int .i64 0)), (.sc (.int .i64 0)), (.sc (.int .i64 0)), (.sc (.int .i64 0)), (.sc (.int .i64 0)), (.sc (.int .i64 0)), (.sc (.int .i64 0))]), (.agg 3 [(.sc (.int .i64 0)), (.sc (.int .i64 0)), (.sc (.int .i64 0))]), (.sc (.int .i64 0)), (.sc (.bool .false)), (.sc (.int .i64 0))]), (.agg 38 [(.arr 16 1 [(.sc (.int .u32 0)), (.sc (.int .u32 0)), (.sc (.int .u32 0)), (.sc (.int .u32 0)), (.sc (.int .u32 0)), (.sc (.int .u32 0)), (.sc (.int .u32 0)), (.sc (.int .u32 0)), (.sc (.int .u32 0)), (.sc (.int .u32 0)), (.sc (.int .u32 0)), (.sc (.int .u32 0)), (.sc (.int .u32 0)), (.sc (.int .u32 0)), (.sc (.int .u32 0)), (.sc (.int .u32 0))]), (.arr 16 1 [(.sc (.int .i64 0)), (.sc (.int .i64 0)), (.sc (.int .i64 0)), (.sc (.int .i64 0)), (.sc (.int .i64 0)), (.sc (.int .i64 0)), (.sc (.int .i64 0)), (.sc (.int .i64 0)), (.sc (.int .i64 0)), (.sc (.int .i64 0)), (.sc (.int .i64 0)), (.sc (.int .i64 0)), (.sc (.int .i64 0)), (.sc (.int .i64 0)), (.sc (.int .i64 0)), (.sc (.int .i64 0))]), (.agg 3 [(.sc (.int .i64 0)), (.sc (.int .i64 0)), (.sc (.int .i64 0))]), (.sc (.int .i64 0)), (.sc (.bool .false)), (.sc (.int .i64 0))]), (.fro .true 0 []), (.fro .true 0 []), (.fro .true 0 []), (.fro .true 0 []), (.fro .true 0 []), (.fro .true 0 []), (.fro .true 0 []), (.fro .true 0 []), (.fro .true 0 []), (.agg 3 [(.sc (.int .i64 0)), (.sc (.int .i64 0)), (.sc (.int .i64 0))]), (.sc (.int .i64 0)), (.sc (.int .i64 0)), (.sc (.int .i64 0))] []), .none⟩, ⟨(.some 10), (.call 14 [(.t 8), (.t 9)]), .none⟩, ⟨(.some 11), (.un .not (.t 10)), .none⟩, ⟨(.some 12), (.mv (.t 11)), .none⟩, ⟨(.some 13), (.fadr 9 83 1 (.t 1)), (.some (12, .true))⟩, ⟨(.some 14), (.load .false 1 (.t 13)), (.some (12, .true))⟩, ⟨(.some 15), (.len .none (.t 14)), (.some (12, .true))⟩, ⟨(.some 16), (.bin .eql (.t 15) (.c (.sc (.int .i64 1)))), (.some (12, .true))⟩, ⟨(.some 17), (.pick (.t 12) (.t 16) (.c (.sc (.bool .false)))), .none⟩, ⟨(.some 18), (.mv (.t 17)), .none⟩, ⟨(.some 19), (.fadr 9 83 1 (.t 1)), (.some (18, .true))⟩, ⟨(.some 20), (.load .false 1 (.t 19)), (.some (18, .true))⟩, ⟨(.some 21), (.iadr .none 8 (.t 20) (.c (.sc (.int .i64 0)))), (.some (18, .true))⟩, ⟨(.some 22), (.fadr 4 4 1 (.t 21)), (.some (18, .true))⟩, ⟨(.some 23), (.load .false 1 (.t 22)), (.some (18, .true))⟩, ⟨(.some 24), (.bin .eql (.t 23) (.c (.sc (.int .u32 255)))), (.some (18, .true))⟩, ⟨(.some 25), (.pick (.t 18) (.t 24) (.c (.sc (.bool .false)))), .none⟩, ⟨(.some 26), (.mv (.t 25)), .none⟩, ⟨(.some 27), (.fadr 8 82 1 (.t 1)), (.some (26, .true))⟩, ⟨(.some 28), (.load .false 1 (.t 27)), (.some (26, .true))⟩, ⟨(.some 29), (.len .none (.t 28)), (.some (26, .true))⟩, ⟨(.some 30), (.bin .eql (.t 29) (.c (.sc (.int .i64 1)))), (.some (26, .true))⟩, ⟨(.some 31), (.pick (.t 26) (.t 30) (.c (.sc (.bool .false)))), .none⟩, ⟨(.some 32), (.mv (.t 31)), .none⟩, ⟨(.some 33), (.fadr 8 82 1 (.t 1)), (.some (32, .true))⟩, ⟨(.some 34), (.load .false 1 (.t 33)), (.some (32, .true))⟩, ⟨(.some 35), (.iadr .none 5 (.t 34) (.c (.sc (.int .i64 0)))), (.some (32, .true))⟩, ⟨(.some 36), (.fadr 3 3 1 (.t 35)), (.some (32, .true))⟩, ⟨(.some 37), (.load .false 1 (.t 36)), (.some (32, .true))⟩, ⟨(.some 38), (.pick (.t 32) (.t 37) (.c (.sc (.bool .false)))), .none⟩, ⟨(.some 39), (.mv (.t 38)), .none⟩, ⟨(.some 40), (.fadr 4 78 1 (.t 1)), (.some (39, .true))⟩, ⟨(.some 41), (.load .false 1 (.t 40)), (.some (39, .true))⟩, ⟨(.some 42), (.len .none (.t 41)), (.some (39, .true))⟩, ⟨(.some 43), (.bin .eql (.t 42) (.c (.sc (.int .i64 0)))), (.some (39, .true))⟩, ⟨(.some 44), (.pick (.t 39) (.t 43) (.c (.sc (.bool .false)))), .none⟩, ⟨(.some 0), (.mv (.t 44)), .none⟩]) .ret)))
theorem t_law23_alive : trF Try.prog qq 12 = some (45, [(.tmp 0)], c_law23_alive) := by kernel_rfl
/-- The functions of law23. -/
def cl_law23 : CodeL := [(3, 32, [(.tmp 4)], c_law23_CommitTells), (4, 125, [(.tmp 4)], c_law23_CommitOne), (5, 88, [(.tmp 10)], c_law23_CommitTraps), (6, 132, [(.tmp 8)], c_law23_CommitSizes), (12, 45, [(.tmp 0)], c_law23_alive)]
theorem clok_law23 : AllL (fun p => trF Try.prog qq p.1 = some p.2) cl_law23 := ⟨t_law23_CommitTells, t_law23_CommitOne, t_law23_CommitTraps, t_law23_CommitSizes, t_law23_alive, trivial⟩
end Go.Proofs.Ytbemlndjdbopeaa

