/- From what is shown of a law's function to the row's contract. -/
import Derived.Test.YtfobbfdbojednaaRaP
import Derived.WideShapes
import Derived.Carry
import Derived.ChangeOld
import Derived.SizedLaws
namespace Go.Ra
open Go.RowKit (Below)
open Go.ChangeShapes Go.WideShapes Go.ChangeAt Go.RowKit
set_option linter.unusedVariables false
set_option linter.unusedSimpArgs false
section
variable {P : Program} {H : Type} {enc : TypeId × Value → H} {W : World} {sp : Nat → Bool} {held : Bool} {base b0 : Nat}

theorem open_val {n : Nat} {t : TypeId} {T : Ty} {v : Value} {d : DataW H} {ps : List MemPlace} (hT : tyT P n t = some T) (hval : Value.okWide P W .any b0 t v) (h : DataW.Trod enc P W base sp held t v d ps) (hw : ∀ x ∈ d.weights P t, x ≤ 140737488351232) :
    ∃ a, RelV W (Low W) noIds a v ∧ T.has a := by
  obtain ⟨fuel, hf⟩ := h
  obtain ⟨a, h1, h2⟩ := open_trod n t T fuel _ d ps hT hf hw
  refine ⟨a, ?_, h2⟩
  cases n with
  | zero => simp [tyT] at hT
  | succ n =>
    simp only [tyT] at hT
    split at hT
    · rename_i k hu
      simp only [Option.some.injEq] at hT
      subst hT
      obtain ⟨x, rfl⟩ := okWide_int hu hval
      obtain ⟨y, rfl, _⟩ := h2
      exact .one (by simpa [Value.cells] using h1) rfl
    · rename_i hu
      simp only [Option.some.injEq] at hT
      subst hT
      obtain ⟨x, rfl⟩ := okWide_bool hu hval
      obtain ⟨y, rfl⟩ := h2
      exact .one (by simpa [Value.cells] using h1) rfl
    · rename_i hu
      simp only [Option.some.injEq] at hT
      subst hT
      obtain ⟨x, rfl⟩ := okWide_string hu hval
      obtain ⟨y, rfl, _⟩ := h2
      exact .one (by simpa [Value.cells] using h1) rfl
    · rename_i e hu
      obtain ⟨x, len, cap, rfl⟩ := okWide_slice hu hval
      split at hT
      · split at hT
        · cases hT
        · simp only [Option.some.injEq] at hT
          subst hT
          obtain ⟨ts, rfl, _⟩ := h2
          exact .one (by simpa [Value.cells] using h1) rfl
      · cases hT
    · rename_i fs hu
      simp only [Value.okWide, hu] at hval
      obtain ⟨cs, rfl, _⟩ := hval
      split at hT
      · split at hT
        · simp only [Option.some.injEq] at hT
          subst hT
          obtain ⟨ts, rfl, _⟩ := h2
          simpa using RelV.agg (cs := cs.toList) (by simpa [Value.cells] using h1) rfl
        · cases hT
      · cases hT
    · rename_i k e hu
      simp only [Value.okWide, hu] at hval
      obtain ⟨cs, rfl, _⟩ := hval
      split at hT
      · split at hT
        · simp only [Option.some.injEq] at hT
          subst hT
          obtain ⟨ts, rfl, _⟩ := h2
          simpa using RelV.agg (cs := cs.toList) (by simpa [Value.cells] using h1) rfl
        · cases hT
      · cases hT
    · cases hT

theorem open_all {n : Nat} : ∀ {ts : List TypeId} {Ts : List Ty} {vs : List Value} {ds : List (DataW H)} {ps : List MemPlace}, mapO (tyT P n) ts = some Ts → (∀ (j : Nat) (t : TypeId) (v : Value), ts[j]? = some t → vs[j]? = some v → Value.okWide P W .any b0 t v) →
    DataW.TrodAll enc P W base sp held ts vs ds ps → (∀ x ∈ DataW.weightsEach P ts ds, x ≤ 140737488351232) → ∃ as, RelVs W (Low W) noIds as vs ∧ Ty.hasL Ts as
  | [], Ts, [], [], ps, hT, hv, h, hw => by
    simp only [mapO, Option.some.injEq] at hT
    subst hT
    exact ⟨[], .nil, rfl⟩
  | t :: ts, Ts, v :: vs, d :: ds, ps, hT, hv, h, hw => by
    simp only [mapO] at hT
    split at hT
    · rename_i T Ts' hT1 hT2
      simp only [Option.some.injEq] at hT
      subst hT
      obtain ⟨p, q, h1, h2, rfl⟩ := h
      simp only [DataW.weightsEach, List.mem_append] at hw
      obtain ⟨a, h3, h4⟩ := open_val hT1 (hv 0 t v rfl rfl) h1 (fun x hx => hw x (.inl hx))
      obtain ⟨as, h5, h6⟩ := open_all hT2 (fun j t' v' h7 h8 => hv (j + 1) t' v' (by simpa using h7) (by simpa using h8)) h2 (fun x hx => hw x (.inr hx))
      exact ⟨a :: as, .cons h3 h5, ⟨a, as, rfl, h4, h6⟩⟩
    · cases hT
  | [], Ts, v :: vs, ds, ps, hT, hv, h, hw => by cases ds <;> exact h.elim
  | [], Ts, [], d :: ds, ps, hT, hv, h, hw => h.elim
  | t :: ts, Ts, [], ds, ps, hT, hv, h, hw => by cases ds <;> exact h.elim
  | t :: ts, Ts, v :: vs, [], ps, hT, hv, h, hw => h.elim

theorem all_below (hl : laidOutB P = true) {W' : World} (hb : Below W.heap.size W W') : ∀ {ts : List TypeId} {vs : List Value} {ds : List (DataW H)} {ps : List MemPlace}, ts.all (fun t => P.readableRec t && decide (t < P.types.size)) = true →
    DataW.TrodAll enc P W 0 (fun _ => true) true ts vs ds ps → (∀ x ∈ ps, x.block < W.heap.size) → DataW.TrodAll enc P W' 0 (fun b => decide (b < W.heap.size)) true ts vs ds ps
  | [], [], [], ps, hr, h, hlt => h
  | t :: ts, v :: vs, d :: ds, ps, hr, h, hlt => by
    obtain ⟨p, q, h1, h2, rfl⟩ := h
    simp only [List.all_cons, Bool.and_eq_true, decide_eq_true_eq] at hr
    exact ⟨p, q, Below.trod hl hr.1.1 hr.1.2 h1 hb (fun x hx => hlt x (List.mem_append_left _ hx)), all_below hl hb hr.2 h2 (fun x hx => hlt x (List.mem_append_right _ hx)), rfl⟩
  | [], v :: vs, ds, ps, hr, h, hlt => by cases ds <;> exact h.elim
  | [], [], d :: ds, ps, hr, h, hlt => h.elim
  | t :: ts, [], ds, ps, hr, h, hlt => by cases ds <;> exact h.elim
  | t :: ts, v :: vs, [], ps, hr, h, hlt => h.elim

theorem all_len : ∀ {ts : List TypeId} {vs : List Value} {ds : List (DataW H)} {ps : List MemPlace}, DataW.TrodAll enc P W base sp held ts vs ds ps → ds.length = ts.length
  | [], [], [], ps, h => rfl
  | t :: ts, v :: vs, d :: ds, ps, h => by
    obtain ⟨p, q, h1, h2, rfl⟩ := h
    simp [all_len h2]
  | [], v :: vs, ds, ps, h => by cases ds <;> exact h.elim
  | [], [], d :: ds, ps, h => h.elim
  | t :: ts, [], ds, ps, h => by cases ds <;> exact h.elim
  | t :: ts, v :: vs, [], ps, h => h.elim
end

/-- The contract of a law that gives true whatever comes in. -/
theorem law_post {P : Program} {H : Type} {enc : TypeId × Value → H} {fn : Func} {f : Nat} {s : ChangeSpec} {ts : List TypeId} {Ts : List Ty} {tb : TypeId} {n : Nat} (hl : laidOutB P = true) (hp : fn.params.toList = ts) (hr : fn.resultTypes = #[tb]) (htb : P.underlying tb = some .bool)
    (hv : s.vars = []) (hTs : mapO (tyT P n) ts = some Ts) (hread : ts.all (fun t => P.readableRec t && decide (t < P.types.size)) = true)
    (hfn : ∀ ds : List (DataW H), ds.length = ts.length → (s.fn H ds).results = [.lit (.bool true)] ∧ (s.fn H ds).args = ds ∧ (s.fn H ds).vars = [])
    (hlaw : ∀ as, Ty.hasL Ts as → Pure P f as (.sc (.bool true))) {apart : Bool} :
    ∀ (W : World) (base : Nat) (args : Array Value) (ds gs : List (DataW H)) (before : List MemPlace),
      (∀ (j : Nat) t v, fn.params[j]? = some t → args[j]? = some v → Value.okWide P W .any base t v) →
      DataW.Whole enc P fn.params.toList s.vars apart W args.toList ds gs before →
      (DataW.weightsEach P (fn.params.toList ++ s.plain.varTypes P) (ds ++ gs)).all (· ≤ reachBytes) = true →
      Calls P f args W fun e W' => ∃ v, e = .returned v ∧ s.post enc P fn apart true false false W args v W' := by
  intro W base args ds gs before hval hW hsz
  have hW' := hW
  obtain ⟨p, q, hA, hV, rfl, hfz, hnd⟩ := hW
  rw [hv] at hV
  have hgs : gs = [] ∧ q = [] := by
    cases gs with
    | nil => exact ⟨rfl, hV⟩
    | cons g gs => exact hV.elim
  obtain ⟨rfl, rfl⟩ := hgs
  rw [hp] at hA
  have hvt : s.plain.varTypes P = [] := by
    simp only [ChangeSpec.plain, DataSpec.varTypes, hv]
    rfl
  rw [hvt, List.append_nil, List.append_nil, hp] at hsz
  obtain ⟨as, h1, h2⟩ := open_all (b0 := base) hTs (fun j t v hj hvj => hval j t v (by rw [← Array.getElem?_toList, hp]; exact hj) (by rw [← Array.getElem?_toList]; exact hvj)) hA (fun x hx => by
    have := List.all_eq_true.1 hsz x hx
    exact of_decide_eq_true this)
  obtain ⟨_, hc⟩ := hlaw as h2
  have := hc W (Low W) args.toList (fun b hb => hb) h1
  rw [Array.toArray_toList] at this
  refine this.mono fun e W' ⟨u, F', he, hb, _, _, hrel⟩ => ?_
  obtain ⟨hu, _⟩ := hrel.sc_inv
  subst hu
  obtain ⟨g1, g2, g3⟩ := hfn ds (all_len hA)
  have hlt := hA.lt
  refine ⟨_, he, ds, [], _, [], p, [], hW', ?_, ?_, ?_, hb.frame _, fun h => by cases h⟩
  · rw [List.append_nil, g1, hr]
    exact trodAll_mk1 (shut_bool htb _)
  · rw [List.append_nil, g2, hp]
    exact all_below hl hb hread hA hlt
  · rw [List.append_nil, g3, hv]
    rfl
end Go.Ra
