/- Each abstract operation is sound: all of them. -/
import Derived.Test.YtmlnhecgcbohkaaRaH
namespace Go.Ra
set_option linter.unusedVariables false
set_option linter.unusedSimpArgs false
section
variable {P : Program}

theorem some_map {α β : Type} {x : Option α} {f : α → β} {b : β} (h : x.map f = some b) : ∃ a, x = some a ∧ f a = b := by
  cases x with
  | none => cases h
  | some a => exact ⟨a, rfl, by simpa using h⟩

theorem trXs_one {l : List Operand} {a : AX} (h : trXs l = some [a]) : ∃ x, l = [x] ∧ trX x = some a := by
  cases l with
  | nil => simp [trXs] at h
  | cons x r =>
    simp only [trXs] at h
    split at h
    · rename_i a' b' h1 h2
      simp only [Option.some.injEq, List.cons.injEq] at h
      obtain ⟨rfl, rfl⟩ := h
      cases r with
      | nil => exact ⟨x, rfl, h1⟩
      | cons y r =>
        simp only [trXs] at h2
        split at h2 <;> simp at h2
    · cases h

theorem trXs_two {l : List Operand} {a b : AX} (h : trXs l = some [a, b]) : ∃ x y, l = [x, y] ∧ trX x = some a ∧ trX y = some b := by
  cases l with
  | nil => simp [trXs] at h
  | cons x r =>
    simp only [trXs] at h
    split at h
    · rename_i a' b' h1 h2
      simp only [Option.some.injEq, List.cons.injEq] at h
      obtain ⟨rfl, rfl⟩ := h
      obtain ⟨y, rfl, h3⟩ := trXs_one h2
      exact ⟨x, y, rfl, h1, h3⟩
    · cases h

theorem arr_eq {α : Type} {a : Array α} {l : List α} (h : a.toList = l) : a = l.toArray := by rw [← h]

theorem Sound.none {o : Op} {ao : AOp} (h : ∀ σ, stepE ao σ = Option.none) : Sound P o ao := by
  intro σ σ' v hs
  rw [h] at hs
  cases hs

theorem eq_sound {op : BinOp} {t yt : TypeId} {x y : Operand} {x' y' : AX} {ao : AOp} (hp : plainT P t = false) (h : trEq P op t x' y' = some ao) (hx : trX x = some x') (hy : trX y = some y') : Sound P (.binOp op t x y yt) ao := by
  unfold trEq at h
  cases op <;> simp only at h <;> first | (cases h; done) | skip
  all_goals
    split at h
    · rename_i e hu
      split at h
      · rename_i hn
        simp only [Option.some.injEq] at h
        subst h
        first
          | exact (sp_eqn (neg := false) rfl hu hx hy hn).sound
          | exact (sp_eqn (neg := true) rfl hu hx hy hn).sound
      · cases h
    · split at h
      · cases h
      · rename_i hg
        split at h
        · rename_i s hs
          simp only [Option.some.injEq] at h
          subst h
          first
            | exact (sp_eqs (neg := false) rfl hp (by simpa using hg) hs hx hy).sound
            | exact (sp_eqs (neg := true) rfl hp (by simpa using hg) hs hx hy).sound
        · cases h

theorem call_sound {c : Call} {ao : AOp} (h : trOp P (.call c) = some ao) : Sound P (.call c) ao := by
  simp only [trOp] at h
  split at h
  · simp only [Option.some.injEq] at h
    subst h
    exact Sound.none fun _ => rfl
  · obtain ⟨a, h1, rfl⟩ := some_map h
    exact Sound.none fun _ => rfl
  · rename_i s x hc hxs
    obtain ⟨s0, x0, ha, hs, hx⟩ := trXs_two hxs
    split at h
    · rename_i t u hat
      split at h
      · rename_i htu
        subst htu
        unfold trApp at h
        split at h
        · rename_i e i ht
          split at h
          · rename_i z hz
            split at h
            · rename_i hzs
              simp only [Option.some.injEq] at h
              subst h
              exact sd_app hc (arr_eq ha) (arr_eq hat) ht hz hzs hs hx
            · cases h
          · cases h
        · cases h
      · cases h
    · cases h
  · rename_i x hc hxs
    obtain ⟨x0, ha, hx⟩ := trXs_one hxs
    split at h
    · rename_i t hat
      split at h
      · rename_i e hu
        simp only [Option.some.injEq] at h
        subst h
        exact (sp_len_slice hc (arr_eq ha) (arr_eq hat) hu hx).sound
      · rename_i hu
        simp only [Option.some.injEq] at h
        subst h
        exact (sp_lens hc (arr_eq ha) (arr_eq hat) hu hx).sound
      · rename_i n e hu
        simp only [Option.some.injEq] at h
        subst h
        exact (sp_len_arr hc (arr_eq ha) (arr_eq hat) (.inl ⟨e, hu⟩) hx).sound
      · rename_i u hu
        split at h
        · rename_i n e hu2
          simp only [Option.some.injEq] at h
          subst h
          exact (sp_len_arr hc (arr_eq ha) (arr_eq hat) (.inr ⟨u, e, hu, hu2⟩) hx).sound
        · cases h
      · cases h
    · cases h
  · rename_i x y hc hxs
    obtain ⟨x0, y0, ha, hx, hy⟩ := trXs_two hxs
    split at h
    · rename_i t u hat
      split at h
      · rename_i e i e' i' ht ht'
        split at h
        · rename_i hsz
          simp only [Option.some.injEq] at h
          subst h
          exact sd_copy hc (arr_eq ha) (arr_eq hat) ht ht' hsz hx hy
        · cases h
      · cases h
    · cases h
  · rename_i xs hc hxs
    simp only [Option.some.injEq] at h
    subst h
    exact (sp_min hc hxs).sound
  · rename_i xs hc hxs
    simp only [Option.some.injEq] at h
    subst h
    exact (sp_max hc hxs).sound
  · cases h

theorem op_sound {o : Op} {ao : AOp} (h : trOp P o = some ao) : Sound P o ao := by
  cases o with
  | call c => exact call_sound h
  | move x =>
    obtain ⟨x', hx, rfl⟩ := some_map h
    exact (sp_move hx).sound
  | assign x =>
    obtain ⟨x', hx, rfl⟩ := some_map h
    exact (sp_assign hx).sound
  | pick c a b =>
    simp only [trOp] at h
    split at h
    · rename_i h1 h2 h3
      simp only [Option.some.injEq] at h
      subst h
      exact (sp_pick h1 h2 h3).sound
    · cases h
  | alloc t =>
    obtain ⟨z, hz, rfl⟩ := some_map h
    exact sd_alloc hz
  | box t x =>
    obtain ⟨x', hx, rfl⟩ := some_map h
    exact sd_box hx
  | build t parts =>
    simp only [trOp] at h
    split at h
    · rename_i fs n zs hu hz
      split at h
      · rename_i ps hp
        split at h
        · rename_i hf
          simp only [Option.some.injEq] at h
          subst h
          exact (sp_build hu hz hp hf).sound
        · cases h
      · cases h
    · cases h
  | buildSlice t len parts =>
    simp only [trOp] at h
    split at h
    · rename_i e i ht
      split at h
      · rename_i xs z hx hz
        split at h
        · rename_i hc
          simp only [Option.some.injEq] at h
          subst h
          exact sd_bsl ht hz hx hc.1 hc.2.1 hc.2.2
        · cases h
      · cases h
    · cases h
  | load t x =>
    simp only [trOp] at h
    split at h
    · rename_i h1 h2 h3
      simp only [Option.some.injEq] at h
      subst h
      exact (sp_load h1 h2 h3).sound
    · cases h
  | store t a x =>
    simp only [trOp] at h
    split at h
    · rename_i h1 h2 h3
      split at h
      · cases h
      · rename_i hn
        simp only [Option.some.injEq] at h
        subst h
        exact sd_store h1 hn h2 h3
    · cases h
  | nilCheck x =>
    obtain ⟨x', hx, rfl⟩ := some_map h
    exact (sp_nilck hx).sound
  | binOp op t x y yt =>
    simp only [trOp] at h
    split at h
    · rename_i hx hy
      split at h
      · rename_i hp
        simp only [Option.some.injEq] at h
        subst h
        exact (sp_bin hp hx hy).sound
      · rename_i hp
        exact eq_sound (by simpa using hp) h hx hy
    · cases h
  | unOp op t x =>
    obtain ⟨x', hx, rfl⟩ := some_map h
    exact (sp_un hx).sound
  | convert src dst x =>
    simp only [trOp] at h
    split at h
    · rename_i h1 h2 h3
      simp only [Option.some.injEq] at h
      subst h
      exact (sp_conv h1 h2 h3).sound
    · rename_i h1 h2 h3
      split at h
      · rename_i h4
        simp only [Option.some.injEq] at h
        subst h
        exact (sp_b2s h1 h2 h4 h3).sound
      · cases h
    · cases h
  | slice t x lo hi mx =>
    cases mx with
    | some m => simp [trOp] at h
    | none =>
      simp only [trOp] at h
      split at h
      · rename_i h1 h2 h3 h4
        simp only [Option.some.injEq] at h
        subst h
        exact (sp_slice h1 h2 h3 h4).sound
      · rename_i h1 h2 h3 h4 _
        simp only [Option.some.injEq] at h
        subst h
        exact (sp_aslice h1 h2 h3 h4).sound
      · cases h
  | fieldAddr s x i =>
    simp only [trOp] at h
    split at h
    · rename_i h1 h2
      split at h
      · rename_i f h3
        split at h
        · rename_i n h4
          split at h
          · cases h
          · rename_i h5
            simp only [Option.some.injEq] at h
            subst h
            exact (sp_fadr h1 h3 h4 h5 h2).sound
        · cases h
      · cases h
    · cases h
  | indexAddr t x i =>
    simp only [trOp] at h
    split at h
    · rename_i h1 h2 h3
      simp only [Option.some.injEq] at h
      subst h
      exact (sp_iadr_slice h1 h2 h3).sound
    · rename_i h1 h2 h3 _
      simp only [Option.some.injEq] at h
      subst h
      exact (sp_iadr_arr h1 h2 h3).sound
    · cases h
  | extract x i =>
    obtain ⟨x', hx, rfl⟩ := some_map h
    exact (sp_extract hx).sound
  | makeFunc fn first caps =>
    cases fn with
    | func f =>
      simp only [trOp] at h
      split at h
      · rename_i cs hc
        split at h
        · rename_i hf
          simp only [Option.some.injEq] at h
          subst h
          exact (sp_mkf hf hc).sound
        · cases h
      · cases h
    | _ => simp [trOp] at h
  | makeSlice t l c =>
    simp only [trOp] at h
    split at h
    · rename_i h1 h2
      split at h
      · rename_i z h3
        split at h
        · rename_i h4
          simp only [Option.some.injEq] at h
          subst h
          exact sd_mks h1 h3 h2 h4.1 h4.2
        · cases h
      · cases h
    · cases h
  | _ => simp [trOp] at h
end
end Go.Ra
