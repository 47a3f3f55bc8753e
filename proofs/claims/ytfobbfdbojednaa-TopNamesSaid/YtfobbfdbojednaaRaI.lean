/- Each abstract operation is sound: all of them. -/
import Derived.Test.YtfobbfdbojednaaRaH
namespace Go.Ra
set_option linter.unusedVariables false
set_option linter.unusedSimpArgs false
section
variable {P : Program}

theorem some_map {α β : Type} {x : Option α} {f : α → β} {b : β} (h : x.map f = some b) : ∃ a, x = some a ∧ f a = b := by
  cases x with
  | none => cases h
  | some a => exact ⟨a, rfl, by simpa using h⟩

theorem trXs_one {l : List Operand} {a : AX} (h : trXs l = some [a]) : ∃ x, l = [x] ∧ trX x = some a := by
  cases l with
  | nil => simp [trXs] at h
  | cons x r =>
    simp only [trXs] at h
    split at h
    · rename_i a' b' h1 h2
      simp only [Option.some.injEq, List.cons.injEq] at h
      obtain ⟨rfl, rfl⟩ := h
      cases r with
      | nil => exact ⟨x, rfl, h1⟩
      | cons y r =>
        simp only [trXs] at h2
        split at h2 <;> simp at h2
    · cases h

theorem trXs_two {l : List Operand} {a b : AX} (h : trXs l = some [a, b]) : ∃ x y, l = [x, y] ∧ trX x = some a ∧ trX y = some b := by
  cases l with
  | nil => simp [trXs] at h
  | cons x r =>
    simp only [trXs] at h
    split at h
    · rename_i a' b' h1 h2
      simp only [Option.some.injEq, List.cons.injEq] at h
      obtain ⟨rfl, rfl⟩ := h
      obtain ⟨y, rfl, h3⟩ := trXs_one h2
      exact ⟨x, y, rfl, h1, h3⟩
    · cases h

theorem arr_eq {α : Type} {a : Array α} {l : List α} (h : a.toList = l) : a = l.toArray := by rw [← h]

theorem Sound.none {o : Op} {ao : AOp} (h : ∀ σ, stepE ao σ = Option.none) : Sound P o ao := by
  intro σ σ' v hs
  rw [h] at hs
  cases hs

theorem eq_sound {op : BinOp} {t yt : TypeId} {x y : Operand} {x' y' : AX} {ao : AOp} (hp : plainT P t = false) (h : trEq P op t x' y' = some ao) (hx : trX x = some x') (hy : trX y = some y') : Sound P (.binOp op t x y yt) ao := by
  unfold trEq at h
  cases op <;> simp only at h <;> first | (cases h; done) | skip
  all_goals
    split at h
    · rename_i e hu
      split at h
      · rename_i hn
        simp only [Option.some.injEq] at h
        subst h
        first
          | exact (sp_eqn (neg := false) rfl hu hx hy hn).sound
          | exact (sp_eqn (neg := true) rfl hu hx hy hn).sound
      · cases h
    · split at h
      · cases h
      · rename_i hg
        split at h
        · rename_i s hs
          simp only [Option.some.injEq] at h
          subst h
          first
            | exact (sp_eqs (neg := false) rfl hp (by simpa using hg) hs hx hy).sound
            | exact (sp_eqs (neg := true) rfl hp (by simpa using hg) hs hx hy).sound
        · cases h

theorem call_sound {c : Call} {ao : AOp} (h : trOp P (.call c) = some ao) : Sound P (.call c) ao := by
  simp only [trOp] at h
  split at h
  · simp only [Option.some.injEq] at h
    subst h
    exact Sound.none fun _ => rfl
  · obtain ⟨a, h1, rfl⟩ := some_map h
    exact Sound.none fun _ => rfl
  · rename_i s x hc hxs
    obtain ⟨s0, x0, ha, hs, hx⟩ := trXs_two hxs
    split at h
    · rename_i t u hat
      split at h
      · rename_i htu
        subst htu
        unfold trApp at h
        split at h
        · rename_i e i ht
          split at h
          · rename_i z hz
            split at h
            · rename_i hzs
              simp only [Option.some.injEq] at h
              subst h
              exact sd_app hc (arr_eq ha) (arr_eq hat) ht hz hzs hs hx
            · cases h
          · cases h
        · cases h
      · cases h
    · cases h
  · rename_i x hc hxs
    obtain ⟨x0, ha, hx⟩ := trXs_one hxs
    split at h
    · rename_i t hat
      split at h
      · rename_i e hu
        simp only [Option.some.injEq] at h
        subst h
        exact (sp_len_slice hc (arr_eq ha) (arr_eq hat) hu hx).sound
      · rename_i hu
        simp only [Option.some.injEq] at h
        subst h
        exact (sp_lens hc (arr_eq ha) (arr_eq hat) hu hx).sound
      · rename_i n e hu
        simp only [Option.some.injEq] at h
        subst h
        exact (sp_len_arr hc (arr_eq ha) (arr_eq hat) (.inl ⟨e, hu⟩) hx).sound
      · rename_i u hu
        split at h
        · rename_i n e hu2
          simp only [Option.some.injEq] at h
          subst h
          exact (sp_len_arr hc (arr_eq ha) (arr_eq hat) (.inr ⟨u, e, hu, hu2⟩) hx).sound
        · cases h
      · cases h
    · cases h
  · rename_i x y hc hxs
    obtain ⟨x0, y0, ha, hx, hy⟩ := trXs_two hxs
    split at h
    · rename_i t u hat
      split at h
      · rename_i e i e' i' ht ht'
        split at h
        · rename_i hsz
          simp only [Option.some.injEq] at h
          subst h
          exact sd_copy hc (arr_eq ha) (arr_eq hat) ht ht' hsz hx hy
        · cases h
      · cases h
    · cases h
  · rename_i xs hc hxs
    simp only [Option.some.injEq] at h
    subst h
    exact (sp_min hc hxs).sound
  · rename_i xs hc hxs
    simp only [Option.some.injEq] at h
    subst h
    exact (sp_max hc hxs).sound
  · cases h

theorem op_sound {o : Op} {ao : AOp} (h : trOp P o = some ao) : Sound P o ao := by
  cases o with
  | call c => exact call_sound h
  | move x =>
    obtain ⟨x', hx, rfl⟩ := some_map h
    exact (sp_move hx).sound
  | assign x =>
    obtain ⟨x', hx, rfl⟩ := some_map h
    exact (sp_assign hx).sound
  | pick c a b =>
    simp only [trOp] at h
    split at h
    · rename_i h1 h2 h3
      simp only [Option.some.injEq] at h
      subst h
      exact (sp_pick h1 h2 h3).sound
    · cases h
  | alloc t =>
    obtain ⟨z, hz, rfl⟩ := some_map h
    exact sd_alloc hz
  | box t x =>
    obtain ⟨x', hx, rfl⟩ := some_map h
    exact sd_box hx
  | build t parts =>
    simp only [trOp] at h
    split at h
    · rename_i fs n zs hu hz
      split at h
      · rename_i ps hp
        split at h
        · rename_i hf
          simp only [Option.some.injEq] at h
          subst h
          exact (sp_build hu hz hp hf).sound
        · cases h
      · cases h
    · rename_i m el n es zs hu hz
      split at h
      · rename_i xs i hx hi
        split at h
        · rename_i hc
          simp only [Option.some.injEq] at h
          subst h
          exact (sp_barr hu hz hx hi hc.1 hc.2.1 hc.2.2.1 hc.2.2.2).sound
        · cases h
      · cases h
    · cases h
  | buildSlice t len parts =>
    simp only [trOp] at h
    split at h
    · rename_i e i ht
      split at h
      · rename_i xs z hx hz
        split at h
        · rename_i hc
          simp only [Option.some.injEq] at h
          subst h
          exact sd_bsl ht hz hx hc.1 hc.2.1 hc.2.2
        · cases h
      · cases h
    · cases h
  | load t x =>
    simp only [trOp] at h
    split at h
    · rename_i h1 h2 h3
      simp only [Option.some.injEq] at h
      subst h
      exact (sp_load h1 h2 h3).sound
    · cases h
  | store t a x =>
    simp only [trOp] at h
    split at h
    · rename_i h1 h2 h3
      split at h
      · cases h
      · rename_i hn
        simp only [Option.some.injEq] at h
        subst h
        exact sd_store h1 hn h2 h3
    · cases h
  | nilCheck x =>
    obtain ⟨x', hx, rfl⟩ := some_map h
    exact (sp_nilck hx).sound
  | binOp op t x y yt =>
    simp only [trOp] at h
    split at h
    · rename_i hx hy
      split at h
      · rename_i hp
        simp only [Option.some.injEq] at h
        subst h
        exact (sp_bin hp hx hy).sound
      · rename_i hp
        exact eq_sound (by simpa using hp) h hx hy
    · cases h
  | unOp op t x =>
    obtain ⟨x', hx, rfl⟩ := some_map h
    exact (sp_un hx).sound
  | convert src dst x =>
    simp only [trOp] at h
    split at h
    · rename_i h1 h2 h3
      simp only [Option.some.injEq] at h
      subst h
      exact (sp_conv h1 h2 h3).sound
    · rename_i h1 h2 h3
      split at h
      · rename_i h4
        simp only [Option.some.injEq] at h
        subst h
        exact (sp_b2s h1 h2 h4 h3).sound
      · cases h
    · cases h
  | slice t x lo hi mx =>
    cases mx with
    | some m => simp [trOp] at h
    | none =>
      simp only [trOp] at h
      split at h
      · rename_i h1 h2 h3 h4
        simp only [Option.some.injEq] at h
        subst h
        exact (sp_slice h1 h2 h3 h4).sound
      · rename_i h1 h2 h3 h4 _
        simp only [Option.some.injEq] at h
        subst h
        exact (sp_aslice h1 h2 h3 h4).sound
      · cases h
  | fieldAddr s x i =>
    simp only [trOp] at h
    split at h
    · rename_i h1 h2
      split at h
      · rename_i f h3
        split at h
        · rename_i n h4
          split at h
          · cases h
          · rename_i h5
            simp only [Option.some.injEq] at h
            subst h
            exact (sp_fadr h1 h3 h4 h5 h2).sound
        · cases h
      · cases h
    · cases h
  | indexAddr t x i =>
    simp only [trOp] at h
    split at h
    · rename_i h1 h2 h3
      simp only [Option.some.injEq] at h
      subst h
      exact (sp_iadr_slice h1 h2 h3).sound
    · rename_i h1 h2 h3 _
      simp only [Option.some.injEq] at h
      subst h
      exact (sp_iadr_arr h1 h2 h3).sound
    · cases h
  | extract x i =>
    obtain ⟨x', hx, rfl⟩ := some_map h
    exact (sp_extract hx).sound
  | makeFunc fn first caps =>
    cases fn with
    | func f =>
      simp only [trOp] at h
      split at h
      · rename_i cs hc
        split at h
        · rename_i hf
          simp only [Option.some.injEq] at h
          subst h
          exact (sp_mkf hf hc).sound
        · cases h
      · cases h
    | _ => simp [trOp] at h
  | makeSlice t l c =>
    simp only [trOp] at h
    split at h
    · rename_i h1 h2
      split at h
      · rename_i z h3
        split at h
        · rename_i h4
          simp only [Option.some.injEq] at h
          subst h
          exact sd_mks h1 h3 h2 h4.1 h4.2
        · cases h
      · cases h
    · cases h
  | _ => simp [trOp] at h
def AOp.isCall : AOp → Bool
  | .call .. => true
  | .callv .. => true
  | _ => false

/-- What a translation owes. -/
def TrO (P : Program) (o : Op) (ao : AOp) : Prop := Sound P o ao ∧ (ao.isCall = true → trOp P o = some ao)

theorem trApp_inv {t : TypeId} {s x : AX} {ao : AOp} (h : trApp P t s x = some ao) : ∃ e i z, elemT P t = some (e, i) ∧ i.zero = some z ∧ z.cells.size = i.size ∧ ao = .app i.size i.bytes s x := by
  unfold trApp at h
  split at h
  · rename_i e i ht
    split at h
    · rename_i z hz
      split at h
      · rename_i hzs
        simp only [Option.some.injEq] at h
        exact ⟨e, i, z, ht, hz, hzs, h.symm⟩
      · cases h
    · cases h
  · cases h

theorem trEq_na {op : BinOp} {t : TypeId} {x y : AX} {es b : Nat} {s u : AX} (h : trEq P op t x y = some (.app es b s u)) : False := by
  unfold trEq at h
  cases op <;> simp only at h <;> first | (cases h; done) | skip
  all_goals
    repeat' split at h
    all_goals first | (cases h; done)

theorem trOp_app {o : Op} {es b : Nat} {s x : AX} (h : trOp P o = some (.app es b s x)) : ∃ c s0 x0 t e i z, o = .call c ∧ c.callee = .builtin .append ∧ c.args = #[s0, x0] ∧ c.argTypes = #[t, t] ∧ elemT P t = some (e, i) ∧ i.zero = some z ∧ z.cells.size = i.size ∧
    trX s0 = some s ∧ trX x0 = some x ∧ es = i.size ∧ b = i.bytes := by
  cases o with
  | call c =>
    simp only [trOp] at h
    split at h
    · cases h
    · obtain ⟨a, h1, h2⟩ := some_map h
      cases h2
    · rename_i s' x' hc hxs
      obtain ⟨s0, x0, ha, hs, hx⟩ := trXs_two hxs
      split at h
      · rename_i t u hat
        split at h
        · rename_i htu
          subst htu
          obtain ⟨e, i, z, h1, h2, h3, h4⟩ := trApp_inv h
          simp only [AOp.app.injEq] at h4
          obtain ⟨rfl, rfl, rfl, rfl⟩ := h4
          exact ⟨c, s0, x0, t, e, i, z, rfl, hc, arr_eq ha, arr_eq hat, h1, h2, h3, hs, hx, rfl, rfl⟩
        · cases h
      · cases h
    all_goals
      repeat' split at h
      all_goals first | (cases h; done)
  | _ =>
    simp only [trOp] at h
    repeat' split at h
    all_goals first | (cases h; done) | contradiction | (obtain ⟨a, h1, h2⟩ := some_map h; cases h2; done) | exact (trEq_na h).elim

theorem trX_nil {s : Operand} (h : trX s = some (.c (.fro true 0 []))) : s = .const (.slice none 0 0) := by
  unfold trX at h
  split at h
  · cases h
  · rename_i v
    split at h
    · rename_i a hv
      simp only [Option.some.injEq, AX.c.injEq] at h
      subst h
      unfold trV at hv
      split at hv <;> first | rfl | (cases hv; done)
    · cases h
  · cases h
  · cases h

theorem soft_sound {o : Op} {es b : Nat} {x : AX} (h : trOp P o = some (.app es b (.c (.fro true 0 [])) x)) : Sound P o (.appf es b x) := by
  obtain ⟨c, s0, x0, t, e, i, z, rfl, hc, ha, hat, ht, hz, hzs, hs, hx, rfl, rfl⟩ := trOp_app h
  have hs0 := trX_nil hs
  obtain ⟨hu, hi⟩ := elemT_inv ht
  intro σ σ' v hst
  simp only [stepE] at hst
  split at hst
  · rename_i xs hrow
    split at hst
    · rename_i hcnd
      obtain ⟨hb0, hby⟩ := hcnd
      simp only [Option.some.injEq, Prod.mk.injEq] at hst
      obtain ⟨rfl, rfl⟩ := hst
      refine ⟨.same, rfl, fun k hk => by simp [Chg.key] at hk, fun fr oper G w H U a ho hw hf hr hH hU => ?_⟩
      have hgo : ∀ u w', (Builtin.append_ #[t, t] oper.type #[.slice none 0 0, a.eval x0]).run P w = .ok u w' → (execOp a.eval oper).run P w = .ok (.value u) w' := fun u w' h => by
        have hsv : a.eval s0 = .slice none 0 0 := by rw [hs0]; rfl
        simp [execOp, ho, resolve, hc, ha, hat, invoke, builtin, hsv, h]
      have hx1 := hr x0 x (by simp [Op.operands, Call.operands, hc, ha]) hx
      obtain ⟨ad, cap, hxv, hcap, h6⟩ := row_rel hw hH hrow hx1
      have e3 : (fun j => U j ∧ (Chg.same.isNew = true → j ≠ σ.n)) = U := by funext j; simp [Chg.isNew]
      by_cases hx0 : xs = []
      · subst hx0
        refine ⟨_, _, G, .inl (hgo _ _ (by rw [hxv]; exact run_app0 hu hi (Nat.le_refl _))), ?_, .one (.fro0 fun h => by cases h) rfl⟩
        rw [e3]; exact Nxt.same hw hf (SameHeap.refl w)
      · rcases h6 with h6 | ⟨b2, o2, cs2, rfl, hrel2, hrd2⟩
        · exact absurd h6 hx0
        have hxl : xs.length ≠ 0 := fun h => hx0 (List.eq_nil_of_length_eq_zero h)
        obtain ⟨cap', cur', hrun, h7, h8, h9⟩ := run_appGrow (P := P) (ty := oper.type) (c := cap) (ad := none) (sLen := 0) (sCap := 0) (olds := []) hu hi hz hzs (by simp) (.inl ⟨rfl, rfl⟩) hrel2.size hrd2 hxl (by omega) hb0 (by simpa using hby)
        rw [Nat.zero_add] at hrun h7
        have h5 := Nxt.frozen hw hf (pushed_drew w (.cells cur' e))
        refine ⟨_, _, ⟨G.ρ, fun b => G.F b ∨ b = w.heap.size⟩, .inl (hgo _ _ (by rw [hxv]; exact hrun)), ?_, ?_⟩
        · rw [e3]; exact h5
        · have hx2 := (pushed_drew w (.cells cur' e)).ext G.F hw.fsz
          refine .one (.fro (b := w.heap.size) (o := 0) (hrel2.mono hx2 (fun _ h => .inl h)) (fun j v hj => ?_) (.inr rfl) (fun h => by cases h) h7) rfl
          rw [World.cell?, (pushed_drew w (.cells cur' e)).new]
          simpa using h9 j v (by simpa using hj)
    · cases hst
  · cases hst

theorem trEq_nm {op : BinOp} {t : TypeId} {x y : AX} {es b : Nat} {z : AV} {l : AX} (h : trEq P op t x y = some (.mks es b z l)) : False := by
  unfold trEq at h
  cases op <;> simp only at h <;> first | (cases h; done) | skip
  all_goals
    repeat' split at h
    all_goals first | (cases h; done)
theorem trApp_nm {t : TypeId} {s x : AX} {es b : Nat} {z : AV} {l : AX} (h : trApp P t s x = some (.mks es b z l)) : False := by
  obtain ⟨e, i, z, h1, h2, h3, h4⟩ := trApp_inv h
  cases h4

theorem trOp_mks {o : Op} {es b : Nat} {z : AV} {l : AX} (h : trOp P o = some (.mks es b z l)) : ∃ t l0 c e i, o = .makeSlice t l0 c ∧ elemT P t = some (e, i) ∧ trX l0 = some l ∧ zeroT P e = some z ∧ sameLen l0 c = true ∧ z.size = i.size ∧ es = i.size ∧ b = i.bytes := by
  cases o with
  | makeSlice t l0 c =>
    simp only [trOp] at h
    split at h
    · rename_i h1 h2
      split at h
      · rename_i z' h3
        split at h
        · rename_i h4
          simp only [Option.some.injEq, AOp.mks.injEq] at h
          obtain ⟨rfl, rfl, rfl, rfl⟩ := h
          exact ⟨t, l0, c, _, _, rfl, h1, h2, h3, h4.1, h4.2, rfl, rfl⟩
        · cases h
      · cases h
    · cases h
  | _ =>
    simp only [trOp] at h
    repeat' split at h
    all_goals first | (cases h; done) | contradiction | (obtain ⟨a, h1, h2⟩ := some_map h; cases h2; done) | exact (trEq_nm h).elim | exact (trApp_nm h).elim

theorem softm_sound {o : Op} {es b : Nat} {z : AV} {l' : AX} (h : trOp P o = some (.mks es b z l')) : Sound P o (.mksf es b z l') := by
  obtain ⟨t, l, c, e, i, rfl, ht, hl, hz, hsl, hzs, rfl, rfl⟩ := trOp_mks h
  intro σ σ' v hs
  simp only [stepE] at hs
  split at hs
  · rename_i n hn
    split at hs
    · rename_i hc
      obtain ⟨hc1, hc3, hc2⟩ := hc
      simp only [Option.some.injEq, Prod.mk.injEq] at hs
      obtain ⟨rfl, rfl⟩ := hs
      refine ⟨.same, rfl, fun k hk => by simp [Chg.key] at hk, fun fr oper G w H U a ho hw hf hr hH hU => ?_⟩
      obtain ⟨hu, hi⟩ := elemT_inv ht
      obtain ⟨i2, zv, h1, h2, h3, h4⟩ := zeroT_rel hz
      rw [hi] at h1
      simp only [Option.some.injEq] at h1
      subst h1
      have hlv := hr l l' (by simp [Op.operands]) hl
      obtain ⟨k, hle⟩ := asI_inv hn hlv
      have hce : ∃ kc, a.eval c = .int kc n := by
        unfold sameLen at hsl
        split at hsl
        · simp only [decide_eq_true_eq] at hsl
          subst hsl
          exact ⟨_, hle⟩
        · simp only [Bool.and_eq_true, decide_eq_true_eq] at hsl
          obtain ⟨⟨rfl, rfl⟩, rfl⟩ := hsl
          exact ⟨_, hle⟩
        · cases hsl
      obtain ⟨kc, hce⟩ := hce
      have hb1 : (i.bytes : Int) * n ≤ 281474976710656 := by
        have e2 : (i.bytes : Int) * n = ((n.toNat * i.bytes : Nat) : Int) := by
          rw [Int.natCast_mul, Int.mul_comm, Int.toNat_of_nonneg hc1]
        rw [e2]; omega
      have hb2 : n ≤ 9223372036854775807 := by
        have : n.toNat * 1 ≤ n.toNat * i.bytes := Nat.mul_le_mul_left _ (by omega)
        omega
      have hrun0 := run_make (P := P) w t e i zv hu hi h2 k kc n n hc1 (Int.le_refl _) hb1 hb2
      have hrun : (execOp a.eval oper).run P w = .ok (.value (.slice (some ⟨w.heap.size, 0, none⟩) n.toNat n.toNat)) (w.alloc (.cells (madeCells zv.cells (n.toNat * i.size)) e)) := by
        simp only [execOp, ho, hle, hce]
        exact run_val hrun0
      have e3 : (fun j => U j ∧ (Chg.same.isNew = true → j ≠ σ.n)) = U := by funext j; simp [Chg.isNew]
      have hzc : zv.cells.toList.length = i.size := by rw [((h4 w G.F noIds).1).size, hzs]
      have hzc' : zv.cells.size = i.size := by simpa using hzc
      have h5 := Nxt.frozen hw hf (pushed_alloc w (.cells (madeCells zv.cells (n.toNat * i.size)) e))
      have hrel := RelE.replicate (h4 (w.alloc (.cells (madeCells zv.cells (n.toNat * i.size)) e)) (fun b => G.F b ∨ b = w.heap.size) noIds).1 hzc n.toNat
      have hR : RelC (w.alloc (.cells (madeCells zv.cells (n.toNat * i.size)) e)) (fun b => G.F b ∨ b = w.heap.size) G.ρ (.fro false i.size (List.replicate n.toNat z)) [.slice (some ⟨w.heap.size, 0, none⟩) (List.replicate n.toNat z).length n.toNat] := by
        refine .fro (b := w.heap.size) (o := 0) hrel (fun j v hj => ?_) (.inr rfl) (fun h => by cases h) (by simp)
        rw [World.cell?, (pushed_alloc w (.cells (madeCells zv.cells (n.toNat * i.size)) e)).new]
        have := made_reads j v hj
        rw [hzc'] at this
        simpa using this
      rw [List.length_replicate] at hR
      refine ⟨_, _, ⟨G.ρ, fun b => G.F b ∨ b = w.heap.size⟩, .inl hrun, ?_, .one hR rfl⟩
      rw [e3]; exact h5
    · cases hs
  · cases hs

theorem trO_of {o : Op} {ao : AOp} (h : trOp P o = some ao) (z : Bool) : TrO P o (if z then softO ao else ao) := by
  cases z with
  | false => exact ⟨op_sound h, fun _ => h⟩
  | true =>
    simp only [if_true]
    unfold softO
    split
    · exact ⟨soft_sound h, fun hc => by simp [AOp.isCall] at hc⟩
    · exact ⟨softm_sound h, fun hc => by simp [AOp.isCall] at hc⟩
    · exact ⟨op_sound h, fun _ => h⟩
end
end Go.Ra
