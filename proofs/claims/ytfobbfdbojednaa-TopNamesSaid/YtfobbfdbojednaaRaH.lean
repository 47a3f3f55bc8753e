/- Each abstract operation is sound: those that make or write memory. -/
import Derived.Test.YtfobbfdbojednaaRaG
import Derived.Laws.MakeOwn
namespace Go.Ra
set_option linter.unusedVariables false
set_option linter.unusedSimpArgs false
section
variable {P : Program}

theorem pushed_alloc (w : World) (o : Obj) : Pushed w (w.alloc o) o := ⟨rfl, rfl, rfl, rfl⟩
theorem pushed_drew (w : World) (o : Obj) : Pushed w (w.drew.alloc o) o := ⟨rfl, rfl, rfl, rfl⟩

theorem sd_box_run {oper : Oper} {σ : St} {v : AV} (hv : v.storable = true) {fr : Fr} {G : Gh} {w : World} {H : Nat → Option AV} {U : Nat → Prop} {a : Act} (hw : Wf G w H U) (hf : FrOk fr G w H) (hU : U σ.n) {e : TypeId} {u : Value}
    (hrun : (execOp a.eval oper).run P w = .ok (.value (.pointer (some ⟨w.heap.size, 0, none⟩))) (w.alloc (.cells u.cells e))) (hr : RelV w G.F G.ρ v u) :
    Goes fr G w ((execOp a.eval oper).run P w) (.ptr σ.n [] 0) ((Chg.new v).H σ.n H) (fun j => U j ∧ ((Chg.new v).isNew = true → j ≠ σ.n)) := by
  have h1 := Nxt.own hw hf (pushed_alloc w (.cells u.cells e)) hU (hr.cells hv) (fun j v hj => by simpa using hj) (U' := fun j => U j ∧ ((Chg.new v).isNew = true → j ≠ σ.n)) (fun j hj => ⟨hj.1, hj.2 rfl⟩)
  exact ⟨_, _, _, .inl hrun, h1, .one (.ptr (upd_self _ _ _)) rfl⟩

theorem sd_box {t : TypeId} {x : Operand} {x' : AX} (hx : trX x = some x') : Sound P (.box t x) (.box x') := by
  intro σ σ' v hs
  simp only [stepE] at hs
  split at hs
  · rename_i hst
    simp only [Option.some.injEq, Prod.mk.injEq] at hs
    obtain ⟨rfl, rfl⟩ := hs
    refine ⟨.new (σ.ev x'), rfl, fun k hk => by simp [Chg.key] at hk, fun fr oper G w H U a ho hw hf hr hH hU => ?_⟩
    refine sd_box_run hst hw hf (hU rfl) (e := t) (u := a.eval x) ?_ (hr x x' (by simp [Op.operands]) hx)
    simp [execOp, ho, Instr.box, newVar, newRow, newObj, Sem.run]
  · cases hs

theorem sd_alloc {t : TypeId} {z : AV} (hz : zeroT P t = some z) : Sound P (.alloc t) (.box (.c z)) := by
  intro σ σ' v hs
  simp only [stepE] at hs
  split at hs
  · rename_i hst
    simp only [Option.some.injEq, Prod.mk.injEq] at hs
    obtain ⟨rfl, rfl⟩ := hs
    refine ⟨.new z, rfl, fun k hk => by simp [Chg.key] at hk, fun fr oper G w H U a ho hw hf hr hH hU => ?_⟩
    obtain ⟨i, zv, h1, h2, h3, h4⟩ := zeroT_rel hz
    have hz0 : (zeroValue t).run P w = .ok zv w := by simp [zeroValue, typeInfo, h1, h2]
    refine sd_box_run hst hw hf (hU rfl) (e := t) (u := zv) ?_ (h4 w G.F G.ρ).2
    simp only [execOp, ho]
    refine run_val ?_
    simp only [Instr.alloc, Sem.run_bind, hz0, Result.andThen]
    simp [newVar, newRow, newObj, Sem.run]
  · cases hs

/-- The parts of a slice literal, one behind the other. -/
theorem fill_slice {w : World} {G : Gh} {es : Nat} : ∀ {parts : List (Nat × Value)} {ts : List AV} {k : Nat} {pre post : List Value}, (∀ j p, parts[j]? = some p → p.1 = k + j) → RelVs w G.F G.ρ ts (parts.map (·.2)) → allOk es ts = true →
    pre.length = k * es → post.length = parts.length * es →
    ∃ cs, Instr.fill (fun i => some (i * es, es)) (pre ++ post).toArray parts = some (pre ++ cs).toArray ∧ RelE w G.F es ts cs
  | [], ts, k, pre, post, hk, hr, hok, hp, hq => by
    cases hr
    have : post = [] := List.eq_nil_of_length_eq_zero (by simpa using hq)
    subst this
    exact ⟨[], by simp [Instr.fill], .nil⟩
  | (i, v) :: parts, ts, k, pre, post, hk, hr, hok, hp, hq => by
    cases hr with
    | cons h1 h2 =>
      simp only [allOk, Bool.and_eq_true, beq_iff_eq] at hok
      have hi : i = k := by have := hk 0 (i, v) rfl; simpa using this
      subst hi
      have hc := h1.cells hok.1.1.2
      have hsz : v.cells.toList.length = es := by rw [hc.size]; exact hok.1.1.1
      have hsz' : v.cells.size = es := by simpa using hsz
      simp only [List.length_cons, Nat.add_mul, Nat.one_mul] at hq
      have e : pre ++ post = pre ++ (post.take es ++ post.drop es) := by rw [List.take_append_drop]
      have h3 := fill_one (place := fun i => some (i * es, es)) (i := i) (off := i * es) (v := v) (rest := parts) (pre := pre) (mid := post.take es) (post := post.drop es) (by simp [hsz']) hp (by simp; omega)
      obtain ⟨cs, h4, h5⟩ := fill_slice (k := i + 1) (pre := pre ++ v.cells.toList) (post := post.drop es) (fun j p hj => by have := hk (j + 1) p (by simpa using hj); omega) h2 hok.2 (by simp [hp, hsz', Nat.add_mul]) (by simp; omega)
      refine ⟨v.cells.toList ++ cs, ?_, .cons (hc.free hok.1.2) hsz h5⟩
      rw [e, h3, ← List.append_assoc, h4]
      simp

theorem inOrder_get : ∀ {ps : List (Nat × Operand)} {k : Nat}, inOrder k ps = true → ∀ j p, ps[j]? = some p → p.1 = k + j
  | [], k, h, j, p, hj => by simp at hj
  | q :: ps, k, h, j, p, hj => by
    simp only [inOrder, Bool.and_eq_true, beq_iff_eq] at h
    cases j with
    | zero =>
      simp only [List.getElem?_cons_zero, Option.some.injEq] at hj
      subst hj
      simpa using h.1
    | succ j =>
      simp only [List.getElem?_cons_succ] at hj
      have := inOrder_get h.2 j p hj
      omega

theorem sp_barr {t el : TypeId} {m n es : Nat} {zs : List AV} {i : TypeInfo} {parts : Array (Nat × Operand)} {xs' : List AX} (hu : P.underlying t = some (.array m el)) (hz : zeroT P t = some (.arr n es zs)) (hx : trXs (parts.toList.map (·.2)) = some xs') (hi : P.info? el = some i)
    (ho1 : inOrder 0 parts.toList = true) (ho2 : parts.size = n) (ho3 : i.size = es) (ho4 : zs.length = n) : SoundP P (.build t parts) (.barr n es xs') := by
  intro σ σ' v hs
  simp only [stepE] at hs
  split at hs
  · rename_i hok
    simp only [Option.some.injEq, Prod.mk.injEq] at hs
    obtain ⟨rfl, rfl⟩ := hs
    refine ⟨rfl, fun oper G w H U a ho hw hr hH => ?_⟩
    obtain ⟨inf, zv, h1, h2, h3, h4⟩ := zeroT_rel hz
    have h1' := RelVs.of_tr (σ := σ) (G := G) (w := w) (a := a) hx fun x x' hx hx' => hr x x' (by simpa [Op.operands] using hx) hx'
    have h2' : RelVs w G.F G.ρ (xs'.map σ.ev) ((parts.toList.map fun p => (p.1, a.eval p.2)).map (·.2)) := by
      rw [List.map_map]; rw [List.map_map] at h1'; exact h1'
    cases (h4 w G.F G.ρ).1 with
    | arr h7 h8 =>
      have hsz : zv.cells.toList.length = n * es := by rw [RelE.size h7, ho4]
      obtain ⟨cs, h5, h6⟩ := fill_slice (k := 0) (pre := []) (post := zv.cells.toList) (parts := parts.toList.map fun p => (p.1, a.eval p.2)) (fun j p hj => by
        rw [List.getElem?_map] at hj
        cases hq : parts.toList[j]? with
        | none => rw [hq] at hj; cases hj
        | some q =>
          rw [hq] at hj
          simp only [Option.map_some, Option.some.injEq] at hj
          subst hj
          exact inOrder_get ho1 j q hq) h2' hok.1 (by simp) (by rw [hsz]; simp [ho2])
      simp only [List.nil_append] at h5
      refine ⟨.agg cs.toArray, ?_, .agg (.arr h6 (by simp [hok.2])) rfl⟩
      simp only [execOp, ho]
      refine run_val ?_
      have e2 : (parts.map fun (x : Nat × Operand) => (x.1, a.eval x.2)).toList = parts.toList.map fun p => (p.1, a.eval p.2) := by simp
      have hz0 : (zeroValue t).run P w = .ok zv w := by simp [zeroValue, typeInfo, h1, h2]
      have hsz2 : (sizeOf el).run P w = .ok es w := by simp [sizeOf, typeInfo, hi, ho3]
      have e3 : zv.cells = (zv.cells.toList).toArray := by simp
      simp only [Instr.build, Sem.run_bind, hz0, Result.andThen, run_underlying hu, hsz2]
      rw [e2, e3, h5]
      simp
  · cases hs

theorem sd_bsl {t e : TypeId} {i : TypeInfo} {z : Value} {len : Nat} {parts : Array (Nat × Operand)} {xs' : List AX} (ht : elemT P t = some (e, i)) (hz : i.zero = some z) (hx : trXs (parts.toList.map (·.2)) = some xs') (ho1 : inOrder 0 parts.toList = true) (ho2 : parts.size = len) (ho3 : len * i.size ≤ 16777216) :
    Sound P (.buildSlice t len parts) (.bsl i.size xs') := by
  intro σ σ' v hs
  obtain ⟨hu, hi⟩ := elemT_inv ht
  simp only [stepE] at hs
  split at hs
  · rename_i hok
    simp only [Option.some.injEq, Prod.mk.injEq] at hs
    obtain ⟨rfl, rfl⟩ := hs
    refine ⟨.same, rfl, fun k hk => by simp [Chg.key] at hk, fun fr oper G w H U a ho hw hf hr hH hU => ?_⟩
    have h1 := RelVs.of_tr (σ := σ) (G := G) (w := w) (a := a) hx fun x x' hx hx' => hr x x' (by simpa [Op.operands] using hx) hx'
    have h2 : RelVs w G.F G.ρ (xs'.map σ.ev) ((parts.toList.map fun p => (p.1, a.eval p.2)).map (·.2)) := by
      rw [List.map_map]; rw [List.map_map] at h1; exact h1
    let init : List Value := ((Array.range (len * i.size)).map ((if len * i.size = 0 then (#[] : Array Value) else z.cells)[· % (if len * i.size = 0 then (#[] : Array Value) else z.cells).size]!)).toList
    have hinit : init.length = len * i.size := by simp [init]
    obtain ⟨cs, h3, h4⟩ := fill_slice (k := 0) (pre := []) (post := init) (parts := parts.toList.map fun p => (p.1, a.eval p.2)) (fun j p hj => by
      rw [List.getElem?_map] at hj
      cases hq : parts.toList[j]? with
      | none => rw [hq] at hj; cases hj
      | some q =>
        rw [hq] at hj
        simp only [Option.map_some, Option.some.injEq] at hj
        subst hj
        exact inOrder_get ho1 j q hq) h2 hok (by simp) (by rw [hinit]; simp [ho2])
    simp only [List.nil_append] at h3
    have hrun : (execOp a.eval oper).run P w = .ok (.value (.slice (some ⟨w.heap.size, 0, none⟩) len len)) (w.alloc (.cells cs.toArray e)) := by
      simp only [execOp, ho]
      refine run_val ?_
      have hbig : ¬ len * i.size > 2 ^ 24 := by omega
      have e2 : (parts.map fun (x : Nat × Operand) => (x.1, a.eval x.2)).toList = parts.toList.map fun p => (p.1, a.eval p.2) := by simp
      have hinit2 : init.toArray = (Array.range (len * i.size)).map ((if len * i.size = 0 then (#[] : Array Value) else z.cells)[· % (if len * i.size = 0 then (#[] : Array Value) else z.cells).size]!) := by
        simp only [init, Array.toArray_toList]
      have hsz : (sizeOf e).run P w = .ok i.size w := by simp [sizeOf, typeInfo, hi]
      have hzv : (zeroValue e).run P w = .ok z w := by simp [zeroValue, typeInfo, hi, hz]
      by_cases h0 : len * i.size = 0
      · simp only [if_pos h0] at hinit2
        simp only [Instr.buildSlice, Sem.run_bind, run_underlying hu, hsz, Result.andThen, if_neg hbig, Sem.run_pure, if_pos h0]
        rw [e2, ← hinit2, h3]
        simp [newRow, newObj, Sem.run]
      · simp only [if_neg h0] at hinit2
        simp only [Instr.buildSlice, Sem.run_bind, run_underlying hu, hsz, Result.andThen, if_neg hbig, Sem.run_pure, if_neg h0, hzv]
        rw [e2, ← hinit2, h3]
        simp [newRow, newObj, Sem.run]
    have h5 := Nxt.frozen hw hf (pushed_alloc w (.cells cs.toArray e))
    have hlen : (xs'.map σ.ev).length = len := by
      have e1 : ∀ {ts : List AV} {vs : List Value}, RelVs w G.F G.ρ ts vs → ts.length = vs.length := by
        intro ts vs h
        induction ts generalizing vs with
        | nil => cases h; rfl
        | cons t ts ih => cases h with | cons _ h => simp [ih h]
      rw [e1 h1]; simp [ho2]
    refine ⟨_, _, ⟨G.ρ, fun b => G.F b ∨ b = w.heap.size⟩, .inl hrun, ?_, ?_⟩
    · have e3 : (fun j => U j ∧ (Chg.same.isNew = true → j ≠ σ.n)) = U := by funext j; simp [Chg.isNew]
      rw [e3]; exact h5
    · refine .one ?_ rfl
      rw [← hlen]
      have hx := (pushed_alloc w (.cells cs.toArray e)).ext G.F hw.fsz
      refine .fro (b := w.heap.size) (o := 0) (h4.mono hx (fun _ h => .inl h)) (fun j v hj => ?_) (.inr rfl) (fun _ => rfl) (Nat.le_refl _)
      rw [World.cell?, (pushed_alloc w (.cells cs.toArray e)).new]
      simpa using hj
  · cases hs

theorem rowed_setRow {w : World} {b : Nat} {cur cs : Array Value} {e : TypeId} (hb : w.heap[b]? = some (Obj.cells cur e (0, 0))) (hs : cs.size = cur.size) : Rowed w (w.setRow b cs) b cur cs e :=
  ⟨hb, setRow_heap w b cur cs e _ hb, fun k hk => setRow_other w b k cs hk, hs, by simp [World.setRow], rfl, rfl, rfl⟩

theorem rowed_self {w : World} {b : Nat} {cur : Array Value} {e : TypeId} (hb : w.heap[b]? = some (Obj.cells cur e (0, 0))) : Rowed w w b cur cur e :=
  ⟨hb, hb, fun k hk => rfl, rfl, rfl, rfl, rfl, rfl⟩

theorem reads_cur {w : World} {b o : Nat} {cs : List Value} {cur : Array Value} {e : TypeId} (h : Reads w b o cs) (hb : w.heap[b]? = some (Obj.cells cur e (0, 0))) : ∀ (j : Nat) (v : Value), cs[j]? = some v → cur[o + j]? = some v := by
  intro j v hj
  have := h j v hj
  simpa [World.cell?, hb] using this

/-- Cells laid over a row: what is read there. -/
theorem laid_reads {cur : Array Value} {o : Nat} {pre mid new post : List Value} (h : ∀ (j : Nat) (v : Value), (pre ++ (mid ++ post))[j]? = some v → cur[o + j]? = some v) (hl : new.length = mid.length) (hb : o + pre.length + new.length ≤ cur.size) :
    ∀ (j : Nat) (v : Value), (pre ++ (new ++ post))[j]? = some v → (cur.toList.take (o + pre.length) ++ new ++ cur.toList.drop (o + pre.length + new.length)).toArray[o + j]? = some v := by
  intro j v hj
  have hlen : (cur.toList.take (o + pre.length)).length = o + pre.length := by simp; omega
  simp only [List.getElem?_toArray, List.append_assoc]
  by_cases h1 : j < pre.length
  · rw [List.getElem?_append_left (by omega), List.getElem?_take, if_pos (by omega)]
    rw [List.getElem?_append_left h1] at hj
    have := h j v (by rw [List.getElem?_append_left h1]; exact hj)
    simpa using this
  · rw [List.getElem?_append_right (by omega), hlen]
    rw [List.getElem?_append_right (by omega)] at hj
    have e1 : o + j - (o + pre.length) = j - pre.length := by omega
    rw [e1]
    by_cases h2 : j - pre.length < new.length
    · rw [List.getElem?_append_left h2] at hj ⊢
      exact hj
    · rw [List.getElem?_append_right (by omega)] at hj ⊢
      have := h j v (by rw [List.getElem?_append_right (by omega), List.getElem?_append_right (by omega), ← hl]; exact hj)
      rw [List.getElem?_drop]
      have e2 : o + pre.length + new.length + (j - pre.length - new.length) = o + j := by omega
      rw [e2]
      simpa using this

theorem sd_store {t : TypeId} {n : Nat} {x v : Operand} {x' v' : AX} (hn : szT P t = some n) (hn0 : n ≠ 0) (hx : trX x = some x') (hv : trX v = some v') : Sound P (.store t x v) (.store n x' v') := by
  intro σ σ' r hs
  simp only [stepE] at hs
  split at hs
  · rename_i id path off hxe
    split at hs
    · rename_i t0 ht0
      split at hs
      · rename_i o u t' hat hset
        split at hs
        · rename_i hc
          obtain ⟨rfl, hun, hvn, hst⟩ := hc
          simp only [Option.some.injEq, Prod.mk.injEq] at hs
          obtain ⟨rfl, rfl⟩ := hs
          refine ⟨.put id t', rfl, fun k hk => by simp only [Chg.key, Option.some.injEq] at hk; subst hk; simp [ht0], fun fr oper G w H U a ho hw hf hr hH hU => ?_⟩
          have hx1 := hr x x' (by simp [Op.operands]) hx
          rw [hxe] at hx1
          obtain ⟨b, ob, hρ, hxv⟩ := hx1.ptr_inv
          have hvr := (hr v v' (by simp [Op.operands]) hv).cells hst
          obtain ⟨cs, cur, e, h2, h3, h4, h5⟩ := hw.place hρ (hH _ _ ht0)
          obtain ⟨pre, mid, post, rfl, hp, hm, hm2⟩ := h2.at path hat
          have hlen : (a.eval v).cells.toList.length = mid.length := by rw [hvr.size, hvn, hm.size, hun]
          have hmn : mid.length = n := by rw [hm.size, hun]
          have h6 := hm2 _ _ _ hset hvr hlen
          have hbd := h4.bound h3 (by intro h0; simp only [List.append_eq_nil_iff] at h0; rw [h0.2.1] at hmn; exact hn0 hmn.symm)
          simp only [List.length_append] at hbd
          have hfit : ob + pre.length + (a.eval v).cells.toList.length ≤ cur.size := by omega
          have hst2 := run_storeCells_at P b (ob + pre.length) e (a.eval v).cells.toList 0 cur w h3 (by simpa using hfit) hvr.ones
          simp only [Nat.add_zero] at hst2
          obtain ⟨i, hi, hisz⟩ := szT_info hn
          have hsz : (sizeOf t).run P w = .ok n w := by simp [sizeOf, typeInfo, hi, hisz]
          have hcsz : (a.eval v).cells.size = n := by rw [← hmn, ← hlen]; simp
          have hrun : (execOp a.eval oper).run P w = .ok .skip (w.setRow b (cur.toList.take (ob + pre.length) ++ (a.eval v).cells.toList ++ cur.toList.drop (ob + pre.length + (a.eval v).cells.toList.length)).toArray) := by
            simp only [execOp, ho, Instr.storeAt, hxv, Instr.sureAddr, storeVar, Sem.run_bind, Sem.run_pure, Result.andThen, hsz, hcsz, ne_eq, not_true_eq_false, if_false, ← hp, hst2]
          have h7 := Nxt.rewrite hw hf (hH _ _ ht0) hρ (rowed_setRow h3 (cs := (cur.toList.take (ob + pre.length) ++ (a.eval v).cells.toList ++ cur.toList.drop (ob + pre.length + (a.eval v).cells.toList.length)).toArray)
            (by simp only [List.size_toArray, List.length_append, List.length_take, List.length_drop, Array.length_toList] at hfit ⊢; omega)) (i := id) (o' := ob) (.inl ⟨rfl, rfl⟩) h6 (laid_reads (reads_cur h4 h3) hlen hfit) (U' := fun j => U j ∧ ((Chg.put id t').isNew = true → j ≠ σ.n))
            (fun j hj => ⟨hj.1, fun hji => by subst hji; have := (hw.free j hj.1).1; rw [hH _ _ ht0] at this; cases this⟩)
          exact ⟨_, _, _, .inr ⟨hrun, rfl⟩, h7, .tup .nil⟩
        · cases hs
      · cases hs
    · cases hs
  · cases hs

theorem flat_get {cs : List Value} : ∀ (n j : Nat), j < n * cs.length → (List.replicate n cs).flatten[j]? = cs[j % cs.length]?
  | 0, j, h => by simp at h
  | n + 1, j, h => by
    rw [List.replicate_succ, List.flatten_cons]
    by_cases hj : j < cs.length
    · rw [List.getElem?_append_left hj, Nat.mod_eq_of_lt hj]
    · rw [List.getElem?_append_right (by omega), flat_get n (j - cs.length) (by rw [Nat.add_mul, Nat.one_mul] at h; omega), Nat.mod_eq_sub_mod (a := j) (b := cs.length) (by omega)]

theorem RelE.replicate {w : World} {F : Nat → Prop} {es : Nat} {z : AV} {cs : List Value} (h : RelC w F noIds z cs) (hs : cs.length = es) : ∀ n, RelE w F es (List.replicate n z) (List.replicate n cs).flatten
  | 0 => by simp; exact .nil
  | n + 1 => by rw [List.replicate_succ, List.replicate_succ, List.flatten_cons]; exact .cons h hs (RelE.replicate h hs n)

theorem made_reads {z : Value} {n : Nat} : ∀ (j : Nat) (v : Value), (List.replicate n z.cells.toList).flatten[j]? = some v → (madeCells z.cells (n * z.cells.size))[j]? = some v := by
  intro j v hj
  have hlt : j < n * z.cells.size := by
    have := (List.getElem?_eq_some_iff.1 hj).1
    simpa [List.length_flatten] using this
  rw [flat_get n j (by simpa using hlt)] at hj
  have hpos : 0 < z.cells.size := by
    rcases Nat.eq_zero_or_pos z.cells.size with h0 | h0
    · rw [h0] at hlt; simp at hlt
    · exact h0
  simp only [madeCells, Array.getElem?_map]
  rw [Array.getElem?_eq_getElem (by simpa using hlt)]
  simp only [Array.getElem_range, Option.map_some]
  have h3 : j % z.cells.size < z.cells.size := Nat.mod_lt _ hpos
  simp only [Array.length_toList, Array.getElem?_toList] at hj
  rw [Array.getElem?_eq_getElem h3] at hj
  rw [getElem!_pos z.cells _ h3]
  exact hj

theorem sd_mks {t e : TypeId} {i : TypeInfo} {z : AV} {l c : Operand} {l' : AX} (ht : elemT P t = some (e, i)) (hz : zeroT P e = some z) (hl : trX l = some l') (hsl : sameLen l c = true) (hzs : z.size = i.size) : Sound P (.makeSlice t l c) (.mks i.size i.bytes z l') := by
  intro σ σ' v hs
  simp only [stepE] at hs
  split at hs
  · rename_i n hn
    split at hs
    · rename_i hc
      obtain ⟨hc1, hc3, hc2⟩ := hc
      simp only [Option.some.injEq, Prod.mk.injEq] at hs
      obtain ⟨rfl, rfl⟩ := hs
      refine ⟨.new (.arr n.toNat i.size (List.replicate n.toNat z)), rfl, fun k hk => by simp [Chg.key] at hk, fun fr oper G w H U a ho hw hf hr hH hU => ?_⟩
      obtain ⟨hu, hi⟩ := elemT_inv ht
      obtain ⟨i2, zv, h1, h2, h3, h4⟩ := zeroT_rel hz
      rw [hi] at h1
      simp only [Option.some.injEq] at h1
      subst h1
      have hlv := hr l l' (by simp [Op.operands]) hl
      obtain ⟨k, hle⟩ := asI_inv hn hlv
      have hce : ∃ kc, a.eval c = .int kc n := by
        unfold sameLen at hsl
        split at hsl
        · simp only [decide_eq_true_eq] at hsl
          subst hsl
          exact ⟨_, hle⟩
        · simp only [Bool.and_eq_true, decide_eq_true_eq] at hsl
          obtain ⟨⟨rfl, rfl⟩, rfl⟩ := hsl
          exact ⟨_, hle⟩
        · cases hsl
      obtain ⟨kc, hce⟩ := hce
      have hb1 : (i.bytes : Int) * n ≤ 281474976710656 := by
        have e2 : (i.bytes : Int) * n = ((n.toNat * i.bytes : Nat) : Int) := by
          rw [Int.natCast_mul, Int.mul_comm, Int.toNat_of_nonneg hc1]
        rw [e2]; omega
      have hb2 : n ≤ 9223372036854775807 := by
        have : n.toNat * 1 ≤ n.toNat * i.bytes := Nat.mul_le_mul_left _ (by omega)
        omega
      have hrun0 := run_make (P := P) w t e i zv hu hi h2 k kc n n hc1 (Int.le_refl _) hb1 hb2
      have hrun : (execOp a.eval oper).run P w = .ok (.value (.slice (some ⟨w.heap.size, 0, none⟩) n.toNat n.toNat)) (w.alloc (.cells (madeCells zv.cells (n.toNat * i.size)) e)) := by
        simp only [execOp, ho, hle, hce]
        exact run_val hrun0
      have hzc : zv.cells.toList.length = i.size := by rw [((h4 w G.F noIds).1).size, hzs]
      have hzc' : zv.cells.size = i.size := by simpa using hzc
      have h5 := Nxt.own hw hf (pushed_alloc w (.cells (madeCells zv.cells (n.toNat * i.size)) e)) (hU rfl) (t := .arr n.toNat i.size (List.replicate n.toNat z)) (cs := (List.replicate n.toNat zv.cells.toList).flatten)
        (.arr (RelE.replicate (h4 w G.F noIds).1 hzc _) (by simp)) (by rw [← hzc']; exact made_reads) (U' := fun j => U j ∧ ((Chg.new (.arr n.toNat i.size (List.replicate n.toNat z))).isNew = true → j ≠ σ.n)) (fun j hj => ⟨hj.1, hj.2 rfl⟩)
      refine ⟨_, _, _, .inl hrun, h5, .one (.sl (b := w.heap.size) (o := 0) (upd_self _ _ _) (Nat.le_refl _) (pushed_alloc w _).new ?_) rfl⟩
      rw [size_madeCells]; omega
    · cases hs
  · cases hs

theorem upd_same {α : Type} (f : Nat → Option α) {k : Nat} {t : α} (h : f k = some t) : upd (upd f k none) k (some t) = f := by
  funext j
  by_cases hj : j = k
  · subst hj; rw [upd_self, h]
  · rw [upd_ne _ _ hj, upd_ne _ _ hj]

theorem run_copyAny {w : World} {dT sT ty e : TypeId} {i : TypeInfo} (hu : P.underlying dT = some (.slice e)) (hi : P.info? e = some i) {b o dLen dCap : Nat} {a : Option Addr} {sLen sCap : Nat} {cur : Array Value} {t : TypeId} {cs : List Value}
    (hg : w.heap[b]? = some (.cells cur t (0, 0))) (hn : cs.length = Nat.min sLen dLen * i.size) (hsrc : Nat.min sLen dLen = 0 ∨ ∃ b' o', a = some ⟨b', o', none⟩ ∧ Reads w b' o' cs) (hfit : o + cs.length ≤ cur.size) (h1 : ∀ v ∈ cs, v.oneCell' = true) :
    (Builtin.copy_ #[dT, sT] ty #[.slice (some ⟨b, o, none⟩) dLen dCap, .slice a sLen sCap]).run P w =
      .ok (goInt (Nat.min sLen dLen : Nat)) (w.setRow b (cur.toList.take o ++ cs ++ cur.toList.drop (o + cs.length)).toArray) := by
  have hs := run_storeCells_at P b o t cs 0 cur w hg (by simpa using hfit) h1
  simp only [Nat.add_zero] at hs
  have hf : (Builtin.firstCells i.size (Nat.min sLen dLen) (.slice a sLen sCap)).run P w = .ok cs.toArray w := by
    rcases hsrc with h0 | ⟨b', o', rfl, hr⟩
    · rw [h0] at hn ⊢
      have : cs = [] := List.eq_nil_of_length_eq_zero (by simpa using hn)
      subst this
      cases a with
      | none => simp [Builtin.firstCells]
      | some a => simp [Builtin.firstCells, loadCells, loadCellsFrom]
    · exact run_firstCells_some (P := P) w i.size _ ⟨b', o', none⟩ sLen sCap cs hn (fun j v hj => by rw [add_lit]; exact hr j v hj)
  simp only [Builtin.copy_, Sem.run_bind, run_underlying hu, Result.andThen, Builtin.lenOf, Sem.run_pure, sizeOf, typeInfo, hi, hf, hs, List.getElem?_toArray]
  simp [hf, hs, hi, sizeOf, typeInfo, run_underlying hu, Builtin.lenOf]

theorem run_copy0 {w : World} {dT sT ty e : TypeId} {i : TypeInfo} (hu : P.underlying dT = some (.slice e)) (hi : P.info? e = some i) {dLen dCap : Nat} {d a : Option Addr} {sLen sCap : Nat} (hn : Nat.min sLen dLen = 0) :
    (Builtin.copy_ #[dT, sT] ty #[.slice d dLen dCap, .slice a sLen sCap]).run P w = .ok (goInt (Nat.min sLen dLen : Nat)) w := by
  rw [hn]
  cases a <;> cases d <;> simp [Builtin.copy_, run_underlying hu, Builtin.lenOf, sizeOf, typeInfo, hi, hn, Builtin.firstCells, loadCells, loadCellsFrom, storeCells]

theorem sd_copy {dT sT e e' : TypeId} {i i' : TypeInfo} {c : Call} {x y : Operand} {x' y' : AX} (hc : c.callee = .builtin .copy) (ha : c.args = #[x, y]) (hat : c.argTypes = #[dT, sT]) (ht : elemT P dT = some (e, i)) (ht' : elemT P sT = some (e', i')) (hsz : i'.size = i.size)
    (hx : trX x = some x') (hy : trX y = some y') : Sound P (.call c) (.copy i.size x' y') := by
  intro σ σ' v hs
  simp only [stepE] at hs
  obtain ⟨hu, hi⟩ := elemT_inv ht
  split at hs
  · rename_i id off k len es' xs hxe hrow
    split at hs
    · rename_i n es'' ts ht0
      split at hs
      · rename_i hcnd
        obtain ⟨rfl, rfl, rfl, rfl, rfl⟩ := hcnd
        simp only [Option.some.injEq, Prod.mk.injEq] at hs
        obtain ⟨rfl, rfl⟩ := hs
        refine ⟨.put id (.arr n i.size (xs.take ts.length ++ ts.drop xs.length)), rfl, fun k hk => by simp only [Chg.key, Option.some.injEq] at hk; subst hk; simp [ht0], fun fr oper G w H U a ho hw hf hr hH hU => ?_⟩
        have hx1 := hr x x' (by simp [Op.operands, Call.operands, hc, ha]) hx
        have hy1 := hr y y' (by simp [Op.operands, Call.operands, hc, ha]) hy
        rw [hxe] at hx1
        obtain ⟨ad, cap, hxv, hcap, h3⟩ := hx1.sl_inv
        obtain ⟨ad2, cap2, hyv, hcap2, h6⟩ := row_rel hw hH hrow hy1
        have hgo : ∀ u w', (Builtin.copy_ #[dT, sT] oper.type #[a.eval x, a.eval y]).run P w = .ok u w' → (execOp a.eval oper).run P w = .ok (.value u) w' := fun u w' h => by
          simp [execOp, ho, resolve, hc, ha, hat, invoke, builtin, h]
        have hU' : (fun j => U j ∧ ((Chg.put id (.arr n i.size (xs.take ts.length ++ ts.drop xs.length))).isNew = true → j ≠ σ.n)) = U := by funext j; simp [Chg.isNew]
        by_cases h0 : Nat.min xs.length ts.length = 0
        · have hrun := run_copy0 (P := P) (w := w) (dT := dT) (sT := sT) (ty := oper.type) hu hi (dLen := ts.length) (dCap := cap) (sLen := xs.length) (sCap := cap2) (d := ad) (a := ad2) h0
          have hsame : xs.take ts.length ++ ts.drop xs.length = ts := by
            rcases Nat.min_eq_zero_iff.1 h0 with h | h
            · rw [List.eq_nil_of_length_eq_zero h]; simp
            · rw [List.eq_nil_of_length_eq_zero h]; simp
          have h7 := Nxt.same hw hf (SameHeap.refl w)
          refine ⟨_, _, G, .inl (hgo _ _ (by rw [hxv, hyv]; exact hrun)), ?_, .one (.sc rfl) rfl⟩
          rw [hU', hsame]
          simp only [Chg.H]
          rw [upd_same H (hH _ _ ht0)]
          exact h7
        · have hts : ts.length ≠ 0 := fun h => h0 (Nat.min_eq_zero_iff.2 (.inr h))
          have hxs : xs.length ≠ 0 := fun h => h0 (Nat.min_eq_zero_iff.2 (.inl h))
          rcases h3 with ⟨h3, _⟩ | ⟨b, o, cur, e2, h3, hρ, hheap, hfit⟩
          · exact absurd h3 hts
          rcases h6 with h6 | ⟨b2, o2, cs2, h6, hrel2, hrd2⟩
          · subst h6; exact absurd rfl hxs
          obtain ⟨cs, cur1, e1, hrel, hheap1, hrd, hnF⟩ := hw.place hρ (hH _ _ ht0)
          rw [hheap] at hheap1
          simp only [Option.some.injEq, Obj.cells.injEq, and_true] at hheap1
          obtain ⟨rfl, rfl⟩ := hheap1
          cases hrel with
          | arr hrel hn =>
            have hm1 : Nat.min xs.length ts.length ≤ xs.length := Nat.min_le_left _ _
            have hm2 : Nat.min xs.length ts.length ≤ ts.length := Nat.min_le_right _ _
            generalize hm : Nat.min xs.length ts.length = m at *
            have hl2 := hrel2.size
            have hl1 := hrel.size
            have hmul1 : m * i.size ≤ xs.length * i.size := Nat.mul_le_mul_right _ hm1
            have hmul2 : m * i.size ≤ ts.length * i.size := Nat.mul_le_mul_right _ hm2
            have hmul3 : ts.length * i.size ≤ cap * i.size := Nat.mul_le_mul_right _ hcap
            have hnew := hrel2.take m
            have hlen : (cs2.take (m * i.size)).length = m * i.size := by simp; omega
            have hrun := run_copyAny (P := P) (w := w) (dT := dT) (sT := sT) (ty := oper.type) hu hi (b := b) (o := o) (dLen := ts.length) (dCap := cap) (a := ad2) (sLen := xs.length) (sCap := cap2) hheap (cs := cs2.take (m * i.size)) (by rw [hm]; exact hlen)
              (.inr ⟨b2, o2, h6, hrd2.take _⟩) (by omega) hnew.ones
            have hR := rowed_setRow hheap (cs := (cur.toList.take o ++ cs2.take (m * i.size) ++ cur.toList.drop (o + (cs2.take (m * i.size)).length)).toArray) (by
              simp only [List.size_toArray, List.length_append, List.length_take, List.length_drop, Array.length_toList] at hlen ⊢; omega)
            have e3 : cs = [] ++ (cs.take (m * i.size) ++ cs.drop (m * i.size)) := by simp
            have hcell := laid_reads (cur := cur) (o := o) (pre := []) (mid := cs.take (m * i.size)) (new := cs2.take (m * i.size)) (post := cs.drop (m * i.size)) (by rw [← e3]; exact reads_cur hrd hheap) (by rw [hlen]; simp; omega) (by simp only [List.length_nil]; omega)
            have e4 : xs.take ts.length ++ ts.drop xs.length = xs.take m ++ ts.drop m := by
              rcases Nat.le_total xs.length ts.length with h | h
              · have : m = xs.length := by rw [← hm]; exact Nat.min_eq_left h
                rw [this, List.take_of_length_le h, List.take_of_length_le (Nat.le_refl _)]
              · have : m = ts.length := by rw [← hm]; exact Nat.min_eq_right h
                rw [this, List.drop_of_length_le h, List.drop_of_length_le (Nat.le_refl _)]
            have hC : RelC w G.F G.ρ (.arr n i.size (xs.take ts.length ++ ts.drop xs.length)) ([] ++ (cs2.take (m * i.size) ++ cs.drop (m * i.size))) := by
              rw [e4]
              refine .arr (hnew.append (hrel.drop m)) ?_
              simp; omega
            have h7 := Nxt.rewrite hw hf (hH _ _ ht0) hρ hR (i := id) (o' := o) (.inl ⟨rfl, rfl⟩) hC (by simpa using hcell) (U' := fun j => U j ∧ ((Chg.put id (.arr n i.size (xs.take ts.length ++ ts.drop xs.length))).isNew = true → j ≠ σ.n))
              (fun j hj => ⟨hj.1, fun hji => by subst hji; have := (hw.free j hj.1).1; rw [hH _ _ ht0] at this; cases this⟩)
            refine ⟨_, _, _, .inl (hgo _ _ (by rw [hxv, hyv, h3]; exact hrun)), h7, ?_⟩
            rw [hm]
            exact .one (.sc rfl) rfl
      · cases hs
    · cases hs
  · cases hs

theorem run_app0 {w : World} {t ty e : TypeId} {i : TypeInfo} (hu : P.underlying t = some (.slice e)) (hi : P.info? e = some i) {s a : Option Addr} {n cap c : Nat} (hn : n ≤ cap) :
    (Builtin.append_ #[t, t] ty #[.slice s n cap, .slice a 0 c]).run P w = .ok (.slice s n cap) w := by
  cases a <;> cases s <;> simp [Builtin.append_, run_underlying hu, sizeOf, typeInfo, hi, Builtin.lenOf, hn, Builtin.firstCells, loadCells, loadCellsFrom, storeCells]

theorem run_appRoom {w : World} {t ty e : TypeId} {i : TypeInfo} (hu : P.underlying t = some (.slice e)) (hi : P.info? e = some i) {b o sLen sCap : Nat} {cur : Array Value} {e2 : TypeId} (hg : w.heap[b]? = some (.cells cur e2 (0, 0)))
    {b2 o2 m c : Nat} {news : List Value} (hl : news.length = m * i.size) (hr : Reads w b2 o2 news) (h1 : ∀ u ∈ news, u.oneCell' = true) (hroom : sLen + m ≤ sCap) (hfit : o + sLen * i.size + news.length ≤ cur.size) :
    (Builtin.append_ #[t, t] ty #[.slice (some ⟨b, o, none⟩) sLen sCap, .slice (some ⟨b2, o2, none⟩) m c]).run P w =
      .ok (.slice (some ⟨b, o, none⟩) (sLen + m) sCap) (w.setRow b (cur.toList.take (o + sLen * i.size) ++ news ++ cur.toList.drop (o + sLen * i.size + news.length)).toArray) := by
  have hf := run_firstCells_some (P := P) w i.size m ⟨b2, o2, none⟩ m c news hl (fun j v hj => by rw [add_lit]; exact hr j v hj)
  have hst := run_storeCells_at P b (o + sLen * i.size) e2 news 0 cur w hg (by simpa using hfit) h1
  simp only [Nat.add_zero] at hst
  simp [Builtin.append_, run_underlying hu, sizeOf, typeInfo, hi, Builtin.lenOf, hroom, hf, add_lit, hst]

theorem run_appGrow {w : World} {t ty e : TypeId} {i : TypeInfo} {z : Value} (hu : P.underlying t = some (.slice e)) (hi : P.info? e = some i) (hz : i.zero = some z) (hzs : z.cells.size = i.size) {ad : Option Addr} {sLen sCap : Nat} {olds : List Value} (hlo : olds.length = sLen * i.size)
    (hold : (sLen = 0 ∧ sCap = 0) ∨ ∃ b o, ad = some ⟨b, o, none⟩ ∧ Reads w b o olds) {b2 o2 m c : Nat} {news : List Value} (hl : news.length = m * i.size) (hr : Reads w b2 o2 news) (hm : m ≠ 0) (hg : sCap < sLen + m) (hb0 : 0 < i.bytes) (hby1 : (sLen + m) * i.bytes ≤ 140737488355328) :
    ∃ cap' cur', (Builtin.append_ #[t, t] ty #[.slice ad sLen sCap, .slice (some ⟨b2, o2, none⟩) m c]).run P w = .ok (.slice (some ⟨w.heap.size, 0, none⟩) (sLen + m) cap') (w.drew.alloc (.cells cur' e)) ∧
      sLen + m ≤ cap' ∧ cur'.size = cap' * i.size ∧ ∀ (j : Nat) (v : Value), (olds ++ news)[j]? = some v → cur'[j]? = some v := by
  have hby2 : (sLen + m) * 1 ≤ (sLen + m) * i.bytes := Nat.mul_le_mul_left _ hb0
  have hread : ∀ j v, news[j]? = some v → w.cell? ((⟨b2, o2, none⟩ : Addr).add j) = some v := fun j v hj => by rw [add_lit]; exact hr j v hj
  have hge := grownCap_ge w (sLen + m) sCap e
  have hsz : (olds.toArray ++ news.toArray ++ Builtin.zeroCells z.cells (grownCap w (sLen + m) sCap e - (sLen + m))).size = grownCap w (sLen + m) sCap e * i.size := by
    simp only [Array.size_append, List.size_toArray, size_zeroCells, hzs, hlo, hl, ← Nat.add_mul]
    congr 1
    omega
  have hcells : ∀ (j : Nat) (v : Value), (olds ++ news)[j]? = some v → (olds.toArray ++ news.toArray ++ Builtin.zeroCells z.cells (grownCap w (sLen + m) sCap e - (sLen + m)))[j]? = some v := by
    intro j v hj
    have hlt := (List.getElem?_eq_some_iff.1 hj).1
    have h1 : (olds.toArray ++ news.toArray ++ Builtin.zeroCells z.cells (grownCap w (sLen + m) sCap e - (sLen + m)))[j]? = (olds.toArray ++ news.toArray)[j]? := Array.getElem?_append_left (by simpa using hlt)
    rw [h1]
    simpa using hj
  have hgrow : ∀ b o, ad = some ⟨b, o, none⟩ → (∀ j v, olds[j]? = some v → w.cell? ((⟨b, o, none⟩ : Addr).add j) = some v) → ∃ cap' cur', (Builtin.append_ #[t, t] ty #[.slice ad sLen sCap, .slice (some ⟨b2, o2, none⟩) m c]).run P w = .ok (.slice (some ⟨w.heap.size, 0, none⟩) (sLen + m) cap') (w.drew.alloc (.cells cur' e)) ∧
      sLen + m ≤ cap' ∧ cur'.size = cap' * i.size ∧ ∀ (j : Nat) (v : Value), (olds ++ news)[j]? = some v → cur'[j]? = some v := fun b o had hro => by
    subst had
    have hrun := run_append_grow (P := P) w t ty e i z hu hi hz ⟨b, o, none⟩ sLen sCap olds hlo hro ⟨b2, o2, none⟩ m c news hl hread hg (by omega) (growslice_fits (by omega) (by omega))
    exact ⟨_, _, hrun, hge, hsz, hcells⟩
  rcases hold with ⟨rfl, rfl⟩ | ⟨b, o, had, hro⟩
  · have h0 : olds = [] := List.eq_nil_of_length_eq_zero (by simpa using hlo)
    subst h0
    cases ad with
    | none =>
      have hb0' : m * i.bytes ≤ 140737488355328 := by simpa using hby1
      have hrun := run_append_nil (P := P) w t ty e i z hu hi hz ⟨b2, o2, none⟩ m c news hl hread (by omega) (by omega) (by omega)
      simp only [Nat.zero_add, List.nil_append] at hge hsz hcells ⊢
      refine ⟨_, _, hrun, hge, ?_, ?_⟩
      · simpa using hsz
      · simpa using hcells
    | some ad =>
      obtain ⟨b, o, f⟩ := ad
      have hrun := run_append_grow (P := P) w t ty e i z hu hi hz ⟨b, o, f⟩ 0 0 [] hlo (by simp) ⟨b2, o2, none⟩ m c news hl hread hg (by omega) (growslice_fits (by omega) (by omega))
      exact ⟨_, _, hrun, hge, hsz, hcells⟩
  · exact hgrow b o had (fun j v hj => by rw [add_lit]; exact hro j v hj)

theorem laid_end {cur : Array Value} {o : Nat} {pre new : List Value} (h : ∀ (j : Nat) (v : Value), pre[j]? = some v → cur[o + j]? = some v) (hb : o + pre.length + new.length ≤ cur.size) :
    ∀ (j : Nat) (v : Value), (pre ++ new)[j]? = some v → (cur.toList.take (o + pre.length) ++ new ++ cur.toList.drop (o + pre.length + new.length)).toArray[o + j]? = some v := by
  intro j v hj
  have hlen : (cur.toList.take (o + pre.length)).length = o + pre.length := by simp; omega
  simp only [List.getElem?_toArray, List.append_assoc]
  by_cases h1 : j < pre.length
  · rw [List.getElem?_append_left (by omega), List.getElem?_take, if_pos (by omega)]
    rw [List.getElem?_append_left h1] at hj
    simpa using h j v hj
  · rw [List.getElem?_append_right (by omega), hlen]
    rw [List.getElem?_append_right (by omega)] at hj
    have hlt := (List.getElem?_eq_some_iff.1 hj).1
    rw [List.getElem?_append_left (by omega)]
    have e1 : o + j - (o + pre.length) = j - pre.length := by omega
    rw [e1]; exact hj

/-- A row laid anew, under a new name. -/
theorem app_own {fr : Fr} {G : Gh} {w : World} {H : Nat → Option AV} {U U' : Nat → Prop} (hw : Wf G w H U) (hf : FrOk fr G w H) {i n es cap : Nat} {e : TypeId} {cur : Array Value} {ts : List AV} {cs : List Value} {r : Result Next} (hU : U i)
    (hrun : r = .ok (.value (.slice (some ⟨w.heap.size, 0, none⟩) n cap)) (w.drew.alloc (.cells cur e))) (hts : ts.length = n) (hrel : RelE w G.F es ts cs) (hcap : n ≤ cap) (hsz : cur.size = cap * es) (hc : ∀ (j : Nat) (v : Value), cs[j]? = some v → cur[j]? = some v) (hU' : ∀ j, U' j → U j ∧ j ≠ i) :
    Goes fr G w r (.sl i [] 0 0 n es) (upd H i (some (.arr n es ts))) U' := by
  have h1 := Nxt.own hw hf (pushed_drew w (.cells cur e)) hU (t := .arr n es ts) (cs := cs) (.arr hrel hts) hc hU'
  refine ⟨_, _, _, .inl hrun, h1, .one (.sl (b := w.heap.size) (o := 0) (upd_self _ _ _) hcap (pushed_drew w _).new ?_) rfl⟩
  rw [hsz]; omega

theorem sd_app {t e : TypeId} {i : TypeInfo} {z : Value} {c : Call} {s x : Operand} {s' x' : AX} (hc : c.callee = .builtin .append) (ha : c.args = #[s, x]) (hat : c.argTypes = #[t, t]) (ht : elemT P t = some (e, i)) (hz : i.zero = some z) (hzs : z.cells.size = i.size) (hs' : trX s = some s') (hx : trX x = some x') :
    Sound P (.call c) (.app i.size i.bytes s' x') := by
  intro σ σ' v hs
  obtain ⟨hu, hi⟩ := elemT_inv ht
  simp only [stepE] at hs
  split at hs
  · rename_i xs hrow
    have hgo : ∀ (oper : Oper) (a : Act) (w : World) u w', oper.op = .call c → (Builtin.append_ #[t, t] oper.type #[a.eval s, a.eval x]).run P w = .ok u w' → (execOp a.eval oper).run P w = .ok (.value u) w' := fun oper a w u w' ho h => by
      simp [execOp, ho, resolve, hc, ha, hat, invoke, builtin, h]
    unfold appA at hs
    split at hs
    · rename_i es' ts hse
      split at hs
      · rename_i hcnd
        obtain ⟨hes, hne, hb0, hby⟩ := hcnd
        simp only [Option.some.injEq, Prod.mk.injEq] at hs
        obtain ⟨rfl, rfl⟩ := hs
        refine ⟨.new (.arr (ts.length + xs.length) i.size (ts ++ xs)), rfl, fun k hk => by simp [Chg.key] at hk, fun fr oper G w H U a ho hw hf hr hH hU => ?_⟩
        have hs1 := hr s s' (by simp [Op.operands, Call.operands, hc, ha]) hs'
        have hx1 := hr x x' (by simp [Op.operands, Call.operands, hc, ha]) hx
        rw [hse] at hs1
        obtain ⟨ad, cap, hsv, hcap, hxt, h3⟩ := hs1.fro_inv
        have hcap' := hxt rfl
        subst hcap'
        obtain ⟨ad2, cap2, hxv, hcap2, h6⟩ := row_rel hw hH hrow hx1
        have hU2 : ∀ j, (U j ∧ ((Chg.new (.arr (ts.length + xs.length) i.size (ts ++ xs))).isNew = true → j ≠ σ.n)) → U j ∧ j ≠ σ.n := fun j hj => ⟨hj.1, hj.2 rfl⟩
        by_cases hx0 : xs = []
        · subst hx0
          have ht0 : ts = [] := by simpa using hne
          subst ht0
          have h1 := Nxt.none hw hf (SameHeap.refl w) (hU rfl) i.size hU2
          exact ⟨_, _, G, .inl (hgo oper a w _ _ ho (by rw [hsv, hxv]; exact run_app0 hu hi (Nat.le_refl _))), h1, .one .sl0 rfl⟩
        · rcases h6 with h6 | ⟨b2, o2, cs2, rfl, hrel2, hrd2⟩
          · exact absurd h6 hx0
          have hxl : xs.length ≠ 0 := fun h => hx0 (List.eq_nil_of_length_eq_zero h)
          have hold : ∃ olds, RelE w G.F i.size ts olds ∧ ((ts.length = 0 ∧ ts.length = 0) ∨ ∃ b o, ad = some ⟨b, o, none⟩ ∧ Reads w b o olds) := by
            rcases h3 with h3 | ⟨b, o, cs, rfl, h3, h4, _⟩
            · subst h3; exact ⟨[], .nil, .inl ⟨rfl, rfl⟩⟩
            · rcases hes with rfl | rfl
              · exact ⟨cs, h3, .inr ⟨b, o, rfl, h4⟩⟩
              · exact ⟨[], .nil, .inl ⟨rfl, rfl⟩⟩
          obtain ⟨olds, hrel1, hold⟩ := hold
          obtain ⟨cap', cur', hrun, h7, h8, h9⟩ := run_appGrow (P := P) (ty := oper.type) (c := cap2) hu hi hz hzs hrel1.size hold hrel2.size hrd2 hxl (by omega) hb0 hby
          exact app_own hw hf (hU rfl) (hgo oper a w _ _ ho (by rw [hsv, hxv]; exact hrun)) (by simp) (hrel1.append hrel2) h7 h8 h9 hU2
      · cases hs
    · rename_i id off k len es' hse
      split at hs
      · rename_i n es'' ts ht0
        split at hs
        · rename_i hcnd
          obtain ⟨rfl, rfl, hoff, hkl, hb0, hby⟩ := hcnd
          simp only [Option.some.injEq, Prod.mk.injEq] at hs
          obtain ⟨rfl, rfl⟩ := hs
          refine ⟨.move id (.arr (len + xs.length) i.size ((ts.drop k).take len ++ xs)), rfl, fun k hk => by simp only [Chg.key, Option.some.injEq] at hk; subst hk; simp [ht0], fun fr oper G w H U a ho hw hf hr hH hU => ?_⟩
          have hs1 := hr s s' (by simp [Op.operands, Call.operands, hc, ha]) hs'
          have hx1 := hr x x' (by simp [Op.operands, Call.operands, hc, ha]) hx
          rw [hse] at hs1
          obtain ⟨ad, cap, hsv, hcap, h3⟩ := hs1.sl_inv
          obtain ⟨ad2, cap2, hxv, hcap2, h6⟩ := row_rel hw hH hrow hx1
          have hU2 : ∀ j, (U j ∧ ((Chg.move id (.arr (len + xs.length) i.size ((ts.drop k).take len ++ xs))).isNew = true → j ≠ σ.n)) → U j ∧ j ≠ σ.n := fun j hj => ⟨hj.1, hj.2 rfl⟩
          have hlen : ((ts.drop k).take len ++ xs).length = len + xs.length := by simp; omega
          rcases h3 with ⟨rfl, rfl⟩ | ⟨b, o, cur, e2, rfl, hρ, hheap, hfit⟩
          · by_cases hx0 : xs = []
            · subst hx0
              have h1 := Nxt.none (hw.kill id) (hf.kill id) (SameHeap.refl w) (hU rfl) i.size hU2
              refine ⟨_, _, G, .inl (hgo oper a w _ _ ho (by rw [hsv, hxv]; exact run_app0 hu hi (Nat.le_refl _))), ?_, .one .sl0 rfl⟩
              simpa [Chg.H] using h1
            · rcases h6 with h6 | ⟨b2, o2, cs2, rfl, hrel2, hrd2⟩
              · exact absurd h6 hx0
              have hxl : xs.length ≠ 0 := fun h => hx0 (List.eq_nil_of_length_eq_zero h)
              obtain ⟨cap', cur', hrun, h7, h8, h9⟩ := run_appGrow (P := P) (ty := oper.type) (c := cap2) (ad := ad) (sLen := 0) (sCap := 0) (olds := []) hu hi hz hzs (by simp) (.inl ⟨rfl, rfl⟩) hrel2.size hrd2 hxl (by omega) hb0 hby
              exact app_own (hw.kill id) (hf.kill id) (hU rfl) (hgo oper a w _ _ ho (by rw [hsv, hxv]; exact hrun)) hlen (by simpa using hrel2) h7 h8 (by simpa using h9) hU2
          · obtain ⟨cs, cur1, e1, hrel, hheap1, hrd, hnF⟩ := hw.place hρ (hH _ _ ht0)
            rw [hheap] at hheap1
            simp only [Option.some.injEq, Obj.cells.injEq, and_true] at hheap1
            obtain ⟨rfl, rfl⟩ := hheap1
            cases hrel with
            | arr hrel hn =>
              have hrel1 := (hrel.drop k).take len
              have hrd1 : Reads w b (o + off) ((cs.drop (k * i.size)).take (len * i.size)) := by
                rw [hoff]; exact (hrd.drop (k * i.size)).take (len * i.size)
              generalize holds : (cs.drop (k * i.size)).take (len * i.size) = olds at hrel1 hrd1
              have hlo : olds.length = len * i.size := by
                have := hrel1.size
                rw [this]; congr 1; simp; omega
              have hoc := reads_cur hrd1 hheap
              by_cases hx0 : xs = []
              · subst hx0
                have h1 := Nxt.rewrite hw hf (hH _ _ ht0) hρ (rowed_self hheap) (i := σ.n) (o' := o + off) (.inr (hU rfl)) (t' := .arr (len + 0) i.size ((ts.drop k).take len ++ [])) (cs' := olds) (.arr (by simpa using hrel1) hlen) hoc hU2
                refine ⟨_, _, _, .inl (hgo oper a w _ _ ho (by rw [hsv, hxv]; exact run_app0 hu hi hcap)), h1, .one (.sl (b := b) (o := o + off) (upd_self _ _ _) hcap hheap (by omega)) rfl⟩
              · rcases h6 with h6 | ⟨b2, o2, cs2, rfl, hrel2, hrd2⟩
                · exact absurd h6 hx0
                have hxl : xs.length ≠ 0 := fun h => hx0 (List.eq_nil_of_length_eq_zero h)
                by_cases hroom : len + xs.length ≤ cap
                · have hmul : (len + xs.length) * i.size ≤ cap * i.size := Nat.mul_le_mul_right _ hroom
                  rw [Nat.add_mul] at hmul
                  have hl2 := hrel2.size
                  have hrun := run_appRoom (P := P) (ty := oper.type) (c := cap2) hu hi hheap (o := o + off) hl2 hrd2 hrel2.ones hroom (by omega)
                  have hR := rowed_setRow hheap (cs := (cur.toList.take (o + off + len * i.size) ++ cs2 ++ cur.toList.drop (o + off + len * i.size + cs2.length)).toArray) (by
                    simp only [List.size_toArray, List.length_append, List.length_take, List.length_drop, Array.length_toList]; omega)
                  have hcell := laid_end (cur := cur) (o := o + off) (pre := olds) (new := cs2) hoc (by omega)
                  rw [hlo] at hcell
                  have h1 := Nxt.rewrite hw hf (hH _ _ ht0) hρ hR (i := σ.n) (o' := o + off) (.inr (hU rfl)) (t' := .arr (len + xs.length) i.size ((ts.drop k).take len ++ xs)) (cs' := olds ++ cs2) (.arr (hrel1.append hrel2) hlen) hcell hU2
                  refine ⟨_, _, _, .inl (hgo oper a w _ _ ho (by rw [hsv, hxv]; exact hrun)), h1, .one (.sl (b := b) (o := o + off) (upd_self _ _ _) hroom hR.new ?_) rfl⟩
                  rw [hR.size]; omega
                · obtain ⟨cap', cur', hrun, h7, h8, h9⟩ := run_appGrow (P := P) (ty := oper.type) (c := cap2) (sLen := len) (sCap := cap) hu hi hz hzs hlo (.inr ⟨b, o + off, rfl, hrd1⟩) hrel2.size hrd2 hxl (by omega) hb0 hby
                  exact app_own (hw.kill id) (hf.kill id) (hU rfl) (hgo oper a w _ _ ho (by rw [hsv, hxv]; exact hrun)) hlen (hrel1.append hrel2) h7 h8 h9 hU2
        · cases hs
      · cases hs
    · cases hs
  · cases hs
end
end Go.Ra
