/- Each abstract operation is sound: addresses, slices, loads. -/
import Derived.Test.YtfobbfdbojednaaRaE
namespace Go.Ra
set_option linter.unusedVariables false
set_option linter.unusedSimpArgs false
section
variable {P : Program}

theorem RelV.valT {w : World} {F : Nat → Prop} {ρ : Nat → Option Loc} {ts : TS} {x y : AV} {b : Bool} {u : Value} (h : eqT ts x y = some b) (hx : RelV w F ρ x u) : ∃ cs, RelC w F ρ x cs ∧ u = valT ts cs := by
  have ha := (eqT_agg h).1
  cases hx with
  | one h1 h2 =>
    refine ⟨[u], h1, ?_⟩
    rw [h2] at ha
    cases ts <;> first | rfl | simp [TS.isAgg] at ha
  | agg h1 h2 =>
    rename_i cs
    refine ⟨cs, h1, ?_⟩
    rw [h2] at ha
    cases ts <;> first | rfl | simp [TS.isAgg] at ha
  | tup _ => unfold eqT at h; split at h <;> simp_all
  | anyb => unfold eqT at h; split at h <;> simp_all
  | unk => unfold eqT at h; split at h <;> simp_all
theorem RelV.valT' {w : World} {F : Nat → Prop} {ρ : Nat → Option Loc} {ts : TS} {x y : AV} {b : Bool} {u : Value} (h : eqT ts x y = some b) (hy : RelV w F ρ y u) : ∃ cs, RelC w F ρ y cs ∧ u = Ra.valT ts cs := by
  have ha := (eqT_agg h).2.trans (eqT_agg h).1
  cases hy with
  | one h1 h2 =>
    refine ⟨[u], h1, ?_⟩
    rw [h2] at ha
    cases ts <;> first | rfl | simp [TS.isAgg] at ha
  | agg h1 h2 =>
    rename_i cs
    refine ⟨cs, h1, ?_⟩
    rw [h2] at ha
    cases ts <;> first | rfl | simp [TS.isAgg] at ha
  | tup _ => unfold eqT at h; split at h <;> simp_all
  | anyb => unfold eqT at h; split at h <;> simp_all
  | unk => unfold eqT at h; split at h <;> simp_all

theorem shapeT_int {k : Nat} {t : TypeId} (h : shapeT P k t = some .int) : plainT P t = true := by
  cases k with
  | zero => simp [shapeT] at h
  | succ k =>
    unfold shapeT at h
    unfold plainT
    cases hu : P.underlying t with
    | none => rw [hu] at h; cases h
    | some dd =>
      rw [hu] at h
      cases dd <;> simp only at h ⊢ <;> first
        | cases h; done
        | (split at h
           · cases h
           · split at h
             · cases h
             · cases h)
        | (split at h
           · cases h
           · cases h)

theorem sp_eqs {op : BinOp} {neg : Bool} {t yt : TypeId} {ts : TS} {x y : Operand} {x' y' : AX} (hop : op = if neg then .neq else .eql) (hpl : plainT P t = false) (hg : P.eqGuardType P.depth t = false) (ht : shapeT P 60 t = some ts)
    (hx : trX x = some x') (hy : trX y = some y') : SoundP P (.binOp op t x y yt) (.eqs neg ts x' y') := by
  intro σ σ' v hs
  simp only [stepE] at hs
  split at hs
  · rename_i b hb
    simp only [Option.some.injEq, Prod.mk.injEq] at hs
    obtain ⟨rfl, rfl⟩ := hs
    refine ⟨rfl, fun oper G w H U a ho hw hr hH => ?_⟩
    obtain ⟨cs, h1, h1'⟩ := (hr x x' (by simp [Op.operands]) hx).valT hb
    obtain ⟨ds, h2, h2'⟩ := (hr y y' (by simp [Op.operands]) hy).valT' hb
    have h3 : (Op.equal t (valT ts cs) (valT ts ds)).run P w = .ok b w := by
      unfold Op.equal
      exact eq_run 60 Op.maxDepth (by decide) t ts ht G.ρ G.ρ _ _ b cs ds hb h1 h2
    have h4 : (eqGuard op t x y (valT ts cs) (valT ts ds)).run P w = .ok () w := by
      unfold eqGuard
      subst hop
      have hagg : ∀ n m, (eqGuard (if neg then .neq else .eql) t x y (.agg n) (.agg m)).run P w = .ok () w := fun n m => by
        unfold eqGuard
        cases neg <;> simp [program, Sem.run, hg]
      cases ts with
      | agg l => exact hagg _ _
      | arr n es e => exact hagg _ _
      | int =>
        generalize σ.ev x' = X at hb h1
        generalize σ.ev y' = Y at hb h2
        unfold eqT at hb
        split at hb <;> try (simp_all; done)
        cases h1; cases h2; cases neg <;> rfl
      | bool =>
        generalize σ.ev x' = X at hb h1
        generalize σ.ev y' = Y at hb h2
        unfold eqT at hb
        split at hb <;> try (simp_all; done)
        cases h1; cases h2; cases neg <;> rfl
    have h5 : (binOp op t (valT ts cs) (valT ts ds)).run P w = .ok (.bool (if neg then !b else b)) w := by
      subst hop
      cases ts with
      | agg l => cases neg <;> simp [binOp, valT] <;> (simp only [valT] at h3; simp [h3])
      | arr n es e => cases neg <;> simp [binOp, valT] <;> (simp only [valT] at h3; simp [h3])
      | int =>
        rw [shapeT_int ht] at hpl; cases hpl
      | bool =>
        generalize σ.ev x' = X at hb h1
        generalize σ.ev y' = Y at hb h2
        unfold eqT at hb
        split at hb <;> try (simp_all; done)
        cases h1; cases h2
        cases neg <;> simp [binOp, valT] <;> (simp only [valT, List.headD] at h3; simp [h3])
    refine ⟨.bool (if neg then !b else b), ?_, .one (.sc rfl) rfl⟩
    simp [execOp, ho, h1', h2', h4, h5]
  · cases hs

theorem add_lit (b o n : Nat) : Addr.add ⟨b, o, none⟩ n = ⟨b, o + n, none⟩ := by
  unfold Addr.add; split <;> simp_all

theorem szT_info {t : TypeId} {n : Nat} (h : szT P t = some n) : ∃ i, P.info? t = some i ∧ i.size = n := by
  unfold szT at h
  cases hi : P.info? t with
  | none => rw [hi] at h; cases h
  | some i => rw [hi] at h; simp only [Option.map_some, Option.some.injEq] at h; exact ⟨i, rfl, h⟩

theorem sp_fadr {s : TypeId} {fs : Array Field} {f : Field} {i n : Nat} {x : Operand} {x' : AX} (hs0 : P.underlying s = some (.struct fs)) (hf : fs[i]? = some f) (hn : szT P f.type = some n) (hn0 : n ≠ 0) (hx : trX x = some x') :
    SoundP P (.fieldAddr s x i) (.fadr i f.offset n x') := by
  intro σ σ' v hs
  obtain ⟨inf, hi, hi2⟩ := szT_info hn
  have key : ∀ (b o : Nat) (w : World), (Instr.fieldAt s (.pointer (some ⟨b, o, none⟩)) i).run P w = .ok (.pointer (some ⟨b, o + f.offset, none⟩)) w := fun b o w => by
    have : inf.size ≠ 0 := by omega
    simp [Instr.fieldAt, run_underlying hs0, hf, Instr.sureAddr, fieldPlace, sizeOf, typeInfo, hi, this, add_lit]
  simp only [stepE] at hs
  split at hs
  · rename_i id path o hv
    simp only [Option.some.injEq, Prod.mk.injEq] at hs
    obtain ⟨rfl, rfl⟩ := hs
    refine ⟨rfl, fun oper G w H U a ho hw hr hH => ?_⟩
    have h1 := hr x x' (by simp [Op.operands]) hx
    rw [hv] at h1
    obtain ⟨b, o', h2, h3⟩ := h1.ptr_inv
    refine ⟨_, by simp only [execOp, ho, h3]; exact run_val (key _ _ _), ?_⟩
    rw [Nat.add_assoc]
    exact .one (.ptr h2) rfl
  · rename_i n1 ts hv
    split at hs
    · rename_i u hu
      split at hs
      · rename_i hoff
        simp only [Option.some.injEq, Prod.mk.injEq] at hs
        obtain ⟨rfl, rfl⟩ := hs
        refine ⟨rfl, fun oper G w H U a ho hw hr hH => ?_⟩
        have h1 := hr x x' (by simp [Op.operands]) hx
        rw [hv] at h1
        obtain ⟨b, o, cs, h2, h3, h4, h5⟩ := h1.fptr_inv
        refine ⟨_, by simp only [execOp, ho, h2]; exact run_val (key _ _ _), ?_⟩
        cases h3 with
        | agg h6 h7 =>
          obtain ⟨pre, mid, post, rfl, hp, hm, _, _⟩ := h6.nth hu
          refine .one (.fptr hm (fun j v hj => ?_) h5) rfl
          have := h4 (pre.length + j) v (by
            rw [List.getElem?_append_right (by omega), show pre.length + j - pre.length = j by omega, List.getElem?_append_left (List.getElem?_eq_some_iff.1 hj).1]; exact hj)
          rw [← hoff, ← hp, Nat.add_assoc]; exact this
      · cases hs
    · cases hs
  · cases hs

theorem elemT_inv {t e : TypeId} {i : TypeInfo} (h : elemT P t = some (e, i)) : P.underlying t = some (.slice e) ∧ P.info? e = some i := by
  unfold elemT at h
  split at h
  · rename_i e' hu
    cases hi : P.info? e' with
    | none => rw [hi] at h; cases h
    | some j =>
      rw [hi] at h
      simp only [Option.map_some, Option.some.injEq, Prod.mk.injEq] at h
      obtain ⟨rfl, rfl⟩ := h
      exact ⟨hu, hi⟩
  · cases h
theorem arrT_inv {t : TypeId} {n : Nat} {i : TypeInfo} (h : arrT P t = some (n, i)) : ∃ e, P.underlying t = some (.array n e) ∧ P.info? e = some i := by
  unfold arrT at h
  split at h
  · rename_i n' e' hu
    cases hi : P.info? e' with
    | none => rw [hi] at h; cases h
    | some j =>
      rw [hi] at h
      simp only [Option.map_some, Option.some.injEq, Prod.mk.injEq] at h
      obtain ⟨rfl, rfl⟩ := h
      exact ⟨e', hu, hi⟩
  · cases h

theorem asI_inv {w : World} {F : Nat → Prop} {ρ : Nat → Option Loc} {t : AV} {u : Value} {j : Int} (h : asI t = some j) (hr : RelV w F ρ t u) : ∃ k, u = .int k j := by
  unfold asI at h
  split at h
  · simp only [Option.some.injEq] at h
    subst h
    exact ⟨_, hr.sc_inv.1⟩
  · cases h

theorem Reads.sub {w : World} {b o : Nat} {pre mid post : List Value} (h : Reads w b o (pre ++ (mid ++ post))) : Reads w b (o + pre.length) mid := by
  intro j v hj
  have := h (pre.length + j) v (by
    rw [List.getElem?_append_right (by omega), show pre.length + j - pre.length = j by omega, List.getElem?_append_left (List.getElem?_eq_some_iff.1 hj).1]; exact hj)
  rw [Nat.add_assoc]; exact this

theorem sp_iadr_slice {t e : TypeId} {i : TypeInfo} {x y : Operand} {x' y' : AX} (ht : elemT P t = some (e, i)) (hx : trX x = some x') (hy : trX y = some y') : SoundP P (.indexAddr t x y) (.iadr none i.size x' y') := by
  intro σ σ' v hs
  obtain ⟨hu, hi⟩ := elemT_inv ht
  have key : ∀ (ad : Addr) (n c : Nat) (k : IntKind) (j : Int) (w : World), 0 ≤ j → j < n → (Instr.indexAt t (.slice (some ad) n c) (.int k j)).run P w = .ok (.pointer (some (ad.add (j.toNat * i.size)))) w := fun ad n c k j w h0 h1 => by
    simp [Instr.indexAt, asIntOf, run_underlying hu, h0, h1, sizeOf, typeInfo, hi]
  simp only [stepE] at hs
  split at hs
  · rename_i x0 es ts j heq1 hv hj
    split at hs
    · rename_i hc
      split at hs
      · rename_i u hu2
        simp only [Option.some.injEq, Prod.mk.injEq] at hs
        obtain ⟨rfl, rfl⟩ := hs
        refine ⟨rfl, fun oper G w H U a ho hw hr hH => ?_⟩
        have h1 := hr x x' (by simp [Op.operands]) hx
        obtain ⟨k, h2⟩ := asI_inv hj (hr y y' (by simp [Op.operands]) hy)
        rw [hv] at h1
        obtain ⟨ad, cap, h3, h4, h5, h6⟩ := h1.fro_inv
        have hlt : j.toNat < ts.length := (List.getElem?_eq_some_iff.1 hu2).1
        rcases h6 with rfl | ⟨b, o, cs, rfl, h7, h8, h9⟩
        · simp at hlt
        · refine ⟨_, by simp only [execOp, ho, h3, h2]; exact run_val (key _ _ _ _ _ _ hc.1 (by omega)), ?_⟩
          rw [hc.2] at h7
          obtain ⟨pre, mid, post, rfl, hp, hm, hms, _, _⟩ := h7.nth hu2
          rw [add_lit, ← hp]
          exact .one (.fptr hm h8.sub h9) rfl
      · cases hs
    · cases hs
  · rename_i id path off k len es j heq1 hv hj
    split at hs
    · rename_i hc
      simp only [Option.some.injEq, Prod.mk.injEq] at hs
      obtain ⟨rfl, rfl⟩ := hs
      refine ⟨rfl, fun oper G w H U a ho hw hr hH => ?_⟩
      have h1 := hr x x' (by simp [Op.operands]) hx
      obtain ⟨kk, h2⟩ := asI_inv hj (hr y y' (by simp [Op.operands]) hy)
      rw [hv] at h1
      obtain ⟨ad, cap, h3, h4, h5⟩ := h1.sl_inv
      rcases h5 with ⟨h5, _⟩ | ⟨b, o, cur, e, rfl, h6, h7, h8⟩
      · omega
      · refine ⟨_, by simp only [execOp, ho, h3, h2]; exact run_val (key _ _ _ _ _ _ hc.1 (by omega)), ?_⟩
        rw [add_lit, Nat.add_assoc]
        exact .one (.ptr h6) rfl
    · cases hs
  · rename_i n id path off j heq1 hv hj
    simp at heq1
  · rename_i n es ts j heq1 hv hj
    simp at heq1
  · cases hs

theorem sp_iadr_arr {t : TypeId} {n : Nat} {i : TypeInfo} {x y : Operand} {x' y' : AX} (ht : arrT P t = some (n, i)) (hx : trX x = some x') (hy : trX y = some y') : SoundP P (.indexAddr t x y) (.iadr (some n) i.size x' y') := by
  intro σ σ' v hs
  obtain ⟨e, hu, hi⟩ := arrT_inv ht
  have key : ∀ (ad : Addr) (k : IntKind) (j : Int) (w : World), 0 ≤ j → j < n → (Instr.indexAt t (.pointer (some ad)) (.int k j)).run P w = .ok (.pointer (some (ad.add (j.toNat * i.size)))) w := fun ad k j w h0 h1 => by
    simp [Instr.indexAt, asIntOf, run_underlying hu, h0, h1, sizeOf, typeInfo, hi, Instr.sureAddr]
  simp only [stepE] at hs
  split at hs
  · rename_i x0 es ts j heq1 hv hj
    simp at heq1
  · rename_i id path off k len es j heq1 hv hj
    simp at heq1
  · rename_i n' id path off j heq1 hv hj
    simp only [Option.some.injEq] at heq1
    subst heq1
    split at hs
    · rename_i hc
      simp only [Option.some.injEq, Prod.mk.injEq] at hs
      obtain ⟨rfl, rfl⟩ := hs
      refine ⟨rfl, fun oper G w H U a ho hw hr hH => ?_⟩
      have h1 := hr x x' (by simp [Op.operands]) hx
      obtain ⟨kk, h2⟩ := asI_inv hj (hr y y' (by simp [Op.operands]) hy)
      rw [hv] at h1
      obtain ⟨b, o, h3, h4⟩ := h1.ptr_inv
      refine ⟨_, by simp only [execOp, ho, h4, h2]; exact run_val (key _ _ _ _ hc.1 hc.2), ?_⟩
      rw [add_lit, Nat.add_assoc]
      exact .one (.ptr h3) rfl
    · cases hs
  · rename_i n' es n1 ts j heq1 hv hj
    simp only [Option.some.injEq] at heq1
    subst heq1
    split at hs
    · rename_i hc
      split at hs
      · rename_i u hu2
        simp only [Option.some.injEq, Prod.mk.injEq] at hs
        obtain ⟨rfl, rfl⟩ := hs
        refine ⟨rfl, fun oper G w H U a ho hw hr hH => ?_⟩
        have h1 := hr x x' (by simp [Op.operands]) hx
        obtain ⟨kk, h2⟩ := asI_inv hj (hr y y' (by simp [Op.operands]) hy)
        rw [hv] at h1
        obtain ⟨b, o, cs, h3, h4, h5, h6⟩ := h1.fptr_inv
        have hlt : j.toNat < ts.length := (List.getElem?_eq_some_iff.1 hu2).1
        cases h4 with
        | arr h7 h8 =>
          refine ⟨_, by simp only [execOp, ho, h3, h2]; exact run_val (key _ _ _ _ hc.1 (by omega)), ?_⟩
          obtain ⟨pre, mid, post, rfl, hp, hm, hms, _, _⟩ := h7.nth hu2
          rw [add_lit, ← hc.2.1, ← hp]
          exact .one (.fptr hm h5.sub h6) rfl
      · cases hs
    · cases hs
  · cases hs

theorem sp_len_slice {t e : TypeId} {oper0 : Call} {x : Operand} {x' : AX} (hc : oper0.callee = .builtin .len) (ha : oper0.args = #[x]) (hat : oper0.argTypes = #[t]) (ht : P.underlying t = some (.slice e)) (hx : trX x = some x') :
    SoundP P (.call oper0) (.len none x') := by
  intro σ σ' v hs
  have key : ∀ (a : Act) (oper : Oper) (ad : Option Addr) (n c : Nat) (w : World), oper.op = .call oper0 → a.eval x = .slice ad n c → (execOp a.eval oper).run P w = .ok (.value (.int .i64 n)) w := fun a oper ad n c w ho hv => by
    simp [execOp, ho, resolve, hc, ha, hat, invoke, builtin, Builtin.len_, run_underlying ht, hv, goInt]
  simp only [stepE] at hs
  split at hs
  · rename_i heq; simp at heq
  · rename_i x0 es ts heq hv
    simp only [Option.some.injEq, Prod.mk.injEq] at hs
    obtain ⟨rfl, rfl⟩ := hs
    refine ⟨rfl, fun oper G w H U a ho hw hr hH => ?_⟩
    have h1 := hr x x' (by simp [Op.operands, Call.operands, hc, ha]) hx
    rw [hv] at h1
    obtain ⟨ad, cap, h2, _⟩ := h1.fro_inv
    exact ⟨_, key a oper ad _ cap w ho h2, .one (.sc rfl) rfl⟩
  · rename_i len es heq hv
    simp only [Option.some.injEq, Prod.mk.injEq] at hs
    obtain ⟨rfl, rfl⟩ := hs
    refine ⟨rfl, fun oper G w H U a ho hw hr hH => ?_⟩
    have h1 := hr x x' (by simp [Op.operands, Call.operands, hc, ha]) hx
    rw [hv] at h1
    obtain ⟨ad, cap, h2, _⟩ := h1.sl_inv
    exact ⟨_, key a oper ad _ cap w ho h2, .one (.sc rfl) rfl⟩
  · cases hs

theorem sp_lens {t : TypeId} {oper0 : Call} {x : Operand} {x' : AX} (hc : oper0.callee = .builtin .len) (ha : oper0.args = #[x]) (hat : oper0.argTypes = #[t]) (ht : P.underlying t = some .string) (hx : trX x = some x') :
    SoundP P (.call oper0) (.lens x') := by
  intro σ σ' v hs
  simp only [stepE] at hs
  split at hs
  · rename_i s hv
    simp only [Option.some.injEq, Prod.mk.injEq] at hs
    obtain ⟨rfl, rfl⟩ := hs
    refine ⟨rfl, fun oper G w H U a ho hw hr hH => ?_⟩
    have h1 := hr x x' (by simp [Op.operands, Call.operands, hc, ha]) hx
    rw [hv] at h1
    obtain ⟨h1, _⟩ := h1.sc_inv
    exact ⟨_, by simp [execOp, ho, resolve, hc, ha, hat, invoke, builtin, Builtin.len_, run_underlying ht, h1, goInt], .one (.sc rfl) rfl⟩
  · cases hs

theorem sp_len_arr {t : TypeId} {n : Nat} {oper0 : Call} {x : Operand} {x' : AX} (hc : oper0.callee = .builtin .len) (ha : oper0.args = #[x]) (hat : oper0.argTypes = #[t])
    (ht : (∃ e, P.underlying t = some (.array n e)) ∨ ∃ u e, P.underlying t = some (.pointer u) ∧ P.underlying u = some (.array n e)) (hx : trX x = some x') :
    SoundP P (.call oper0) (.len (some n) x') := by
  intro σ σ' v hs
  simp only [stepE, Option.some.injEq, Prod.mk.injEq] at hs
  obtain ⟨rfl, rfl⟩ := hs
  refine ⟨rfl, fun oper G w H U a ho hw hr hH => ⟨.int .i64 n, ?_, .one (.sc rfl) rfl⟩⟩
  rcases ht with ⟨e, ht⟩ | ⟨u, e, ht, hu⟩
  · simp [execOp, ho, resolve, hc, ha, hat, invoke, builtin, Builtin.len_, run_underlying ht, goInt]
  · simp [execOp, ho, resolve, hc, ha, hat, invoke, builtin, Builtin.len_, run_underlying ht, run_underlying hu, goInt]

theorem run_loadVar {t : TypeId} {ag : Bool} {n : Nat} (ha : isAggT P t = some ag) (hn : szT P t = some n) {w : World} {b o : Nat} {cs : List Value} (hl : cs.length = n) (hr : Reads w b o cs) (h1 : ag = false → ∃ v, cs = [v]) :
    (loadVar t ⟨b, o, none⟩).run P w = .ok (if ag then .agg cs.toArray else cs.headD undef) w := by
  obtain ⟨i, hi, hi2⟩ := szT_info hn
  have hcell : ∀ (j : Nat) (v : Value), cs[j]? = some v → w.cell? (Addr.add ⟨b, o, none⟩ j) = some v := fun j v hj => by rw [add_lit]; exact hr j v hj
  unfold isAggT at ha
  cases hu : P.underlying t with
  | none => rw [hu] at ha; cases ha
  | some dd =>
    rw [hu] at ha
    have big : (loadCells ⟨b, o, none⟩ n).run P w = .ok cs.toArray w := by rw [← hl]; exact run_loadCells_list w _ cs hcell
    have small : ag = false → (load ⟨b, o, none⟩).run P w = .ok (cs.headD undef) w := fun h => by
      obtain ⟨v, rfl⟩ := h1 h
      have := hcell 0 v rfl
      rw [add_lit, Nat.add_zero] at this
      simp [load, Sem.run, this]
    cases dd <;> simp only [Option.some.injEq] at ha <;> subst ha <;> first
      | (simp [loadVar, isAgg, run_underlying hu, sizeOf, typeInfo, hi, hi2, big]; done)
      | (simp [loadVar, isAgg, run_underlying hu]; simpa using small rfl)

theorem RelV.of_cells {w : World} {F : Nat → Prop} {ρ : Nat → Option Loc} {t : AV} {cs : List Value} (h : RelC w F ρ t cs) : RelV w F ρ t (if t.isAgg then .agg cs.toArray else cs.headD undef) := by
  cases ha : t.isAgg with
  | true => exact .agg h ha
  | false =>
    obtain ⟨v, rfl⟩ := h.single ha
    exact .one h ha

/-- Where an own address leads. -/
theorem Wf.place {G : Gh} {w : World} {H : Nat → Option AV} {U : Nat → Prop} (hw : Wf G w H U) {id b o : Nat} {t : AV} (hr : G.ρ id = some (b, o)) (ht : H id = some t) :
    ∃ (cs : List Value) (cur : Array Value) (e : TypeId), RelC w G.F G.ρ t cs ∧ w.heap[b]? = some (Obj.cells cur e (0, 0)) ∧ Reads w b o cs ∧ ¬ G.F b := by
  rcases hw.blk id t ht with ⟨b', o', cs, cur, e, h1, h2, h3, h4, h5⟩ | h1
  · rw [hr] at h1
    simp only [Option.some.injEq, Prod.mk.injEq] at h1
    obtain ⟨rfl, rfl⟩ := h1
    exact ⟨cs, cur, e, h2, h3, h4, h5⟩
  · rw [hr] at h1; cases h1.1

theorem loadA_rel {σ : St} {G : Gh} {w : World} {H : Nat → Option AV} {U : Nat → Prop} (hw : Wf G w H U) (hH : ∀ k t, σ.H k = some t → H k = some t) {x u : AV} {v : Value} (h : σ.loadA x = some u) (hr : RelV w G.F G.ρ x v) :
    ∃ b o cs, v = .pointer (some ⟨b, o, none⟩) ∧ RelC w G.F G.ρ u cs ∧ Reads w b o cs := by
  unfold St.loadA at h
  split at h
  · rename_i t
    simp only [Option.some.injEq] at h
    subst h
    obtain ⟨b, o, cs, rfl, h1, h2, h3⟩ := hr.fptr_inv
    exact ⟨b, o, cs, rfl, h1.up, h2⟩
  · rename_i id path off
    split at h
    · rename_i t ht
      split at h
      · rename_i o u' hat
        split at h
        · rename_i ho
          simp only [Option.some.injEq] at h
          subst h
          obtain ⟨b, o', h1, rfl⟩ := hr.ptr_inv
          obtain ⟨cs, cur, e, h2, h3, h4, h5⟩ := hw.place h1 (hH _ _ ht)
          obtain ⟨pre, mid, post, rfl, hp, hm, _⟩ := h2.at path hat
          refine ⟨b, o' + off, mid, rfl, hm, ?_⟩
          rw [← ho, ← hp]; exact h4.sub
        · cases h
      · cases h
    · cases h
  · cases h

theorem sp_load {t : TypeId} {ag : Bool} {n : Nat} {x : Operand} {x' : AX} (ha : isAggT P t = some ag) (hn : szT P t = some n) (hx : trX x = some x') : SoundP P (.load t x) (.load ag n x') := by
  intro σ σ' v hs
  simp only [stepE] at hs
  split at hs
  · rename_i u hu
    split at hs
    · rename_i hc
      simp only [Option.some.injEq, Prod.mk.injEq] at hs
      obtain ⟨rfl, rfl⟩ := hs
      refine ⟨rfl, fun oper G w H U a ho hw hr hH => ?_⟩
      obtain ⟨b, o, cs, h1, h2, h3⟩ := loadA_rel hw hH hu (hr x x' (by simp [Op.operands]) hx)
      have h4 := run_loadVar (P := P) ha hn (cs := cs) (by rw [h2.size]; exact hc.2) h3 (fun h => h2.single (hc.1.trans h))
      rw [← hc.1] at h4
      exact ⟨_, by simp only [execOp, ho, h1]; exact run_val (by simpa [Instr.loadAt, Instr.sureAddr] using h4), .of_cells h2⟩
    · cases hs
  · cases hs

theorem bounds_run {w : World} {G : Gh} {len cap l h : Nat} {lo hi : Option AV} {lo' hi' : Option Value} (isSlice : Bool) (hb : boundsA len lo hi = some (l, h)) (hc : len ≤ cap)
    (hlo : ∀ v, lo = some v → ∃ u, lo' = some u ∧ RelV w G.F G.ρ v u) (hlo0 : lo = none → lo' = none) (hhi : ∀ v, hi = some v → ∃ u, hi' = some u ∧ RelV w G.F G.ρ v u) (hhi0 : hi = none → hi' = none) :
    (Instr.sliceBounds isSlice len cap lo' hi' none).run P w = .ok (l, h, cap) w ∧ l ≤ h ∧ h ≤ len := by
  unfold boundsA at hb
  split at hb
  · rename_i jl jh hl hh
    split at hb
    · rename_i hcond
      simp only [Option.some.injEq, Prod.mk.injEq] at hb
      obtain ⟨rfl, rfl⟩ := hb
      refine ⟨?_, by omega, by omega⟩
      have e1 : jl.toNat ≤ jh.toNat := by omega
      have e2 : (jh.toNat : Int) = jh := by omega
      have e3 : (0 ≤ jl ∧ jl ≤ (jh.toNat : Int)) := by omega
      have e4 : (0 ≤ jh ∧ jh ≤ (cap : Int)) := by omega
      cases lo with
      | none =>
        have := hlo0 rfl; subst this
        simp only [Option.some.injEq] at hl
        subst hl
        cases hi with
        | none =>
          have := hhi0 rfl; subst this
          simp only [Option.some.injEq] at hh
          subst hh
          simp [Instr.sliceBounds]
        | some vh =>
          obtain ⟨u, rfl, hu⟩ := hhi _ rfl
          obtain ⟨k, rfl⟩ := asI_inv hh hu
          simp [Instr.sliceBounds, Instr.sliceBound, asIntOf, e4]
      | some vl =>
        obtain ⟨u, rfl, hu⟩ := hlo _ rfl
        obtain ⟨k, rfl⟩ := asI_inv hl hu
        cases hi with
        | none =>
          have := hhi0 rfl; subst this
          simp only [Option.some.injEq] at hh
          subst hh
          have e5 : (0 ≤ jl ∧ jl ≤ (len : Int)) := by omega
          simp [Instr.sliceBounds, Instr.sliceBound, asIntOf, e5]
        | some vh =>
          obtain ⟨u', rfl, hu'⟩ := hhi _ rfl
          obtain ⟨k', rfl⟩ := asI_inv hh hu'
          have e6 : jl ≤ jh := by omega
          simp [Instr.sliceBounds, Instr.sliceBound, asIntOf, e4, e3, e2, e6]
    · cases hb
  · cases hb

theorem Reads.drop {w : World} {b o : Nat} {cs : List Value} (h : Reads w b o cs) (n : Nat) : Reads w b (o + n) (cs.drop n) := by
  intro j v hj
  rw [List.getElem?_drop] at hj
  rw [Nat.add_assoc]; exact h (n + j) v hj
theorem Reads.take {w : World} {b o : Nat} {cs : List Value} (h : Reads w b o cs) (n : Nat) : Reads w b o (cs.take n) := by
  intro j v hj
  rw [List.getElem?_take] at hj
  split at hj
  · exact h j v hj
  · cases hj

/-- A part of a frozen row. -/
theorem fro_cut {w : World} {F : Nat → Prop} {ρ : Nat → Option Loc} {es b o l h cap : Nat} {ts : List AV} {cs : List Value} (h1 : RelE w F es ts cs) (h2 : Reads w b o cs) (h3 : F b) (hl : l ≤ h) (hh : h ≤ ts.length) (hc : h ≤ cap) (ad : Option Addr)
    (had : l < h → ad = some ⟨b, o + l * es, none⟩) : RelC w F ρ (.fro false es ((ts.take h).drop l)) [.slice ad (h - l) (cap - l)] := by
  by_cases hlt : l < h
  · rw [had hlt]
    have hlen : ((ts.take h).drop l).length = h - l := by simp; omega
    have := RelC.fro (ρ := ρ) (x := false) (cap := cap - l) ((h1.take h).drop l) ((h2.take (h * es)).drop (l * es)) h3 (fun h => by cases h) (by rw [hlen]; omega)
    rwa [hlen] at this
  · have : l = h := by omega
    subst this
    have e : (ts.take l).drop l = [] := by simp
    rw [e, Nat.sub_self]
    exact .fro0 (fun h => by cases h)

theorem trXo_rel {σ : St} {G : Gh} {w : World} {a : Act} {x : Option Operand} {x' : Option AX} (h : trXo x = some x') (hr : ∀ y y', y ∈ x.toArray → trX y = some y' → RelV w G.F G.ρ (σ.ev y') (a.eval y)) :
    (∀ v, x'.map σ.ev = some v → ∃ u, x.map a.eval = some u ∧ RelV w G.F G.ρ v u) ∧ (x'.map σ.ev = none → x.map a.eval = none) := by
  unfold trXo at h
  split at h
  · simp only [Option.some.injEq] at h
    subst h
    exact ⟨fun v hv => (by cases hv), fun _ => rfl⟩
  · rename_i y
    cases hy : trX y with
    | none => rw [hy] at h; cases h
    | some y' =>
      rw [hy] at h
      simp only [Option.map_some, Option.some.injEq] at h
      subst h
      refine ⟨fun v hv => ?_, fun hv => (by cases hv)⟩
      simp only [Option.map_some, Option.some.injEq] at hv
      subst hv
      exact ⟨_, rfl, hr y y' (by simp) hy⟩

theorem sp_slice {t e : TypeId} {i : TypeInfo} {x : Operand} {x' : AX} {lo hi : Option Operand} {lo' hi' : Option AX} (ht : elemT P t = some (e, i)) (hx : trX x = some x') (hlo : trXo lo = some lo') (hhi : trXo hi = some hi') :
    SoundP P (.slice t x lo hi none) (.slice i.size x' lo' hi') := by
  intro σ σ' v hs
  obtain ⟨hu, hi2⟩ := elemT_inv ht
  simp only [stepE] at hs
  split at hs
  · rename_i x0 es ts hv
    split at hs
    · rename_i l h hb
      split at hs
      · rename_i hes
        subst hes
        simp only [Option.some.injEq, Prod.mk.injEq] at hs
        obtain ⟨rfl, rfl⟩ := hs
        refine ⟨rfl, fun oper G w H U a ho hw hr hH => ?_⟩
        have h1 := hr x x' (by simp [Op.operands]) hx
        rw [hv] at h1
        obtain ⟨ad, cap, h2, h3, h4, h5⟩ := h1.fro_inv
        obtain ⟨l1, l2⟩ := trXo_rel (σ := σ) (G := G) (w := w) (a := a) hlo (fun y y' hy => hr y y' (by simp [Op.operands]; cases lo <;> simp at hy ⊢; exact .inr (.inl hy.symm)))
        obtain ⟨r1, r2⟩ := trXo_rel (σ := σ) (G := G) (w := w) (a := a) hhi (fun y y' hy => hr y y' (by simp [Op.operands]; cases hi <;> simp at hy ⊢; exact .inr (.inr hy.symm)))
        obtain ⟨hrun, hlh, hhl⟩ := bounds_run (P := P) true hb h3 l1 l2 r1 r2
        refine ⟨.slice (if cap = l then ad else ad.map (·.add (l * i.size))) (h - l) (cap - l), ?_, .one ?_ rfl⟩
        · simp only [execOp, ho, h2]
          refine run_val ?_
          simp [Instr.sliceAt, Instr.slice, run_underlying hu, hrun, sizeOf, typeInfo, hi2]
        · rcases h5 with rfl | ⟨b, o, cs, rfl, h6, h7, h8⟩
          · have : h = 0 := by simpa using hhl
            subst this
            have : l = 0 := by omega
            subst this
            simp only [List.take_nil, List.drop_nil, Nat.sub_self]
            exact .fro0 (fun h => by cases h)
          · refine fro_cut h6 h7 h8 hlh hhl (by omega) _ (fun hlt => ?_)
            rw [if_neg (by omega)]
            simp [add_lit]
      · cases hs
    · cases hs
  · rename_i id path off k len es hv
    split at hs
    · rename_i l h hb
      split at hs
      · rename_i hes
        subst hes
        simp only [Option.some.injEq, Prod.mk.injEq] at hs
        obtain ⟨rfl, rfl⟩ := hs
        refine ⟨rfl, fun oper G w H U a ho hw hr hH => ?_⟩
        have h1 := hr x x' (by simp [Op.operands]) hx
        rw [hv] at h1
        obtain ⟨ad, cap, h2, h3, h5⟩ := h1.sl_inv
        obtain ⟨l1, l2⟩ := trXo_rel (σ := σ) (G := G) (w := w) (a := a) hlo (fun y y' hy => hr y y' (by simp [Op.operands]; cases lo <;> simp at hy ⊢; exact .inr (.inl hy.symm)))
        obtain ⟨r1, r2⟩ := trXo_rel (σ := σ) (G := G) (w := w) (a := a) hhi (fun y y' hy => hr y y' (by simp [Op.operands]; cases hi <;> simp at hy ⊢; exact .inr (.inr hy.symm)))
        obtain ⟨hrun, hlh, hhl⟩ := bounds_run (P := P) true hb h3 l1 l2 r1 r2
        refine ⟨.slice (if cap = l then ad else ad.map (·.add (l * i.size))) (h - l) (cap - l), ?_, .one ?_ rfl⟩
        · simp only [execOp, ho, h2]
          refine run_val ?_
          simp [Instr.sliceAt, Instr.slice, run_underlying hu, hrun, sizeOf, typeInfo, hi2]
        · by_cases hcl : cap = l
          · have : h = l := by omega
            subst this
            rw [hcl, Nat.sub_self]
            exact .sl0
          · rw [if_neg hcl]
            rcases h5 with ⟨h5, h6⟩ | ⟨b, o, cur, e, rfl, h6, h7, h8⟩
            · omega
            · simp only [Option.map_some, add_lit, Nat.add_assoc]
              refine .sl h6 (by omega) h7 ?_
              have : (cap - l) * i.size + l * i.size = cap * i.size := by rw [← Nat.add_mul]; congr 1; omega
              omega
      · cases hs
    · cases hs
  · cases hs
end
end Go.Ra
