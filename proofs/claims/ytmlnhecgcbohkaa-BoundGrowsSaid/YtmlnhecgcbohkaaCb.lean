/- What small functions of the first seat give. -/
import Derived.Test.YtmlnhecgcbohkaaCa
namespace Go.Proofs.Ytmlnhecgcbohkaa
open Go.Ra
set_option linter.unusedVariables false
set_option linter.unusedSimpArgs false
theorem mk {f nt : Nat} {rs : List AR} {ac : AC} {args : List AV} {r : AV} (k : Nat) (hF : trF Try.prog qq f = some (nt, rs, ac)) (hlen : args.length ≤ nt)
    (h : wpC (Ok Try.prog qq) ac ⟨envOf 0 args, [], fun _ => none, 0⟩ (retP rs fun v τ => frz τ k v = some r)) : Pure Try.prog f args r := pure_of (by kernel_rfl) Ok.ok Ok.quiet hF hlen h

def win (lo hi x : Int) : Bool := decide (lo ≤ x) && decide (x ≤ hi)

theorem p44 (x hi : Int) : Pure Try.prog 44 [I x, I hi] (B (win 1 hi x)) := by
  refine mk 3 t44 (Nat.le_of_ble_eq_true rfl) ?_
  unfold c44
  simp only [envOf]
  repeat' (first
    | (with_reducible refine wpC_seq ?_; intro K hK)
    | with_reducible refine wpC_ops ?_
    | with_reducible refine wpC_ret ?_
    | with_reducible refine wpC_skip ?_
    | with_reducible refine wpC_exit ?_
    | with_reducible refine wpC_block ?_
    | with_reducible refine then_normal ?_
    | with_reducible refine then_ret ?_
    | with_reducible refine then_exit ?_
    | with_reducible refine inBlock_normal ?_
    | with_reducible refine inBlock_ret ?_
    | with_reducible refine inBlock_self ?_
    | with_reducible refine inBlock_other (by decide) ?_
    | (with_reducible refine hK.out _ ?_; clear hK K)
    | with_reducible refine KK.out (by assumption) _ ?_
    | simp -implicitDefEqProofs (disch := omega) only [wpOps_mv, wpOps_pick, wpOps_box, wpOps_build, wpOps_bsl, wpOps_load, wpOps_store, wpOps_nilck, wpOps_bin, wpOps_eqs, wpOps_eqn, wpOps_un, wpOps_conv, wpOps_b2s, wpOps_slice, wpOps_aslice, wpOps_fadr, wpOps_iadr, wpOps_ext, wpOps_mkf, wpOps_mks, wpOps_app, wpOps_len, wpOps_lens, wpOps_copy, wpOps_min, wpOps_max, wpOps_guard, wpOps_nil, wpE_some, wpG_tt, wpG_ff, wpG_tf, wpG_ft, wpG_n, wpC_cond, cnd_t, cnd_f, put_some, put_none, ev_t, ev_c, St_H, hput_mk, new_mk, get_self, get_cons, look_cons, look_nil, hset_nil, hset_cons, stepE, binV, isShift, intBin_add, intBin_sub, intBin_mul, intBin_quo, intBin_rem, intBin_and, intBin_or, intBin_xor, intBin_eql, intBin_neq, intBin_lss, intBin_leq, intBin_gtr, intBin_geq, notV, I, U32, B, U8, if_true, if_false, ite_true, ite_false, reduceCtorEq, Nat.reduceEqDiff, Nat.succ_ne_self, Bool.false_eq_true, ↓reduceIte, Bool.not_true, Bool.not_false, decide_true, decide_false, not_true_eq_false, not_false_eq_true, St.loadA, AV.at?, AV.set?, isAgg_sc, size_sc, storable_sc, isAgg_agg, size_agg, storable_agg, isAgg_arr, size_arr, storable_arr, isAgg_fro, size_fro, storable_fro, isAgg_fptr, size_fptr, storable_fptr, isAgg_sl, size_sl, storable_sl, isAgg_ptr, size_ptr, storable_ptr, isAgg_clo, size_clo, storable_clo, AV.idfree, AV.idfrees, sizes, List.map_cons, List.map_nil, List.getElem?_cons_zero, List.getElem?_cons_succ, List.getElem?_nil, List.take_succ_cons, List.take_zero, List.take_nil, Nat.zero_add, Nat.add_zero, Nat.reduceAdd, and_self, and_true, true_and, List.nil_append, List.cons_append, List.append_nil, allOk, capsOk, BEq.rfl, beq_self_eq_true, Bool.and_true, Bool.true_and, Bool.and_self, partsA, List.set_cons_zero, List.set_cons_succ, foldI, foldJ, asI, Int.toNat_natCast, agrees, agreesH, Option.map_some, Option.map_none, wrap_i64, wrap_u32, wrap_u8, tmod_nn, tdiv_nn, *]
    | (with_reducible refine cnd_split (fun h => ?_) (fun h => ?_) <;> (first | simp only [decide_eq_true_eq, decide_eq_false_iff_not, Classical.not_not, Bool.and_eq_true, Bool.or_eq_true] at h | skip))
    | (with_reducible refine wpG_true (fun h => ?_) (fun h => ?_) <;> (first | simp only [decide_eq_true_eq, decide_eq_false_iff_not, Classical.not_not, Bool.and_eq_true, Bool.or_eq_true] at h | skip))
    | (with_reducible refine wpG_false (fun h => ?_) (fun h => ?_) <;> (first | simp only [decide_eq_true_eq, decide_eq_false_iff_not, Classical.not_not, Bool.and_eq_true, Bool.or_eq_true] at h | skip)))
  all_goals (simp -implicitDefEqProofs only [retP, resA, resV, get_cons, Nat.reduceEqDiff, ↓reduceIte, tupV, frz, mapO, AV.idfree, AV.idfrees, I, B, U32, Option.some.injEq, AV.sc.injEq, Value.bool.injEq, Value.int.injEq, true_and, AV.tup.injEq, List.cons.injEq, and_true, reduceCtorEq, Nat.succ_ne_self])
  all_goals (rw [Bool.eq_iff_iff]; simp [win] <;> omega)

theorem p59 (x lo hi : Int) : Pure Try.prog 59 [I x, .fptr (I lo), .fptr (I hi)] (B (!win lo hi x)) := by
  refine mk 3 t59 (Nat.le_of_ble_eq_true rfl) ?_
  unfold c59
  simp only [envOf]
  repeat' (first
    | (with_reducible refine wpC_seq ?_; intro K hK)
    | with_reducible refine wpC_ops ?_
    | with_reducible refine wpC_ret ?_
    | with_reducible refine wpC_skip ?_
    | with_reducible refine wpC_exit ?_
    | with_reducible refine wpC_block ?_
    | with_reducible refine then_normal ?_
    | with_reducible refine then_ret ?_
    | with_reducible refine then_exit ?_
    | with_reducible refine inBlock_normal ?_
    | with_reducible refine inBlock_ret ?_
    | with_reducible refine inBlock_self ?_
    | with_reducible refine inBlock_other (by decide) ?_
    | (with_reducible refine hK.out _ ?_; clear hK K)
    | with_reducible refine KK.out (by assumption) _ ?_
    | simp -implicitDefEqProofs (disch := omega) only [wpOps_mv, wpOps_pick, wpOps_box, wpOps_build, wpOps_bsl, wpOps_load, wpOps_store, wpOps_nilck, wpOps_bin, wpOps_eqs, wpOps_eqn, wpOps_un, wpOps_conv, wpOps_b2s, wpOps_slice, wpOps_aslice, wpOps_fadr, wpOps_iadr, wpOps_ext, wpOps_mkf, wpOps_mks, wpOps_app, wpOps_len, wpOps_lens, wpOps_copy, wpOps_min, wpOps_max, wpOps_guard, wpOps_nil, wpE_some, wpG_tt, wpG_ff, wpG_tf, wpG_ft, wpG_n, wpC_cond, cnd_t, cnd_f, put_some, put_none, ev_t, ev_c, St_H, hput_mk, new_mk, get_self, get_cons, look_cons, look_nil, hset_nil, hset_cons, stepE, binV, isShift, intBin_add, intBin_sub, intBin_mul, intBin_quo, intBin_rem, intBin_and, intBin_or, intBin_xor, intBin_eql, intBin_neq, intBin_lss, intBin_leq, intBin_gtr, intBin_geq, notV, I, U32, B, U8, if_true, if_false, ite_true, ite_false, reduceCtorEq, Nat.reduceEqDiff, Nat.succ_ne_self, Bool.false_eq_true, ↓reduceIte, Bool.not_true, Bool.not_false, decide_true, decide_false, not_true_eq_false, not_false_eq_true, St.loadA, AV.at?, AV.set?, isAgg_sc, size_sc, storable_sc, isAgg_agg, size_agg, storable_agg, isAgg_arr, size_arr, storable_arr, isAgg_fro, size_fro, storable_fro, isAgg_fptr, size_fptr, storable_fptr, isAgg_sl, size_sl, storable_sl, isAgg_ptr, size_ptr, storable_ptr, isAgg_clo, size_clo, storable_clo, AV.idfree, AV.idfrees, sizes, List.map_cons, List.map_nil, List.getElem?_cons_zero, List.getElem?_cons_succ, List.getElem?_nil, List.take_succ_cons, List.take_zero, List.take_nil, Nat.zero_add, Nat.add_zero, Nat.reduceAdd, and_self, and_true, true_and, List.nil_append, List.cons_append, List.append_nil, allOk, capsOk, BEq.rfl, beq_self_eq_true, Bool.and_true, Bool.true_and, Bool.and_self, partsA, List.set_cons_zero, List.set_cons_succ, foldI, foldJ, asI, Int.toNat_natCast, agrees, agreesH, Option.map_some, Option.map_none, wrap_i64, wrap_u32, wrap_u8, tmod_nn, tdiv_nn, *]
    | (with_reducible refine cnd_split (fun h => ?_) (fun h => ?_) <;> (first | simp only [decide_eq_true_eq, decide_eq_false_iff_not, Classical.not_not, Bool.and_eq_true, Bool.or_eq_true] at h | skip))
    | (with_reducible refine wpG_true (fun h => ?_) (fun h => ?_) <;> (first | simp only [decide_eq_true_eq, decide_eq_false_iff_not, Classical.not_not, Bool.and_eq_true, Bool.or_eq_true] at h | skip))
    | (with_reducible refine wpG_false (fun h => ?_) (fun h => ?_) <;> (first | simp only [decide_eq_true_eq, decide_eq_false_iff_not, Classical.not_not, Bool.and_eq_true, Bool.or_eq_true] at h | skip)))
  all_goals (simp -implicitDefEqProofs only [retP, resA, resV, get_cons, Nat.reduceEqDiff, ↓reduceIte, tupV, frz, mapO, AV.idfree, AV.idfrees, I, B, U32, Option.some.injEq, AV.sc.injEq, Value.bool.injEq, Value.int.injEq, true_and, AV.tup.injEq, List.cons.injEq, and_true, reduceCtorEq, Nat.succ_ne_self])
  all_goals (rw [Bool.eq_iff_iff]; simp [win] <;> omega)

theorem p43 (n lo hi : Int) : Pure Try.prog 43 [I n, I lo, I hi] (I (if n < lo then lo else if n > hi then hi else n)) := by
  refine mk 3 t43 (Nat.le_of_ble_eq_true rfl) ?_
  unfold c43
  simp only [envOf]
  repeat' (first
    | (with_reducible refine wpC_seq ?_; intro K hK)
    | with_reducible refine wpC_ops ?_
    | with_reducible refine wpC_ret ?_
    | with_reducible refine wpC_skip ?_
    | with_reducible refine wpC_exit ?_
    | with_reducible refine wpC_block ?_
    | with_reducible refine then_normal ?_
    | with_reducible refine then_ret ?_
    | with_reducible refine then_exit ?_
    | with_reducible refine inBlock_normal ?_
    | with_reducible refine inBlock_ret ?_
    | with_reducible refine inBlock_self ?_
    | with_reducible refine inBlock_other (by decide) ?_
    | (with_reducible refine hK.out _ ?_; clear hK K)
    | with_reducible refine KK.out (by assumption) _ ?_
    | simp -implicitDefEqProofs (disch := omega) only [wpOps_mv, wpOps_pick, wpOps_box, wpOps_build, wpOps_bsl, wpOps_load, wpOps_store, wpOps_nilck, wpOps_bin, wpOps_eqs, wpOps_eqn, wpOps_un, wpOps_conv, wpOps_b2s, wpOps_slice, wpOps_aslice, wpOps_fadr, wpOps_iadr, wpOps_ext, wpOps_mkf, wpOps_mks, wpOps_app, wpOps_len, wpOps_lens, wpOps_copy, wpOps_min, wpOps_max, wpOps_guard, wpOps_nil, wpE_some, wpG_tt, wpG_ff, wpG_tf, wpG_ft, wpG_n, wpC_cond, cnd_t, cnd_f, put_some, put_none, ev_t, ev_c, St_H, hput_mk, new_mk, get_self, get_cons, look_cons, look_nil, hset_nil, hset_cons, stepE, binV, isShift, intBin_add, intBin_sub, intBin_mul, intBin_quo, intBin_rem, intBin_and, intBin_or, intBin_xor, intBin_eql, intBin_neq, intBin_lss, intBin_leq, intBin_gtr, intBin_geq, notV, I, U32, B, U8, if_true, if_false, ite_true, ite_false, reduceCtorEq, Nat.reduceEqDiff, Nat.succ_ne_self, Bool.false_eq_true, ↓reduceIte, Bool.not_true, Bool.not_false, decide_true, decide_false, not_true_eq_false, not_false_eq_true, St.loadA, AV.at?, AV.set?, isAgg_sc, size_sc, storable_sc, isAgg_agg, size_agg, storable_agg, isAgg_arr, size_arr, storable_arr, isAgg_fro, size_fro, storable_fro, isAgg_fptr, size_fptr, storable_fptr, isAgg_sl, size_sl, storable_sl, isAgg_ptr, size_ptr, storable_ptr, isAgg_clo, size_clo, storable_clo, AV.idfree, AV.idfrees, sizes, List.map_cons, List.map_nil, List.getElem?_cons_zero, List.getElem?_cons_succ, List.getElem?_nil, List.take_succ_cons, List.take_zero, List.take_nil, Nat.zero_add, Nat.add_zero, Nat.reduceAdd, and_self, and_true, true_and, List.nil_append, List.cons_append, List.append_nil, allOk, capsOk, BEq.rfl, beq_self_eq_true, Bool.and_true, Bool.true_and, Bool.and_self, partsA, List.set_cons_zero, List.set_cons_succ, foldI, foldJ, asI, Int.toNat_natCast, agrees, agreesH, Option.map_some, Option.map_none, wrap_i64, wrap_u32, wrap_u8, tmod_nn, tdiv_nn, *]
    | (with_reducible refine cnd_split (fun h => ?_) (fun h => ?_) <;> (first | simp only [decide_eq_true_eq, decide_eq_false_iff_not, Classical.not_not, Bool.and_eq_true, Bool.or_eq_true] at h | skip))
    | (with_reducible refine wpG_true (fun h => ?_) (fun h => ?_) <;> (first | simp only [decide_eq_true_eq, decide_eq_false_iff_not, Classical.not_not, Bool.and_eq_true, Bool.or_eq_true] at h | skip))
    | (with_reducible refine wpG_false (fun h => ?_) (fun h => ?_) <;> (first | simp only [decide_eq_true_eq, decide_eq_false_iff_not, Classical.not_not, Bool.and_eq_true, Bool.or_eq_true] at h | skip)))
  all_goals (simp -implicitDefEqProofs only [retP, resA, resV, get_cons, Nat.reduceEqDiff, ↓reduceIte, tupV, frz, mapO, AV.idfree, AV.idfrees, I, B, U32, Option.some.injEq, AV.sc.injEq, Value.bool.injEq, Value.int.injEq, true_and, AV.tup.injEq, List.cons.injEq, and_true, reduceCtorEq, Nat.succ_ne_self])
  all_goals simp_all

/-- The place of the first that p takes, or -1. -/
def idxA (p : AV → Bool) (ts : List AV) : Int :=
  match ts.findIdx? p with
  | some i => i
  | none => -1

theorem idxA_at {p : AV → Bool} {ts : List AV} {i : Nat} {t : AV} (h : ts[i]? = some t) (hp : p t = true) (hn : ∀ (j : Nat) (u : AV), j < i → ts[j]? = some u → p u = false) : idxA p ts = i := by
  obtain ⟨hi, rfl⟩ := List.getElem?_eq_some_iff.1 h
  have : ts.findIdx? p = some i := List.findIdx?_eq_some_iff_getElem.2 ⟨hi, hp, fun j hj => by rw [hn j _ hj (List.getElem?_eq_getElem (by omega))]; simp⟩
  simp [idxA, this]

theorem idxA_none {p : AV → Bool} {ts : List AV} (hn : ∀ (j : Nat) (u : AV), j < ts.length → ts[j]? = some u → p u = false) : idxA p ts = -1 := by
  have : ts.findIdx? p = none := List.findIdx?_eq_none_iff.2 fun u hu => by
    obtain ⟨j, hj, rfl⟩ := List.getElem_of_mem hu
    exact hn j _ hj (List.getElem?_eq_getElem hj)
  simp [idxA, this]

theorem p60 (x : Bool) (ts : List AV) (f : Nat) (caps : List AV) (p : AV → Bool) (h1 : ∀ t ∈ ts, t.isAgg = false ∧ t.size = 1 ∧ t.idfree = true) (hc : AV.idfrees caps = true) (hp : ∀ t ∈ ts, Pure Try.prog f (t :: caps) (B (p t))) (hlen : ts.length ≤ 4611686018427387904) :
    Pure Try.prog 60 [.fro x 1 ts, .clo f caps] (I (idxA p ts)) := by
  refine mk 3 t60 (Nat.le_of_ble_eq_true rfl) ?_
  unfold c60
  simp only [envOf]
  repeat' (first
    | (with_reducible refine wpC_seq ?_; intro K hK)
    | with_reducible refine wpC_ops ?_
    | with_reducible refine wpC_ret ?_
    | with_reducible refine wpC_skip ?_
    | with_reducible refine wpC_exit ?_
    | with_reducible refine wpC_block ?_
    | with_reducible refine then_normal ?_
    | with_reducible refine then_ret ?_
    | with_reducible refine then_exit ?_
    | with_reducible refine inBlock_normal ?_
    | with_reducible refine inBlock_ret ?_
    | with_reducible refine inBlock_self ?_
    | with_reducible refine inBlock_other (by decide) ?_
    | (with_reducible refine hK.out _ ?_; clear hK K)
    | with_reducible refine KK.out (by assumption) _ ?_
    | simp -implicitDefEqProofs (disch := omega) only [wpOps_mv, wpOps_pick, wpOps_box, wpOps_build, wpOps_bsl, wpOps_load, wpOps_store, wpOps_nilck, wpOps_bin, wpOps_eqs, wpOps_eqn, wpOps_un, wpOps_conv, wpOps_b2s, wpOps_slice, wpOps_aslice, wpOps_fadr, wpOps_iadr, wpOps_ext, wpOps_mkf, wpOps_mks, wpOps_app, wpOps_len, wpOps_lens, wpOps_copy, wpOps_min, wpOps_max, wpOps_guard, wpOps_nil, wpE_some, wpG_tt, wpG_ff, wpG_tf, wpG_ft, wpG_n, wpC_cond, cnd_t, cnd_f, put_some, put_none, ev_t, ev_c, St_H, hput_mk, new_mk, get_self, get_cons, look_cons, look_nil, hset_nil, hset_cons, stepE, binV, isShift, intBin_add, intBin_sub, intBin_mul, intBin_quo, intBin_rem, intBin_and, intBin_or, intBin_xor, intBin_eql, intBin_neq, intBin_lss, intBin_leq, intBin_gtr, intBin_geq, notV, I, U32, B, U8, if_true, if_false, ite_true, ite_false, reduceCtorEq, Nat.reduceEqDiff, Nat.succ_ne_self, Bool.false_eq_true, ↓reduceIte, Bool.not_true, Bool.not_false, decide_true, decide_false, not_true_eq_false, not_false_eq_true, St.loadA, AV.at?, AV.set?, isAgg_sc, size_sc, storable_sc, isAgg_agg, size_agg, storable_agg, isAgg_arr, size_arr, storable_arr, isAgg_fro, size_fro, storable_fro, isAgg_fptr, size_fptr, storable_fptr, isAgg_sl, size_sl, storable_sl, isAgg_ptr, size_ptr, storable_ptr, isAgg_clo, size_clo, storable_clo, AV.idfree, AV.idfrees, sizes, List.map_cons, List.map_nil, List.getElem?_cons_zero, List.getElem?_cons_succ, List.getElem?_nil, List.take_succ_cons, List.take_zero, List.take_nil, Nat.zero_add, Nat.add_zero, Nat.reduceAdd, and_self, and_true, true_and, List.nil_append, List.cons_append, List.append_nil, allOk, capsOk, BEq.rfl, beq_self_eq_true, Bool.and_true, Bool.true_and, Bool.and_self, partsA, List.set_cons_zero, List.set_cons_succ, foldI, foldJ, asI, Int.toNat_natCast, agrees, agreesH, Option.map_some, Option.map_none, wrap_i64, wrap_u32, wrap_u8, tmod_nn, tdiv_nn, *]
    | (with_reducible refine cnd_split (fun h => ?_) (fun h => ?_) <;> (first | simp only [decide_eq_true_eq, decide_eq_false_iff_not, Classical.not_not, Bool.and_eq_true, Bool.or_eq_true] at h | skip))
    | (with_reducible refine wpG_true (fun h => ?_) (fun h => ?_) <;> (first | simp only [decide_eq_true_eq, decide_eq_false_iff_not, Classical.not_not, Bool.and_eq_true, Bool.or_eq_true] at h | skip))
    | (with_reducible refine wpG_false (fun h => ?_) (fun h => ?_) <;> (first | simp only [decide_eq_true_eq, decide_eq_false_iff_not, Classical.not_not, Bool.and_eq_true, Bool.or_eq_true] at h | skip)))
  refine wpC_for (ι := Nat) (fun i => ⟨[(0, .fro x 1 ts), (1, .clo f caps), (4, I 0), (7, I ts.length), (8, I i)], [], fun _ => none, 0⟩) (fun i => i ≤ ts.length ∧ ∀ (j : Nat) (u : AV), j < i → ts[j]? = some u → p u = false) (fun i => ts.length - i) 0 ⟨Nat.zero_le _, fun j u hj => by omega⟩
    (weak_of (by simp [agrees, get_cons, I]) trivial (Nat.le_refl _)) ?_
  intro i hi
  obtain ⟨hi1, hi2⟩ := hi
  have h0 : 0 ≤ (i : Int) := by omega
  rcases Nat.lt_or_ge i ts.length with hlt | hge
  · have hti : ts[i]? = some ts[i] := List.getElem?_eq_getElem hlt
    have hlt' : (i : Int) < ts.length := by omega
    obtain ⟨g1, g2, g3⟩ := h1 _ (List.getElem_mem hlt)
    have hpi := hp _ (List.getElem_mem hlt)
    generalize ts[i] = t at *
    repeat' (first
      | (with_reducible refine wpC_seq ?_; intro K hK)
      | with_reducible refine wpC_ops ?_
      | with_reducible refine wpC_ret ?_
      | with_reducible refine wpC_skip ?_
      | with_reducible refine wpC_exit ?_
      | with_reducible refine wpC_block ?_
      | with_reducible refine then_normal ?_
      | with_reducible refine then_ret ?_
      | with_reducible refine then_exit ?_
      | with_reducible refine inBlock_normal ?_
      | with_reducible refine inBlock_ret ?_
      | with_reducible refine inBlock_self ?_
      | with_reducible refine inBlock_other (by decide) ?_
      | (with_reducible refine hK.out _ ?_; clear hK K)
      | with_reducible refine KK.out (by assumption) _ ?_
      | simp -implicitDefEqProofs (disch := omega) only [wpOps_mv, wpOps_pick, wpOps_box, wpOps_build, wpOps_bsl, wpOps_load, wpOps_store, wpOps_nilck, wpOps_bin, wpOps_eqs, wpOps_eqn, wpOps_un, wpOps_conv, wpOps_b2s, wpOps_slice, wpOps_aslice, wpOps_fadr, wpOps_iadr, wpOps_ext, wpOps_mkf, wpOps_mks, wpOps_app, wpOps_len, wpOps_lens, wpOps_copy, wpOps_min, wpOps_max, wpOps_guard, wpOps_nil, wpE_some, wpG_tt, wpG_ff, wpG_tf, wpG_ft, wpG_n, wpC_cond, cnd_t, cnd_f, put_some, put_none, ev_t, ev_c, St_H, hput_mk, new_mk, get_self, get_cons, look_cons, look_nil, hset_nil, hset_cons, stepE, binV, isShift, intBin_add, intBin_sub, intBin_mul, intBin_quo, intBin_rem, intBin_and, intBin_or, intBin_xor, intBin_eql, intBin_neq, intBin_lss, intBin_leq, intBin_gtr, intBin_geq, notV, I, U32, B, U8, if_true, if_false, ite_true, ite_false, reduceCtorEq, Nat.reduceEqDiff, Nat.succ_ne_self, Bool.false_eq_true, ↓reduceIte, Bool.not_true, Bool.not_false, decide_true, decide_false, not_true_eq_false, not_false_eq_true, St.loadA, AV.at?, AV.set?, isAgg_sc, size_sc, storable_sc, isAgg_agg, size_agg, storable_agg, isAgg_arr, size_arr, storable_arr, isAgg_fro, size_fro, storable_fro, isAgg_fptr, size_fptr, storable_fptr, isAgg_sl, size_sl, storable_sl, isAgg_ptr, size_ptr, storable_ptr, isAgg_clo, size_clo, storable_clo, AV.idfree, AV.idfrees, sizes, List.map_cons, List.map_nil, List.getElem?_cons_zero, List.getElem?_cons_succ, List.getElem?_nil, List.take_succ_cons, List.take_zero, List.take_nil, Nat.zero_add, Nat.add_zero, Nat.reduceAdd, and_self, and_true, true_and, List.nil_append, List.cons_append, List.append_nil, allOk, capsOk, BEq.rfl, beq_self_eq_true, Bool.and_true, Bool.true_and, Bool.and_self, partsA, List.set_cons_zero, List.set_cons_succ, foldI, foldJ, asI, Int.toNat_natCast, agrees, agreesH, Option.map_some, Option.map_none, wrap_i64, wrap_u32, wrap_u8, tmod_nn, tdiv_nn, *]
      | (refine callv_pure rfl hpi (by simp [AV.idfrees, AV.idfree, get_cons, ev_t, ev_c, I, U32, U8, B, *]) ?_)
      | (with_reducible refine cnd_split (fun h => ?_) (fun h => ?_) <;> (first | simp only [decide_eq_true_eq, decide_eq_false_iff_not, Classical.not_not, Bool.and_eq_true, Bool.or_eq_true] at h | skip))
      | (with_reducible refine wpG_true (fun h => ?_) (fun h => ?_) <;> (first | simp only [decide_eq_true_eq, decide_eq_false_iff_not, Classical.not_not, Bool.and_eq_true, Bool.or_eq_true] at h | skip))
      | (with_reducible refine wpG_false (fun h => ?_) (fun h => ?_) <;> (first | simp only [decide_eq_true_eq, decide_eq_false_iff_not, Classical.not_not, Bool.and_eq_true, Bool.or_eq_true] at h | skip)))
    · simp -implicitDefEqProofs only [retP, resA, resV, get_cons, Nat.reduceEqDiff, ↓reduceIte, tupV, frz, mapO, AV.idfree, AV.idfrees, I, B, U32, Option.some.injEq, AV.sc.injEq, Value.bool.injEq, Value.int.injEq, true_and, AV.tup.injEq, List.cons.injEq, and_true, reduceCtorEq, Nat.succ_ne_self]
      rw [idxA_at hti h hi2]
    · refine ⟨i + 1, ⟨by omega, fun j u hj hu => ?_⟩, weak_of (by simp [agrees, get_cons]) trivial (Nat.le_refl _), by omega⟩
      by_cases hji : j = i
      · subst hji
        rw [hti] at hu
        simp only [Option.some.injEq] at hu
        subst hu
        simpa using h
      · exact hi2 j u (by omega) hu
  · have hlt' : ¬ (i : Int) < ts.length := by omega
    repeat' (first
      | (with_reducible refine wpC_seq ?_; intro K hK)
      | with_reducible refine wpC_ops ?_
      | with_reducible refine wpC_ret ?_
      | with_reducible refine wpC_skip ?_
      | with_reducible refine wpC_exit ?_
      | with_reducible refine wpC_block ?_
      | with_reducible refine then_normal ?_
      | with_reducible refine then_ret ?_
      | with_reducible refine then_exit ?_
      | with_reducible refine inBlock_normal ?_
      | with_reducible refine inBlock_ret ?_
      | with_reducible refine inBlock_self ?_
      | with_reducible refine inBlock_other (by decide) ?_
      | (with_reducible refine hK.out _ ?_; clear hK K)
      | with_reducible refine KK.out (by assumption) _ ?_
      | simp -implicitDefEqProofs (disch := omega) only [wpOps_mv, wpOps_pick, wpOps_box, wpOps_build, wpOps_bsl, wpOps_load, wpOps_store, wpOps_nilck, wpOps_bin, wpOps_eqs, wpOps_eqn, wpOps_un, wpOps_conv, wpOps_b2s, wpOps_slice, wpOps_aslice, wpOps_fadr, wpOps_iadr, wpOps_ext, wpOps_mkf, wpOps_mks, wpOps_app, wpOps_len, wpOps_lens, wpOps_copy, wpOps_min, wpOps_max, wpOps_guard, wpOps_nil, wpE_some, wpG_tt, wpG_ff, wpG_tf, wpG_ft, wpG_n, wpC_cond, cnd_t, cnd_f, put_some, put_none, ev_t, ev_c, St_H, hput_mk, new_mk, get_self, get_cons, look_cons, look_nil, hset_nil, hset_cons, stepE, binV, isShift, intBin_add, intBin_sub, intBin_mul, intBin_quo, intBin_rem, intBin_and, intBin_or, intBin_xor, intBin_eql, intBin_neq, intBin_lss, intBin_leq, intBin_gtr, intBin_geq, notV, I, U32, B, U8, if_true, if_false, ite_true, ite_false, reduceCtorEq, Nat.reduceEqDiff, Nat.succ_ne_self, Bool.false_eq_true, ↓reduceIte, Bool.not_true, Bool.not_false, decide_true, decide_false, not_true_eq_false, not_false_eq_true, St.loadA, AV.at?, AV.set?, isAgg_sc, size_sc, storable_sc, isAgg_agg, size_agg, storable_agg, isAgg_arr, size_arr, storable_arr, isAgg_fro, size_fro, storable_fro, isAgg_fptr, size_fptr, storable_fptr, isAgg_sl, size_sl, storable_sl, isAgg_ptr, size_ptr, storable_ptr, isAgg_clo, size_clo, storable_clo, AV.idfree, AV.idfrees, sizes, List.map_cons, List.map_nil, List.getElem?_cons_zero, List.getElem?_cons_succ, List.getElem?_nil, List.take_succ_cons, List.take_zero, List.take_nil, Nat.zero_add, Nat.add_zero, Nat.reduceAdd, and_self, and_true, true_and, List.nil_append, List.cons_append, List.append_nil, allOk, capsOk, BEq.rfl, beq_self_eq_true, Bool.and_true, Bool.true_and, Bool.and_self, partsA, List.set_cons_zero, List.set_cons_succ, foldI, foldJ, asI, Int.toNat_natCast, agrees, agreesH, Option.map_some, Option.map_none, wrap_i64, wrap_u32, wrap_u8, tmod_nn, tdiv_nn, *]
      | (with_reducible refine cnd_split (fun h => ?_) (fun h => ?_) <;> (first | simp only [decide_eq_true_eq, decide_eq_false_iff_not, Classical.not_not, Bool.and_eq_true, Bool.or_eq_true] at h | skip))
      | (with_reducible refine wpG_true (fun h => ?_) (fun h => ?_) <;> (first | simp only [decide_eq_true_eq, decide_eq_false_iff_not, Classical.not_not, Bool.and_eq_true, Bool.or_eq_true] at h | skip))
      | (with_reducible refine wpG_false (fun h => ?_) (fun h => ?_) <;> (first | simp only [decide_eq_true_eq, decide_eq_false_iff_not, Classical.not_not, Bool.and_eq_true, Bool.or_eq_true] at h | skip)))
    all_goals (simp -implicitDefEqProofs only [retP, resA, resV, get_cons, Nat.reduceEqDiff, ↓reduceIte, tupV, frz, mapO, AV.idfree, AV.idfrees, I, B, U32, Option.some.injEq, AV.sc.injEq, Value.bool.injEq, Value.int.injEq, true_and, AV.tup.injEq, List.cons.injEq, and_true, reduceCtorEq, Nat.succ_ne_self])
    rw [idxA_none fun j u hj hu => hi2 j u (by omega) hu]

theorem idxA_any (p : AV → Bool) (ts : List AV) : decide (idxA p ts ≥ 0) = ts.any p := by
  unfold idxA
  cases h : ts.findIdx? p with
  | some i =>
    have : ts.any p = true := by
      obtain ⟨hi, hp, _⟩ := List.findIdx?_eq_some_iff_getElem.1 h
      exact List.any_eq_true.2 ⟨_, List.getElem_mem hi, hp⟩
    rw [this]
    simp only [decide_eq_true_eq]
    omega
  | none =>
    have : ts.any p = false := by
      rw [List.findIdx?_eq_none_iff] at h
      exact List.any_eq_false.2 fun x hx => by simp [h x hx]
    rw [this]
    rfl

theorem p58 (x : Bool) (ts : List AV) (f : Nat) (caps : List AV) (p : AV → Bool) (h1 : ∀ t ∈ ts, t.isAgg = false ∧ t.size = 1 ∧ t.idfree = true) (hc : AV.idfrees caps = true) (hp : ∀ t ∈ ts, Pure Try.prog f (t :: caps) (B (p t))) (hlen : ts.length ≤ 4611686018427387904) :
    Pure Try.prog 58 [.fro x 1 ts, .clo f caps] (B (ts.any p)) := by
  have h60 := p60 x ts f caps p h1 hc hp hlen
  clear hp h1
  refine mk 3 t58 (Nat.le_of_ble_eq_true rfl) ?_
  unfold c58
  simp only [envOf]
  repeat' (first
    | (with_reducible refine wpC_seq ?_; intro K hK)
    | with_reducible refine wpC_ops ?_
    | with_reducible refine wpC_ret ?_
    | with_reducible refine wpC_skip ?_
    | with_reducible refine wpC_exit ?_
    | with_reducible refine wpC_block ?_
    | with_reducible refine then_normal ?_
    | with_reducible refine then_ret ?_
    | with_reducible refine then_exit ?_
    | with_reducible refine inBlock_normal ?_
    | with_reducible refine inBlock_ret ?_
    | with_reducible refine inBlock_self ?_
    | with_reducible refine inBlock_other (by decide) ?_
    | (with_reducible refine hK.out _ ?_; clear hK K)
    | with_reducible refine KK.out (by assumption) _ ?_
    | simp -implicitDefEqProofs (disch := omega) only [wpOps_mv, wpOps_pick, wpOps_box, wpOps_build, wpOps_bsl, wpOps_load, wpOps_store, wpOps_nilck, wpOps_bin, wpOps_eqs, wpOps_eqn, wpOps_un, wpOps_conv, wpOps_b2s, wpOps_slice, wpOps_aslice, wpOps_fadr, wpOps_iadr, wpOps_ext, wpOps_mkf, wpOps_mks, wpOps_app, wpOps_len, wpOps_lens, wpOps_copy, wpOps_min, wpOps_max, wpOps_guard, wpOps_nil, wpE_some, wpG_tt, wpG_ff, wpG_tf, wpG_ft, wpG_n, wpC_cond, cnd_t, cnd_f, put_some, put_none, ev_t, ev_c, St_H, hput_mk, new_mk, get_self, get_cons, look_cons, look_nil, hset_nil, hset_cons, stepE, binV, isShift, intBin_add, intBin_sub, intBin_mul, intBin_quo, intBin_rem, intBin_and, intBin_or, intBin_xor, intBin_eql, intBin_neq, intBin_lss, intBin_leq, intBin_gtr, intBin_geq, notV, I, U32, B, U8, if_true, if_false, ite_true, ite_false, reduceCtorEq, Nat.reduceEqDiff, Nat.succ_ne_self, Bool.false_eq_true, ↓reduceIte, Bool.not_true, Bool.not_false, decide_true, decide_false, not_true_eq_false, not_false_eq_true, St.loadA, AV.at?, AV.set?, isAgg_sc, size_sc, storable_sc, isAgg_agg, size_agg, storable_agg, isAgg_arr, size_arr, storable_arr, isAgg_fro, size_fro, storable_fro, isAgg_fptr, size_fptr, storable_fptr, isAgg_sl, size_sl, storable_sl, isAgg_ptr, size_ptr, storable_ptr, isAgg_clo, size_clo, storable_clo, AV.idfree, AV.idfrees, sizes, List.map_cons, List.map_nil, List.getElem?_cons_zero, List.getElem?_cons_succ, List.getElem?_nil, List.take_succ_cons, List.take_zero, List.take_nil, Nat.zero_add, Nat.add_zero, Nat.reduceAdd, and_self, and_true, true_and, List.nil_append, List.cons_append, List.append_nil, allOk, capsOk, BEq.rfl, beq_self_eq_true, Bool.and_true, Bool.true_and, Bool.and_self, partsA, List.set_cons_zero, List.set_cons_succ, foldI, foldJ, asI, Int.toNat_natCast, agrees, agreesH, Option.map_some, Option.map_none, wrap_i64, wrap_u32, wrap_u8, tmod_nn, tdiv_nn, *]
    | (refine call_pure h60 (by simp [AV.idfrees, AV.idfree, get_cons, ev_t, ev_c, I, U32, U8, B, *]) ?_)
    | (with_reducible refine cnd_split (fun h => ?_) (fun h => ?_) <;> (first | simp only [decide_eq_true_eq, decide_eq_false_iff_not, Classical.not_not, Bool.and_eq_true, Bool.or_eq_true] at h | skip))
    | (with_reducible refine wpG_true (fun h => ?_) (fun h => ?_) <;> (first | simp only [decide_eq_true_eq, decide_eq_false_iff_not, Classical.not_not, Bool.and_eq_true, Bool.or_eq_true] at h | skip))
    | (with_reducible refine wpG_false (fun h => ?_) (fun h => ?_) <;> (first | simp only [decide_eq_true_eq, decide_eq_false_iff_not, Classical.not_not, Bool.and_eq_true, Bool.or_eq_true] at h | skip)))
  · simp -implicitDefEqProofs only [retP, resA, resV, get_cons, Nat.reduceEqDiff, ↓reduceIte, tupV, frz, mapO, AV.idfree, AV.idfrees, I, B, U32, Option.some.injEq, AV.sc.injEq, Value.bool.injEq, Value.int.injEq, true_and, AV.tup.injEq, List.cons.injEq, and_true, reduceCtorEq, Nat.succ_ne_self]
    exact idxA_any p ts

def outW (lo hi : Int) : AV → Bool
  | .sc (.int _ n) => !win lo hi n
  | _ => false

theorem outW_any (lo hi : Int) (zs : List Int) : (zs.map I).any (outW lo hi) = !zs.all (win lo hi) := by
  induction zs with
  | nil => rfl
  | cons z zs ih => simp only [List.map_cons, List.any_cons, ih, List.all_cons, Bool.not_and, outW, I]

theorem p55 (x : Bool) (lo hi : Int) (zs : List Int) (hz : zs.length ≤ 4611686018427387904) : Pure Try.prog 55 [I lo, I hi, .fro x 1 (zs.map I)] (B (zs.all (win lo hi))) := by
  have h58 := p58 x (zs.map I) 59 [.fptr (I lo), .fptr (I hi)] (outW lo hi) (fun t ht => by
    obtain ⟨z, _, rfl⟩ := List.mem_map.1 ht
    exact ⟨rfl, rfl, rfl⟩) rfl (fun t ht => by
    obtain ⟨z, _, rfl⟩ := List.mem_map.1 ht
    exact p59 z lo hi) (by simpa using hz)
  rw [outW_any] at h58
  generalize zs.map I = ts at *
  generalize zs.all (win lo hi) = b at *
  refine mk 3 t55 (Nat.le_of_ble_eq_true rfl) ?_
  unfold c55
  simp only [envOf]
  repeat' (first
    | (with_reducible refine wpC_seq ?_; intro K hK)
    | with_reducible refine wpC_ops ?_
    | with_reducible refine wpC_ret ?_
    | with_reducible refine wpC_skip ?_
    | with_reducible refine wpC_exit ?_
    | with_reducible refine wpC_block ?_
    | with_reducible refine then_normal ?_
    | with_reducible refine then_ret ?_
    | with_reducible refine then_exit ?_
    | with_reducible refine inBlock_normal ?_
    | with_reducible refine inBlock_ret ?_
    | with_reducible refine inBlock_self ?_
    | with_reducible refine inBlock_other (by decide) ?_
    | (with_reducible refine hK.out _ ?_; clear hK K)
    | with_reducible refine KK.out (by assumption) _ ?_
    | simp -implicitDefEqProofs (disch := omega) only [wpOps_mv, wpOps_pick, wpOps_box, wpOps_build, wpOps_bsl, wpOps_load, wpOps_store, wpOps_nilck, wpOps_bin, wpOps_eqs, wpOps_eqn, wpOps_un, wpOps_conv, wpOps_b2s, wpOps_slice, wpOps_aslice, wpOps_fadr, wpOps_iadr, wpOps_ext, wpOps_mkf, wpOps_mks, wpOps_app, wpOps_len, wpOps_lens, wpOps_copy, wpOps_min, wpOps_max, wpOps_guard, wpOps_nil, wpE_some, wpG_tt, wpG_ff, wpG_tf, wpG_ft, wpG_n, wpC_cond, cnd_t, cnd_f, put_some, put_none, ev_t, ev_c, St_H, hput_mk, new_mk, get_self, get_cons, look_cons, look_nil, hset_nil, hset_cons, stepE, binV, isShift, intBin_add, intBin_sub, intBin_mul, intBin_quo, intBin_rem, intBin_and, intBin_or, intBin_xor, intBin_eql, intBin_neq, intBin_lss, intBin_leq, intBin_gtr, intBin_geq, notV, I, U32, B, U8, if_true, if_false, ite_true, ite_false, reduceCtorEq, Nat.reduceEqDiff, Nat.succ_ne_self, Bool.false_eq_true, ↓reduceIte, Bool.not_true, Bool.not_false, decide_true, decide_false, not_true_eq_false, not_false_eq_true, St.loadA, AV.at?, AV.set?, isAgg_sc, size_sc, storable_sc, isAgg_agg, size_agg, storable_agg, isAgg_arr, size_arr, storable_arr, isAgg_fro, size_fro, storable_fro, isAgg_fptr, size_fptr, storable_fptr, isAgg_sl, size_sl, storable_sl, isAgg_ptr, size_ptr, storable_ptr, isAgg_clo, size_clo, storable_clo, AV.idfree, AV.idfrees, sizes, List.map_cons, List.map_nil, List.getElem?_cons_zero, List.getElem?_cons_succ, List.getElem?_nil, List.take_succ_cons, List.take_zero, List.take_nil, Nat.zero_add, Nat.add_zero, Nat.reduceAdd, and_self, and_true, true_and, List.nil_append, List.cons_append, List.append_nil, allOk, capsOk, BEq.rfl, beq_self_eq_true, Bool.and_true, Bool.true_and, Bool.and_self, partsA, List.set_cons_zero, List.set_cons_succ, foldI, foldJ, asI, Int.toNat_natCast, agrees, agreesH, Option.map_some, Option.map_none, wrap_i64, wrap_u32, wrap_u8, tmod_nn, tdiv_nn, *]
    | (refine call_lend 3 (by simp [mapO, frz, get_cons, ev_t, ev_c, St.loadA, St.row, St_H, look_cons, look_nil, AV.at?, AV.idfree, AV.idfrees, I, U32, U8, B, *]) h58 rfl ?_)
    | (with_reducible refine cnd_split (fun h => ?_) (fun h => ?_) <;> (first | simp only [decide_eq_true_eq, decide_eq_false_iff_not, Classical.not_not, Bool.and_eq_true, Bool.or_eq_true] at h | skip))
    | (with_reducible refine wpG_true (fun h => ?_) (fun h => ?_) <;> (first | simp only [decide_eq_true_eq, decide_eq_false_iff_not, Classical.not_not, Bool.and_eq_true, Bool.or_eq_true] at h | skip))
    | (with_reducible refine wpG_false (fun h => ?_) (fun h => ?_) <;> (first | simp only [decide_eq_true_eq, decide_eq_false_iff_not, Classical.not_not, Bool.and_eq_true, Bool.or_eq_true] at h | skip)))
  · simp -implicitDefEqProofs only [retP, resA, resV, get_cons, Nat.reduceEqDiff, ↓reduceIte, tupV, frz, mapO, AV.idfree, AV.idfrees, I, B, U32, Option.some.injEq, AV.sc.injEq, Value.bool.injEq, Value.int.injEq, true_and, AV.tup.injEq, List.cons.injEq, and_true, reduceCtorEq, Nat.succ_ne_self]
    simp
end Go.Proofs.Ytmlnhecgcbohkaa
