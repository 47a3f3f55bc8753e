/- The bounds, of the one config that the law tries. -/
import Derived.Test.YtmlnhecgcbohkaaCc
namespace Go.Proofs.Ytmlnhecgcbohkaa
open Go.Ra
set_option linter.unusedVariables false
set_option linter.unusedSimpArgs false
theorem p12 : Pure Try.prog 12 [] (B true) := by
  have h0 := p13 0 0 0 0 0 0 0 0 0 0 0 0
  have h1 := p13 1 1 1 1 1 1 1 1 1 1 1 1
  have h2 := p15 1 1 1 1 1 1 1 1 1 1 1 1 0
  have h3 := p41
  have e0 : quietS 0 0 0 0 0 0 0 0 0 0 0 0 = 0 := by decide
  have e1 : quietS 1 1 1 1 1 1 1 1 1 1 1 1 = 46 := by decide
  have e2 : cyclesS 46 0 = 736 := by decide
  rw [e0] at h0
  rw [e1] at h1 h2
  rw [e2] at h2
  clear e0 e1 e2
  refine mk 3 t12 (Nat.le_of_ble_eq_true rfl) ?_
  unfold c12
  simp only [envOf, cfg]
  repeat' (first
    | (with_reducible refine wpC_seq ?_; intro K hK)
    | with_reducible refine wpC_ops ?_
    | with_reducible refine wpC_ret ?_
    | with_reducible refine wpC_skip ?_
    | with_reducible refine wpC_exit ?_
    | with_reducible refine wpC_block ?_
    | with_reducible refine then_normal ?_
    | with_reducible refine then_ret ?_
    | with_reducible refine then_exit ?_
    | with_reducible refine inBlock_normal ?_
    | with_reducible refine inBlock_ret ?_
    | with_reducible refine inBlock_self ?_
    | with_reducible refine inBlock_other (by decide) ?_
    | (with_reducible refine hK.out _ ?_; clear hK K)
    | with_reducible refine KK.out (by assumption) _ ?_
    | simp -implicitDefEqProofs (disch := omega) only [wpOps_mv, wpOps_pick, wpOps_box, wpOps_build, wpOps_bsl, wpOps_load, wpOps_store, wpOps_nilck, wpOps_bin, wpOps_eqs, wpOps_eqn, wpOps_un, wpOps_conv, wpOps_b2s, wpOps_slice, wpOps_aslice, wpOps_fadr, wpOps_iadr, wpOps_ext, wpOps_mkf, wpOps_mks, wpOps_app, wpOps_len, wpOps_lens, wpOps_copy, wpOps_min, wpOps_max, wpOps_guard, wpOps_nil, wpE_some, wpG_tt, wpG_ff, wpG_tf, wpG_ft, wpG_n, wpC_cond, cnd_t, cnd_f, put_some, put_none, ev_t, ev_c, St_H, hput_mk, new_mk, get_self, get_cons, look_cons, look_nil, hset_nil, hset_cons, stepE, binV, isShift, intBin_add, intBin_sub, intBin_mul, intBin_quo, intBin_rem, intBin_and, intBin_or, intBin_xor, intBin_eql, intBin_neq, intBin_lss, intBin_leq, intBin_gtr, intBin_geq, notV, I, U32, B, U8, if_true, if_false, ite_true, ite_false, reduceCtorEq, Nat.reduceEqDiff, Nat.succ_ne_self, Bool.false_eq_true, ↓reduceIte, Bool.not_true, Bool.not_false, decide_true, decide_false, not_true_eq_false, not_false_eq_true, St.loadA, AV.at?, AV.set?, isAgg_sc, size_sc, storable_sc, isAgg_agg, size_agg, storable_agg, isAgg_arr, size_arr, storable_arr, isAgg_fro, size_fro, storable_fro, isAgg_fptr, size_fptr, storable_fptr, isAgg_sl, size_sl, storable_sl, isAgg_ptr, size_ptr, storable_ptr, isAgg_clo, size_clo, storable_clo, AV.idfree, AV.idfrees, sizes, List.map_cons, List.map_nil, List.getElem?_cons_zero, List.getElem?_cons_succ, List.getElem?_nil, List.take_succ_cons, List.take_zero, List.take_nil, Nat.zero_add, Nat.add_zero, Nat.reduceAdd, and_self, and_true, true_and, List.nil_append, List.cons_append, List.append_nil, allOk, capsOk, BEq.rfl, beq_self_eq_true, Bool.and_true, Bool.true_and, Bool.and_self, partsA, List.set_cons_zero, List.set_cons_succ, foldI, foldJ, asI, Int.toNat_natCast, agrees, agreesH, Option.map_some, Option.map_none, *]
    | (refine call_pure h0 (by simp [AV.idfrees, AV.idfree, get_cons, ev_t, ev_c, I, U32, U8, B, *]) ?_)
    | (refine call_pure h3 rfl ?_)
    | (refine call_pure h1 (by simp [AV.idfrees, AV.idfree, get_cons, ev_t, ev_c, I, U32, U8, B, *]) ?_)
    | (refine call_pure h2 (by simp [AV.idfrees, AV.idfree, get_cons, ev_t, ev_c, I, U32, U8, B, *]) ?_)
    | (with_reducible refine cnd_split (fun h => ?_) (fun h => ?_) <;> (first | simp only [decide_eq_true_eq, decide_eq_false_iff_not, Classical.not_not, Bool.and_eq_true, Bool.or_eq_true] at h | skip))
    | (with_reducible refine wpG_true (fun h => ?_) (fun h => ?_) <;> (first | simp only [decide_eq_true_eq, decide_eq_false_iff_not, Classical.not_not, Bool.and_eq_true, Bool.or_eq_true] at h | skip))
    | (with_reducible refine wpG_false (fun h => ?_) (fun h => ?_) <;> (first | simp only [decide_eq_true_eq, decide_eq_false_iff_not, Classical.not_not, Bool.and_eq_true, Bool.or_eq_true] at h | skip)))
  all_goals (simp -implicitDefEqProofs only [St.loadA, St_H, look_cons, look_nil, AV.at?, isAgg_agg, isAgg_sc, isAgg_fro, isAgg_arr, size_agg, size_sc, size_fro, size_arr, and_self, if_true, Bool.and_true, Bool.and_self, Bool.true_and, retP, resA, resV, get_cons, Nat.reduceEqDiff, ↓reduceIte, tupV, frz, mapO, AV.idfree, AV.idfrees, I, B, U32, Option.some.injEq, AV.sc.injEq, Value.bool.injEq, Value.int.injEq, true_and, AV.tup.injEq, List.cons.injEq, and_true, reduceCtorEq, Nat.succ_ne_self])

end Go.Proofs.Ytmlnhecgcbohkaa
