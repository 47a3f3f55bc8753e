/- What is told of configs. -/
import Derived.Test.YtmlnhecgcbohkaaCb
namespace Go.Proofs.Ytmlnhecgcbohkaa
open Go.Ra
set_option linter.unusedVariables false
set_option linter.unusedSimpArgs false
abbrev cfg (a0 a1 a2 a3 a4 a5 a6 a7 a8 a9 a10 a11 : Int) : AV := .agg 12 [I a0, I a1, I a2, I a3, I a4, I a5, I a6, I a7, I a8, I a9, I a10, I a11]

def okC (a0 a1 a2 a3 a4 a5 a6 a7 a8 a9 a10 a11 : Int) : Bool :=
  [a0, a1, a2, a3, a4, a5, a7, a8].all (win 1 64) && ([a6].all (win 1 16) && ([a9].all (win 1 1000) && [a10, a11].all (win 1 50)))

theorem p42 (a0 a1 a2 a3 a4 a5 a6 a7 a8 a9 a10 a11 : Int) : Pure Try.prog 42 [cfg a0 a1 a2 a3 a4 a5 a6 a7 a8 a9 a10 a11] (B (okC a0 a1 a2 a3 a4 a5 a6 a7 a8 a9 a10 a11)) := by
  have h1 := p55 true 1 64 [a0, a1, a2, a3, a4, a5, a7, a8] (by simp)
  have h2 := p55 true 1 16 [a6] (by simp)
  have h3 := p55 true 1 1000 [a9] (by simp)
  have h4 := p55 true 1 50 [a10, a11] (by simp)
  unfold okC
  generalize [a0, a1, a2, a3, a4, a5, a7, a8].all (win 1 64) = b1 at *
  generalize [a6].all (win 1 16) = b2 at *
  generalize [a9].all (win 1 1000) = b3 at *
  generalize [a10, a11].all (win 1 50) = b4 at *
  refine mk 3 t42 (Nat.le_of_ble_eq_true rfl) ?_
  unfold c42
  simp only [envOf, cfg]
  repeat' (first
    | (with_reducible refine wpC_seq ?_; intro K hK)
    | with_reducible refine wpC_ops ?_
    | with_reducible refine wpC_ret ?_
    | with_reducible refine wpC_skip ?_
    | with_reducible refine wpC_exit ?_
    | with_reducible refine wpC_block ?_
    | with_reducible refine then_normal ?_
    | with_reducible refine then_ret ?_
    | with_reducible refine then_exit ?_
    | with_reducible refine inBlock_normal ?_
    | with_reducible refine inBlock_ret ?_
    | with_reducible refine inBlock_self ?_
    | with_reducible refine inBlock_other (by decide) ?_
    | (with_reducible refine hK.out _ ?_; clear hK K)
    | with_reducible refine KK.out (by assumption) _ ?_
    | simp -implicitDefEqProofs (disch := omega) only [wpOps_mv, wpOps_pick, wpOps_box, wpOps_build, wpOps_bsl, wpOps_load, wpOps_store, wpOps_nilck, wpOps_bin, wpOps_eqs, wpOps_eqn, wpOps_un, wpOps_conv, wpOps_b2s, wpOps_slice, wpOps_aslice, wpOps_fadr, wpOps_iadr, wpOps_ext, wpOps_mkf, wpOps_mks, wpOps_app, wpOps_len, wpOps_lens, wpOps_copy, wpOps_min, wpOps_max, wpOps_guard, wpOps_nil, wpE_some, wpG_tt, wpG_ff, wpG_tf, wpG_ft, wpG_n, wpC_cond, cnd_t, cnd_f, put_some, put_none, ev_t, ev_c, St_H, hput_mk, new_mk, get_self, get_cons, look_cons, look_nil, hset_nil, hset_cons, stepE, binV, isShift, intBin_add, intBin_sub, intBin_mul, intBin_quo, intBin_rem, intBin_and, intBin_or, intBin_xor, intBin_eql, intBin_neq, intBin_lss, intBin_leq, intBin_gtr, intBin_geq, notV, I, U32, B, U8, if_true, if_false, ite_true, ite_false, reduceCtorEq, Nat.reduceEqDiff, Nat.succ_ne_self, Bool.false_eq_true, ↓reduceIte, Bool.not_true, Bool.not_false, decide_true, decide_false, not_true_eq_false, not_false_eq_true, St.loadA, AV.at?, AV.set?, isAgg_sc, size_sc, storable_sc, isAgg_agg, size_agg, storable_agg, isAgg_arr, size_arr, storable_arr, isAgg_fro, size_fro, storable_fro, isAgg_fptr, size_fptr, storable_fptr, isAgg_sl, size_sl, storable_sl, isAgg_ptr, size_ptr, storable_ptr, isAgg_clo, size_clo, storable_clo, AV.idfree, AV.idfrees, sizes, List.map_cons, List.map_nil, List.getElem?_cons_zero, List.getElem?_cons_succ, List.getElem?_nil, List.take_succ_cons, List.take_zero, List.take_nil, Nat.zero_add, Nat.add_zero, Nat.reduceAdd, and_self, and_true, true_and, List.nil_append, List.cons_append, List.append_nil, allOk, capsOk, BEq.rfl, beq_self_eq_true, Bool.and_true, Bool.true_and, Bool.and_self, partsA, List.set_cons_zero, List.set_cons_succ, foldI, foldJ, asI, Int.toNat_natCast, agrees, agreesH, Option.map_some, Option.map_none, *]
    | (refine call_pure h1 (by simp [AV.idfrees, AV.idfree, get_cons, ev_t, ev_c, I, U32, U8, B, *]) ?_)
    | (refine call_pure h2 (by simp [AV.idfrees, AV.idfree, get_cons, ev_t, ev_c, I, U32, U8, B, *]) ?_)
    | (refine call_pure h3 (by simp [AV.idfrees, AV.idfree, get_cons, ev_t, ev_c, I, U32, U8, B, *]) ?_)
    | (refine call_pure h4 (by simp [AV.idfrees, AV.idfree, get_cons, ev_t, ev_c, I, U32, U8, B, *]) ?_)
    | (with_reducible refine cnd_split (fun h => ?_) (fun h => ?_) <;> (first | simp only [decide_eq_true_eq, decide_eq_false_iff_not, Classical.not_not, Bool.and_eq_true, Bool.or_eq_true] at h | skip))
    | (with_reducible refine wpG_true (fun h => ?_) (fun h => ?_) <;> (first | simp only [decide_eq_true_eq, decide_eq_false_iff_not, Classical.not_not, Bool.and_eq_true, Bool.or_eq_true] at h | skip))
    | (with_reducible refine wpG_false (fun h => ?_) (fun h => ?_) <;> (first | simp only [decide_eq_true_eq, decide_eq_false_iff_not, Classical.not_not, Bool.and_eq_true, Bool.or_eq_true] at h | skip)))
  all_goals (simp -implicitDefEqProofs only [St.loadA, St_H, look_cons, look_nil, AV.at?, isAgg_agg, isAgg_sc, isAgg_fro, isAgg_arr, size_agg, size_sc, size_fro, size_arr, and_self, if_true, Bool.and_true, Bool.and_self, Bool.true_and, retP, resA, resV, get_cons, Nat.reduceEqDiff, ↓reduceIte, tupV, frz, mapO, AV.idfree, AV.idfrees, I, B, U32, Option.some.injEq, AV.sc.injEq, Value.bool.injEq, Value.int.injEq, true_and, AV.tup.injEq, List.cons.injEq, and_true, reduceCtorEq, Nat.succ_ne_self])
  all_goals simp_all

theorem p17 (a0 a1 a2 a3 a4 a5 a6 a7 a8 a9 a10 a11 : Int) : Pure Try.prog 17 [cfg a0 a1 a2 a3 a4 a5 a6 a7 a8 a9 a10 a11] (B (okC a0 a1 a2 a3 a4 a5 a6 a7 a8 a9 a10 a11)) := by
  refine mk 3 t17 (Nat.le_of_ble_eq_true rfl) ?_
  unfold c17
  simp only [envOf, cfg]
  obtain ⟨zs, hzs⟩ : ∃ zs, zs = [a0, a1, a2, a3, a4, a5, a7, a8] := ⟨_, rfl⟩
  obtain ⟨ts, hts⟩ : ∃ ts, ts = zs.map I := ⟨_, rfl⟩
  have hts' : ts = [I a0, I a1, I a2, I a3, I a4, I a5, I a7, I a8] := by rw [hts, hzs]; rfl
  have hlen : zs.length = 8 := by rw [hzs]; rfl
  have hok : okC a0 a1 a2 a3 a4 a5 a6 a7 a8 a9 a10 a11 = (zs.all (win 1 64) && (win 1 16 a6 && (win 1 1000 a9 && (win 1 50 a10 && win 1 50 a11)))) := by
    rw [hzs]; simp only [okC, List.all_cons, List.all_nil, Bool.and_true]
  rw [hok]
  clear hzs hok
  repeat' (first
    | (with_reducible refine wpC_seq ?_; intro K hK)
    | with_reducible refine wpC_ops ?_
    | with_reducible refine wpC_ret ?_
    | with_reducible refine wpC_skip ?_
    | with_reducible refine wpC_exit ?_
    | with_reducible refine wpC_block ?_
    | with_reducible refine then_normal ?_
    | with_reducible refine then_ret ?_
    | with_reducible refine then_exit ?_
    | with_reducible refine inBlock_normal ?_
    | with_reducible refine inBlock_ret ?_
    | with_reducible refine inBlock_self ?_
    | with_reducible refine inBlock_other (by decide) ?_
    | (with_reducible refine hK.out _ ?_; clear hK K)
    | with_reducible refine KK.out (by assumption) _ ?_
    | simp -implicitDefEqProofs (disch := omega) only [wpOps_mv, wpOps_pick, wpOps_box, wpOps_build, wpOps_bsl, wpOps_load, wpOps_store, wpOps_nilck, wpOps_bin, wpOps_eqs, wpOps_eqn, wpOps_un, wpOps_conv, wpOps_b2s, wpOps_slice, wpOps_aslice, wpOps_fadr, wpOps_iadr, wpOps_ext, wpOps_mkf, wpOps_mks, wpOps_app, wpOps_len, wpOps_lens, wpOps_copy, wpOps_min, wpOps_max, wpOps_guard, wpOps_nil, wpE_some, wpG_tt, wpG_ff, wpG_tf, wpG_ft, wpG_n, wpC_cond, cnd_t, cnd_f, put_some, put_none, ev_t, ev_c, St_H, hput_mk, new_mk, get_self, get_cons, look_cons, look_nil, hset_nil, hset_cons, stepE, binV, isShift, intBin_add, intBin_sub, intBin_mul, intBin_quo, intBin_rem, intBin_and, intBin_or, intBin_xor, intBin_eql, intBin_neq, intBin_lss, intBin_leq, intBin_gtr, intBin_geq, notV, I, U32, B, U8, if_true, if_false, ite_true, ite_false, reduceCtorEq, Nat.reduceEqDiff, Nat.succ_ne_self, Bool.false_eq_true, ↓reduceIte, Bool.not_true, Bool.not_false, decide_true, decide_false, not_true_eq_false, not_false_eq_true, St.loadA, AV.at?, AV.set?, isAgg_sc, size_sc, storable_sc, isAgg_agg, size_agg, storable_agg, isAgg_arr, size_arr, storable_arr, isAgg_fro, size_fro, storable_fro, isAgg_fptr, size_fptr, storable_fptr, isAgg_sl, size_sl, storable_sl, isAgg_ptr, size_ptr, storable_ptr, isAgg_clo, size_clo, storable_clo, AV.idfree, AV.idfrees, sizes, List.map_cons, List.map_nil, List.getElem?_cons_zero, List.getElem?_cons_succ, List.getElem?_nil, List.take_succ_cons, List.take_zero, List.take_nil, Nat.zero_add, Nat.add_zero, Nat.reduceAdd, and_self, and_true, true_and, List.nil_append, List.cons_append, List.append_nil, allOk, capsOk, BEq.rfl, beq_self_eq_true, Bool.and_true, Bool.true_and, Bool.and_self, partsA, List.set_cons_zero, List.set_cons_succ, foldI, foldJ, asI, Int.toNat_natCast, agrees, agreesH, Option.map_some, Option.map_none, *]
    | (with_reducible refine cnd_split (fun h => ?_) (fun h => ?_) <;> (first | simp only [decide_eq_true_eq, decide_eq_false_iff_not, Classical.not_not, Bool.and_eq_true, Bool.or_eq_true] at h | skip))
    | (with_reducible refine wpG_true (fun h => ?_) (fun h => ?_) <;> (first | simp only [decide_eq_true_eq, decide_eq_false_iff_not, Classical.not_not, Bool.and_eq_true, Bool.or_eq_true] at h | skip))
    | (with_reducible refine wpG_false (fun h => ?_) (fun h => ?_) <;> (first | simp only [decide_eq_true_eq, decide_eq_false_iff_not, Classical.not_not, Bool.and_eq_true, Bool.or_eq_true] at h | skip)))
  refine wpC_for (ι := Nat) (fun i => ⟨[(1, .ptr 0 [] 0), (3, .fro true 1 ts), (4, I i)], [(0, some (cfg a0 a1 a2 a3 a4 a5 a6 a7 a8 a9 a10 a11))], fun _ => none, 1⟩) (fun i => i ≤ 8 ∧ ∀ (j : Nat) (z : Int), j < i → zs[j]? = some z → win 1 64 z = true) (fun i => 8 - i) 0 ⟨Nat.zero_le _, fun j u hj => by omega⟩
    (weak_of (by rw [hts']; simp [agrees, get_cons, I]) (by simp [agreesH, look_cons, cfg, I]) (Nat.le_refl _)) ?_
  intro i hi
  obtain ⟨hi1, hi2⟩ := hi
  have h0 : 0 ≤ (i : Int) := by omega
  have htl : ts.length = 8 := by rw [hts, List.length_map, hlen]
  clear hts'
  simp only [cfg]
  rcases Nat.lt_or_ge i 8 with hlt | hge
  · have hzi : zs[i]? = some zs[i] := List.getElem?_eq_getElem (by omega)
    generalize zs[i] = z at hzi
    have hti : ts[i]? = some (I z) := by rw [hts, List.getElem?_map, hzi]; rfl
    clear hts
    have hlt' : (i : Int) < ((8 : Nat) : Int) := by omega
    have h44 := p44 z 64
    have hno : win 1 64 z = false → zs.all (win 1 64) = false := fun h => List.all_eq_false.2 ⟨z, List.mem_of_getElem? hzi, by simp [h]⟩
    repeat' (first
      | (with_reducible refine wpC_seq ?_; intro K hK)
      | with_reducible refine wpC_ops ?_
      | with_reducible refine wpC_ret ?_
      | with_reducible refine wpC_skip ?_
      | with_reducible refine wpC_exit ?_
      | with_reducible refine wpC_block ?_
      | with_reducible refine then_normal ?_
      | with_reducible refine then_ret ?_
      | with_reducible refine then_exit ?_
      | with_reducible refine inBlock_normal ?_
      | with_reducible refine inBlock_ret ?_
      | with_reducible refine inBlock_self ?_
      | with_reducible refine inBlock_other (by decide) ?_
      | (with_reducible refine hK.out _ ?_; clear hK K)
      | with_reducible refine KK.out (by assumption) _ ?_
      | simp -implicitDefEqProofs (disch := omega) only [wpOps_mv, wpOps_pick, wpOps_box, wpOps_build, wpOps_bsl, wpOps_load, wpOps_store, wpOps_nilck, wpOps_bin, wpOps_eqs, wpOps_eqn, wpOps_un, wpOps_conv, wpOps_b2s, wpOps_slice, wpOps_aslice, wpOps_fadr, wpOps_iadr, wpOps_ext, wpOps_mkf, wpOps_mks, wpOps_app, wpOps_len, wpOps_lens, wpOps_copy, wpOps_min, wpOps_max, wpOps_guard, wpOps_nil, wpE_some, wpG_tt, wpG_ff, wpG_tf, wpG_ft, wpG_n, wpC_cond, cnd_t, cnd_f, put_some, put_none, ev_t, ev_c, St_H, hput_mk, new_mk, get_self, get_cons, look_cons, look_nil, hset_nil, hset_cons, stepE, binV, isShift, intBin_add, intBin_sub, intBin_mul, intBin_quo, intBin_rem, intBin_and, intBin_or, intBin_xor, intBin_eql, intBin_neq, intBin_lss, intBin_leq, intBin_gtr, intBin_geq, notV, I, U32, B, U8, if_true, if_false, ite_true, ite_false, reduceCtorEq, Nat.reduceEqDiff, Nat.succ_ne_self, Bool.false_eq_true, ↓reduceIte, Bool.not_true, Bool.not_false, decide_true, decide_false, not_true_eq_false, not_false_eq_true, St.loadA, AV.at?, AV.set?, isAgg_sc, size_sc, storable_sc, isAgg_agg, size_agg, storable_agg, isAgg_arr, size_arr, storable_arr, isAgg_fro, size_fro, storable_fro, isAgg_fptr, size_fptr, storable_fptr, isAgg_sl, size_sl, storable_sl, isAgg_ptr, size_ptr, storable_ptr, isAgg_clo, size_clo, storable_clo, AV.idfree, AV.idfrees, sizes, List.map_cons, List.map_nil, List.getElem?_cons_zero, List.getElem?_cons_succ, List.getElem?_nil, List.take_succ_cons, List.take_zero, List.take_nil, Nat.zero_add, Nat.add_zero, Nat.reduceAdd, and_self, and_true, true_and, List.nil_append, List.cons_append, List.append_nil, allOk, capsOk, BEq.rfl, beq_self_eq_true, Bool.and_true, Bool.true_and, Bool.and_self, partsA, List.set_cons_zero, List.set_cons_succ, foldI, foldJ, asI, Int.toNat_natCast, agrees, agreesH, Option.map_some, Option.map_none, wrap_i64, wrap_u32, wrap_u8, tmod_nn, tdiv_nn, *]
      | (refine call_pure h44 (by simp [AV.idfrees, AV.idfree, get_cons, ev_t, ev_c, I, U32, U8, B, *]) ?_)
      | (with_reducible refine cnd_split (fun h => ?_) (fun h => ?_) <;> (first | simp only [decide_eq_true_eq, decide_eq_false_iff_not, Classical.not_not, Bool.and_eq_true, Bool.or_eq_true] at h | skip))
      | (with_reducible refine wpG_true (fun h => ?_) (fun h => ?_) <;> (first | simp only [decide_eq_true_eq, decide_eq_false_iff_not, Classical.not_not, Bool.and_eq_true, Bool.or_eq_true] at h | skip))
      | (with_reducible refine wpG_false (fun h => ?_) (fun h => ?_) <;> (first | simp only [decide_eq_true_eq, decide_eq_false_iff_not, Classical.not_not, Bool.and_eq_true, Bool.or_eq_true] at h | skip)))
    · simp -implicitDefEqProofs only [St.loadA, St_H, look_cons, look_nil, AV.at?, isAgg_agg, isAgg_sc, isAgg_fro, isAgg_arr, size_agg, size_sc, size_fro, size_arr, and_self, if_true, Bool.and_true, Bool.and_self, Bool.true_and, retP, resA, resV, get_cons, Nat.reduceEqDiff, ↓reduceIte, tupV, frz, mapO, AV.idfree, AV.idfrees, I, B, U32, Option.some.injEq, AV.sc.injEq, Value.bool.injEq, Value.int.injEq, true_and, AV.tup.injEq, List.cons.injEq, and_true, reduceCtorEq, Nat.succ_ne_self]
      rw [hno (by simpa using h)]
      rfl
    · refine ⟨i + 1, ⟨by omega, fun j u hj hu => ?_⟩, weak_of (by simp [agrees, get_cons]) (by simp [agreesH, look_cons]) (Nat.le_refl _), by omega⟩
      by_cases hji : j = i
      · subst hji
        rw [hzi] at hu
        simp only [Option.some.injEq] at hu
        subst hu
        simpa using h
      · exact hi2 j u (by omega) hu
  · clear hts
    have hlt' : ¬ (i : Int) < ((8 : Nat) : Int) := by omega
    have hall : zs.all (win 1 64) = true := List.all_eq_true.2 fun z hz => by
      obtain ⟨j, hj, rfl⟩ := List.getElem_of_mem hz
      exact hi2 j _ (by omega) (List.getElem?_eq_getElem hj)
    have h1 := p44 a6 16
    have h2 := p44 a9 1000
    have h3 := p44 a10 50
    have h4 := p44 a11 50
    repeat' (first
      | (with_reducible refine wpC_seq ?_; intro K hK)
      | with_reducible refine wpC_ops ?_
      | with_reducible refine wpC_ret ?_
      | with_reducible refine wpC_skip ?_
      | with_reducible refine wpC_exit ?_
      | with_reducible refine wpC_block ?_
      | with_reducible refine then_normal ?_
      | with_reducible refine then_ret ?_
      | with_reducible refine then_exit ?_
      | with_reducible refine inBlock_normal ?_
      | with_reducible refine inBlock_ret ?_
      | with_reducible refine inBlock_self ?_
      | with_reducible refine inBlock_other (by decide) ?_
      | (with_reducible refine hK.out _ ?_; clear hK K)
      | with_reducible refine KK.out (by assumption) _ ?_
      | simp -implicitDefEqProofs (disch := omega) only [wpOps_mv, wpOps_pick, wpOps_box, wpOps_build, wpOps_bsl, wpOps_load, wpOps_store, wpOps_nilck, wpOps_bin, wpOps_eqs, wpOps_eqn, wpOps_un, wpOps_conv, wpOps_b2s, wpOps_slice, wpOps_aslice, wpOps_fadr, wpOps_iadr, wpOps_ext, wpOps_mkf, wpOps_mks, wpOps_app, wpOps_len, wpOps_lens, wpOps_copy, wpOps_min, wpOps_max, wpOps_guard, wpOps_nil, wpE_some, wpG_tt, wpG_ff, wpG_tf, wpG_ft, wpG_n, wpC_cond, cnd_t, cnd_f, put_some, put_none, ev_t, ev_c, St_H, hput_mk, new_mk, get_self, get_cons, look_cons, look_nil, hset_nil, hset_cons, stepE, binV, isShift, intBin_add, intBin_sub, intBin_mul, intBin_quo, intBin_rem, intBin_and, intBin_or, intBin_xor, intBin_eql, intBin_neq, intBin_lss, intBin_leq, intBin_gtr, intBin_geq, notV, I, U32, B, U8, if_true, if_false, ite_true, ite_false, reduceCtorEq, Nat.reduceEqDiff, Nat.succ_ne_self, Bool.false_eq_true, ↓reduceIte, Bool.not_true, Bool.not_false, decide_true, decide_false, not_true_eq_false, not_false_eq_true, St.loadA, AV.at?, AV.set?, isAgg_sc, size_sc, storable_sc, isAgg_agg, size_agg, storable_agg, isAgg_arr, size_arr, storable_arr, isAgg_fro, size_fro, storable_fro, isAgg_fptr, size_fptr, storable_fptr, isAgg_sl, size_sl, storable_sl, isAgg_ptr, size_ptr, storable_ptr, isAgg_clo, size_clo, storable_clo, AV.idfree, AV.idfrees, sizes, List.map_cons, List.map_nil, List.getElem?_cons_zero, List.getElem?_cons_succ, List.getElem?_nil, List.take_succ_cons, List.take_zero, List.take_nil, Nat.zero_add, Nat.add_zero, Nat.reduceAdd, and_self, and_true, true_and, List.nil_append, List.cons_append, List.append_nil, allOk, capsOk, BEq.rfl, beq_self_eq_true, Bool.and_true, Bool.true_and, Bool.and_self, partsA, List.set_cons_zero, List.set_cons_succ, foldI, foldJ, asI, Int.toNat_natCast, agrees, agreesH, Option.map_some, Option.map_none, *]
      | (refine call_pure h1 (by simp [AV.idfrees, AV.idfree, get_cons, ev_t, ev_c, I, U32, U8, B, *]) ?_)
      | (refine call_pure h2 (by simp [AV.idfrees, AV.idfree, get_cons, ev_t, ev_c, I, U32, U8, B, *]) ?_)
      | (refine call_pure h3 (by simp [AV.idfrees, AV.idfree, get_cons, ev_t, ev_c, I, U32, U8, B, *]) ?_)
      | (refine call_pure h4 (by simp [AV.idfrees, AV.idfree, get_cons, ev_t, ev_c, I, U32, U8, B, *]) ?_)
      | (with_reducible refine cnd_split (fun h => ?_) (fun h => ?_) <;> (first | simp only [decide_eq_true_eq, decide_eq_false_iff_not, Classical.not_not, Bool.and_eq_true, Bool.or_eq_true] at h | skip))
      | (with_reducible refine wpG_true (fun h => ?_) (fun h => ?_) <;> (first | simp only [decide_eq_true_eq, decide_eq_false_iff_not, Classical.not_not, Bool.and_eq_true, Bool.or_eq_true] at h | skip))
      | (with_reducible refine wpG_false (fun h => ?_) (fun h => ?_) <;> (first | simp only [decide_eq_true_eq, decide_eq_false_iff_not, Classical.not_not, Bool.and_eq_true, Bool.or_eq_true] at h | skip)))
    all_goals (simp -implicitDefEqProofs only [St.loadA, St_H, look_cons, look_nil, AV.at?, isAgg_agg, isAgg_sc, isAgg_fro, isAgg_arr, size_agg, size_sc, size_fro, size_arr, and_self, if_true, Bool.and_true, Bool.and_self, Bool.true_and, retP, resA, resV, get_cons, Nat.reduceEqDiff, ↓reduceIte, tupV, frz, mapO, AV.idfree, AV.idfrees, I, B, U32, Option.some.injEq, AV.sc.injEq, Value.bool.injEq, Value.int.injEq, true_and, AV.tup.injEq, List.cons.injEq, and_true, reduceCtorEq, Nat.succ_ne_self])
    all_goals simp_all

def quietS (a0 a1 a2 a3 a4 a5 a6 a7 a8 a9 a10 a11 : Int) : Int :=
  if okC a0 a1 a2 a3 a4 a5 a6 a7 a8 a9 a10 a11 = true then IntKind.i64.wrap (IntKind.i64.wrap (IntKind.i64.wrap (8 + a10) + a11) + IntKind.i64.wrap (IntKind.i64.wrap (4 * IntKind.i64.wrap (a7 + 2)) * IntKind.i64.wrap (a9 + 2))) else 0

theorem p13 (a0 a1 a2 a3 a4 a5 a6 a7 a8 a9 a10 a11 : Int) : Pure Try.prog 13 [cfg a0 a1 a2 a3 a4 a5 a6 a7 a8 a9 a10 a11] (I (quietS a0 a1 a2 a3 a4 a5 a6 a7 a8 a9 a10 a11)) := by
  have h42 := p42 a0 a1 a2 a3 a4 a5 a6 a7 a8 a9 a10 a11
  unfold quietS
  generalize okC a0 a1 a2 a3 a4 a5 a6 a7 a8 a9 a10 a11 = b at *
  refine mk 3 t13 (Nat.le_of_ble_eq_true rfl) ?_
  unfold c13
  simp only [envOf, cfg]
  repeat' (first
    | (with_reducible refine wpC_seq ?_; intro K hK)
    | with_reducible refine wpC_ops ?_
    | with_reducible refine wpC_ret ?_
    | with_reducible refine wpC_skip ?_
    | with_reducible refine wpC_exit ?_
    | with_reducible refine wpC_block ?_
    | with_reducible refine then_normal ?_
    | with_reducible refine then_ret ?_
    | with_reducible refine then_exit ?_
    | with_reducible refine inBlock_normal ?_
    | with_reducible refine inBlock_ret ?_
    | with_reducible refine inBlock_self ?_
    | with_reducible refine inBlock_other (by decide) ?_
    | (with_reducible refine hK.out _ ?_; clear hK K)
    | with_reducible refine KK.out (by assumption) _ ?_
    | simp -implicitDefEqProofs (disch := omega) only [wpOps_mv, wpOps_pick, wpOps_box, wpOps_build, wpOps_bsl, wpOps_load, wpOps_store, wpOps_nilck, wpOps_bin, wpOps_eqs, wpOps_eqn, wpOps_un, wpOps_conv, wpOps_b2s, wpOps_slice, wpOps_aslice, wpOps_fadr, wpOps_iadr, wpOps_ext, wpOps_mkf, wpOps_mks, wpOps_app, wpOps_len, wpOps_lens, wpOps_copy, wpOps_min, wpOps_max, wpOps_guard, wpOps_nil, wpE_some, wpG_tt, wpG_ff, wpG_tf, wpG_ft, wpG_n, wpC_cond, cnd_t, cnd_f, put_some, put_none, ev_t, ev_c, St_H, hput_mk, new_mk, get_self, get_cons, look_cons, look_nil, hset_nil, hset_cons, stepE, binV, isShift, intBin_add, intBin_sub, intBin_mul, intBin_quo, intBin_rem, intBin_and, intBin_or, intBin_xor, intBin_eql, intBin_neq, intBin_lss, intBin_leq, intBin_gtr, intBin_geq, notV, I, U32, B, U8, if_true, if_false, ite_true, ite_false, reduceCtorEq, Nat.reduceEqDiff, Nat.succ_ne_self, Bool.false_eq_true, ↓reduceIte, Bool.not_true, Bool.not_false, decide_true, decide_false, not_true_eq_false, not_false_eq_true, St.loadA, AV.at?, AV.set?, isAgg_sc, size_sc, storable_sc, isAgg_agg, size_agg, storable_agg, isAgg_arr, size_arr, storable_arr, isAgg_fro, size_fro, storable_fro, isAgg_fptr, size_fptr, storable_fptr, isAgg_sl, size_sl, storable_sl, isAgg_ptr, size_ptr, storable_ptr, isAgg_clo, size_clo, storable_clo, AV.idfree, AV.idfrees, sizes, List.map_cons, List.map_nil, List.getElem?_cons_zero, List.getElem?_cons_succ, List.getElem?_nil, List.take_succ_cons, List.take_zero, List.take_nil, Nat.zero_add, Nat.add_zero, Nat.reduceAdd, and_self, and_true, true_and, List.nil_append, List.cons_append, List.append_nil, allOk, capsOk, BEq.rfl, beq_self_eq_true, Bool.and_true, Bool.true_and, Bool.and_self, partsA, List.set_cons_zero, List.set_cons_succ, foldI, foldJ, asI, Int.toNat_natCast, agrees, agreesH, Option.map_some, Option.map_none, *]
    | (refine call_pure h42 (by simp [AV.idfrees, AV.idfree, get_cons, ev_t, ev_c, I, U32, U8, B, *]) ?_)
    | (with_reducible refine cnd_split (fun h => ?_) (fun h => ?_) <;> (first | simp only [decide_eq_true_eq, decide_eq_false_iff_not, Classical.not_not, Bool.and_eq_true, Bool.or_eq_true] at h | skip))
    | (with_reducible refine wpG_true (fun h => ?_) (fun h => ?_) <;> (first | simp only [decide_eq_true_eq, decide_eq_false_iff_not, Classical.not_not, Bool.and_eq_true, Bool.or_eq_true] at h | skip))
    | (with_reducible refine wpG_false (fun h => ?_) (fun h => ?_) <;> (first | simp only [decide_eq_true_eq, decide_eq_false_iff_not, Classical.not_not, Bool.and_eq_true, Bool.or_eq_true] at h | skip)))
  all_goals (simp -implicitDefEqProofs only [St.loadA, St_H, look_cons, look_nil, AV.at?, isAgg_agg, isAgg_sc, isAgg_fro, isAgg_arr, size_agg, size_sc, size_fro, size_arr, and_self, if_true, Bool.and_true, Bool.and_self, Bool.true_and, retP, resA, resV, get_cons, Nat.reduceEqDiff, ↓reduceIte, tupV, frz, mapO, AV.idfree, AV.idfrees, I, B, U32, Option.some.injEq, AV.sc.injEq, Value.bool.injEq, Value.int.injEq, true_and, AV.tup.injEq, List.cons.injEq, and_true, reduceCtorEq, Nat.succ_ne_self])
  all_goals simp_all

theorem p14 (a0 a1 a2 a3 a4 a5 a6 a7 a8 a9 a10 a11 : Int) : Pure Try.prog 14 [cfg a0 a1 a2 a3 a4 a5 a6 a7 a8 a9 a10 a11] (I (quietS a0 a1 a2 a3 a4 a5 a6 a7 a8 a9 a10 a11)) := by
  have h17 := p17 a0 a1 a2 a3 a4 a5 a6 a7 a8 a9 a10 a11
  unfold quietS
  generalize okC a0 a1 a2 a3 a4 a5 a6 a7 a8 a9 a10 a11 = b at *
  refine mk 3 t14 (Nat.le_of_ble_eq_true rfl) ?_
  unfold c14
  simp only [envOf, cfg]
  repeat' (first
    | (with_reducible refine wpC_seq ?_; intro K hK)
    | with_reducible refine wpC_ops ?_
    | with_reducible refine wpC_ret ?_
    | with_reducible refine wpC_skip ?_
    | with_reducible refine wpC_exit ?_
    | with_reducible refine wpC_block ?_
    | with_reducible refine then_normal ?_
    | with_reducible refine then_ret ?_
    | with_reducible refine then_exit ?_
    | with_reducible refine inBlock_normal ?_
    | with_reducible refine inBlock_ret ?_
    | with_reducible refine inBlock_self ?_
    | with_reducible refine inBlock_other (by decide) ?_
    | (with_reducible refine hK.out _ ?_; clear hK K)
    | with_reducible refine KK.out (by assumption) _ ?_
    | simp -implicitDefEqProofs (disch := omega) only [wpOps_mv, wpOps_pick, wpOps_box, wpOps_build, wpOps_bsl, wpOps_load, wpOps_store, wpOps_nilck, wpOps_bin, wpOps_eqs, wpOps_eqn, wpOps_un, wpOps_conv, wpOps_b2s, wpOps_slice, wpOps_aslice, wpOps_fadr, wpOps_iadr, wpOps_ext, wpOps_mkf, wpOps_mks, wpOps_app, wpOps_len, wpOps_lens, wpOps_copy, wpOps_min, wpOps_max, wpOps_guard, wpOps_nil, wpE_some, wpG_tt, wpG_ff, wpG_tf, wpG_ft, wpG_n, wpC_cond, cnd_t, cnd_f, put_some, put_none, ev_t, ev_c, St_H, hput_mk, new_mk, get_self, get_cons, look_cons, look_nil, hset_nil, hset_cons, stepE, binV, isShift, intBin_add, intBin_sub, intBin_mul, intBin_quo, intBin_rem, intBin_and, intBin_or, intBin_xor, intBin_eql, intBin_neq, intBin_lss, intBin_leq, intBin_gtr, intBin_geq, notV, I, U32, B, U8, if_true, if_false, ite_true, ite_false, reduceCtorEq, Nat.reduceEqDiff, Nat.succ_ne_self, Bool.false_eq_true, ↓reduceIte, Bool.not_true, Bool.not_false, decide_true, decide_false, not_true_eq_false, not_false_eq_true, St.loadA, AV.at?, AV.set?, isAgg_sc, size_sc, storable_sc, isAgg_agg, size_agg, storable_agg, isAgg_arr, size_arr, storable_arr, isAgg_fro, size_fro, storable_fro, isAgg_fptr, size_fptr, storable_fptr, isAgg_sl, size_sl, storable_sl, isAgg_ptr, size_ptr, storable_ptr, isAgg_clo, size_clo, storable_clo, AV.idfree, AV.idfrees, sizes, List.map_cons, List.map_nil, List.getElem?_cons_zero, List.getElem?_cons_succ, List.getElem?_nil, List.take_succ_cons, List.take_zero, List.take_nil, Nat.zero_add, Nat.add_zero, Nat.reduceAdd, and_self, and_true, true_and, List.nil_append, List.cons_append, List.append_nil, allOk, capsOk, BEq.rfl, beq_self_eq_true, Bool.and_true, Bool.true_and, Bool.and_self, partsA, List.set_cons_zero, List.set_cons_succ, foldI, foldJ, asI, Int.toNat_natCast, agrees, agreesH, Option.map_some, Option.map_none, *]
    | (refine call_pure h17 (by simp [AV.idfrees, AV.idfree, get_cons, ev_t, ev_c, I, U32, U8, B, *]) ?_)
    | (with_reducible refine cnd_split (fun h => ?_) (fun h => ?_) <;> (first | simp only [decide_eq_true_eq, decide_eq_false_iff_not, Classical.not_not, Bool.and_eq_true, Bool.or_eq_true] at h | skip))
    | (with_reducible refine wpG_true (fun h => ?_) (fun h => ?_) <;> (first | simp only [decide_eq_true_eq, decide_eq_false_iff_not, Classical.not_not, Bool.and_eq_true, Bool.or_eq_true] at h | skip))
    | (with_reducible refine wpG_false (fun h => ?_) (fun h => ?_) <;> (first | simp only [decide_eq_true_eq, decide_eq_false_iff_not, Classical.not_not, Bool.and_eq_true, Bool.or_eq_true] at h | skip)))
  all_goals (simp -implicitDefEqProofs only [St.loadA, St_H, look_cons, look_nil, AV.at?, isAgg_agg, isAgg_sc, isAgg_fro, isAgg_arr, size_agg, size_sc, size_fro, size_arr, and_self, if_true, Bool.and_true, Bool.and_self, Bool.true_and, retP, resA, resV, get_cons, Nat.reduceEqDiff, ↓reduceIte, tupV, frz, mapO, AV.idfree, AV.idfrees, I, B, U32, Option.some.injEq, AV.sc.injEq, Value.bool.injEq, Value.int.injEq, true_and, AV.tup.injEq, List.cons.injEq, and_true, reduceCtorEq, Nat.succ_ne_self])
  all_goals simp_all

def cut (n : Int) : Int := if n < 0 then 0 else if n > 100000 then 100000 else n
def cyclesS (q n : Int) : Int := IntKind.i64.wrap (q * IntKind.i64.wrap (IntKind.i64.wrap (8 * cut n) + 16))

theorem p15 (a0 a1 a2 a3 a4 a5 a6 a7 a8 a9 a10 a11 n : Int) : Pure Try.prog 15 [cfg a0 a1 a2 a3 a4 a5 a6 a7 a8 a9 a10 a11, I n] (I (cyclesS (quietS a0 a1 a2 a3 a4 a5 a6 a7 a8 a9 a10 a11) n)) := by
  have h13 := p13 a0 a1 a2 a3 a4 a5 a6 a7 a8 a9 a10 a11
  generalize quietS a0 a1 a2 a3 a4 a5 a6 a7 a8 a9 a10 a11 = b at *
  refine mk 3 t15 (Nat.le_of_ble_eq_true rfl) ?_
  unfold c15
  simp only [envOf, cfg]
  repeat' (first
    | (with_reducible refine wpC_seq ?_; intro K hK)
    | with_reducible refine wpC_ops ?_
    | with_reducible refine wpC_ret ?_
    | with_reducible refine wpC_skip ?_
    | with_reducible refine wpC_exit ?_
    | with_reducible refine wpC_block ?_
    | with_reducible refine then_normal ?_
    | with_reducible refine then_ret ?_
    | with_reducible refine then_exit ?_
    | with_reducible refine inBlock_normal ?_
    | with_reducible refine inBlock_ret ?_
    | with_reducible refine inBlock_self ?_
    | with_reducible refine inBlock_other (by decide) ?_
    | (with_reducible refine hK.out _ ?_; clear hK K)
    | with_reducible refine KK.out (by assumption) _ ?_
    | simp -implicitDefEqProofs (disch := omega) only [wpOps_mv, wpOps_pick, wpOps_box, wpOps_build, wpOps_bsl, wpOps_load, wpOps_store, wpOps_nilck, wpOps_bin, wpOps_eqs, wpOps_eqn, wpOps_un, wpOps_conv, wpOps_b2s, wpOps_slice, wpOps_aslice, wpOps_fadr, wpOps_iadr, wpOps_ext, wpOps_mkf, wpOps_mks, wpOps_app, wpOps_len, wpOps_lens, wpOps_copy, wpOps_min, wpOps_max, wpOps_guard, wpOps_nil, wpE_some, wpG_tt, wpG_ff, wpG_tf, wpG_ft, wpG_n, wpC_cond, cnd_t, cnd_f, put_some, put_none, ev_t, ev_c, St_H, hput_mk, new_mk, get_self, get_cons, look_cons, look_nil, hset_nil, hset_cons, stepE, binV, isShift, intBin_add, intBin_sub, intBin_mul, intBin_quo, intBin_rem, intBin_and, intBin_or, intBin_xor, intBin_eql, intBin_neq, intBin_lss, intBin_leq, intBin_gtr, intBin_geq, notV, I, U32, B, U8, if_true, if_false, ite_true, ite_false, reduceCtorEq, Nat.reduceEqDiff, Nat.succ_ne_self, Bool.false_eq_true, ↓reduceIte, Bool.not_true, Bool.not_false, decide_true, decide_false, not_true_eq_false, not_false_eq_true, St.loadA, AV.at?, AV.set?, isAgg_sc, size_sc, storable_sc, isAgg_agg, size_agg, storable_agg, isAgg_arr, size_arr, storable_arr, isAgg_fro, size_fro, storable_fro, isAgg_fptr, size_fptr, storable_fptr, isAgg_sl, size_sl, storable_sl, isAgg_ptr, size_ptr, storable_ptr, isAgg_clo, size_clo, storable_clo, AV.idfree, AV.idfrees, sizes, List.map_cons, List.map_nil, List.getElem?_cons_zero, List.getElem?_cons_succ, List.getElem?_nil, List.take_succ_cons, List.take_zero, List.take_nil, Nat.zero_add, Nat.add_zero, Nat.reduceAdd, and_self, and_true, true_and, List.nil_append, List.cons_append, List.append_nil, allOk, capsOk, BEq.rfl, beq_self_eq_true, Bool.and_true, Bool.true_and, Bool.and_self, partsA, List.set_cons_zero, List.set_cons_succ, foldI, foldJ, asI, Int.toNat_natCast, agrees, agreesH, Option.map_some, Option.map_none, *]
    | (refine call_pure h13 (by simp [AV.idfrees, AV.idfree, get_cons, ev_t, ev_c, I, U32, U8, B, *]) ?_)
    | (with_reducible refine cnd_split (fun h => ?_) (fun h => ?_) <;> (first | simp only [decide_eq_true_eq, decide_eq_false_iff_not, Classical.not_not, Bool.and_eq_true, Bool.or_eq_true] at h | skip))
    | (with_reducible refine wpG_true (fun h => ?_) (fun h => ?_) <;> (first | simp only [decide_eq_true_eq, decide_eq_false_iff_not, Classical.not_not, Bool.and_eq_true, Bool.or_eq_true] at h | skip))
    | (with_reducible refine wpG_false (fun h => ?_) (fun h => ?_) <;> (first | simp only [decide_eq_true_eq, decide_eq_false_iff_not, Classical.not_not, Bool.and_eq_true, Bool.or_eq_true] at h | skip)))
  all_goals (simp -implicitDefEqProofs only [St.loadA, St_H, look_cons, look_nil, AV.at?, isAgg_agg, isAgg_sc, isAgg_fro, isAgg_arr, size_agg, size_sc, size_fro, size_arr, and_self, if_true, Bool.and_true, Bool.and_self, Bool.true_and, retP, resA, resV, get_cons, Nat.reduceEqDiff, ↓reduceIte, tupV, frz, mapO, AV.idfree, AV.idfrees, I, B, U32, Option.some.injEq, AV.sc.injEq, Value.bool.injEq, Value.int.injEq, true_and, AV.tup.injEq, List.cons.injEq, and_true, reduceCtorEq, Nat.succ_ne_self])
  have e : (if (if 100000 < n then (100000 : Int) else n) > 0 then (if 100000 < n then (100000 : Int) else n) else 0) = cut n := by
    unfold cut
    split <;> split <;> (try split) <;> omega
  unfold cyclesS
  rw [e]

theorem p16 (a0 a1 a2 a3 a4 a5 a6 a7 a8 a9 a10 a11 n : Int) : Pure Try.prog 16 [cfg a0 a1 a2 a3 a4 a5 a6 a7 a8 a9 a10 a11, I n] (I (cyclesS (quietS a0 a1 a2 a3 a4 a5 a6 a7 a8 a9 a10 a11) n)) := by
  have h14 := p14 a0 a1 a2 a3 a4 a5 a6 a7 a8 a9 a10 a11
  generalize quietS a0 a1 a2 a3 a4 a5 a6 a7 a8 a9 a10 a11 = b at *
  have h43 := p43 n 0 100000
  have e : (if n < 0 then 0 else if n > 100000 then 100000 else n) = cut n := rfl
  rw [e] at h43
  unfold cyclesS
  generalize cut n = m at *
  refine mk 3 t16 (Nat.le_of_ble_eq_true rfl) ?_
  unfold c16
  simp only [envOf, cfg]
  repeat' (first
    | (with_reducible refine wpC_seq ?_; intro K hK)
    | with_reducible refine wpC_ops ?_
    | with_reducible refine wpC_ret ?_
    | with_reducible refine wpC_skip ?_
    | with_reducible refine wpC_exit ?_
    | with_reducible refine wpC_block ?_
    | with_reducible refine then_normal ?_
    | with_reducible refine then_ret ?_
    | with_reducible refine then_exit ?_
    | with_reducible refine inBlock_normal ?_
    | with_reducible refine inBlock_ret ?_
    | with_reducible refine inBlock_self ?_
    | with_reducible refine inBlock_other (by decide) ?_
    | (with_reducible refine hK.out _ ?_; clear hK K)
    | with_reducible refine KK.out (by assumption) _ ?_
    | simp -implicitDefEqProofs (disch := omega) only [wpOps_mv, wpOps_pick, wpOps_box, wpOps_build, wpOps_bsl, wpOps_load, wpOps_store, wpOps_nilck, wpOps_bin, wpOps_eqs, wpOps_eqn, wpOps_un, wpOps_conv, wpOps_b2s, wpOps_slice, wpOps_aslice, wpOps_fadr, wpOps_iadr, wpOps_ext, wpOps_mkf, wpOps_mks, wpOps_app, wpOps_len, wpOps_lens, wpOps_copy, wpOps_min, wpOps_max, wpOps_guard, wpOps_nil, wpE_some, wpG_tt, wpG_ff, wpG_tf, wpG_ft, wpG_n, wpC_cond, cnd_t, cnd_f, put_some, put_none, ev_t, ev_c, St_H, hput_mk, new_mk, get_self, get_cons, look_cons, look_nil, hset_nil, hset_cons, stepE, binV, isShift, intBin_add, intBin_sub, intBin_mul, intBin_quo, intBin_rem, intBin_and, intBin_or, intBin_xor, intBin_eql, intBin_neq, intBin_lss, intBin_leq, intBin_gtr, intBin_geq, notV, I, U32, B, U8, if_true, if_false, ite_true, ite_false, reduceCtorEq, Nat.reduceEqDiff, Nat.succ_ne_self, Bool.false_eq_true, ↓reduceIte, Bool.not_true, Bool.not_false, decide_true, decide_false, not_true_eq_false, not_false_eq_true, St.loadA, AV.at?, AV.set?, isAgg_sc, size_sc, storable_sc, isAgg_agg, size_agg, storable_agg, isAgg_arr, size_arr, storable_arr, isAgg_fro, size_fro, storable_fro, isAgg_fptr, size_fptr, storable_fptr, isAgg_sl, size_sl, storable_sl, isAgg_ptr, size_ptr, storable_ptr, isAgg_clo, size_clo, storable_clo, AV.idfree, AV.idfrees, sizes, List.map_cons, List.map_nil, List.getElem?_cons_zero, List.getElem?_cons_succ, List.getElem?_nil, List.take_succ_cons, List.take_zero, List.take_nil, Nat.zero_add, Nat.add_zero, Nat.reduceAdd, and_self, and_true, true_and, List.nil_append, List.cons_append, List.append_nil, allOk, capsOk, BEq.rfl, beq_self_eq_true, Bool.and_true, Bool.true_and, Bool.and_self, partsA, List.set_cons_zero, List.set_cons_succ, foldI, foldJ, asI, Int.toNat_natCast, agrees, agreesH, Option.map_some, Option.map_none, *]
    | (refine call_pure h14 (by simp [AV.idfrees, AV.idfree, get_cons, ev_t, ev_c, I, U32, U8, B, *]) ?_)
    | (refine call_pure h43 (by simp [AV.idfrees, AV.idfree, get_cons, ev_t, ev_c, I, U32, U8, B, *]) ?_)
    | (with_reducible refine cnd_split (fun h => ?_) (fun h => ?_) <;> (first | simp only [decide_eq_true_eq, decide_eq_false_iff_not, Classical.not_not, Bool.and_eq_true, Bool.or_eq_true] at h | skip))
    | (with_reducible refine wpG_true (fun h => ?_) (fun h => ?_) <;> (first | simp only [decide_eq_true_eq, decide_eq_false_iff_not, Classical.not_not, Bool.and_eq_true, Bool.or_eq_true] at h | skip))
    | (with_reducible refine wpG_false (fun h => ?_) (fun h => ?_) <;> (first | simp only [decide_eq_true_eq, decide_eq_false_iff_not, Classical.not_not, Bool.and_eq_true, Bool.or_eq_true] at h | skip)))
  all_goals (simp -implicitDefEqProofs only [St.loadA, St_H, look_cons, look_nil, AV.at?, isAgg_agg, isAgg_sc, isAgg_fro, isAgg_arr, size_agg, size_sc, size_fro, size_arr, and_self, if_true, Bool.and_true, Bool.and_self, Bool.true_and, retP, resA, resV, get_cons, Nat.reduceEqDiff, ↓reduceIte, tupV, frz, mapO, AV.idfree, AV.idfrees, I, B, U32, Option.some.injEq, AV.sc.injEq, Value.bool.injEq, Value.int.injEq, true_and, AV.tup.injEq, List.cons.injEq, and_true, reduceCtorEq, Nat.succ_ne_self])

theorem p41 : Pure Try.prog 41 [] (cfg 1 1 1 1 1 1 1 1 1 1 1 1) := by
  refine mk 3 t41 (Nat.le_of_ble_eq_true rfl) ?_
  unfold c41
  simp only [envOf, cfg]
  repeat' (first
    | (with_reducible refine wpC_seq ?_; intro K hK)
    | with_reducible refine wpC_ops ?_
    | with_reducible refine wpC_ret ?_
    | with_reducible refine wpC_skip ?_
    | with_reducible refine wpC_exit ?_
    | with_reducible refine wpC_block ?_
    | with_reducible refine then_normal ?_
    | with_reducible refine then_ret ?_
    | with_reducible refine then_exit ?_
    | with_reducible refine inBlock_normal ?_
    | with_reducible refine inBlock_ret ?_
    | with_reducible refine inBlock_self ?_
    | with_reducible refine inBlock_other (by decide) ?_
    | (with_reducible refine hK.out _ ?_; clear hK K)
    | with_reducible refine KK.out (by assumption) _ ?_
    | simp -implicitDefEqProofs (disch := omega) only [wpOps_mv, wpOps_pick, wpOps_box, wpOps_build, wpOps_bsl, wpOps_load, wpOps_store, wpOps_nilck, wpOps_bin, wpOps_eqs, wpOps_eqn, wpOps_un, wpOps_conv, wpOps_b2s, wpOps_slice, wpOps_aslice, wpOps_fadr, wpOps_iadr, wpOps_ext, wpOps_mkf, wpOps_mks, wpOps_app, wpOps_len, wpOps_lens, wpOps_copy, wpOps_min, wpOps_max, wpOps_guard, wpOps_nil, wpE_some, wpG_tt, wpG_ff, wpG_tf, wpG_ft, wpG_n, wpC_cond, cnd_t, cnd_f, put_some, put_none, ev_t, ev_c, St_H, hput_mk, new_mk, get_self, get_cons, look_cons, look_nil, hset_nil, hset_cons, stepE, binV, isShift, intBin_add, intBin_sub, intBin_mul, intBin_quo, intBin_rem, intBin_and, intBin_or, intBin_xor, intBin_eql, intBin_neq, intBin_lss, intBin_leq, intBin_gtr, intBin_geq, notV, I, U32, B, U8, if_true, if_false, ite_true, ite_false, reduceCtorEq, Nat.reduceEqDiff, Nat.succ_ne_self, Bool.false_eq_true, ↓reduceIte, Bool.not_true, Bool.not_false, decide_true, decide_false, not_true_eq_false, not_false_eq_true, St.loadA, AV.at?, AV.set?, isAgg_sc, size_sc, storable_sc, isAgg_agg, size_agg, storable_agg, isAgg_arr, size_arr, storable_arr, isAgg_fro, size_fro, storable_fro, isAgg_fptr, size_fptr, storable_fptr, isAgg_sl, size_sl, storable_sl, isAgg_ptr, size_ptr, storable_ptr, isAgg_clo, size_clo, storable_clo, AV.idfree, AV.idfrees, sizes, List.map_cons, List.map_nil, List.getElem?_cons_zero, List.getElem?_cons_succ, List.getElem?_nil, List.take_succ_cons, List.take_zero, List.take_nil, Nat.zero_add, Nat.add_zero, Nat.reduceAdd, and_self, and_true, true_and, List.nil_append, List.cons_append, List.append_nil, allOk, capsOk, BEq.rfl, beq_self_eq_true, Bool.and_true, Bool.true_and, Bool.and_self, partsA, List.set_cons_zero, List.set_cons_succ, foldI, foldJ, asI, Int.toNat_natCast, agrees, agreesH, Option.map_some, Option.map_none, wrap_i64, wrap_u32, wrap_u8, tmod_nn, tdiv_nn, *]
    | (with_reducible refine cnd_split (fun h => ?_) (fun h => ?_) <;> (first | simp only [decide_eq_true_eq, decide_eq_false_iff_not, Classical.not_not, Bool.and_eq_true, Bool.or_eq_true] at h | skip))
    | (with_reducible refine wpG_true (fun h => ?_) (fun h => ?_) <;> (first | simp only [decide_eq_true_eq, decide_eq_false_iff_not, Classical.not_not, Bool.and_eq_true, Bool.or_eq_true] at h | skip))
    | (with_reducible refine wpG_false (fun h => ?_) (fun h => ?_) <;> (first | simp only [decide_eq_true_eq, decide_eq_false_iff_not, Classical.not_not, Bool.and_eq_true, Bool.or_eq_true] at h | skip)))
  all_goals (simp -implicitDefEqProofs only [St.loadA, St_H, look_cons, look_nil, AV.at?, isAgg_agg, isAgg_sc, isAgg_fro, isAgg_arr, size_agg, size_sc, size_fro, size_arr, and_self, if_true, Bool.and_true, Bool.and_self, Bool.true_and, retP, resA, resV, get_cons, Nat.reduceEqDiff, ↓reduceIte, tupV, frz, mapO, AV.idfree, AV.idfrees, I, B, U32, Option.some.injEq, AV.sc.injEq, Value.bool.injEq, Value.int.injEq, true_and, AV.tup.injEq, List.cons.injEq, and_true, reduceCtorEq, Nat.succ_ne_self])
end Go.Proofs.Ytmlnhecgcbohkaa
