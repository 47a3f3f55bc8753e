/- slices.Clone: a row of one's own. -/
import Derived.Test.YtfobbfdbojednaaRaZ
namespace Go.Ra
set_option linter.unusedVariables false
set_option linter.unusedSimpArgs false

/-- The code of slices.Clone. -/
def cloneC (es bytes : Nat) : AC := .seq (.ops [⟨some 2, .mv (.c (.fro true 0 [])), none⟩]) (.seq (.seq (.ops [⟨some 3, .mv (.t 0), none⟩, ⟨some 4, .eqn false (.t 3), none⟩]) (.cond (.t 4) (.seq (.ops [⟨some 2, .mv (.c (.fro true 0 [])), none⟩]) .ret) .skip))
  (.seq (.ops [⟨some 5, .bsl es [], none⟩, ⟨some 6, .mv (.t 0), none⟩, ⟨some 7, .app es bytes (.t 5) (.t 6), none⟩, ⟨some 2, .mv (.t 7), none⟩]) .ret))
/-- A function that gives append(nil, l...). -/
def copyC (es bytes : Nat) : AC := .seq (.ops [⟨some 2, .mv (.c (.fro true 0 [])), none⟩]) (.seq (.ops [⟨some 3, .mv (.t 0), none⟩, ⟨some 4, .app es bytes (.c (.fro true 0 [])) (.t 3), none⟩, ⟨some 2, .mv (.t 4), none⟩]) .ret)

section
variable {P : Program} {q : Nat → Bool} {f es bytes : Nat}
theorem makes_clone (hmix : P.follows .mixedOrders = true) (hF : trF P q f = some (8, [.tmp 2], cloneC es bytes)) (h0 : 0 < bytes) (x : Bool) (es0 : Nat) (ts : List AV) (hes : es0 = es ∨ ts = []) (hs : AV.solids ts = true) (hb : ts.length * bytes ≤ 140737488355328) :
    Makes P f [.fro x es0 ts] (.sl 0 [] 0 0 ts.length es) (.arr ts.length es ts) := by
  refine make_of hmix Ok.ok Ok.quiet hF (Nat.le_of_ble_eq_true rfl) (by simpa [AV.solid] using hs) rfl ?_
  unfold cloneC
  simp only [envOf]
  have hor : (es0 = es ∨ ts = []) = True := by simp [hes]
  cases ts with
  | nil =>
    repeat' (first
      | (with_reducible refine wpC_seq ?_; intro K hK)
      | with_reducible refine wpC_ops ?_
      | with_reducible refine wpC_ret ?_
      | with_reducible refine wpC_skip ?_
      | with_reducible refine wpC_exit ?_
      | with_reducible refine wpC_block ?_
      | with_reducible refine then_normal ?_
      | with_reducible refine then_ret ?_
      | with_reducible refine then_exit ?_
      | with_reducible refine inBlock_normal ?_
      | with_reducible refine inBlock_ret ?_
      | with_reducible refine inBlock_self ?_
      | with_reducible refine inBlock_other (by decide) ?_
      | (with_reducible refine hK.out _ ?_; clear hK K)
      | with_reducible refine KK.out (by assumption) _ ?_
      | simp -implicitDefEqProofs (disch := omega) only [wpOps_mv, wpOps_pick, wpOps_box, wpOps_build, wpOps_bsl, wpOps_load, wpOps_store, wpOps_nilck, wpOps_bin, wpOps_eqs, wpOps_eqn, wpOps_un, wpOps_conv, wpOps_b2s, wpOps_slice, wpOps_aslice, wpOps_fadr, wpOps_iadr, wpOps_ext, wpOps_mkf, wpOps_mks, wpOps_app, wpOps_appf, wpOps_len, wpOps_lens, wpOps_copy, wpOps_min, wpOps_max, wpOps_guard, wpOps_nil, wpE_some, wpG_tt, wpG_ff, wpG_tf, wpG_ft, wpG_n, wpC_cond, cnd_t, cnd_f, put_some, put_none, ev_t, ev_c, St_H, hput_mk, new_mk, get_self, get_cons, look_cons, look_nil, hset_nil, hset_cons, stepE, binV, isShift, intBin_add, intBin_sub, intBin_mul, intBin_quo, intBin_rem, intBin_and, intBin_or, intBin_xor, intBin_eql, intBin_neq, intBin_lss, intBin_leq, intBin_gtr, intBin_geq, notV, I, U32, B, U8, if_true, if_false, ite_true, ite_false, reduceCtorEq, Nat.reduceEqDiff, Nat.succ_ne_self, Bool.false_eq_true, ↓reduceIte, Bool.not_true, Bool.not_false, decide_true, decide_false, not_true_eq_false, not_false_eq_true, St.loadA, AV.at?, AV.set?, isAgg_sc, size_sc, storable_sc, isAgg_agg, size_agg, storable_agg, isAgg_arr, size_arr, storable_arr, isAgg_fro, size_fro, storable_fro, isAgg_fptr, size_fptr, storable_fptr, isAgg_sl, size_sl, storable_sl, isAgg_ptr, size_ptr, storable_ptr, isAgg_clo, size_clo, storable_clo, AV.idfree, AV.idfrees, sizes, List.map_cons, List.map_nil, List.getElem?_cons_zero, List.getElem?_cons_succ, List.getElem?_nil, List.take_succ_cons, List.take_zero, List.take_nil, Nat.zero_add, Nat.add_zero, Nat.reduceAdd, and_self, and_true, true_and, List.nil_append, List.cons_append, List.append_nil, allOk, capsOk, BEq.rfl, beq_self_eq_true, Bool.and_true, Bool.true_and, Bool.and_self, partsA, List.set_cons_zero, List.set_cons_succ, foldI, foldJ, asI, Int.toNat_natCast, agrees, agreesH, Option.map_some, Option.map_none, eqnV, St.row, appA, List.isEmpty_nil, List.isEmpty_cons, List.length_nil, List.length_cons, List.length_map, true_or, or_true, or_false, false_or, ne_eq, not_true_eq_false, boundsA, Nat.sub_zero, List.drop_zero, List.length_append, List.length_set, Nat.reduceMul, Nat.reduceLT, Nat.reduceLeDiff, Int.reduceLT, Int.reduceLE, Int.reduceToNat, Nat.zero_mul, Nat.zero_le, Nat.le_refl, Int.le_refl, List.take_length, Int.natCast_zero, List.drop_succ_cons, List.take_succ_cons, Nat.add_sub_cancel, *]
      | with_reducible refine cnd_any ?_ ?_
      | (with_reducible refine cnd_split (fun h => ?_) (fun h => ?_) <;> (first | simp only [decide_eq_true_eq, decide_eq_false_iff_not, Classical.not_not, Bool.and_eq_true, Bool.or_eq_true] at h | skip))
      | (with_reducible refine wpG_true (fun h => ?_) (fun h => ?_) <;> (first | simp only [decide_eq_true_eq, decide_eq_false_iff_not, Classical.not_not, Bool.and_eq_true, Bool.or_eq_true] at h | skip))
      | (with_reducible refine wpG_false (fun h => ?_) (fun h => ?_) <;> (first | simp only [decide_eq_true_eq, decide_eq_false_iff_not, Classical.not_not, Bool.and_eq_true, Bool.or_eq_true] at h | skip)))
    · simp -implicitDefEqProofs only [retP, resA, resV, get_cons, Nat.reduceEqDiff, ↓reduceIte, tupV, reduceCtorEq, Nat.succ_ne_self, St_H, look_cons, look_nil]
      exact .inr ⟨_, _, rfl, rfl, rfl⟩
    · simp -implicitDefEqProofs only [retP, resA, resV, get_cons, Nat.reduceEqDiff, ↓reduceIte, tupV, reduceCtorEq, Nat.succ_ne_self, St_H, look_cons, look_nil]
      exact .inl ⟨0, rfl, rfl⟩
  | cons t ts =>
    generalize hts : t :: ts = us at *
    have hemp : us.isEmpty = false := by rw [← hts]; rfl
    clear hts hes
    repeat' (first
      | (with_reducible refine wpC_seq ?_; intro K hK)
      | with_reducible refine wpC_ops ?_
      | with_reducible refine wpC_ret ?_
      | with_reducible refine wpC_skip ?_
      | with_reducible refine wpC_exit ?_
      | with_reducible refine wpC_block ?_
      | with_reducible refine then_normal ?_
      | with_reducible refine then_ret ?_
      | with_reducible refine then_exit ?_
      | with_reducible refine inBlock_normal ?_
      | with_reducible refine inBlock_ret ?_
      | with_reducible refine inBlock_self ?_
      | with_reducible refine inBlock_other (by decide) ?_
      | (with_reducible refine hK.out _ ?_; clear hK K)
      | with_reducible refine KK.out (by assumption) _ ?_
      | simp -implicitDefEqProofs (disch := omega) only [wpOps_mv, wpOps_pick, wpOps_box, wpOps_build, wpOps_bsl, wpOps_load, wpOps_store, wpOps_nilck, wpOps_bin, wpOps_eqs, wpOps_eqn, wpOps_un, wpOps_conv, wpOps_b2s, wpOps_slice, wpOps_aslice, wpOps_fadr, wpOps_iadr, wpOps_ext, wpOps_mkf, wpOps_mks, wpOps_app, wpOps_appf, wpOps_len, wpOps_lens, wpOps_copy, wpOps_min, wpOps_max, wpOps_guard, wpOps_nil, wpE_some, wpG_tt, wpG_ff, wpG_tf, wpG_ft, wpG_n, wpC_cond, cnd_t, cnd_f, put_some, put_none, ev_t, ev_c, St_H, hput_mk, new_mk, get_self, get_cons, look_cons, look_nil, hset_nil, hset_cons, stepE, binV, isShift, intBin_add, intBin_sub, intBin_mul, intBin_quo, intBin_rem, intBin_and, intBin_or, intBin_xor, intBin_eql, intBin_neq, intBin_lss, intBin_leq, intBin_gtr, intBin_geq, notV, I, U32, B, U8, if_true, if_false, ite_true, ite_false, reduceCtorEq, Nat.reduceEqDiff, Nat.succ_ne_self, Bool.false_eq_true, ↓reduceIte, Bool.not_true, Bool.not_false, decide_true, decide_false, not_true_eq_false, not_false_eq_true, St.loadA, AV.at?, AV.set?, isAgg_sc, size_sc, storable_sc, isAgg_agg, size_agg, storable_agg, isAgg_arr, size_arr, storable_arr, isAgg_fro, size_fro, storable_fro, isAgg_fptr, size_fptr, storable_fptr, isAgg_sl, size_sl, storable_sl, isAgg_ptr, size_ptr, storable_ptr, isAgg_clo, size_clo, storable_clo, AV.idfree, AV.idfrees, sizes, List.map_cons, List.map_nil, List.getElem?_cons_zero, List.getElem?_cons_succ, List.getElem?_nil, List.take_succ_cons, List.take_zero, List.take_nil, Nat.zero_add, Nat.add_zero, Nat.reduceAdd, and_self, and_true, true_and, List.nil_append, List.cons_append, List.append_nil, allOk, capsOk, BEq.rfl, beq_self_eq_true, Bool.and_true, Bool.true_and, Bool.and_self, partsA, List.set_cons_zero, List.set_cons_succ, foldI, foldJ, asI, Int.toNat_natCast, agrees, agreesH, Option.map_some, Option.map_none, eqnV, St.row, appA, List.isEmpty_nil, List.isEmpty_cons, List.length_nil, List.length_cons, List.length_map, true_or, or_true, or_false, false_or, ne_eq, not_true_eq_false, boundsA, Nat.sub_zero, List.drop_zero, List.length_append, List.length_set, Nat.reduceMul, Nat.reduceLT, Nat.reduceLeDiff, Int.reduceLT, Int.reduceLE, Int.reduceToNat, Nat.zero_mul, Nat.zero_le, Nat.le_refl, Int.le_refl, List.take_length, Int.natCast_zero, List.drop_succ_cons, List.take_succ_cons, Nat.add_sub_cancel, *]
      | with_reducible refine cnd_any ?_ ?_
      | (with_reducible refine cnd_split (fun h => ?_) (fun h => ?_) <;> (first | simp only [decide_eq_true_eq, decide_eq_false_iff_not, Classical.not_not, Bool.and_eq_true, Bool.or_eq_true] at h | skip))
      | (with_reducible refine wpG_true (fun h => ?_) (fun h => ?_) <;> (first | simp only [decide_eq_true_eq, decide_eq_false_iff_not, Classical.not_not, Bool.and_eq_true, Bool.or_eq_true] at h | skip))
      | (with_reducible refine wpG_false (fun h => ?_) (fun h => ?_) <;> (first | simp only [decide_eq_true_eq, decide_eq_false_iff_not, Classical.not_not, Bool.and_eq_true, Bool.or_eq_true] at h | skip)))
    simp -implicitDefEqProofs only [retP, resA, resV, get_cons, Nat.reduceEqDiff, ↓reduceIte, tupV, reduceCtorEq, Nat.succ_ne_self, St_H, look_cons, look_nil]
    exact .inl ⟨0, rfl, rfl⟩

theorem makes_copy (hmix : P.follows .mixedOrders = true) (hF : trF P q f = some (5, [.tmp 2], copyC es bytes)) (h0 : 0 < bytes) (x : Bool) (es0 : Nat) (ts : List AV) (hes : es0 = es ∨ ts = []) (hs : AV.solids ts = true) (hb : ts.length * bytes ≤ 140737488355328) :
    Makes P f [.fro x es0 ts] (.sl 0 [] 0 0 ts.length es) (.arr ts.length es ts) := by
  refine make_of hmix Ok.ok Ok.quiet hF (Nat.le_of_ble_eq_true rfl) (by simpa [AV.solid] using hs) rfl ?_
  unfold copyC
  simp only [envOf]
  have hor : (es0 = es ∨ ts = []) = True := by simp [hes]
  clear hes
  repeat' (first
    | (with_reducible refine wpC_seq ?_; intro K hK)
    | with_reducible refine wpC_ops ?_
    | with_reducible refine wpC_ret ?_
    | with_reducible refine wpC_skip ?_
    | with_reducible refine wpC_exit ?_
    | with_reducible refine wpC_block ?_
    | with_reducible refine then_normal ?_
    | with_reducible refine then_ret ?_
    | with_reducible refine then_exit ?_
    | with_reducible refine inBlock_normal ?_
    | with_reducible refine inBlock_ret ?_
    | with_reducible refine inBlock_self ?_
    | with_reducible refine inBlock_other (by decide) ?_
    | (with_reducible refine hK.out _ ?_; clear hK K)
    | with_reducible refine KK.out (by assumption) _ ?_
    | simp -implicitDefEqProofs (disch := omega) only [wpOps_mv, wpOps_pick, wpOps_box, wpOps_build, wpOps_bsl, wpOps_load, wpOps_store, wpOps_nilck, wpOps_bin, wpOps_eqs, wpOps_eqn, wpOps_un, wpOps_conv, wpOps_b2s, wpOps_slice, wpOps_aslice, wpOps_fadr, wpOps_iadr, wpOps_ext, wpOps_mkf, wpOps_mks, wpOps_app, wpOps_appf, wpOps_len, wpOps_lens, wpOps_copy, wpOps_min, wpOps_max, wpOps_guard, wpOps_nil, wpE_some, wpG_tt, wpG_ff, wpG_tf, wpG_ft, wpG_n, wpC_cond, cnd_t, cnd_f, put_some, put_none, ev_t, ev_c, St_H, hput_mk, new_mk, get_self, get_cons, look_cons, look_nil, hset_nil, hset_cons, stepE, binV, isShift, intBin_add, intBin_sub, intBin_mul, intBin_quo, intBin_rem, intBin_and, intBin_or, intBin_xor, intBin_eql, intBin_neq, intBin_lss, intBin_leq, intBin_gtr, intBin_geq, notV, I, U32, B, U8, if_true, if_false, ite_true, ite_false, reduceCtorEq, Nat.reduceEqDiff, Nat.succ_ne_self, Bool.false_eq_true, ↓reduceIte, Bool.not_true, Bool.not_false, decide_true, decide_false, not_true_eq_false, not_false_eq_true, St.loadA, AV.at?, AV.set?, isAgg_sc, size_sc, storable_sc, isAgg_agg, size_agg, storable_agg, isAgg_arr, size_arr, storable_arr, isAgg_fro, size_fro, storable_fro, isAgg_fptr, size_fptr, storable_fptr, isAgg_sl, size_sl, storable_sl, isAgg_ptr, size_ptr, storable_ptr, isAgg_clo, size_clo, storable_clo, AV.idfree, AV.idfrees, sizes, List.map_cons, List.map_nil, List.getElem?_cons_zero, List.getElem?_cons_succ, List.getElem?_nil, List.take_succ_cons, List.take_zero, List.take_nil, Nat.zero_add, Nat.add_zero, Nat.reduceAdd, and_self, and_true, true_and, List.nil_append, List.cons_append, List.append_nil, allOk, capsOk, BEq.rfl, beq_self_eq_true, Bool.and_true, Bool.true_and, Bool.and_self, partsA, List.set_cons_zero, List.set_cons_succ, foldI, foldJ, asI, Int.toNat_natCast, agrees, agreesH, Option.map_some, Option.map_none, eqnV, St.row, appA, List.isEmpty_nil, List.isEmpty_cons, List.length_nil, List.length_cons, List.length_map, true_or, or_true, or_false, false_or, ne_eq, not_true_eq_false, boundsA, Nat.sub_zero, List.drop_zero, List.length_append, List.length_set, Nat.reduceMul, Nat.reduceLT, Nat.reduceLeDiff, Int.reduceLT, Int.reduceLE, Int.reduceToNat, Nat.zero_mul, Nat.zero_le, Nat.le_refl, Int.le_refl, List.take_length, Int.natCast_zero, List.drop_succ_cons, List.take_succ_cons, Nat.add_sub_cancel, *]
    | with_reducible refine cnd_any ?_ ?_
    | (with_reducible refine cnd_split (fun h => ?_) (fun h => ?_) <;> (first | simp only [decide_eq_true_eq, decide_eq_false_iff_not, Classical.not_not, Bool.and_eq_true, Bool.or_eq_true] at h | skip))
    | (with_reducible refine wpG_true (fun h => ?_) (fun h => ?_) <;> (first | simp only [decide_eq_true_eq, decide_eq_false_iff_not, Classical.not_not, Bool.and_eq_true, Bool.or_eq_true] at h | skip))
    | (with_reducible refine wpG_false (fun h => ?_) (fun h => ?_) <;> (first | simp only [decide_eq_true_eq, decide_eq_false_iff_not, Classical.not_not, Bool.and_eq_true, Bool.or_eq_true] at h | skip)))
  simp -implicitDefEqProofs only [retP, resA, resV, get_cons, Nat.reduceEqDiff, ↓reduceIte, tupV, reduceCtorEq, Nat.succ_ne_self, St_H, look_cons, look_nil]
  exact .inl ⟨0, rfl, rfl⟩

/-- What is told of slices.Clone. -/
def makeS (es bytes : Nat) (args : List XV) (σ : XSt) : Option (List Bool × XV × XSt) :=
  match mapX (frzX σ.hl 6) args with
  | some (nd, [.row x es' n f]) => bif ((Nat.beq es' es || Nat.beq n 0) && Nat.blt 0 bytes) then some (decide (n * bytes ≤ 140737488355328) :: allN (fun i => (f i).sol) n :: nd, .sl σ.n [] 0 0 n es, σ.new (.tab n es f)) else none
  | _ => none

theorem makeS_ok (hM : ∀ (x : Bool) (es0 : Nat) (ts : List AV), (es0 = es ∨ ts = []) → AV.solids ts = true → ts.length * bytes ≤ 140737488355328 → Makes P f [.fro x es0 ts] (.sl 0 [] 0 0 ts.length es) (.arr ts.length es ts)) : SgOk P q (f, makeS es bytes) := by
  intro args σ nd v τ h hn hq
  simp only [makeS] at h
  split at h
  · rename_i nd' x es' n g hm
    cases hc : ((Nat.beq es' es || Nat.beq n 0) && Nat.blt 0 bytes) <;> rw [hc] at h
    · cases h
    · simp only [cond_true, Option.some.injEq, Prod.mk.injEq] at h
      obtain ⟨rfl, rfl, rfl⟩ := h
      simp only [allT_cons, decide_eq_true_eq, allN_iff] at hn
      simp only [Bool.and_eq_true, Bool.or_eq_true] at hc
      have h1 := mapX_con (frzX_con (st_H σ) 6) hm hn.2.2
      have h2 := hM x es' (tabL n fun i => con (g i)) (hc.1.imp Nat.eq_of_beq_eq_true (fun e => tabL_nil.2 (Nat.eq_of_beq_eq_true e))) (by
        rw [solids_iff]
        intro t ht
        simp only [tabL, List.mem_map, List.mem_range] at ht
        obtain ⟨i, hi, rfl⟩ := ht
        exact con_sol _ (hn.2.1 i hi)) (by rw [tabL_len]; exact hn.1)
      rw [tabL_len] at h2
      exact .inr (.inr (.inr ⟨hq, 6, _, _, _, h1, h2, by simp only [renT, ren, if_true]; rfl, rfl⟩))
  · cases h
end
end Go.Ra
