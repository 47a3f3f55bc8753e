/- Longer latencies, more requests at once, and more steps, are never told to take less. -/
import Derived.Test.YtmlnhecgcbohkaaRows
import Derived.Test.YtmlnhecgcbohkaaCd
import Derived.WalkKit
import Derived.ProofKit
import Derived.OpenShut
import Derived.ShutString
import Derived.ChangeOld
import Derived.Below
import Derived.SizedLaws
namespace Go.Proofs.Ytmlnhecgcbohkaa
open Go.Ra
set_option linter.unusedVariables false
set_option linter.unusedSimpArgs false
theorem win_le {lo hi x : Int} (h : win lo hi x = true) : lo ≤ x ∧ x ≤ hi := by simpa [win] using h

theorem okC_le {a0 a1 a2 a3 a4 a5 a6 a7 a8 a9 a10 a11 : Int} (h : okC a0 a1 a2 a3 a4 a5 a6 a7 a8 a9 a10 a11 = true) : (1 ≤ a7 ∧ a7 ≤ 64) ∧ (1 ≤ a9 ∧ a9 ≤ 1000) ∧ (1 ≤ a10 ∧ a10 ≤ 50) ∧ 1 ≤ a11 ∧ a11 ≤ 50 := by
  simp only [okC, List.all_cons, List.all_nil, Bool.and_true, Bool.and_eq_true] at h
  exact ⟨win_le h.1.2.2.2.2.2.2.1, win_le h.2.2.1, win_le h.2.2.2.1, win_le h.2.2.2.2⟩

theorem mul_bd {x y m n : Int} (hx : 0 ≤ x) (hxm : x ≤ m) (hy : 0 ≤ y) (hyn : y ≤ n) : 0 ≤ x * y ∧ x * y ≤ m * n :=
  ⟨Int.mul_nonneg hx hy, Int.mul_le_mul hxm hyn hy (by omega)⟩

theorem quiet_is {a0 a1 a2 a3 a4 a5 a6 a7 a8 a9 a10 a11 : Int} (h : okC a0 a1 a2 a3 a4 a5 a6 a7 a8 a9 a10 a11 = true) :
    quietS a0 a1 a2 a3 a4 a5 a6 a7 a8 a9 a10 a11 = 8 + a10 + a11 + 4 * (a7 + 2) * (a9 + 2) ∧ 4 * (a9 + 2) ≤ 4 * (a7 + 2) * (a9 + 2) ∧ 4 * (a7 + 2) * (a9 + 2) ≤ 264528 := by
  obtain ⟨⟨h1, h2⟩, ⟨h3, h4⟩, ⟨h5, h6⟩, h7, h8⟩ := okC_le h
  obtain ⟨g1, g2⟩ := mul_bd (x := 4 * (a7 + 2)) (m := 264) (y := a9 + 2) (n := 1002) (by omega) (by omega) (by omega) (by omega)
  have g3 : 4 * (a9 + 2) ≤ 4 * (a7 + 2) * (a9 + 2) := Int.mul_le_mul_of_nonneg_right (by omega) (by omega)
  generalize hm : 4 * (a7 + 2) * (a9 + 2) = m at *
  refine ⟨?_, g3, g2⟩
  unfold quietS
  rw [if_pos h, wrap_i64 (x := a7 + 2) (by omega) (by omega), wrap_i64 (x := a9 + 2) (by omega) (by omega), wrap_i64 (x := 4 * (a7 + 2)) (by omega) (by omega), hm, wrap_i64 (x := 8 + a10) (by omega) (by omega), wrap_i64 (x := 8 + a10 + a11) (by omega) (by omega), wrap_i64 (x := m) (by omega) (by omega), wrap_i64 (by omega) (by omega)]

theorem cut_le (n : Int) : 0 ≤ cut n ∧ cut n ≤ 100000 := by
  unfold cut
  split
  · omega
  · split <;> omega

theorem cut_mono {a b : Int} (h : a ≤ b) : cut a ≤ cut b := by
  unfold cut
  split <;> split <;> (try split) <;> (try split) <;> omega

theorem cycles_is {q n : Int} (h1 : 0 ≤ q) (h2 : q ≤ 300000) : cyclesS q n = q * (8 * cut n + 16) := by
  obtain ⟨g1, g2⟩ := cut_le n
  obtain ⟨g3, g4⟩ := mul_bd (x := q) (m := 300000) (y := 8 * cut n + 16) (n := 800016) (by omega) (by omega) (by omega) (by omega)
  unfold cyclesS
  rw [wrap_i64 (x := 8 * cut n) (by omega) (by omega), wrap_i64 (x := 8 * cut n + 16) (by omega) (by omega), wrap_i64 (by omega) (by omega)]

theorem grows {a0 a1 a2 a3 a4 a5 a6 a7 a8 a9 a10 a11 b0 b1 b2 b3 b4 b5 b6 b7 b8 b9 b10 b11 m n : Int} (h : okC a0 a1 a2 a3 a4 a5 a6 a7 a8 a9 a10 a11 = true) (k : okC b0 b1 b2 b3 b4 b5 b6 b7 b8 b9 b10 b11 = true)
    (h7 : a7 ≤ b7) (h9 : a9 ≤ b9) (h10 : a10 ≤ b10) (h11 : a11 ≤ b11) (hmn : m ≤ n) :
    quietS a0 a1 a2 a3 a4 a5 a6 a7 a8 a9 a10 a11 ≤ quietS b0 b1 b2 b3 b4 b5 b6 b7 b8 b9 b10 b11 ∧ cyclesS (quietS a0 a1 a2 a3 a4 a5 a6 a7 a8 a9 a10 a11) m ≤ cyclesS (quietS a0 a1 a2 a3 a4 a5 a6 a7 a8 a9 a10 a11) n ∧
    cyclesS (quietS a0 a1 a2 a3 a4 a5 a6 a7 a8 a9 a10 a11) m ≤ cyclesS (quietS b0 b1 b2 b3 b4 b5 b6 b7 b8 b9 b10 b11) m ∧ quietS a0 a1 a2 a3 a4 a5 a6 a7 a8 a9 a10 a11 > a9 ∧
    cyclesS (quietS a0 a1 a2 a3 a4 a5 a6 a7 a8 a9 a10 a11) m ≥ IntKind.i64.wrap (16 * quietS a0 a1 a2 a3 a4 a5 a6 a7 a8 a9 a10 a11) := by
  obtain ⟨hq, hq1, hq2⟩ := quiet_is h
  obtain ⟨kq, kq1, kq2⟩ := quiet_is k
  obtain ⟨⟨h1, h2⟩, ⟨h3, h4⟩, ⟨h5, h6⟩, h7', h8⟩ := okC_le h
  obtain ⟨⟨k1, k2⟩, ⟨k3, k4⟩, ⟨k5, k6⟩, k7', k8⟩ := okC_le k
  have hmul : 4 * (a7 + 2) * (a9 + 2) ≤ 4 * (b7 + 2) * (b9 + 2) := Int.mul_le_mul (by omega) (by omega) (by omega) (by omega)
  generalize quietS a0 a1 a2 a3 a4 a5 a6 a7 a8 a9 a10 a11 = p at *
  generalize quietS b0 b1 b2 b3 b4 b5 b6 b7 b8 b9 b10 b11 = q at *
  generalize 4 * (a7 + 2) * (a9 + 2) = x at *
  generalize 4 * (b7 + 2) * (b9 + 2) = y at *
  have hp0 : 0 ≤ p := by omega
  obtain ⟨c1, c2⟩ := cut_le m
  have c3 := cut_mono hmn
  rw [cycles_is (by omega) (by omega), cycles_is (q := p) (n := n) (by omega) (by omega), cycles_is (q := q) (by omega) (by omega), wrap_i64 (by omega) (by omega)]
  refine ⟨by omega, Int.mul_le_mul_of_nonneg_left (by omega) hp0, Int.mul_le_mul_of_nonneg_right (by omega) (by omega), by omega, ?_⟩
  show 16 * p ≤ p * (8 * cut m + 16)
  rw [Int.mul_comm 16 p]
  exact Int.mul_le_mul_of_nonneg_left (by omega) hp0

theorem p4 (a0 a1 a2 a3 a4 a5 a6 a7 a8 a9 a10 a11 b0 b1 b2 b3 b4 b5 b6 b7 b8 b9 b10 b11 m n : Int) : Pure Try.prog 4 [cfg a0 a1 a2 a3 a4 a5 a6 a7 a8 a9 a10 a11, cfg b0 b1 b2 b3 b4 b5 b6 b7 b8 b9 b10 b11, I m, I n] (B true) := by
  have hg := @grows a0 a1 a2 a3 a4 a5 a6 a7 a8 a9 a10 a11 b0 b1 b2 b3 b4 b5 b6 b7 b8 b9 b10 b11 m n
  have h1 := p17 a0 a1 a2 a3 a4 a5 a6 a7 a8 a9 a10 a11
  have h2 := p17 b0 b1 b2 b3 b4 b5 b6 b7 b8 b9 b10 b11
  have h3 := p13 a0 a1 a2 a3 a4 a5 a6 a7 a8 a9 a10 a11
  have h4 := p13 b0 b1 b2 b3 b4 b5 b6 b7 b8 b9 b10 b11
  have h5 := p15 a0 a1 a2 a3 a4 a5 a6 a7 a8 a9 a10 a11 m
  have h6 := p15 a0 a1 a2 a3 a4 a5 a6 a7 a8 a9 a10 a11 n
  have h7 := p15 b0 b1 b2 b3 b4 b5 b6 b7 b8 b9 b10 b11 m
  generalize cyclesS (quietS a0 a1 a2 a3 a4 a5 a6 a7 a8 a9 a10 a11) m = am at *
  generalize cyclesS (quietS a0 a1 a2 a3 a4 a5 a6 a7 a8 a9 a10 a11) n = an at *
  generalize cyclesS (quietS b0 b1 b2 b3 b4 b5 b6 b7 b8 b9 b10 b11) m = bm at *
  generalize quietS a0 a1 a2 a3 a4 a5 a6 a7 a8 a9 a10 a11 = p at *
  generalize quietS b0 b1 b2 b3 b4 b5 b6 b7 b8 b9 b10 b11 = r at *
  generalize okC a0 a1 a2 a3 a4 a5 a6 a7 a8 a9 a10 a11 = x at *
  generalize okC b0 b1 b2 b3 b4 b5 b6 b7 b8 b9 b10 b11 = y at *
  have hk : RowKit.Hid (x = true → y = true → a7 ≤ b7 → a9 ≤ b9 → a10 ≤ b10 → a11 ≤ b11 → m ≤ n → p ≤ r ∧ am ≤ an ∧ am ≤ bm ∧ p > a9 ∧ am ≥ IntKind.i64.wrap (16 * p)) := hg
  clear hg
  refine mk 3 t4 (Nat.le_of_ble_eq_true rfl) ?_
  unfold c4
  simp only [envOf, cfg]
  repeat' (first
    | (with_reducible refine wpC_seq ?_; intro K hK)
    | with_reducible refine wpC_ops ?_
    | with_reducible refine wpC_ret ?_
    | with_reducible refine wpC_skip ?_
    | with_reducible refine wpC_exit ?_
    | with_reducible refine wpC_block ?_
    | with_reducible refine then_normal ?_
    | with_reducible refine then_ret ?_
    | with_reducible refine then_exit ?_
    | with_reducible refine inBlock_normal ?_
    | with_reducible refine inBlock_ret ?_
    | with_reducible refine inBlock_self ?_
    | with_reducible refine inBlock_other (by decide) ?_
    | (with_reducible refine hK.out _ ?_; clear hK K)
    | with_reducible refine KK.out (by assumption) _ ?_
    | simp -implicitDefEqProofs (disch := omega) only [wpOps_mv, wpOps_pick, wpOps_box, wpOps_build, wpOps_bsl, wpOps_load, wpOps_store, wpOps_nilck, wpOps_bin, wpOps_eqs, wpOps_eqn, wpOps_un, wpOps_conv, wpOps_b2s, wpOps_slice, wpOps_aslice, wpOps_fadr, wpOps_iadr, wpOps_ext, wpOps_mkf, wpOps_mks, wpOps_app, wpOps_len, wpOps_lens, wpOps_copy, wpOps_min, wpOps_max, wpOps_guard, wpOps_nil, wpE_some, wpG_tt, wpG_ff, wpG_tf, wpG_ft, wpG_n, wpC_cond, cnd_t, cnd_f, put_some, put_none, ev_t, ev_c, St_H, hput_mk, new_mk, get_self, get_cons, look_cons, look_nil, hset_nil, hset_cons, stepE, binV, isShift, intBin_add, intBin_sub, intBin_mul, intBin_quo, intBin_rem, intBin_and, intBin_or, intBin_xor, intBin_eql, intBin_neq, intBin_lss, intBin_leq, intBin_gtr, intBin_geq, notV, I, U32, B, U8, if_true, if_false, ite_true, ite_false, reduceCtorEq, Nat.reduceEqDiff, Nat.succ_ne_self, Bool.false_eq_true, ↓reduceIte, Bool.not_true, Bool.not_false, decide_true, decide_false, not_true_eq_false, not_false_eq_true, St.loadA, AV.at?, AV.set?, isAgg_sc, size_sc, storable_sc, isAgg_agg, size_agg, storable_agg, isAgg_arr, size_arr, storable_arr, isAgg_fro, size_fro, storable_fro, isAgg_fptr, size_fptr, storable_fptr, isAgg_sl, size_sl, storable_sl, isAgg_ptr, size_ptr, storable_ptr, isAgg_clo, size_clo, storable_clo, AV.idfree, AV.idfrees, sizes, List.map_cons, List.map_nil, List.getElem?_cons_zero, List.getElem?_cons_succ, List.getElem?_nil, List.take_succ_cons, List.take_zero, List.take_nil, Nat.zero_add, Nat.add_zero, Nat.reduceAdd, and_self, and_true, true_and, List.nil_append, List.cons_append, List.append_nil, allOk, capsOk, BEq.rfl, beq_self_eq_true, Bool.and_true, Bool.true_and, Bool.and_self, partsA, List.set_cons_zero, List.set_cons_succ, foldI, foldJ, asI, Int.toNat_natCast, agrees, agreesH, Option.map_some, Option.map_none, *]
    | (refine call_pure p12 rfl ?_)
    | (refine call_pure h1 (by simp [AV.idfrees, AV.idfree, get_cons, ev_t, ev_c, I, U32, U8, B, *]) ?_)
    | (refine call_pure h2 (by simp [AV.idfrees, AV.idfree, get_cons, ev_t, ev_c, I, U32, U8, B, *]) ?_)
    | (refine call_pure h3 (by simp [AV.idfrees, AV.idfree, get_cons, ev_t, ev_c, I, U32, U8, B, *]) ?_)
    | (refine call_pure h4 (by simp [AV.idfrees, AV.idfree, get_cons, ev_t, ev_c, I, U32, U8, B, *]) ?_)
    | (refine call_pure h5 (by simp [AV.idfrees, AV.idfree, get_cons, ev_t, ev_c, I, U32, U8, B, *]) ?_)
    | (refine call_pure h6 (by simp [AV.idfrees, AV.idfree, get_cons, ev_t, ev_c, I, U32, U8, B, *]) ?_)
    | (refine call_pure h7 (by simp [AV.idfrees, AV.idfree, get_cons, ev_t, ev_c, I, U32, U8, B, *]) ?_)
    | (with_reducible refine cnd_split (fun h => ?_) (fun h => ?_) <;> (first | simp only [decide_eq_true_eq, decide_eq_false_iff_not, Classical.not_not, Bool.and_eq_true, Bool.or_eq_true] at h | skip))
    | (with_reducible refine wpG_true (fun h => ?_) (fun h => ?_) <;> (first | simp only [decide_eq_true_eq, decide_eq_false_iff_not, Classical.not_not, Bool.and_eq_true, Bool.or_eq_true] at h | skip))
    | (with_reducible refine wpG_false (fun h => ?_) (fun h => ?_) <;> (first | simp only [decide_eq_true_eq, decide_eq_false_iff_not, Classical.not_not, Bool.and_eq_true, Bool.or_eq_true] at h | skip)))
  all_goals (simp -implicitDefEqProofs only [St.loadA, St_H, look_cons, look_nil, AV.at?, isAgg_agg, isAgg_sc, isAgg_fro, isAgg_arr, size_agg, size_sc, size_fro, size_arr, and_self, if_true, Bool.and_true, Bool.and_self, Bool.true_and, retP, resA, resV, get_cons, Nat.reduceEqDiff, ↓reduceIte, tupV, frz, mapO, AV.idfree, AV.idfrees, I, B, U32, Option.some.injEq, AV.sc.injEq, Value.bool.injEq, Value.int.injEq, true_and, AV.tup.injEq, List.cons.injEq, and_true, reduceCtorEq, Nat.succ_ne_self])
  all_goals
    have hx : x = true := by simpa using ‹(!x) = false›
    have hy : y = true := by simpa using ‹(!y) = false›
    have hh := hk.out hx hy (by omega) (by omega) (by omega) (by omega) (by omega)
    first
      | omega
      | (simp only [decide_eq_true_eq]; omega)
end Go.Proofs.Ytmlnhecgcbohkaa
namespace Go.Proofs.Ytmlnhecgcbohkaa.boundGrows
open Go.Ra Go.ChangeShapes Go.WideShapes Go.ChangeAt Go.RowKit
open Go.ChangeMaps (open_string shut_string)
theorem own : ownKnob Try.prog.godebug = none := by kernel_rfl
def Ts : List Ty := [.agg 12 [.int .i64, .int .i64, .int .i64, .int .i64, .int .i64, .int .i64, .int .i64, .int .i64, .int .i64, .int .i64, .int .i64, .int .i64], .agg 12 [.int .i64, .int .i64, .int .i64, .int .i64, .int .i64, .int .i64, .int .i64, .int .i64, .int .i64, .int .i64, .int .i64, .int .i64], .int .i64, .int .i64]
theorem law (xs : List AV) (h : Ty.hasL Ts xs) : Pure Try.prog 4 xs (.sc (.bool true)) := by
  simp only [Ts, Ty.hasL, Ty.has] at h
  obtain ⟨c, r, rfl, ⟨tsa, rfl, xa0, ra0, rfl, ⟨a0, rfl, _⟩, xa1, ra1, rfl, ⟨a1, rfl, _⟩, xa2, ra2, rfl, ⟨a2, rfl, _⟩, xa3, ra3, rfl, ⟨a3, rfl, _⟩, xa4, ra4, rfl, ⟨a4, rfl, _⟩, xa5, ra5, rfl, ⟨a5, rfl, _⟩, xa6, ra6, rfl, ⟨a6, rfl, _⟩, xa7, ra7, rfl, ⟨a7, rfl, _⟩, xa8, ra8, rfl, ⟨a8, rfl, _⟩, xa9, ra9, rfl, ⟨a9, rfl, _⟩, xa10, ra10, rfl, ⟨a10, rfl, _⟩, xa11, ra11, rfl, ⟨a11, rfl, _⟩, rfl⟩, d, s, rfl, ⟨tsb, rfl, xb0, rb0, rfl, ⟨b0, rfl, _⟩, xb1, rb1, rfl, ⟨b1, rfl, _⟩, xb2, rb2, rfl, ⟨b2, rfl, _⟩, xb3, rb3, rfl, ⟨b3, rfl, _⟩, xb4, rb4, rfl, ⟨b4, rfl, _⟩, xb5, rb5, rfl, ⟨b5, rfl, _⟩, xb6, rb6, rfl, ⟨b6, rfl, _⟩, xb7, rb7, rfl, ⟨b7, rfl, _⟩, xb8, rb8, rfl, ⟨b8, rfl, _⟩, xb9, rb9, rfl, ⟨b9, rfl, _⟩, xb10, rb10, rfl, ⟨b10, rfl, _⟩, xb11, rb11, rfl, ⟨b11, rfl, _⟩, rfl⟩, y, u, rfl, ⟨m, rfl, _⟩, z, v, rfl, ⟨n, rfl, _⟩, rfl⟩ := h
  exact p4 a0 a1 a2 a3 a4 a5 a6 a7 a8 a9 a10 a11 b0 b1 b2 b3 b4 b5 b6 b7 b8 b9 b10 b11 m n
set_option maxRecDepth 100000 in
theorem lifted (os : Os) (started : os.Started) (H : Type) (enc : TypeId × Value → H) :
    ReturnsInHanded {} Try.checked os 4 .any (Rows.boundGrowsSpec.pre6 enc Try.prog Try.f4 Rows.boundGrowsRow.domain false) (Rows.boundGrowsSpec.post enc Try.prog Try.f4 false true false false) := by
  refine returnsInHanded_of_change_sized (C := Try.checked) own started (by kernel_rfl) Try.func4
    (ChangeSpec.witness6 (enc := enc) (C := Try.checked) false ⟨#[], #[.agg (Array.replicate 12 (.int .i64 0)), .agg (Array.replicate 12 (.int .i64 0)), .int .i64 0, .int .i64 0], []⟩ 8 (by kernel_rfl) (by kernel_rfl) (by kernel_rfl) (by kernel_rfl)) ?_
  intro W base args ds gs before hval hW hcnd hsz _
  refine law_post (s := Rows.boundGrowsSpec) (n := 60) (Ts := Ts) (ts := [23, 23, 3, 3]) (tb := 4) (by kernel_rfl) rfl rfl Try.underlying4 rfl (by kernel_rfl) (by kernel_rfl) (fun ds hds => ?_) law W base args ds gs before hval hW hsz
  match ds, hds with
  | [d1, d2, d3, d4], _ => exact ⟨rfl, rfl, rfl⟩
theorem over : Rows.boundGrowsRow.holds Try.pinned (OpenSpec.ofChange Rows.boundGrowsSpec) :=
  OpenClaim.holds_of_wide 4 Try.f4 rfl rfl rfl rfl rfl rfl rfl ⟨rfl, rfl, rfl, rfl, rfl⟩ rfl rfl rfl rfl rfl (by kernel_rfl) Try.func4 (by kernel_rfl)
    (of_decide_eq_true (by kernel_rfl)) (by unfold Func.isWrapper; first | (rw [if_pos (by decide +kernel)]; kernel_rfl) | (rw [if_neg (by decide +kernel)]; exact ⟨rfl, rfl⟩))
    (fun os started H enc _ => lifted os started H enc)
theorem proved : Rows.BoundGrowsSaid := over
end Go.Proofs.Ytmlnhecgcbohkaa.boundGrows
namespace Go.Proofs.Ytmlnhecgcbohkaa
/-- The row, under a short name, for the claim. -/
theorem boundGrows_holds : Rows.BoundGrowsSaid := boundGrows.proved
end Go.Proofs.Ytmlnhecgcbohkaa
#print axioms Go.Proofs.Ytmlnhecgcbohkaa.boundGrows_holds
