/- Texts put together. -/
import Derived.Test.YtbemlndjdbopeaaPk4
/- The loop that ends requests. -/
namespace Go.Proofs.Ytbemlndjdbopeaa
open Go.Ra
set_option linter.unusedVariables false
set_option linter.unusedSimpArgs false
/-- A state of which the table is own memory. -/
def bxT (x : Stt) : XV := .agg 92 [.int .i64 x.cycle, e_Side x.a, e_Side x.e, e_row 3 e_Slot x.ldq, e_row 1 e_u32 x.sdq, e_row 1 e_u32 x.aeq, e_row 1 e_bool x.abq, e_row 1 e_bool x.ebq, e_row 5 e_Entry x.saq, .sl 15 [] 0 0 x.table.length 8, e_row 1 e_u8 x.mem, e_row 3 e_Wr x.writes, e_Trp x.trap, .int .i64 x.lats, .int .i64 x.picks, .int .i64 x.tags]
def layT (c : Cfg) (s : Script) (x : Stt) : List (Nat × Option XV) := [(15, some (e_tb 8 e_Req x.table)), (14, some (e_Script s)), (13, some (e_Cfg c)), (3, some zX), (2, some (bxT x))]
theorem TE1ok : TabOk Try.prog TE1 := mkT2_ok (clok_banks.app clok_ref15) ⟨sp_load, trivial⟩ trivial ⟨sk_fill, trivial⟩ ⟨gk_write, trivial⟩
theorem k_apT {α : Type} [Inhabited α] {κ : Nat → Option Nat} {es : Nat} {f : Nat → XV} {en : α → XV} {l : List α} {x : α} (h1 : ∀ i, i < l.length → con (f i) = con (en (ix l i))) (h2 : con (f l.length) = con (en x)) : leK κ (con (.tab (l.length + 1) es f)) (con (e_tb es en (l ++ [x]))) := by
  unfold e_tb
  rw [app_len]
  exact k_app h1 h2 rfl
def enMid (c : Cfg) (s : Script) (x : Stt) : XSt := ⟨[(10, .int .i64 0), (9, .int .i64 x.table.length), (8, e_row 8 e_Req x.table), (2, zNil), (0, .ptr 2 [] 0)], [(14, some (e_Script s)), (13, some (e_Cfg c)), (12, some (e_tb 3 e_Wr x.writes)), (11, some (e_tb 1 e_u8 x.mem)), (3, some zX), (2, some (.agg 92 [.int .i64 x.cycle, e_Side x.a, e_Side x.e, e_row 3 e_Slot x.ldq, e_row 1 e_u32 x.sdq, e_row 1 e_u32 x.aeq, e_row 1 e_bool x.abq, e_row 1 e_bool x.ebq, e_row 5 e_Entry x.saq, e_row 8 e_Req x.table, .sl 11 [] 0 0 x.mem.length 1, .sl 12 [] 0 0 x.writes.length 3, e_Trp x.trap, .int .i64 x.lats, .int .i64 x.picks, .int .i64 x.tags]))], 15⟩
/-- As it begins. -/
theorem end_in {c : Cfg} {s : Script} {x : Stt} : WeakE 15 (XSt.st ⟨[(10, .int .i64 0), (9, .int .i64 x.table.length), (8, .sl 6 [] 0 0 x.table.length 8), (2, zNil), (0, .ptr 2 [] 0)], layO c s x, 15⟩) (enSt c s x.table x [] 0).st := by
  refine (WeakE.frz (frz_env (L := [4, 5, 6, 7, 8, 9, 10]) (σ := ⟨[(10, .int .i64 0), (9, .int .i64 x.table.length), (8, .sl 6 [] 0 0 x.table.length 8), (2, zNil), (0, .ptr 2 [] 0)], layO c s x, 15⟩) (τ := enMid c s x) rfl ⟨rfl, .same, rfl, .same, rfl, fz_row rfl rfl, rfl, .same, rfl, .same, trivial⟩
    ⟨rfl, .same, rfl, .same, rfl, .same, rfl, .same, rfl, .same, rfl, .agg (.cons .same (.cons .same (.cons .same (.cons (fz_row rfl rfl) (.cons (fz_row rfl rfl) (.cons (fz_row rfl rfl) (.cons (fz_row rfl rfl) (.cons (fz_row rfl rfl) (.cons (fz_row rfl rfl) (.cons (fz_row rfl rfl) (.cons .same (.cons .same (.cons .same (.cons .same (.cons .same (.cons .same .nil)))))))))))))))), trivial⟩)).trans ?_
  exact weakM [(0, 0), (1, 1), (2, 2), (3, 3), (4, 4), (5, 5), (6, 6), (7, 7), (8, 8), (9, 9), (10, 10), (11, 11), (12, 12), (13, 13), (14, 14), (16, 12)] rfl rfl rfl rfl rfl ⟨(k_is rfl rfl), (k_is rfl rfl), (k_is rfl rfl), k_nil rfl, .ptr rfl, trivial⟩ ⟨(k_is rfl rfl), ⟨8, rfl⟩, (k_is rfl rfl), (k_is rfl rfl), (k_is rfl rfl), (k_is rfl rfl), .agg (.cons (k_is rfl rfl) (.cons (k_is rfl rfl) (.cons (k_is rfl rfl) (.cons (k_is rfl rfl) (.cons (k_is rfl rfl) (.cons (k_is rfl rfl) (.cons (k_is rfl rfl) (.cons (k_is rfl rfl) (.cons (k_is rfl rfl) (.cons (k_is rfl rfl) (.cons (.sl rfl) (.cons (.sl rfl) (.cons (k_is rfl rfl) (.cons (k_is rfl rfl) (.cons (k_is rfl rfl) (.cons (k_is rfl rfl) .nil)))))))))))))))), trivial⟩
/-- As it ends. -/
theorem end_out {c : Cfg} {s : Script} {x : Stt} {l : List Req} : EndAt 15 (.tup []) ⟨[], [(16, some (e_tb 3 e_Wr x.writes)), (15, some (e_tb 8 e_Req l)), (14, some (e_Script s)), (13, some (e_Cfg c)), (11, some (e_tb 1 e_u8 x.mem)), (3, some zX), (2, some (.agg 92 [.int .i64 x.cycle, e_Side x.a, e_Side x.e, e_row 3 e_Slot x.ldq, e_row 1 e_u32 x.sdq, e_row 1 e_u32 x.aeq, e_row 1 e_bool x.abq, e_row 1 e_bool x.ebq, e_row 5 e_Entry x.saq, .sl 15 [] 0 0 l.length 8, .sl 11 [] 0 0 x.mem.length 1, .sl 16 [] 0 0 x.writes.length 3, e_Trp x.trap, .int .i64 x.lats, .int .i64 x.picks, .int .i64 x.tags]))], 17⟩ (.tup []) ⟨[], layT c s { x with table := l }, 17⟩ :=
  ⟨.frz (frz_env (L := [11, 16]) rfl ⟨rfl, .same, trivial⟩ ⟨rfl, .same, rfl, .same, rfl, .same, rfl, .same, rfl, .agg (.cons .same (.cons .same (.cons .same (.cons .same (.cons .same (.cons .same (.cons .same (.cons .same (.cons .same (.cons .same (.cons (fz_row rfl rfl) (.cons (fz_row rfl rfl) (.cons .same (.cons .same (.cons .same (.cons .same .nil)))))))))))))))), trivial⟩)⟩
theorem gen_end {c : Cfg} {s : Script} {x : Stt} (ho : x.ok) (hb : x.writes.length + x.table.length ≤ 1000000) : Gen Try.prog 59 (cons [.ptr 2 [] 0]) (XSt.st ⟨[], layO c s x, 15⟩) (con (.tup [])) (XSt.st ⟨[], layT c s (endF x), 17⟩) := by
  have hw : x.wf := ho.1
  have hm0 : x.mem.length ≤ 1000000 := ho.2.2.2.2.2.2.2.2.1
  have hl0 : x.table.length ≤ 1000000 := ho.2.2.2.2.2.2.2.1
  have hq0 : x.ldq.length ≤ 1000000 := ho.2.1
  have hr0 : ∀ r ∈ x.table, r.wf := hw.2.2.2.2.2.2.2.2.2.1.1
  refine genG mix TE1ok t_banks_end (Nat.le_of_ble_eq_true rfl) (σ := ⟨[], layO c s x, 15⟩) ?_
  refine Eq.mpr (r_end0 c s x _ _) ?_
  refine loopG mix TE1ok (fun i : Nat => enSt c s x.table (endL (x.table.take i) (x, [])).1 (endL (x.table.take i) (x, [])).2 i) (fun i => i ≤ x.table.length) (fun i => x.table.length - i) 0 (Nat.zero_le _) end_in ?_
  intro i hi
  replace hi : i ≤ x.table.length := hi
  have inv := endL_inv hw hm0 hb hi
  have stp := fun h : i < x.table.length => endL_step (p := (x, [])) h
  have hend : i = x.table.length → endF x = { (endL (x.table.take i) (x, [])).1 with table := (endL (x.table.take i) (x, [])).2 } := fun h => by
    unfold endF
    rw [h, List.take_length]
  generalize endL (x.table.take i) (x, []) = p at inv stp hend ⊢
  obtain ⟨X, L⟩ := p
  obtain ⟨iw, i2, i3, i4, i5, i6, i7, i8, i9, i10, _⟩ := inv
  simp only at iw i2 i3 i4 i5 i6 i7 i8 i9 i10 stp ⊢
  refine Eq.mpr (r_end1 c s x.table X L i _ _ _) ?_
  by_cases hlt : i < x.table.length
  case neg =>
    have h1 : ¬ (i : Int) < (x.table.length : Int) := by omega
    simp only [h1, decide_false, cond_false]
    rw [hend (by omega)]
    exact ⟨end_out.out⟩
  have h1 : (i : Int) < (x.table.length : Int) := by omega
  have w1 : IntKind.i64.wrap ((i : Int) + 1) = ((i + 1 : Nat) : Int) := wrap_i64 (by omega) (by omega)
  have hr : (ix x.table i).wf := hr0 _ (ix_mem hlt)
  replace stp := stp hlt
  have hu : rngB X.mem.length (fun i => e_u8 (ix X.mem i)) = true := rngB_iff.2 fun i hi => iw.2.2.2.2.2.2.2.2.2.2.1.1 _ (ix_mem hi)
  have nx : ∀ {τ : XSt} (p' : Stt × List Req), endS (X, L) (ix x.table i) = p' → WeakE 15 τ.st (enSt c s x.table p'.1 p'.2 (i + 1)).st → ∃ j, j ≤ x.table.length ∧ WeakE 15 τ.st (enSt c s x.table (endL (x.table.take j) (x, [])).1 (endL (x.table.take j) (x, [])).2 j).st ∧ x.table.length - j < x.table.length - i := fun p' hp hk => ⟨i + 1, hlt, by rw [stp, hp]; exact hk, by omega⟩
  have wl : IntKind.i64.wrap ((ix x.table i).left - 1) = (ix x.table i).left - 1 ∨ ¬ (ix x.table i).left > 0 := by
    by_cases h : (ix x.table i).left > 0
    · have := hr.2.2.2.2.1
      exact .inl (wrap_i64 (by omega) (by unfold i64R at this; omega))
    · exact .inr h
  generalize hri : ix x.table i = r at hr stp nx wl ⊢
  have b1 : X.writes.length ≤ X.writes.length := Nat.le_refl _
  have b2 : (X.writes.length + 1) * 24 ≤ 140737488355328 := by omega
  have b3 : (L.length + 1) * 64 ≤ 140737488355328 := by omega
  have b4 : X.mem.length ≤ 1099511627776 := by omega
  simp only [h1, w1, hri, decide_true, cond_true, Int.toNat_natCast, Nat.le_refl, pl_eq, b2, b3, b4, hu, allN_true]
  by_cases hl : r.left > 0
  case neg =>
    simp only [hl, decide_false, cond_false]
    refine nx (X, L ++ [r]) (by unfold endS; rw [if_neg hl]) ?_
    exact weakM [(0, 0), (1, 1), (2, 2), (3, 3), (4, 4), (5, 5), (6, 6), (7, 7), (8, 8), (9, 9), (10, 10), (11, 11), (12, 12), (13, 13), (14, 14), (15, 18), (16, 16)] rfl rfl rfl rfl rfl ⟨(k_is rfl rfl), (k_is rfl rfl), (k_is rfl rfl), (by show leK _ (.sl 18 [] 0 0 (L.length + 1) 8) (.sl 15 [] 0 0 (L ++ [_]).length 8); rw [app_len]; exact .sl rfl), .ptr rfl, trivial⟩ ⟨(k_is rfl rfl), (k_apT (fun j hj => by simp only [hj, decide_true, cond_true]; rfl) (by simp; rfl)), (k_is rfl rfl), (k_is rfl rfl), (k_is rfl rfl), (k_is rfl rfl), .agg (.cons (k_is rfl rfl) (.cons (k_is rfl rfl) (.cons (k_is rfl rfl) (.cons (k_is rfl rfl) (.cons (k_is rfl rfl) (.cons (k_is rfl rfl) (.cons (k_is rfl rfl) (.cons (k_is rfl rfl) (.cons (k_is rfl rfl) (.cons (k_is rfl rfl) (.cons (.sl rfl) (.cons (.sl rfl) (.cons (k_is rfl rfl) (.cons (k_is rfl rfl) (.cons (k_is rfl rfl) (.cons (k_is rfl rfl) .nil)))))))))))))))), trivial⟩
  obtain wl := wl.resolve_right (fun h => h hl)
  simp only [hl, wl, decide_true, cond_true]
  by_cases h1l : r.left = 1
  case neg =>
    have hz : ¬ r.left - 1 = 0 := by omega
    simp only [hz, decide_false, cond_false]
    refine nx (X, L ++ [{ r with left := r.left - 1 }]) (by unfold endS; rw [if_pos hl, if_neg h1l]) ?_
    exact weakM [(0, 0), (1, 1), (2, 2), (3, 3), (4, 4), (5, 5), (6, 6), (7, 7), (8, 8), (9, 9), (10, 10), (11, 11), (12, 12), (13, 13), (14, 14), (15, 18), (16, 16)] rfl rfl rfl rfl rfl ⟨(k_is rfl rfl), (k_is rfl rfl), (k_is rfl rfl), (by show leK _ (.sl 18 [] 0 0 (L.length + 1) 8) (.sl 15 [] 0 0 (L ++ [_]).length 8); rw [app_len]; exact .sl rfl), .ptr rfl, trivial⟩ ⟨(k_is rfl rfl), (k_apT (fun j hj => by simp only [hj, decide_true, cond_true]; rfl) (by simp; rfl)), (k_is rfl rfl), (k_is rfl rfl), (k_is rfl rfl), (k_is rfl rfl), .agg (.cons (k_is rfl rfl) (.cons (k_is rfl rfl) (.cons (k_is rfl rfl) (.cons (k_is rfl rfl) (.cons (k_is rfl rfl) (.cons (k_is rfl rfl) (.cons (k_is rfl rfl) (.cons (k_is rfl rfl) (.cons (k_is rfl rfl) (.cons (k_is rfl rfl) (.cons (.sl rfl) (.cons (.sl rfl) (.cons (k_is rfl rfl) (.cons (k_is rfl rfl) (.cons (k_is rfl rfl) (.cons (k_is rfl rfl) .nil)))))))))))))))), trivial⟩
  have hz : r.left - 1 = 0 := by omega
  have ed : endS (X, L) r = (doneF X r, L) := by unfold endS; rw [if_pos hl, if_pos h1l]
  simp only [hz, decide_true, cond_true]
  cases hs : r.store with
  | true =>
    simp only [cond_true]
    refine ⟨(X.mem, ⟨r.addr, r.size, r.val⟩), .rfl, memIs ⟨rfl, trivial⟩ (Nat.le_refl _), ⟨by show X.mem.length ≤ 1000000; omega⟩, ?_⟩
    intro y hy
    replace hy : y = stoF X.mem ⟨r.addr, r.size, r.val⟩ := hy
    subst hy
    have wsl : leK (kap [(0, 0), (1, 1), (2, 2), (3, 3), (4, 4), (5, 5), (6, 6), (7, 7), (8, 8), (9, 9), (10, 10), (11, 11), (12, 12), (13, 13), (14, 14), (15, 15), (16, 21)]) (.sl 21 [] 0 0 (X.writes.length + 1) 3) (.sl 16 [] 0 0 (X.writes ++ [(⟨r.addr, r.size, r.val⟩ : Wr)]).length 3) := by rw [app_len]; exact .sl rfl
    have msl : leK (kap [(0, 0), (1, 1), (2, 2), (3, 3), (4, 4), (5, 5), (6, 6), (7, 7), (8, 8), (9, 9), (10, 10), (11, 11), (12, 12), (13, 13), (14, 14), (15, 15), (16, 21)]) (.sl 11 [] 0 0 X.mem.length 1) (.sl 11 [] 0 0 (stoF X.mem ⟨r.addr, r.size, r.val⟩).length 1) := by rw [sto_len]; exact .sl rfl
    by_cases hq : X.saq.length = 0
    · have q1 : ¬ (X.saq.length : Int) > 0 := by omega
      have e : X.saq.tail = X.saq := by rw [List.eq_nil_of_length_eq_zero hq]; rfl
      have ssl : leK (kap [(0, 0), (1, 1), (2, 2), (3, 3), (4, 4), (5, 5), (6, 6), (7, 7), (8, 8), (9, 9), (10, 10), (11, 11), (12, 12), (13, 13), (14, 14), (15, 15), (16, 21)]) (con (e_row 5 e_Entry X.saq)) (con (e_row 5 e_Entry X.saq.tail)) := by rw [e]; exact k_is rfl rfl
      simp only [q1, decide_false, cond_false]
      refine nx (doneF X r, L) ed ?_
      rw [done_st hs]
      exact weakM [(0, 0), (1, 1), (2, 2), (3, 3), (4, 4), (5, 5), (6, 6), (7, 7), (8, 8), (9, 9), (10, 10), (11, 11), (12, 12), (13, 13), (14, 14), (15, 15), (16, 21)] rfl rfl rfl rfl rfl ⟨(k_is rfl rfl), (k_is rfl rfl), (k_is rfl rfl), .sl rfl, .ptr rfl, trivial⟩ ⟨(k_apT (fun j hj => by simp only [hj, decide_true, cond_true]; rfl) (by simp; rfl)), (k_is rfl rfl), (k_is rfl rfl), (k_is rfl rfl), (k_is rfl rfl), (k_is rfl rfl), .agg (.cons (k_is rfl rfl) (.cons (k_is rfl rfl) (.cons (k_is rfl rfl) (.cons (k_is rfl rfl) (.cons (k_is rfl rfl) (.cons (k_is rfl rfl) (.cons (k_is rfl rfl) (.cons (k_is rfl rfl) (.cons ssl (.cons (k_is rfl rfl) (.cons msl (.cons wsl (.cons (k_is rfl rfl) (.cons (k_is rfl rfl) (.cons (k_is rfl rfl) (.cons (k_is rfl rfl) .nil)))))))))))))))), trivial⟩
    · have q1 : (X.saq.length : Int) > 0 := by omega
      have q2 : 1 ≤ (X.saq.length : Int) := by omega
      have ssl : leK (kap [(0, 0), (1, 1), (2, 2), (3, 3), (4, 4), (5, 5), (6, 6), (7, 7), (8, 8), (9, 9), (10, 10), (11, 11), (12, 12), (13, 13), (14, 14), (15, 15), (16, 21)]) (con (.row false 5 (X.saq.length - 1) fun i => e_Entry (ix X.saq (1 + i)))) (con (e_row 5 e_Entry X.saq.tail)) := k_row (by simp) (.inl rfl) fun i hi => by rw [ix_tail, Nat.add_comm]
      simp only [q1, q2, decide_true, cond_true]
      refine nx (doneF X r, L) ed ?_
      rw [done_st hs]
      exact weakM [(0, 0), (1, 1), (2, 2), (3, 3), (4, 4), (5, 5), (6, 6), (7, 7), (8, 8), (9, 9), (10, 10), (11, 11), (12, 12), (13, 13), (14, 14), (15, 15), (16, 21)] rfl rfl rfl rfl rfl ⟨(k_is rfl rfl), (k_is rfl rfl), (k_is rfl rfl), .sl rfl, .ptr rfl, trivial⟩ ⟨(k_apT (fun j hj => by simp only [hj, decide_true, cond_true]; rfl) (by simp; rfl)), (k_is rfl rfl), (k_is rfl rfl), (k_is rfl rfl), (k_is rfl rfl), (k_is rfl rfl), .agg (.cons (k_is rfl rfl) (.cons (k_is rfl rfl) (.cons (k_is rfl rfl) (.cons (k_is rfl rfl) (.cons (k_is rfl rfl) (.cons (k_is rfl rfl) (.cons (k_is rfl rfl) (.cons (k_is rfl rfl) (.cons ssl (.cons (k_is rfl rfl) (.cons msl (.cons wsl (.cons (k_is rfl rfl) (.cons (k_is rfl rfl) (.cons (k_is rfl rfl) (.cons (k_is rfl rfl) .nil)))))))))))))))), trivial⟩
  | false =>
    simp only [cond_false]
    by_cases hg : r.addr ≥ 0 ∧ r.addr ≤ 4294967295
    · obtain ⟨g1, g2⟩ := hg
      have gw : IntKind.u32.wrap r.addr = r.addr := wrap_u32 (by omega) (by omega)
      have g3 : (0 : Int) ≤ r.addr := g1
      have hd : ldF X r = loadI X.mem.length (fun i => e_u8 (ix X.mem i)) r.op r.addr := by unfold ldF loadF; rw [if_pos ⟨g1, g2⟩]
      simp only [g1, g2, g3, gw, decide_true, cond_true]
      by_cases hn : r.reg < 0
      · simp only [hn, decide_true, cond_true]
        refine ⟨(X.ldq, r.tag, loadI X.mem.length (fun i => e_u8 (ix X.mem i)) r.op r.addr), .rfl, ⟨by show X.ldq.length ≤ 1000000; omega⟩, ?_⟩
        intro y hy
        replace hy : y = fillF X.ldq r.tag (loadI X.mem.length (fun i => e_u8 (ix X.mem i)) r.op r.addr) := hy
        rw [← hd] at hy
        subst hy
        refine nx (doneF X r, L) ed ?_
        rw [done_ldq hs hn]
        exact weakM [(0, 0), (1, 1), (2, 2), (3, 3), (4, 4), (5, 5), (6, 6), (7, 7), (8, 8), (9, 9), (10, 10), (11, 11), (12, 12), (13, 13), (14, 14), (15, 15), (16, 16)] rfl rfl rfl rfl rfl ⟨(k_is rfl rfl), (k_is rfl rfl), (k_is rfl rfl), .sl rfl, .ptr rfl, trivial⟩ ⟨(k_is rfl rfl), (k_is rfl rfl), (k_is rfl rfl), (k_is rfl rfl), (k_is rfl rfl), (k_is rfl rfl), .agg (.cons (k_is rfl rfl) (.cons (k_is rfl rfl) (.cons (k_is rfl rfl) (.cons (k_is rfl rfl) (.cons (k_is rfl rfl) (.cons (k_is rfl rfl) (.cons (k_is rfl rfl) (.cons (k_is rfl rfl) (.cons (k_is rfl rfl) (.cons (k_is rfl rfl) (.cons (.sl rfl) (.cons (.sl rfl) (.cons (k_is rfl rfl) (.cons (k_is rfl rfl) (.cons (k_is rfl rfl) (.cons (k_is rfl rfl) .nil)))))))))))))))), trivial⟩
      · by_cases hk : 1 ≤ r.reg ∧ r.reg ≤ 15
        · have k1 : r.reg ≥ 1 := hk.1
          have k2 : r.reg ≤ 15 := hk.2
          have k3 : 0 ≤ r.reg := by omega
          have k4 : r.reg < 16 := by omega
          have k5 : r.reg.toNat < 16 := by omega
          simp only [hn, k1, k2, k3, k4, k5, Nat.beq_refl, decide_true, decide_false, cond_true, cond_false]
          refine nx (doneF X r, L) ed ?_
          rw [done_reg hs hk, hd]
          exact weakM [(0, 0), (1, 1), (2, 2), (3, 3), (4, 4), (5, 5), (6, 6), (7, 7), (8, 8), (9, 9), (10, 10), (11, 11), (12, 12), (13, 13), (14, 14), (15, 15), (16, 16)] rfl rfl rfl rfl rfl ⟨(k_is rfl rfl), (k_is rfl rfl), (k_is rfl rfl), .sl rfl, .ptr rfl, trivial⟩ ⟨(k_is rfl rfl), (k_is rfl rfl), (k_is rfl rfl), (k_is rfl rfl), (k_is rfl rfl), (k_is rfl rfl), .agg (.cons (k_is rfl rfl) (.cons (k_is rfl rfl) (.cons (k_is rfl rfl) (.cons (k_is rfl rfl) (.cons (k_is rfl rfl) (.cons (k_is rfl rfl) (.cons (k_is rfl rfl) (.cons (k_is rfl rfl) (.cons (k_is rfl rfl) (.cons (k_is rfl rfl) (.cons (.sl rfl) (.cons (.sl rfl) (.cons (k_is rfl rfl) (.cons (k_is rfl rfl) (.cons (k_is rfl rfl) (.cons (k_is rfl rfl) .nil)))))))))))))))), trivial⟩
        · have kz : (bif decide (r.reg ≥ 1) then decide (r.reg ≤ 15) else false) = false := by
            by_cases k1 : r.reg ≥ 1
            · have k2 : ¬ r.reg ≤ 15 := fun h => hk ⟨k1, h⟩
              simp [k1, k2]
            · simp [k1]
          simp only [hn, kz, Ra.g2, decide_false, cond_false, cond_true]
          refine nx (doneF X r, L) ed ?_
          rw [done_no hs hn hk]
          exact weakM [(0, 0), (1, 1), (2, 2), (3, 3), (4, 4), (5, 5), (6, 6), (7, 7), (8, 8), (9, 9), (10, 10), (11, 11), (12, 12), (13, 13), (14, 14), (15, 15), (16, 16)] rfl rfl rfl rfl rfl ⟨(k_is rfl rfl), (k_is rfl rfl), (k_is rfl rfl), .sl rfl, .ptr rfl, trivial⟩ ⟨(k_is rfl rfl), (k_is rfl rfl), (k_is rfl rfl), (k_is rfl rfl), (k_is rfl rfl), (k_is rfl rfl), .agg (.cons (k_is rfl rfl) (.cons (k_is rfl rfl) (.cons (k_is rfl rfl) (.cons (k_is rfl rfl) (.cons (k_is rfl rfl) (.cons (k_is rfl rfl) (.cons (k_is rfl rfl) (.cons (k_is rfl rfl) (.cons (k_is rfl rfl) (.cons (k_is rfl rfl) (.cons (.sl rfl) (.cons (.sl rfl) (.cons (k_is rfl rfl) (.cons (k_is rfl rfl) (.cons (k_is rfl rfl) (.cons (k_is rfl rfl) .nil)))))))))))))))), trivial⟩
    · have gz : (bif decide (r.addr ≥ 0) then decide (r.addr ≤ 4294967295) else false) = false := by
        by_cases g1 : r.addr ≥ 0
        · have g2 : ¬ r.addr ≤ 4294967295 := fun h => hg ⟨g1, h⟩
          simp [g1, g2]
        · simp [g1]
      have hd : ldF X r = 0 := by unfold ldF; rw [if_neg (by omega)]
      simp only [gz, Ra.g2, cond_false, cond_true]
      by_cases hn : r.reg < 0
      · simp only [hn, decide_true, cond_true]
        refine ⟨(X.ldq, r.tag, 0), .rfl, ⟨by show X.ldq.length ≤ 1000000; omega⟩, ?_⟩
        intro y hy
        replace hy : y = fillF X.ldq r.tag (0) := hy
        rw [← hd] at hy
        subst hy
        refine nx (doneF X r, L) ed ?_
        rw [done_ldq hs hn]
        exact weakM [(0, 0), (1, 1), (2, 2), (3, 3), (4, 4), (5, 5), (6, 6), (7, 7), (8, 8), (9, 9), (10, 10), (11, 11), (12, 12), (13, 13), (14, 14), (15, 15), (16, 16)] rfl rfl rfl rfl rfl ⟨(k_is rfl rfl), (k_is rfl rfl), (k_is rfl rfl), .sl rfl, .ptr rfl, trivial⟩ ⟨(k_is rfl rfl), (k_is rfl rfl), (k_is rfl rfl), (k_is rfl rfl), (k_is rfl rfl), (k_is rfl rfl), .agg (.cons (k_is rfl rfl) (.cons (k_is rfl rfl) (.cons (k_is rfl rfl) (.cons (k_is rfl rfl) (.cons (k_is rfl rfl) (.cons (k_is rfl rfl) (.cons (k_is rfl rfl) (.cons (k_is rfl rfl) (.cons (k_is rfl rfl) (.cons (k_is rfl rfl) (.cons (.sl rfl) (.cons (.sl rfl) (.cons (k_is rfl rfl) (.cons (k_is rfl rfl) (.cons (k_is rfl rfl) (.cons (k_is rfl rfl) .nil)))))))))))))))), trivial⟩
      · by_cases hk : 1 ≤ r.reg ∧ r.reg ≤ 15
        · have k1 : r.reg ≥ 1 := hk.1
          have k2 : r.reg ≤ 15 := hk.2
          have k3 : 0 ≤ r.reg := by omega
          have k4 : r.reg < 16 := by omega
          have k5 : r.reg.toNat < 16 := by omega
          simp only [hn, k1, k2, k3, k4, k5, Nat.beq_refl, decide_true, decide_false, cond_true, cond_false]
          refine nx (doneF X r, L) ed ?_
          rw [done_reg hs hk, hd]
          exact weakM [(0, 0), (1, 1), (2, 2), (3, 3), (4, 4), (5, 5), (6, 6), (7, 7), (8, 8), (9, 9), (10, 10), (11, 11), (12, 12), (13, 13), (14, 14), (15, 15), (16, 16)] rfl rfl rfl rfl rfl ⟨(k_is rfl rfl), (k_is rfl rfl), (k_is rfl rfl), .sl rfl, .ptr rfl, trivial⟩ ⟨(k_is rfl rfl), (k_is rfl rfl), (k_is rfl rfl), (k_is rfl rfl), (k_is rfl rfl), (k_is rfl rfl), .agg (.cons (k_is rfl rfl) (.cons (k_is rfl rfl) (.cons (k_is rfl rfl) (.cons (k_is rfl rfl) (.cons (k_is rfl rfl) (.cons (k_is rfl rfl) (.cons (k_is rfl rfl) (.cons (k_is rfl rfl) (.cons (k_is rfl rfl) (.cons (k_is rfl rfl) (.cons (.sl rfl) (.cons (.sl rfl) (.cons (k_is rfl rfl) (.cons (k_is rfl rfl) (.cons (k_is rfl rfl) (.cons (k_is rfl rfl) .nil)))))))))))))))), trivial⟩
        · have kz : (bif decide (r.reg ≥ 1) then decide (r.reg ≤ 15) else false) = false := by
            by_cases k1 : r.reg ≥ 1
            · have k2 : ¬ r.reg ≤ 15 := fun h => hk ⟨k1, h⟩
              simp [k1, k2]
            · simp [k1]
          simp only [hn, kz, Ra.g2, decide_false, cond_false, cond_true]
          refine nx (doneF X r, L) ed ?_
          rw [done_no hs hn hk]
          exact weakM [(0, 0), (1, 1), (2, 2), (3, 3), (4, 4), (5, 5), (6, 6), (7, 7), (8, 8), (9, 9), (10, 10), (11, 11), (12, 12), (13, 13), (14, 14), (15, 15), (16, 16)] rfl rfl rfl rfl rfl ⟨(k_is rfl rfl), (k_is rfl rfl), (k_is rfl rfl), .sl rfl, .ptr rfl, trivial⟩ ⟨(k_is rfl rfl), (k_is rfl rfl), (k_is rfl rfl), (k_is rfl rfl), (k_is rfl rfl), (k_is rfl rfl), .agg (.cons (k_is rfl rfl) (.cons (k_is rfl rfl) (.cons (k_is rfl rfl) (.cons (k_is rfl rfl) (.cons (k_is rfl rfl) (.cons (k_is rfl rfl) (.cons (k_is rfl rfl) (.cons (k_is rfl rfl) (.cons (k_is rfl rfl) (.cons (k_is rfl rfl) (.cons (.sl rfl) (.cons (.sl rfl) (.cons (k_is rfl rfl) (.cons (k_is rfl rfl) (.cons (k_is rfl rfl) (.cons (k_is rfl rfl) .nil)))))))))))))))), trivial⟩

end Go.Proofs.Ytbemlndjdbopeaa

/- The beginning of requests of a bank. -/
namespace Go.Proofs.Ytbemlndjdbopeaa
open Go.Ra
set_option linter.unusedVariables false
set_option linter.unusedSimpArgs false
/-- Does a request wait for a bank? -/
def isWt (c : Cfg) (bank : Int) (r : Req) : Bool := decide (bnkI r.addr c.banks = bank) && decide (r.left = 0)
/-- Has a bank begun it? -/
def isBz (c : Cfg) (bank : Int) (r : Req) : Bool := decide (bnkI r.addr c.banks = bank) && decide (r.left > 0)
def waitK (c : Cfg) (bank : Int) (l : List Req) (k : Nat) : List Int := ((List.range k).filter (fun j => isWt c bank (ix l j))).map (fun j : Nat => (j : Int))
/-- Which of those that wait. -/
def whichF (s : Script) (x : Stt) (w : List Int) : Nat := (ix w (if w.length > 1 then pickF s x.picks w.length else 0).toNat).toNat
/-- A bank begins a request, if one can. -/
def begF (c : Cfg) (s : Script) (x : Stt) (bank : Int) : Stt :=
  if x.table.any (isBz c bank) then x else
  if (waitK c bank x.table x.table.length).length = 0 then x else
  { x with picks := if (waitK c bank x.table x.table.length).length > 1 then IntKind.i64.wrap (x.picks + 1) else x.picks, lats := IntKind.i64.wrap (x.lats + 1),
           table := x.table.set (whichF s x (waitK c bank x.table x.table.length)) { ix x.table (whichF s x (waitK c bank x.table x.table.length)) with left := latF s x.lats c.lat } }
def TG0 : Tab := mkT2 qq (cl_banks ++ cl_ref15) [(22, bnkSp)] [] [(24, latS), (26, picS)] []
def bgSt (c : Cfg) (s : Script) (x : Stt) (bank : Int) (w : List Int) (i : Nat) : XSt := ⟨[(17, .int .i64 i), (16, .int .i64 x.table.length), (15, .sl 15 [] 0 0 x.table.length 8), (8, .sl 19 [] 0 0 w.length 1), (5, .ptr 18 [] 0), (4, .ptr 17 [] 0), (3, .int .i64 bank), (2, .ptr 2 [] 0)], [(19, some (e_tb 1 e_i64 w)), (18, some (e_Script s)), (17, some (e_Cfg c)), (15, some (e_tb 8 e_Req x.table)), (14, some (e_Script s)), (13, some (e_Cfg c)), (3, some zX), (2, some (bxT x))], 20⟩
theorem r_beg0 (c : Cfg) (s : Script) (x : Stt) (bank : Int) (v : XV) (τ : XSt) : (goG Try.prog TG0 [] 17 v τ (.run c_banks_begin) [] ⟨envX 0 [e_Cfg c, e_Script s, .ptr 2 [] 0, .int .i64 bank], layT c s x, 17⟩) = (let q1 : XV := .sl 15 [] 0 0 (List.length (Stt.table x)) 8;
let q2 : XV := .row true 0 0 fun x => .unk;
let q3 : List XV := [.int .i64 0, .int .i64 0, .int .i64
 0];
let q4 : XV := .agg 3 q3;
let q5 : XV := .agg 38 [.tab 16 1 fun x => .int .u32 0, .tab 16 1 fun x => .int .i64 0, q4, .int .i64 0, .bool false, .int .i64 0];
LoopAt
 (Ok Try.prog (Tab.q TG0)) c_banks_begin_l1 (XSt.mk [(17, .int .i64 0), (16, .int .i64 (↑(List.length (Stt.table x)) : Int)), (15, q1), (8, q2), (5, .ptr 18 [] 0),
 (4, .ptr 17 [] 0), (2, .ptr 2 [] 0), (3, .int .i64 bank)] [(18, some (e_Script s)), (17, some (e_Cfg c)), (15, some (e_tb 8 e_Req (Stt.table x))), (14, some (e_Script
 s)), (13, some (e_Cfg c)), (3, some (.agg 92 (.int .i64 0 :: q5 :: q5 :: q2 :: q2 :: q2 :: q2 :: q2 :: q2 :: q2 :: q2 :: q2 :: q4 :: q3))), (2, some (.agg 92 [.int
 .i64 (Stt.cycle x), e_Side (Stt.a x), e_Side (Stt.e x), e_row 3 e_Slot (Stt.ldq x), e_row 1 e_u32 (Stt.sdq x), e_row 1 e_u32 (Stt.aeq x), e_row 1 e_bool (Stt.abq
 x), e_row 1 e_bool (Stt.ebq x), e_row 5 e_Entry (Stt.saq x), q1, e_row 1 e_u8 (Stt.mem x), e_row 3 e_Wr (Stt.writes x), e_Trp (Stt.trap x), .int .i64 (Stt.lats x),
 .int .i64 (Stt.picks x), .int .i64 (Stt.tags x)]))] 19) [Frm.blk 0, Frm.seq c_banks_begin_p1] (finGR [] 17 v τ)) := by kernel_rfl
theorem r_beg1 (c : Cfg) (s : Script) (x : Stt) (bank : Int) (w : List Int) (i : Nat) (v : XV) (τ : XSt) (A : XSt → Prop) : (goG Try.prog TG0 [] 17 v τ (.run c_banks_begin_l1) [.lp c_banks_begin_l1 A, .blk 0, .seq c_banks_begin_p1] (bgSt c s x bank w i)) = (let q1 : Bool := decide ((↑i : Int) < (↑(List.length (Stt.table x)) : Int));
let q2 : Nat := i * 8;
let q3 : Req := ix (Stt.table x) (pl 0 (Int.toNat (↑i : Int)));
let
 q4 : Int := Req.addr q3;
let q5 : Int := bnkI q4 (Cfg.banks c);
let q6 : Bool := decide ¬bnkI (Req.addr (ix (Stt.table x) i)) (Cfg.banks c) = bank;
let q7 : XV :=
 .int .i64 (IntKind.wrap .i64 ((↑i : Int) + (1 : Int)));
let q8 : XV := .sl 15 [] 0 0 (List.length (Stt.table x)) 8;
let q9 : XV := .sl 19 [] 0 0 (List.length w)
 1;
let q10 : XV := .ptr 2 [] 0;
let q11 : List (Nat × XV) := [(5, .ptr 18 [] 0), (4, .ptr 17 [] 0), (3, .int .i64 bank), (2, q10)];
let q12 : List (Nat × XV) :=
 (16, .int .i64 (↑(List.length (Stt.table x)) : Int)) :: (15, q8) :: (8, q9) :: q11;
let q13 : List XV := [.int .i64 0, .int .i64 0, .int .i64 0];
let q14 : XV :=
 .agg 3 q13;
let q15 : XV := .agg 38 [.tab 16 1 fun x => .int .u32 0, .tab 16 1 fun x => .int .i64 0, q14, .int .i64 0, .bool false, .int .i64 0];
let q16 : XV :=
 .row true 0 0 fun x => .unk;
let q17 : XV := .agg 92 (.int .i64 0 :: q15 :: q15 :: q16 :: q16 :: q16 :: q16 :: q16 :: q16 :: q16 :: q16 :: q16 :: q14 :: q13);
let
 q18 : List XV := [.int .i64 (Stt.picks x), .int .i64 (Stt.tags x)];
let q19 : List (Nat × Option XV) := [(18, some (e_Script s)), (17, some (e_Cfg c)), (15, some
 (e_tb 8 e_Req (Stt.table x))), (14, some (e_Script s)), (13, some (e_Cfg c)), (3, some q17), (2, some (.agg 92 (.int .i64 (Stt.cycle x) :: e_Side (Stt.a x) :: e_Side
 (Stt.e x) :: e_row 3 e_Slot (Stt.ldq x) :: e_row 1 e_u32 (Stt.sdq x) :: e_row 1 e_u32 (Stt.aeq x) :: e_row 1 e_bool (Stt.abq x) :: e_row 1 e_bool (Stt.ebq x) ::
 e_row 5 e_Entry (Stt.saq x) :: q8 :: e_row 1 e_u8 (Stt.mem x) :: e_row 3 e_Wr (Stt.writes x) :: e_Trp (Stt.trap x) :: .int .i64 (Stt.lats x) :: q18)))];
let q20
 : List (Nat × Option XV) := (19, some (e_tb 1 e_i64 w)) :: q19;
let q21 : List (Nat × Option XV) := (20, some (e_Req (ix (Stt.table x) i))) :: q20;
let q22 : XSt
 := XSt.mk ((17, q7) :: q12) q21 21;
let q23 : Int := Req.left q3;
let q24 : Bool := decide (Req.left (ix (Stt.table x) i) > 0);
let q25 : List (Nat × XV) := (18,
 .bool q1) :: (17, .int .i64 (↑i : Int)) :: q12;
let q26 : Bool := decide ((↑(List.length w) : Int) = 0);
let q27 : XV := .bool q26;
let q28 : List (Nat × XV) :=
 (40, q27) :: (43, q27) :: (42, .int .i64 (↑(List.length w) : Int)) :: (41, q9) :: (11, .int .i64 0) :: q25;
let q29 : Bool := decide ((↑(List.length w) : Int) >
 1);
let q30 : Script × Int × Int → List XV := fun (s : Script × Int × Int) => [e_Script (Prod.fst s), .int .i64 (Prod.fst (Prod.snd s)), .int .i64 (Prod.snd (Prod.snd
 s))];
let q31 : Int → Nat := fun y => Int.toNat y * 1;
let q32 : List XV := [e_Script s, .int .i64 (Stt.lats x), .int .i64 (Cfg.lat c)];
let q33 : Script × Int ×
 Int → Int := fun (s : Script × Int × Int) => latF (Prod.fst s) (Prod.fst (Prod.snd s)) (Prod.snd (Prod.snd s));
let q34 : Int → Int := fun y => ix w (pl 0 (Int.toNat
 y));
let q35 : Int → Nat := fun y => Int.toNat (ix w (Int.toNat y)) * 8;
let q36 : Int → Nat := fun y => pl (q35 y) 5;
let q37 : Int → Bool := fun y => decide (Int.toNat
 (ix w (Int.toNat y)) < List.length (Stt.table x));
let q38 : XV := .ptr 2 [13] 89;
let q39 : XV := .int .i64 (IntKind.wrap .i64 (Stt.lats x + (1 : Int)));
let q40
 : XV := .ptr 17 [9] 9;
let q41 : XV := .ptr 2 [9] 83;
let q42 : XV := .ptr 2 [14] 90;
let q43 : XV := .int .i64 (IntKind.wrap .i64 (Stt.picks x + (1 : Int)));
let
 q44 : XV := .bool q29;
let q45 : List (Nat × XV) := (44, q44) :: (47, q44) :: (46, .int .i64 (↑(List.length w) : Int)) :: (45, q9) :: q28;
let q46 : Int → Req :=
 fun y => ix (Stt.table x) (Int.toNat (ix w (Int.toNat y)));
let q47 : Nat := pl 0 (Int.toNat (0 : Int));
let q48 : Int := ix w q47;
let q49 : Nat := Int.toNat (ix
 w 0) * 8;
let q50 : Nat := pl q49 5;
let q51 : Bool := decide (Int.toNat (ix w 0) < List.length (Stt.table x));
let q52 : Nat → Bool := fun j => Nat.beq j (Int.toNat
 (ix w 0));
let q53 : Req := ix (Stt.table x) (Int.toNat (ix w 0));
bif q1 then bif q1 then bif Nat.beq q2 q2 then bif decide (i < List.length (Stt.table x)) then
 bif decide (Req.addr (ix (Stt.table x) i) ≤ 9223372036854775807) then bif q6 then A q22 else bif q24 then EndAt 17 (.tup []) (XSt.mk ((31, .bool q24) :: (30, .int
 .i64 (Req.left (ix (Stt.table x) i))) :: (29, .ptr 20 [5] 5) :: (28, .bool q6) :: (27, .int .i64 bank) :: (26, .int .i64 (bnkI (Req.addr (ix (Stt.table x) i)) (Cfg.banks
 c))) :: (25, .int .i64 (Cfg.banks c)) :: (24, .ptr 17 [6] 6) :: (23, .int .i64 (Req.addr (ix (Stt.table x) i))) :: (22, .ptr 20 [2] 2) :: (9, .int .i64 (↑i : Int))
 :: (10, .ptr 20 [] 0) :: (21, e_Req (ix (Stt.table x) i)) :: (20, .ptr 15 [i] q2) :: (19, .int .i64 (↑i : Int)) :: q25) q21 21) v τ else bif decide (Req.left (ix
 (Stt.table x) i) = 0) then bif decide (List.length w ≤ List.length w) then bif decide (pl (List.length w) 1 * 8 ≤ 140737488355328) then A (XSt.mk ((17, q7) :: (8,
 .sl 21 [] 0 0 (pl (List.length w) 1) 1) :: (16, .int .i64 (↑(List.length (Stt.table x)) : Int)) :: (15, q8) :: q11) ((21, some (.tab (pl (List.length w) 1) 1 fun
 i_1 => .int .i64 (bif decide (i_1 < List.length w) then ix w i_1 else (↑i : Int)))) :: (20, some (e_Req (ix (Stt.table x) i))) :: (19, none) :: q19) 22) else False
 else False else A q22 else False else False else False else False
else bif q26 then EndAt 17 (.tup []) (XSt.mk q28 q20 20) v τ else bif q29 then ∃ (s_1 : Script
 × Int × Int), ArgsLe [e_Script s, .int .i64 (Stt.picks x), .int .i64 (↑(List.length w) : Int)] (q30 s_1) ∧ PreIs True ∧ ∀ (y : Int), y = pickF (Prod.fst s_1) (Prod.fst
 (Prod.snd s_1)) (Prod.snd (Prod.snd s_1)) → bif decide (0 ≤ y) then bif decide (y < (↑(List.length w) : Int)) then bif Nat.beq (q31 y) (q31 y) then bif decide (Int.toNat
 y < List.length w) then ∃ (s_2 : Script × Int × Int), ArgsLe q32 (q30 s_2) ∧ PreIs True ∧ ∀ (y_1 : Int), y_1 = q33 s_2 → bif decide (0 ≤ ix w (Int.toNat y)) then
 bif decide (ix w (Int.toNat y) < (↑(List.length (Stt.table x)) : Int)) then bif Nat.beq (q36 y) (q36 y) then bif q37 y then bif q37 y then EndAt 17 (.tup []) (XSt.mk
 ((87, q38) :: (86, q10) :: (85, q39) :: (84, .int .i64 (Stt.lats x)) :: (83, q38) :: (82, q10) :: (81, q10) :: (80, .ptr 15 [Int.toNat (ix w (Int.toNat y)), 5] (q36
 y)) :: (79, .ptr 15 [Int.toNat (ix w (Int.toNat y))] (q35 y)) :: (78, .int .i64 y_1) :: (77, .int .i64 (Cfg.lat c)) :: (76, q40) :: (75, .int .i64 (Stt.lats x))
 :: (74, q38) :: (73, q10) :: (72, q10) :: (71, e_Script s) :: (70, e_i64 (ix w (Int.toNat y))) :: (69, .ptr 19 [Int.toNat y] (q31 y)) :: (68, .int .i64 y) :: (67,
 q9) :: (66, q8) :: (65, q41) :: (64, q10) :: (63, q10) :: (62, q42) :: (61, q10) :: (60, q43) :: (59, .int .i64 (Stt.picks x)) :: (58, q42) :: (57, q10) :: (56,
 q10) :: (11, .int .i64 y) :: (55, .int .i64 y) :: (54, .int .i64 (↑(List.length w) : Int)) :: (53, q9) :: (52, .int .i64 (Stt.picks x)) :: (51, q42) :: (50, q10)
 :: (49, q10) :: (48, e_Script s) :: q45) [(19, some (e_tb 1 e_i64 w)), (18, some (e_Script s)), (17, some (e_Cfg c)), (15, some (.tab (List.length (Stt.table x))
 8 fun j => .agg 8 [.bool (bif Nat.beq j (Int.toNat (ix w (Int.toNat y))) then Req.store (q46 y) else Req.store (ix (Stt.table x) j)), .int .i64 (bif Nat.beq j (Int.toNat
 (ix w (Int.toNat y))) then Req.op (q46 y) else Req.op (ix (Stt.table x) j)), .int .i64 (bif Nat.beq j (Int.toNat (ix w (Int.toNat y))) then Req.addr (q46 y) else
 Req.addr (ix (Stt.table x) j)), .int .i64 (bif Nat.beq j (Int.toNat (ix w (Int.toNat y))) then Req.size (q46 y) else Req.size (ix (Stt.table x) j)), .int .u32 (bif
 Nat.beq j (Int.toNat (ix w (Int.toNat y))) then Req.val (q46 y) else Req.val (ix (Stt.table x) j)), .int .i64 (bif Nat.beq j (Int.toNat (ix w (Int.toNat y))) then
 y_1 else Req.left (ix (Stt.table x) j)), .int .i64 (bif Nat.beq j (Int.toNat (ix w (Int.toNat y))) then Req.reg (q46 y) else Req.reg (ix (Stt.table x) j)), .int
 .i64 (bif Nat.beq j (Int.toNat (ix w (Int.toNat y))) then Req.tag (q46 y) else Req.tag (ix (Stt.table x) j))])), (14, some (e_Script s)), (13, some (e_Cfg c)), (3,
 some q17), (2, some (.agg 92 [.int .i64 (Stt.cycle x), e_Side (Stt.a x), e_Side (Stt.e x), e_row 3 e_Slot (Stt.ldq x), e_row 1 e_u32 (Stt.sdq x), e_row 1 e_u32 (Stt.aeq
 x), e_row 1 e_bool (Stt.abq x), e_row 1 e_bool (Stt.ebq x), e_row 5 e_Entry (Stt.saq x), q8, e_row 1 e_u8 (Stt.mem x), e_row 3 e_Wr (Stt.writes x), e_Trp (Stt.trap
 x), q39, q43, .int .i64 (Stt.tags x)]))] 20) v τ else False else False else False else False else False else False else False else False else False else bif decide
 (0 < (↑(List.length w) : Int)) then bif decide (0 < List.length w) then ∃ (s_1 : Script × Int × Int), ArgsLe q32 (q30 s_1) ∧ PreIs True ∧ ∀ (y : Int), y = q33 s_1
 → bif decide (0 ≤ ix w 0) then bif decide (ix w 0 < (↑(List.length (Stt.table x)) : Int)) then bif Nat.beq q50 q50 then bif q51 then bif q51 then EndAt 17 (.tup
 []) (XSt.mk ((87, q38) :: (86, q10) :: (85, q39) :: (84, .int .i64 (Stt.lats x)) :: (83, q38) :: (82, q10) :: (81, q10) :: (80, .ptr 15 [Int.toNat (ix w 0), 5] q50)
 :: (79, .ptr 15 [Int.toNat (ix w 0)] q49) :: (78, .int .i64 y) :: (77, .int .i64 (Cfg.lat c)) :: (76, q40) :: (75, .int .i64 (Stt.lats x)) :: (74, q38) :: (73, q10)
 :: (72, q10) :: (71, e_Script s) :: (70, e_i64 (ix w 0)) :: (69, .ptr 19 [0] 0) :: (68, .int .i64 0) :: (67, q9) :: (66, q8) :: (65, q41) :: (64, q10) :: (63, q10)
 :: q45) [(19, some (e_tb 1 e_i64 w)), (18, some (e_Script s)), (17, some (e_Cfg c)), (15, some (.tab (List.length (Stt.table x)) 8 fun j => .agg 8 [.bool (bif q52
 j then Req.store q53 else Req.store (ix (Stt.table x) j)), .int .i64 (bif q52 j then Req.op q53 else Req.op (ix (Stt.table x) j)), .int .i64 (bif q52 j then Req.addr
 q53 else Req.addr (ix (Stt.table x) j)), .int .i64 (bif q52 j then Req.size q53 else Req.size (ix (Stt.table x) j)), .int .u32 (bif q52 j then Req.val q53 else Req.val
 (ix (Stt.table x) j)), .int .i64 (bif q52 j then y else Req.left (ix (Stt.table x) j)), .int .i64 (bif q52 j then Req.reg q53 else Req.reg (ix (Stt.table x) j)),
 .int .i64 (bif q52 j then Req.tag q53 else Req.tag (ix (Stt.table x) j))])), (14, some (e_Script s)), (13, some (e_Cfg c)), (3, some q17), (2, some (.agg 92 (.int
 .i64 (Stt.cycle x) :: e_Side (Stt.a x) :: e_Side (Stt.e x) :: e_row 3 e_Slot (Stt.ldq x) :: e_row 1 e_u32 (Stt.sdq x) :: e_row 1 e_u32 (Stt.aeq x) :: e_row 1 e_bool
 (Stt.abq x) :: e_row 1 e_bool (Stt.ebq x) :: e_row 5 e_Entry (Stt.saq x) :: q8 :: e_row 1 e_u8 (Stt.mem x) :: e_row 3 e_Wr (Stt.writes x) :: e_Trp (Stt.trap x) ::
 q39 :: q18)))] 20) v τ else False else False else False else False else False else False else False) := by kernel_rfl
end Go.Proofs.Ytbemlndjdbopeaa

/- A bank begins a request. -/
namespace Go.Proofs.Ytbemlndjdbopeaa
open Go.Ra
set_option linter.unusedVariables false
set_option linter.unusedSimpArgs false
theorem sp_bnk1 : SpOk Try.prog (22, bnkSp) := fun args nd v h hn => by
  simp only [bnkSp] at h
  split at h
  · simp only [Option.some.injEq, Prod.mk.injEq] at h
    obtain ⟨rfl, rfl⟩ := h
    simp only [allT_cons, decide_eq_true_eq] at hn
    rename_i a n
    have h := hn.1
    refine pureX (u := 80) (k := 20) mix TE0ok ?_
    refine Eq.mpr (r_bnk1 a n _) ?_
    unfold bnkI
    by_cases g1 : a < 0
    · simp [g1]
    by_cases g2 : n < 1
    · simp [g1, g2]
    have g3 : ¬ n = 0 := by omega
    rw [if_neg (by omega)]
    simp only [g1, g2, g3, decide_true, decide_false, cond_true, cond_false, allN_true, Nat.le_refl, Int.toNat_natCast, Nat.beq_refl, pk_and, pk_or, Bool.not_true, Bool.not_false, not_true_eq_false, not_false_eq_true, Bool.and_true, Bool.true_and, Bool.and_self, ge_iff_le, Int.le_refl, if_true, if_false, reduceCtorEq, eq_self, BEq.rfl]
    refine conI ?_
    rw [Int.tdiv_eq_ediv_of_nonneg (by omega), wrap_i64 (x := a / 4) (by omega) (by omega), Int.tmod_eq_emod_of_nonneg (by omega)]
  · cases h
theorem TG0ok : TabOk Try.prog TG0 := mkT2_ok (clok_banks.app clok_ref15) ⟨sp_bnk1, trivial⟩ trivial ⟨sk_lat, sk_pick, trivial⟩ trivial
theorem wait_mem {c : Cfg} {b : Int} {l : List Req} {k : Nat} {x : Int} (h : x ∈ waitK c b l k) : 0 ≤ x ∧ x < k := by
  unfold waitK at h
  obtain ⟨j, hj, rfl⟩ := List.mem_map.1 h
  have := List.mem_range.1 (List.mem_filter.1 hj).1
  omega
theorem wait_step {c : Cfg} {b : Int} {l : List Req} {k : Nat} : waitK c b l (k + 1) = if isWt c b (ix l k) then waitK c b l k ++ [(k : Int)] else waitK c b l k := by
  unfold waitK
  rw [List.range_succ, List.filter_append, List.map_append]
  by_cases h : isWt c b (ix l k) = true
  · simp [h]
  · have h : isWt c b (ix l k) = false := by simpa using h
    simp [h]
theorem wait_len {c : Cfg} {b : Int} {l : List Req} {k : Nat} : (waitK c b l k).length ≤ k := by
  unfold waitK
  rw [List.length_map]
  have := List.length_filter_le (fun j => isWt c b (ix l j)) (List.range k)
  rw [List.length_range] at this
  exact this
theorem bg_fin {c : Cfg} {s : Script} {x : Stt} {k : Nat} {lt la pi : Int} {w : XV} {f : Nat → XV} (hk : k < x.table.length) (h1 : con (f k) = con (e_Req { ix x.table k with left := lt })) (h2 : ∀ j, j < x.table.length → ¬ j = k → con (f j) = con (e_Req (ix x.table j))) : EndAt 17 (.tup []) ⟨[], [(19, some w), (18, some (e_Script s)), (17, some (e_Cfg c)), (15, some (.tab x.table.length 8 f)), (14, some (e_Script s)), (13, some (e_Cfg c)), (3, some zX), (2, some (.agg 92 [.int .i64 x.cycle, e_Side x.a, e_Side x.e, e_row 3 e_Slot x.ldq, e_row 1 e_u32 x.sdq, e_row 1 e_u32 x.aeq, e_row 1 e_bool x.abq, e_row 1 e_bool x.ebq, e_row 5 e_Entry x.saq, .sl 15 [] 0 0 x.table.length 8, e_row 1 e_u8 x.mem, e_row 3 e_Wr x.writes, e_Trp x.trap, .int .i64 la, .int .i64 pi, .int .i64 x.tags]))], 20⟩ (.tup []) ⟨[], layT c s { x with lats := la, picks := pi, table := x.table.set k { ix x.table k with left := lt } }, 17⟩ := by
  have hl : (x.table.set k { ix x.table k with left := lt }).length = x.table.length := List.length_set
  have e1 : con (.tab x.table.length 8 f) = con (e_tb 8 e_Req (x.table.set k { ix x.table k with left := lt })) := by
    unfold e_tb
    rw [hl]
    refine con_tabC fun j hj => ?_
    rw [ix_set]
    by_cases he : j = k
    · rw [if_pos ⟨he, hk⟩, he, h1]
    · rw [if_neg (fun h => he h.1), h2 j hj he]
  have e2 : ∀ n, n = x.table.length → con (.agg 92 [.int .i64 x.cycle, e_Side x.a, e_Side x.e, e_row 3 e_Slot x.ldq, e_row 1 e_u32 x.sdq, e_row 1 e_u32 x.aeq, e_row 1 e_bool x.abq, e_row 1 e_bool x.ebq, e_row 5 e_Entry x.saq, .sl 15 [] 0 0 x.table.length 8, e_row 1 e_u8 x.mem, e_row 3 e_Wr x.writes, e_Trp x.trap, .int .i64 la, .int .i64 pi, .int .i64 x.tags]) = con (.agg 92 [.int .i64 x.cycle, e_Side x.a, e_Side x.e, e_row 3 e_Slot x.ldq, e_row 1 e_u32 x.sdq, e_row 1 e_u32 x.aeq, e_row 1 e_bool x.abq, e_row 1 e_bool x.ebq, e_row 5 e_Entry x.saq, .sl 15 [] 0 0 n 8, e_row 1 e_u8 x.mem, e_row 3 e_Wr x.writes, e_Trp x.trap, .int .i64 la, .int .i64 pi, .int .i64 x.tags]) := fun n hn => by rw [hn]
  exact ⟨.ofL (weakT ⟨le_is rfl, trivial⟩ ⟨congrArg some e1, rfl, rfl, rfl, congrArg some (e2 _ hl), trivial⟩ (Nat.le_refl _) rfl)⟩
theorem beg_in {c : Cfg} {s : Script} {x : Stt} {bank : Int} : WeakE 19 (XSt.st ⟨[(17, .int .i64 0), (16, .int .i64 x.table.length), (15, .sl 15 [] 0 0 x.table.length 8), (8, zNil), (5, .ptr 18 [] 0), (4, .ptr 17 [] 0), (2, .ptr 2 [] 0), (3, .int .i64 bank)], (18, some (e_Script s)) :: (17, some (e_Cfg c)) :: layT c s x, 19⟩) (bgSt c s x bank [] 0).st :=
  weakM [(0, 0), (1, 1), (2, 2), (3, 3), (4, 4), (5, 5), (6, 6), (7, 7), (8, 8), (9, 9), (10, 10), (11, 11), (12, 12), (13, 13), (14, 14), (15, 15), (16, 16), (17, 17), (18, 18)] rfl rfl rfl rfl rfl ⟨(k_is rfl rfl), (k_is rfl rfl), .sl rfl, k_nil rfl, .ptr rfl, .ptr rfl, (k_is rfl rfl), .ptr rfl, trivial⟩ ⟨⟨1, rfl⟩, (k_is rfl rfl), (k_is rfl rfl), (k_is rfl rfl), (k_is rfl rfl), (k_is rfl rfl), (k_is rfl rfl), .agg (.cons (k_is rfl rfl) (.cons (k_is rfl rfl) (.cons (k_is rfl rfl) (.cons (k_is rfl rfl) (.cons (k_is rfl rfl) (.cons (k_is rfl rfl) (.cons (k_is rfl rfl) (.cons (k_is rfl rfl) (.cons (k_is rfl rfl) (.cons (.sl rfl) (.cons (k_is rfl rfl) (.cons (k_is rfl rfl) (.cons (k_is rfl rfl) (.cons (k_is rfl rfl) (.cons (k_is rfl rfl) (.cons (k_is rfl rfl) .nil)))))))))))))))), trivial⟩
theorem gen_beg {c : Cfg} {s : Script} {x : Stt} {bank : Int} (hl0 : x.table.length ≤ 1000000) (hr0 : ∀ r ∈ x.table, r.wf) : Gen Try.prog 60 (cons [e_Cfg c, e_Script s, .ptr 2 [] 0, .int .i64 bank]) (XSt.st ⟨[], layT c s x, 17⟩) (con (.tup [])) (XSt.st ⟨[], layT c s (begF c s x bank), 17⟩) := by
  refine genG mix TG0ok t_banks_begin (Nat.le_of_ble_eq_true rfl) (σ := ⟨[], layT c s x, 17⟩) ?_
  refine Eq.mpr (r_beg0 c s x bank _ _) ?_
  refine loopG mix TG0ok (fun i : Nat => bgSt c s x bank (waitK c bank x.table i) i) (fun i => i ≤ x.table.length ∧ ∀ j, j < i → isBz c bank (ix x.table j) = false) (fun i => x.table.length - i) 0 ⟨Nat.zero_le _, fun j hj => by omega⟩ beg_in ?_
  rintro i ⟨hi, hp⟩
  have stp : waitK c bank x.table (i + 1) = _ := wait_step
  have hwl := wait_len (c := c) (b := bank) (l := x.table) (k := i)
  have hwm : ∀ m, m < (waitK c bank x.table i).length → 0 ≤ ix (waitK c bank x.table i) m ∧ ix (waitK c bank x.table i) m < i := fun m hm => wait_mem (ix_mem hm)
  have hfin : i = x.table.length → waitK c bank x.table i = waitK c bank x.table x.table.length := fun h => by rw [h]
  generalize waitK c bank x.table i = w at stp hwl hwm hfin ⊢
  refine Eq.mpr (r_beg1 c s x bank w i _ _ _) ?_
  by_cases hlt : i < x.table.length
  · have h1 : (i : Int) < (x.table.length : Int) := by omega
    have w1 : IntKind.i64.wrap ((i : Int) + 1) = ((i + 1 : Nat) : Int) := wrap_i64 (by omega) (by omega)
    have hr : (ix x.table i).wf := hr0 _ (ix_mem hlt)
    have nx : ∀ {τ : XSt} (w' : List Int), w' = waitK c bank x.table (i + 1) → isBz c bank (ix x.table i) = false → WeakE 19 τ.st (bgSt c s x bank w' (i + 1)).st → ∃ j, (j ≤ x.table.length ∧ ∀ k, k < j → isBz c bank (ix x.table k) = false) ∧ WeakE 19 τ.st (bgSt c s x bank (waitK c bank x.table j) j).st ∧ x.table.length - j < x.table.length - i := fun w' hw hz hk => ⟨i + 1, ⟨hlt, fun j hj => by
      by_cases hji : j = i
      · subst hji; exact hz
      · exact hp j (by omega)⟩, by rw [← hw]; exact hk, by omega⟩
    have bad : isBz c bank (ix x.table i) = true → begF c s x bank = x := fun h => by
      unfold begF
      rw [if_pos (List.any_eq_true.2 ⟨_, ix_mem hlt, h⟩)]
    have b2 : (w.length + 1) * 8 ≤ 140737488355328 := by omega
    have ha : (ix x.table i).addr ≤ 9223372036854775807 := hr.2.1.2
    simp only [h1, hlt, w1, b2, ha, decide_true, cond_true, Int.toNat_natCast, Nat.le_refl, pl_eq, Nat.beq_refl]
    by_cases hb : bnkI (ix x.table i).addr c.banks = bank
    case neg =>
      simp only [hb, not_false_eq_true, decide_true, cond_true]
      refine nx w (by rw [stp, if_neg (by simp [isWt, hb])]) (by simp [isBz, hb]) ?_
      exact .ofL (weakT ⟨le_is rfl, le_is rfl, le_is rfl, le_is rfl, le_is rfl, le_is rfl, le_is rfl, le_is rfl, trivial⟩ ⟨rfl, rfl, rfl, rfl, rfl, rfl, rfl, rfl, trivial⟩ (Nat.le_succ _) rfl)
    simp only [hb, not_true_eq_false, decide_false, cond_false]
    by_cases hg : (ix x.table i).left > 0
    · simp only [hg, decide_true, cond_true]
      rw [bad (by simp [isBz, hb]; exact hg)]
      exact ⟨.ofL (weakT ⟨le_is rfl, trivial⟩ ⟨rfl, rfl, rfl, rfl, rfl, trivial⟩ (Nat.le_refl _) rfl)⟩
    have nb : isBz c bank (ix x.table i) = false := by simp [isBz, hb]; omega
    simp only [hg, decide_false, cond_false]
    by_cases hz : (ix x.table i).left = 0
    · simp only [hz, decide_true, cond_true]
      refine nx (w ++ [(i : Int)]) (by rw [stp, if_pos (by simp [isWt, hb, hz])]) nb ?_
      exact weakM [(0, 0), (1, 1), (2, 2), (3, 3), (4, 4), (5, 5), (6, 6), (7, 7), (8, 8), (9, 9), (10, 10), (11, 11), (12, 12), (13, 13), (14, 14), (15, 15), (16, 16), (17, 17), (18, 18), (19, 21)] rfl rfl rfl rfl rfl ⟨(k_is rfl rfl), (k_is rfl rfl), .sl rfl, (by show leK _ (.sl 21 [] 0 0 (w.length + 1) 1) (.sl 19 [] 0 0 (w ++ [_]).length 1); rw [app_len]; exact .sl rfl), .ptr rfl, .ptr rfl, (k_is rfl rfl), .ptr rfl, trivial⟩ ⟨(k_apT (fun j hj => by simp only [hj, decide_true, cond_true]; rfl) (by simp; rfl)), (k_is rfl rfl), (k_is rfl rfl), (k_is rfl rfl), (k_is rfl rfl), (k_is rfl rfl), (k_is rfl rfl), .agg (.cons (k_is rfl rfl) (.cons (k_is rfl rfl) (.cons (k_is rfl rfl) (.cons (k_is rfl rfl) (.cons (k_is rfl rfl) (.cons (k_is rfl rfl) (.cons (k_is rfl rfl) (.cons (k_is rfl rfl) (.cons (k_is rfl rfl) (.cons (.sl rfl) (.cons (k_is rfl rfl) (.cons (k_is rfl rfl) (.cons (k_is rfl rfl) (.cons (k_is rfl rfl) (.cons (k_is rfl rfl) (.cons (k_is rfl rfl) .nil)))))))))))))))), trivial⟩
    · simp only [hz, decide_false, cond_false]
      refine nx w (by rw [stp, if_neg (by simp [isWt, hb, hz])]) nb ?_
      exact .ofL (weakT ⟨le_is rfl, le_is rfl, le_is rfl, le_is rfl, le_is rfl, le_is rfl, le_is rfl, le_is rfl, trivial⟩ ⟨rfl, rfl, rfl, rfl, rfl, rfl, rfl, rfl, trivial⟩ (Nat.le_succ _) rfl)
  · have h1 : ¬ (i : Int) < (x.table.length : Int) := by omega
    obtain rfl : i = x.table.length := by omega
    have na : ¬ x.table.any (isBz c bank) = true := fun h => by
      obtain ⟨y, hy, hb⟩ := List.any_eq_true.1 h
      obtain ⟨j, hj, rfl⟩ := List.mem_iff_getElem.1 hy
      have := hp j hj
      rw [ix_lt hj, hb] at this
      cases this
    have ef : begF c s x bank = if w.length = 0 then x else { x with picks := if w.length > 1 then IntKind.i64.wrap (x.picks + 1) else x.picks, lats := IntKind.i64.wrap (x.lats + 1), table := x.table.set (whichF s x w) { ix x.table (whichF s x w) with left := latF s x.lats c.lat } } := by
      unfold begF
      rw [if_neg na, ← hfin rfl]
    rw [ef]
    simp only [h1, decide_false, cond_false]
    by_cases hz : w.length = 0
    · have hz' : (w.length : Int) = 0 := by omega
      rw [if_pos hz]
      simp only [hz', decide_true, cond_true]
      exact ⟨.ofL (weakT ⟨le_is rfl, trivial⟩ ⟨rfl, rfl, rfl, rfl, rfl, trivial⟩ (Nat.le_refl _) rfl)⟩
    have hz' : ¬ (w.length : Int) = 0 := by omega
    rw [if_neg hz]
    simp only [hz', decide_false, cond_false]
    by_cases hm : w.length > 1
    · have hm' : (w.length : Int) > 1 := by omega
      simp only [hm', hm, decide_true, cond_true, if_true]
      refine ⟨(s, x.picks, (w.length : Int)), .rfl, ⟨trivial⟩, ?_⟩
      intro y hy
      replace hy : y = pickF s x.picks w.length := hy
      have hyr := pick_rng s x.picks (n := (w.length : Int)) (by omega)
      rw [← hy] at hyr
      have y1 : 0 ≤ y := hyr.1
      have y2 : y < (w.length : Int) := hyr.2
      have y3 : y.toNat < w.length := by omega
      simp only [y1, y2, y3, decide_true, cond_true, Nat.beq_refl]
      refine ⟨(s, x.lats, c.lat), .rfl, ⟨trivial⟩, ?_⟩
      intro z hz2
      replace hz2 : z = latF s x.lats c.lat := hz2
      obtain ⟨k1, k2⟩ := hwm y.toNat y3
      have k3 : (ix w y.toNat).toNat < x.table.length := by omega
      simp only [k1, k2, k3, decide_true, cond_true, Nat.beq_refl]
      have hwh : whichF s x w = (ix w y.toNat).toNat := by
        unfold whichF
        rw [if_pos hm, ← hy]
      rw [hwh, ← hz2]
      refine ⟨(bg_fin (c := c) (s := s) (w := e_tb 1 e_i64 w) k3 ?_ fun j hj he => ?_).out⟩
      · simp only [Nat.beq_refl, cond_true]; rfl
      · simp only [beq_ne he, cond_false]; rfl
    · have hm' : ¬ (w.length : Int) > 1 := by omega
      have y2 : (0 : Int) < (w.length : Int) := by omega
      have y3 : 0 < w.length := by omega
      simp only [hm', hm, y2, y3, decide_true, decide_false, cond_true, cond_false, if_false]
      refine ⟨(s, x.lats, c.lat), .rfl, ⟨trivial⟩, ?_⟩
      intro z hz2
      replace hz2 : z = latF s x.lats c.lat := hz2
      obtain ⟨k1, k2⟩ := hwm 0 y3
      have k3 : (ix w 0).toNat < x.table.length := by omega
      simp only [k1, k2, k3, decide_true, cond_true, Nat.beq_refl]
      have hwh : whichF s x w = (ix w 0).toNat := by
        unfold whichF
        rw [if_neg hm]; rfl
      rw [hwh, ← hz2]
      refine ⟨(bg_fin (c := c) (s := s) (w := e_tb 1 e_i64 w) k3 ?_ fun j hj he => ?_).out⟩
      · simp only [Nat.beq_refl, cond_true]; rfl
      · simp only [beq_ne he, cond_false]; rfl
end Go.Proofs.Ytbemlndjdbopeaa

/- A cycle of the banks, by the program. -/
namespace Go.Proofs.Ytbemlndjdbopeaa
open Go.Ra
set_option linter.unusedVariables false
set_option linter.unusedSimpArgs false
/-- The first so many banks. -/
def bgK (c : Cfg) (s : Script) (x : Stt) : Nat → Stt
  | 0 => x
  | k + 1 => begF c s (bgK c s x k) (k : Int)
/-- A cycle of the banks. -/
def advF (c : Cfg) (s : Script) (x : Stt) : Stt := if 1 ≤ c.banks ∧ c.banks ≤ 16 ∧ 1 ≤ c.lat ∧ c.lat ≤ 1000 then bgK c s (endF x) c.banks.toNat else x
def endG : List XV → XSt → Option ((XV → XSt → Prop) → Prop) := gkOf (fun q : Cfg × Script × Stt => [.ptr 2 [] 0]) (fun q => ⟨[], layO q.1 q.2.1 q.2.2, 15⟩) (fun q => q.2.2.ok ∧ q.2.2.writes.length + q.2.2.table.length ≤ 1000000) (fun q => (q.1, q.2.1, endF q.2.2)) (fun y => .tup []) (fun y => ⟨[], layT y.1 y.2.1 y.2.2, 17⟩)
def begG : List XV → XSt → Option ((XV → XSt → Prop) → Prop) := gkOf (fun q : Cfg × Script × Stt × Int => [e_Cfg q.1, e_Script q.2.1, .ptr 2 [] 0, .int .i64 q.2.2.2]) (fun q => ⟨[], layT q.1 q.2.1 q.2.2.1, 17⟩) (fun q => q.2.2.1.table.length ≤ 1000000 ∧ (∀ r ∈ q.2.2.1.table, r.wf)) (fun q => (q.1, q.2.1, begF q.1 q.2.1 q.2.2.1 q.2.2.2)) (fun y => .tup []) (fun y => ⟨[], layT y.1 y.2.1 y.2.2, 17⟩)
def TMv : Tab := mkT2 qq cl_banks [] [] [] [(59, endG), (60, begG)]
def lay0 (x : Stt) : List (Nat × Option XV) := [(12, some (e_tb 3 e_Wr x.writes)), (11, some (e_tb 1 e_u8 x.mem)), (10, some (e_tb 1 e_bool x.ebq)), (9, some (e_tb 1 e_bool x.abq)), (8, some (e_tb 1 e_u32 x.aeq)), (7, some (e_tb 1 e_u32 x.sdq)), (6, some (e_tb 8 e_Req x.table)), (5, some (e_tb 5 e_Entry x.saq)), (4, some (e_tb 3 e_Slot x.ldq)), (3, some zX), (2, some (bxO x))]
def layF (x : Stt) : List (Nat × Option XV) := [(3, some zX), (2, some (e_Stt x))]
def mvSt (c : Cfg) (s : Script) (x : Stt) (n : Int) (k : Nat) : XSt := ⟨[(29, .int .i64 k), (28, .int .i64 n), (4, .ptr 14 [] 0), (3, .ptr 13 [] 0), (2, .ptr 2 [] 0)], layT c s x, 17⟩
def movG : List XV → XSt → Option ((XV → XSt → Prop) → Prop) := gkOf (fun q : Cfg × Script × Stt => [e_Cfg q.1, e_Script q.2.1, .ptr 2 [] 0]) (fun q => ⟨[], lay0 q.2.2, 13⟩) (fun q => q.2.2.ok ∧ q.2.2.writes.length + q.2.2.table.length ≤ 1000000) (fun q => advF q.1 q.2.1 q.2.2) (fun y => .tup []) (fun y => ⟨[], layF y, 17⟩)
def TAd : Tab := mkT2 qq cl_banks [] gl_slices [] [(49, movG)]
theorem r_mov0 (c : Cfg) (s : Script) (x : Stt) (v : XV) (τ : XSt) : (goG Try.prog TMv [] 13 v τ (.run c_banks_Move) [] ⟨envX 0 [e_Cfg c, e_Script s, .ptr 2 [] 0], lay0 x, 13⟩) = (let q1 : Bool := decide (Cfg.banks c < 1);
let q2 : Bool := !q1;
let q3 : Bool := decide (Cfg.banks c > 16);
let q4 : Bool := bif q1 then true else q3;
let q5
 : Bool := !q4;
let q6 : Bool := decide (Cfg.lat c < 1);
let q7 : Bool := bif q4 then true else q6;
let q8 : Bool := !q7;
let q9 : Bool := decide (Cfg.lat c > 1000);
let
 q10 : Bool := bif q7 then true else q9;
let q11 : XV := .ptr 13 [9] 9;
let q12 : XV := .bool q7;
let q13 : XV := .bool q4;
let q14 : XV := .ptr 13 [6] 6;
let q15
 : XV := .bool q1;
let q16 : XV := .ptr 14 [] 0;
let q17 : XV := .ptr 13 [] 0;
let q18 : XV := .ptr 2 [] 0;
let q19 : List (Nat × XV) := [(2, q18)];
let q20 : List
 (Nat × XV) := (24, .bool q10) :: (23, .opt q8 (.bool q9)) :: (22, .opt q8 (.int .i64 (Cfg.lat c))) :: (21, .opt q8 q11) :: (20, q12) :: (19, q12) :: (18, .opt q5
 (.bool q6)) :: (17, .opt q5 (.int .i64 (Cfg.lat c))) :: (16, .opt q5 q11) :: (15, q13) :: (14, q13) :: (13, .opt q2 (.bool q3)) :: (12, .opt q2 (.int .i64 (Cfg.banks
 c))) :: (11, .opt q2 q14) :: (10, q15) :: (9, q15) :: (8, .int .i64 (Cfg.banks c)) :: (7, q14) :: (4, q16) :: (3, q17) :: (0, e_Cfg c) :: (1, e_Script s) :: q19;
let
 q21 : List XV := [.int .i64 0, .int .i64 0, .int .i64 0];
let q22 : XV := .agg 3 q21;
let q23 : XV := .agg 38 [.tab 16 1 fun x => .int .u32 0, .tab 16 1 fun x =>
 .int .i64 0, q22, .int .i64 0, .bool false, .int .i64 0];
let q24 : XV := .row true 0 0 fun x => .unk;
let q25 : XV := .agg 92 (.int .i64 0 :: q23 :: q23 :: q24
 :: q24 :: q24 :: q24 :: q24 :: q24 :: q24 :: q24 :: q24 :: q22 :: q21);
let q26 : List (Nat × Option XV) := [(14, some (e_Script s)), (13, some (e_Cfg c)), (12,
 some (e_tb 3 e_Wr (Stt.writes x))), (11, some (e_tb 1 e_u8 (Stt.mem x))), (10, some (e_tb 1 e_bool (Stt.ebq x))), (9, some (e_tb 1 e_bool (Stt.abq x))), (8, some
 (e_tb 1 e_u32 (Stt.aeq x))), (7, some (e_tb 1 e_u32 (Stt.sdq x))), (6, some (e_tb 8 e_Req (Stt.table x))), (5, some (e_tb 5 e_Entry (Stt.saq x))), (4, some (e_tb
 3 e_Slot (Stt.ldq x))), (3, some q25), (2, some (.agg 92 [.int .i64 (Stt.cycle x), e_Side (Stt.a x), e_Side (Stt.e x), .sl 4 [] 0 0 (List.length (Stt.ldq x)) 3,
 .sl 7 [] 0 0 (List.length (Stt.sdq x)) 1, .sl 8 [] 0 0 (List.length (Stt.aeq x)) 1, .sl 9 [] 0 0 (List.length (Stt.abq x)) 1, .sl 10 [] 0 0 (List.length (Stt.ebq
 x)) 1, .sl 5 [] 0 0 (List.length (Stt.saq x)) 5, .sl 6 [] 0 0 (List.length (Stt.table x)) 8, .sl 11 [] 0 0 (List.length (Stt.mem x)) 1, .sl 12 [] 0 0 (List.length
 (Stt.writes x)) 3, e_Trp (Stt.trap x), .int .i64 (Stt.lats x), .int .i64 (Stt.picks x), .int .i64 (Stt.tags x)]))];
let q27 : List XV := [q18];
let q28 : Cfg × Script
 × Stt → XV := fun (s : Cfg × Script × Stt) => e_tb 8 e_Req (Stt.table (Prod.snd (Prod.snd s)));
let q29 : Cfg × Script × Stt → XV := fun (s : Cfg × Script × Stt)
 => .int .i64 (Stt.cycle (Prod.snd (Prod.snd s)));
let q30 : Cfg × Script × Stt → Nat := fun (s : Cfg × Script × Stt) => List.length (Stt.table (Prod.snd (Prod.snd
 s)));
let q31 : Cfg × Script × Stt → Nat := fun (s : Cfg × Script × Stt) => List.length (Stt.writes (Prod.snd (Prod.snd s)));
let q32 : Cfg × Script × Stt → List
 XV := fun (s : Cfg × Script × Stt) => [e_Trp (Stt.trap (Prod.snd (Prod.snd s))), .int .i64 (Stt.lats (Prod.snd (Prod.snd s))), .int .i64 (Stt.picks (Prod.snd (Prod.snd
 s))), .int .i64 (Stt.tags (Prod.snd (Prod.snd s)))];
bif bif q1 then true else q2 then bif bif q4 then true else q5 then bif bif q7 then true else q8 then bif q10
 then EndAt 13 (.tup []) (XSt.mk q20 q26 15) v τ else ∃ (s : Cfg × Script × Stt), ArgsLe q27 q27 ∧ MemIs (XSt.mk ((25, q18) :: q20) q26 15) (XSt.mk [] [(14, some
 (e_Script (Prod.fst (Prod.snd s)))), (13, some (e_Cfg (Prod.fst s))), (12, some (e_tb 3 e_Wr (Stt.writes (Prod.snd (Prod.snd s))))), (11, some (e_tb 1 e_u8 (Stt.mem
 (Prod.snd (Prod.snd s))))), (10, some (e_tb 1 e_bool (Stt.ebq (Prod.snd (Prod.snd s))))), (9, some (e_tb 1 e_bool (Stt.abq (Prod.snd (Prod.snd s))))), (8, some (e_tb
 1 e_u32 (Stt.aeq (Prod.snd (Prod.snd s))))), (7, some (e_tb 1 e_u32 (Stt.sdq (Prod.snd (Prod.snd s))))), (6, some (q28 s)), (5, some (e_tb 5 e_Entry (Stt.saq (Prod.snd
 (Prod.snd s))))), (4, some (e_tb 3 e_Slot (Stt.ldq (Prod.snd (Prod.snd s))))), (3, some q25), (2, some (.agg 92 (q29 s :: e_Side (Stt.a (Prod.snd (Prod.snd s)))
 :: e_Side (Stt.e (Prod.snd (Prod.snd s))) :: .sl 4 [] 0 0 (List.length (Stt.ldq (Prod.snd (Prod.snd s)))) 3 :: .sl 7 [] 0 0 (List.length (Stt.sdq (Prod.snd (Prod.snd
 s)))) 1 :: .sl 8 [] 0 0 (List.length (Stt.aeq (Prod.snd (Prod.snd s)))) 1 :: .sl 9 [] 0 0 (List.length (Stt.abq (Prod.snd (Prod.snd s)))) 1 :: .sl 10 [] 0 0 (List.length
 (Stt.ebq (Prod.snd (Prod.snd s)))) 1 :: .sl 5 [] 0 0 (List.length (Stt.saq (Prod.snd (Prod.snd s)))) 5 :: .sl 6 [] 0 0 (q30 s) 8 :: .sl 11 [] 0 0 (List.length (Stt.mem
 (Prod.snd (Prod.snd s)))) 1 :: .sl 12 [] 0 0 (q31 s) 3 :: q32 s)))] 15) ∧ PreIs (Stt.ok (Prod.snd (Prod.snd s)) ∧ q31 s + q30 s ≤ 1000000) ∧ ∀ (y : Cfg × Script
 × Stt), y = (Prod.fst s, Prod.fst (Prod.snd s), endF (Prod.snd (Prod.snd s))) → LoopAt (Ok Try.prog (Tab.q TMv)) c_banks_Move_l1 (XSt.mk ((29, .int .i64 0) :: (28,
 .int .i64 (Cfg.banks (Prod.fst y))) :: (4, q16) :: (3, q17) :: q19) [(15, some (q28 y)), (14, some (e_Script (Prod.fst (Prod.snd y)))), (13, some (e_Cfg (Prod.fst
 y))), (3, some q25), (2, some (.agg 92 (q29 y :: e_Side (Stt.a (Prod.snd (Prod.snd y))) :: e_Side (Stt.e (Prod.snd (Prod.snd y))) :: e_row 3 e_Slot (Stt.ldq (Prod.snd
 (Prod.snd y))) :: e_row 1 e_u32 (Stt.sdq (Prod.snd (Prod.snd y))) :: e_row 1 e_u32 (Stt.aeq (Prod.snd (Prod.snd y))) :: e_row 1 e_bool (Stt.abq (Prod.snd (Prod.snd
 y))) :: e_row 1 e_bool (Stt.ebq (Prod.snd (Prod.snd y))) :: e_row 5 e_Entry (Stt.saq (Prod.snd (Prod.snd y))) :: .sl 15 [] 0 0 (q30 y) 8 :: e_row 1 e_u8 (Stt.mem
 (Prod.snd (Prod.snd y))) :: e_row 3 e_Wr (Stt.writes (Prod.snd (Prod.snd y))) :: q32 y)))] 17) [Frm.blk 0] (finGR [] 13 v τ) else False else False
else False) :=
 by kernel_rfl
theorem r_mov1 (c : Cfg) (s : Script) (x : Stt) (n : Int) (k : Nat) (v : XV) (τ : XSt) (A : XSt → Prop) : (goG Try.prog TMv [] 13 v τ (.run c_banks_Move_l1) [.lp c_banks_Move_l1 A, .blk 0] (mvSt c s x n k)) = (let q1 : Bool := decide ((↑k : Int) < n);
let q2 : XV := .ptr 2 [] 0;
let q3 : Cfg × Script × Stt × Int → Script := fun (s : Cfg × Script × Stt × Int) => Prod.fst
 (Prod.snd s);
let q4 : Cfg × Script × Stt × Int → XV := fun (s : Cfg × Script × Stt × Int) => e_Script (q3 s);
let q5 : Cfg × Script × Stt × Int → Int := fun (s
 : Cfg × Script × Stt × Int) => Prod.snd (Prod.snd (Prod.snd s));
let q6 : List (Nat × XV) := [(28, .int .i64 n), (4, .ptr 14 [] 0), (3, .ptr 13 [] 0), (2, q2)];
let
 q7 : List (Nat × XV) := (30, .bool q1) :: (29, .int .i64 (↑k : Int)) :: q6;
let q8 : List XV := [.int .i64 0, .int .i64 0, .int .i64 0];
let q9 : XV := .agg 3 q8;
let
 q10 : XV := .agg 38 [.tab 16 1 fun x => .int .u32 0, .tab 16 1 fun x => .int .i64 0, q9, .int .i64 0, .bool false, .int .i64 0];
let q11 : XV := .row true 0 0 fun
 x => .unk;
let q12 : XV := .agg 92 (.int .i64 0 :: q10 :: q10 :: q11 :: q11 :: q11 :: q11 :: q11 :: q11 :: q11 :: q11 :: q11 :: q9 :: q8);
let q13 : List (Nat ×
 Option XV) := [(15, some (e_tb 8 e_Req (Stt.table x))), (14, some (e_Script s)), (13, some (e_Cfg c)), (3, some q12), (2, some (.agg 92 [.int .i64 (Stt.cycle x),
 e_Side (Stt.a x), e_Side (Stt.e x), e_row 3 e_Slot (Stt.ldq x), e_row 1 e_u32 (Stt.sdq x), e_row 1 e_u32 (Stt.aeq x), e_row 1 e_bool (Stt.abq x), e_row 1 e_bool
 (Stt.ebq x), e_row 5 e_Entry (Stt.saq x), .sl 15 [] 0 0 (List.length (Stt.table x)) 8, e_row 1 e_u8 (Stt.mem x), e_row 3 e_Wr (Stt.writes x), e_Trp (Stt.trap x),
 .int .i64 (Stt.lats x), .int .i64 (Stt.picks x), .int .i64 (Stt.tags x)]))];
let q14 : Cfg × Script × Stt × Int → Stt := fun (s : Cfg × Script × Stt × Int) => Prod.fst
 (Prod.snd (Prod.snd s));
let q15 : Cfg × Script × Stt × Int → List Req := fun (s : Cfg × Script × Stt × Int) => Stt.table (q14 s);
let q16 : Cfg × Script × Stt ×
 Int → Nat := fun (s : Cfg × Script × Stt × Int) => List.length (q15 s);
bif q1 then ∃ (s_1 : Cfg × Script × Stt × Int), ArgsLe [e_Cfg c, e_Script s, q2, .int .i64
 (↑k : Int)] [e_Cfg (Prod.fst s_1), q4 s_1, q2, .int .i64 (q5 s_1)] ∧ MemIs (XSt.mk ((35, .int .i64 (↑k : Int)) :: (34, q2) :: (33, e_Script s) :: (32, e_Cfg c) ::
 (6, .int .i64 (↑k : Int)) :: (31, .int .i64 (↑k : Int)) :: q7) q13 17) (XSt.mk [] [(15, some (e_tb 8 e_Req (q15 s_1))), (14, some (q4 s_1)), (13, some (e_Cfg (Prod.fst
 s_1))), (3, some q12), (2, some (.agg 92 [.int .i64 (Stt.cycle (q14 s_1)), e_Side (Stt.a (q14 s_1)), e_Side (Stt.e (q14 s_1)), e_row 3 e_Slot (Stt.ldq (q14 s_1)),
 e_row 1 e_u32 (Stt.sdq (q14 s_1)), e_row 1 e_u32 (Stt.aeq (q14 s_1)), e_row 1 e_bool (Stt.abq (q14 s_1)), e_row 1 e_bool (Stt.ebq (q14 s_1)), e_row 5 e_Entry (Stt.saq
 (q14 s_1)), .sl 15 [] 0 0 (q16 s_1) 8, e_row 1 e_u8 (Stt.mem (q14 s_1)), e_row 3 e_Wr (Stt.writes (q14 s_1)), e_Trp (Stt.trap (q14 s_1)), .int .i64 (Stt.lats (q14
 s_1)), .int .i64 (Stt.picks (q14 s_1)), .int .i64 (Stt.tags (q14 s_1))]))] 17) ∧ PreIs (q16 s_1 ≤ 1000000 ∧ ∀ (r : Req), r ∈ q15 s_1 → Req.wf r) ∧ ∀ (y : Cfg × Script
 × Stt), y = (Prod.fst s_1, q3 s_1, begF (Prod.fst s_1) (q3 s_1) (q14 s_1) (q5 s_1)) → A (XSt.mk ((29, .int .i64 (IntKind.wrap .i64 ((↑k : Int) + (1 : Int)))) ::
 q6) [(15, some (e_tb 8 e_Req (Stt.table (Prod.snd (Prod.snd y))))), (14, some (e_Script (Prod.fst (Prod.snd y)))), (13, some (e_Cfg (Prod.fst y))), (3, some q12),
 (2, some (.agg 92 [.int .i64 (Stt.cycle (Prod.snd (Prod.snd y))), e_Side (Stt.a (Prod.snd (Prod.snd y))), e_Side (Stt.e (Prod.snd (Prod.snd y))), e_row 3 e_Slot
 (Stt.ldq (Prod.snd (Prod.snd y))), e_row 1 e_u32 (Stt.sdq (Prod.snd (Prod.snd y))), e_row 1 e_u32 (Stt.aeq (Prod.snd (Prod.snd y))), e_row 1 e_bool (Stt.abq (Prod.snd
 (Prod.snd y))), e_row 1 e_bool (Stt.ebq (Prod.snd (Prod.snd y))), e_row 5 e_Entry (Stt.saq (Prod.snd (Prod.snd y))), .sl 15 [] 0 0 (List.length (Stt.table (Prod.snd
 (Prod.snd y)))) 8, e_row 1 e_u8 (Stt.mem (Prod.snd (Prod.snd y))), e_row 3 e_Wr (Stt.writes (Prod.snd (Prod.snd y))), e_Trp (Stt.trap (Prod.snd (Prod.snd y))), .int
 .i64 (Stt.lats (Prod.snd (Prod.snd y))), .int .i64 (Stt.picks (Prod.snd (Prod.snd y))), .int .i64 (Stt.tags (Prod.snd (Prod.snd y)))]))] 17)
else EndAt 13 (.tup
 []) (XSt.mk q7 q13 17) v τ) := by kernel_rfl
theorem r_adv (c : Cfg) (s : Script) (x : Stt) (r : XV) : (goQ Try.prog TAd [(.cell 6 .true 92)] r (.run c_banks_Advance) [] ⟨envX 0 [e_Cfg c, e_Script s, e_Stt x], [], 0⟩) = (let q1 : Nat := List.length (Stt.ldq x) * 16;
let q2 : Nat := List.length (Stt.saq x) * 32;
let q3 : Nat := List.length (Stt.table x) * 64;
let q4 : Nat := List.length
 (Stt.sdq x) * 4;
let q5 : Nat := List.length (Stt.aeq x) * 4;
let q6 : Nat := List.length (Stt.abq x) * 1;
let q7 : Nat := List.length (Stt.ebq x) * 1;
let q8 :
 Nat := List.length (Stt.mem x) * 1;
let q9 : Nat := List.length (Stt.writes x) * 24;
let q10 : XV := .ptr 2 [] 0;
let q11 : List XV := [q10];
let q12 : XV := .ptr
 2 [11] 85;
let q13 : XV := .ptr 2 [10] 84;
let q14 : XV := .sl 12 [] 0 0 (List.length (Stt.writes x)) 3;
let q15 : XV := .sl 11 [] 0 0 (List.length (Stt.mem x))
 1;
let q16 : XV := .ptr 2 [7] 81;
let q17 : XV := .ptr 2 [6] 80;
let q18 : XV := .ptr 2 [5] 79;
let q19 : XV := .ptr 2 [4] 78;
let q20 : XV := .sl 10 [] 0 0 (List.length
 (Stt.ebq x)) 1;
let q21 : XV := .sl 9 [] 0 0 (List.length (Stt.abq x)) 1;
let q22 : XV := .sl 8 [] 0 0 (List.length (Stt.aeq x)) 1;
let q23 : XV := .sl 7 [] 0 0
 (List.length (Stt.sdq x)) 1;
let q24 : XV := .ptr 2 [9] 83;
let q25 : XV := .ptr 2 [8] 82;
let q26 : XV := .ptr 2 [3] 77;
let q27 : XV := .sl 6 [] 0 0 (List.length
 (Stt.table x)) 8;
let q28 : XV := .sl 5 [] 0 0 (List.length (Stt.saq x)) 5;
let q29 : XV := .sl 4 [] 0 0 (List.length (Stt.ldq x)) 3;
let q30 : List XV := [.int
 .i64 0, .int .i64 0, .int .i64 0];
let q31 : XV := .agg 3 q30;
let q32 : XV := .agg 38 [.tab 16 1 fun x => .int .u32 0, .tab 16 1 fun x => .int .i64 0, q31, .int
 .i64 0, .bool false, .int .i64 0];
let q33 : XV := .row true 0 0 fun x => .unk;
let q34 : XV := .agg 92 (.int .i64 0 :: q32 :: q32 :: q33 :: q33 :: q33 :: q33 ::
 q33 :: q33 :: q33 :: q33 :: q33 :: q31 :: q30);
let q35 : Cfg × Script × Stt → Nat := fun (s : Cfg × Script × Stt) => List.length (Stt.table (Prod.snd (Prod.snd
 s)));
let q36 : Cfg × Script × Stt → Nat := fun (s : Cfg × Script × Stt) => List.length (Stt.writes (Prod.snd (Prod.snd s)));
bif decide (q1 ≤ 140737488355328) then
 bif allN (fun i => true) (List.length (Stt.ldq x)) then bif decide (q2 ≤ 140737488355328) then bif allN (fun i => true) (List.length (Stt.saq x)) then bif decide
 (q3 ≤ 140737488355328) then bif allN (fun i => true) (List.length (Stt.table x)) then bif decide (q4 ≤ 140737488355328) then bif allN (fun i => true) (List.length
 (Stt.sdq x)) then bif decide (q5 ≤ 140737488355328) then bif allN (fun i => true) (List.length (Stt.aeq x)) then bif decide (q6 ≤ 140737488355328) then bif allN
 (fun i => true) (List.length (Stt.abq x)) then bif decide (q7 ≤ 140737488355328) then bif allN (fun i => true) (List.length (Stt.ebq x)) then bif decide (q8 ≤ 140737488355328)
 then bif allN (fun i => true) (List.length (Stt.mem x)) then bif decide (q9 ≤ 140737488355328) then bif allN (fun i => true) (List.length (Stt.writes x)) then ∃
 (s_1 : Cfg × Script × Stt), ArgsLe (e_Cfg c :: e_Script s :: q11) (e_Cfg (Prod.fst s_1) :: e_Script (Prod.fst (Prod.snd s_1)) :: q11) ∧ MemIs (XSt.mk [(44, e_Script
 s), (43, e_Cfg c), (42, q12), (41, q13), (40, q14), (39, e_row 3 e_Wr (Stt.writes x)), (38, q12), (37, q15), (36, e_row 1 e_u8 (Stt.mem x)), (35, q13), (34, q16),
 (33, q17), (32, q18), (31, q19), (30, q20), (29, e_row 1 e_bool (Stt.ebq x)), (28, q16), (27, q21), (26, e_row 1 e_bool (Stt.abq x)), (25, q17), (24, q22), (23,
 e_row 1 e_u32 (Stt.aeq x)), (22, q18), (21, q23), (20, e_row 1 e_u32 (Stt.sdq x)), (19, q19), (18, q24), (17, q25), (16, q26), (15, q27), (14, e_row 8 e_Req (Stt.table
 x)), (13, q24), (12, q28), (11, e_row 5 e_Entry (Stt.saq x)), (10, q25), (9, q29), (8, e_row 3 e_Slot (Stt.ldq x)), (7, q26), (6, .ptr 3 [] 0), (5, q10), (4, .ptr
 1 [] 0), (3, .ptr 0 [] 0), (0, e_Cfg c), (1, e_Script s), (2, e_Stt x)] [(12, some (.tab (List.length (Stt.writes x)) 3 fun i => e_Wr (ix (Stt.writes x) i))), (11,
 some (.tab (List.length (Stt.mem x)) 1 fun i => e_u8 (ix (Stt.mem x) i))), (10, some (.tab (List.length (Stt.ebq x)) 1 fun i => e_bool (ix (Stt.ebq x) i))), (9,
 some (.tab (List.length (Stt.abq x)) 1 fun i => e_bool (ix (Stt.abq x) i))), (8, some (.tab (List.length (Stt.aeq x)) 1 fun i => e_u32 (ix (Stt.aeq x) i))), (7,
 some (.tab (List.length (Stt.sdq x)) 1 fun i => e_u32 (ix (Stt.sdq x) i))), (6, some (.tab (List.length (Stt.table x)) 8 fun i => e_Req (ix (Stt.table x) i))), (5,
 some (.tab (List.length (Stt.saq x)) 5 fun i => e_Entry (ix (Stt.saq x) i))), (4, some (.tab (List.length (Stt.ldq x)) 3 fun i => e_Slot (ix (Stt.ldq x) i))), (3,
 some q34), (2, some (.agg 92 [.int .i64 (Stt.cycle x), e_Side (Stt.a x), e_Side (Stt.e x), q29, q23, q22, q21, q20, q28, q27, q15, q14, e_Trp (Stt.trap x), .int
 .i64 (Stt.lats x), .int .i64 (Stt.picks x), .int .i64 (Stt.tags x)])), (1, some (e_Script s)), (0, some (e_Cfg c))] 13) (XSt.mk [] [(12, some (e_tb 3 e_Wr (Stt.writes
 (Prod.snd (Prod.snd s_1))))), (11, some (e_tb 1 e_u8 (Stt.mem (Prod.snd (Prod.snd s_1))))), (10, some (e_tb 1 e_bool (Stt.ebq (Prod.snd (Prod.snd s_1))))), (9, some
 (e_tb 1 e_bool (Stt.abq (Prod.snd (Prod.snd s_1))))), (8, some (e_tb 1 e_u32 (Stt.aeq (Prod.snd (Prod.snd s_1))))), (7, some (e_tb 1 e_u32 (Stt.sdq (Prod.snd (Prod.snd
 s_1))))), (6, some (e_tb 8 e_Req (Stt.table (Prod.snd (Prod.snd s_1))))), (5, some (e_tb 5 e_Entry (Stt.saq (Prod.snd (Prod.snd s_1))))), (4, some (e_tb 3 e_Slot
 (Stt.ldq (Prod.snd (Prod.snd s_1))))), (3, some q34), (2, some (.agg 92 [.int .i64 (Stt.cycle (Prod.snd (Prod.snd s_1))), e_Side (Stt.a (Prod.snd (Prod.snd s_1))),
 e_Side (Stt.e (Prod.snd (Prod.snd s_1))), .sl 4 [] 0 0 (List.length (Stt.ldq (Prod.snd (Prod.snd s_1)))) 3, .sl 7 [] 0 0 (List.length (Stt.sdq (Prod.snd (Prod.snd
 s_1)))) 1, .sl 8 [] 0 0 (List.length (Stt.aeq (Prod.snd (Prod.snd s_1)))) 1, .sl 9 [] 0 0 (List.length (Stt.abq (Prod.snd (Prod.snd s_1)))) 1, .sl 10 [] 0 0 (List.length
 (Stt.ebq (Prod.snd (Prod.snd s_1)))) 1, .sl 5 [] 0 0 (List.length (Stt.saq (Prod.snd (Prod.snd s_1)))) 5, .sl 6 [] 0 0 (q35 s_1) 8, .sl 11 [] 0 0 (List.length (Stt.mem
 (Prod.snd (Prod.snd s_1)))) 1, .sl 12 [] 0 0 (q36 s_1) 3, e_Trp (Stt.trap (Prod.snd (Prod.snd s_1))), .int .i64 (Stt.lats (Prod.snd (Prod.snd s_1))), .int .i64 (Stt.picks
 (Prod.snd (Prod.snd s_1))), .int .i64 (Stt.tags (Prod.snd (Prod.snd s_1)))]))] 13) ∧ PreIs (Stt.ok (Prod.snd (Prod.snd s_1)) ∧ q36 s_1 + q35 s_1 ≤ 1000000) ∧ ∀ (y
 : Stt), y = advF (Prod.fst s_1) (Prod.fst (Prod.snd s_1)) (Prod.snd (Prod.snd s_1)) → ResLe (e_Stt y) r else False else False else False else False else False else
 False else False else False else False else False else False else False else False else False else False else False else False
else False) := by kernel_rfl
/-- What stays as it is when a bank begins. -/
def BInv (x y : Stt) : Prop := y.wf ∧ y.ldq = x.ldq ∧ y.sdq = x.sdq ∧ y.aeq = x.aeq ∧ y.abq = x.abq ∧ y.ebq = x.ebq ∧ y.saq = x.saq ∧ y.table.length = x.table.length ∧ y.mem = x.mem ∧ y.writes = x.writes ∧ y.a = x.a ∧ y.e = x.e ∧ y.trap = x.trap ∧ y.tags = x.tags ∧ y.cycle = x.cycle
theorem BInv.refl {x : Stt} (h : x.wf) : BInv x x := ⟨h, rfl, rfl, rfl, rfl, rfl, rfl, rfl, rfl, rfl, rfl, rfl, rfl, rfl, rfl⟩
theorem BInv.trans {x y z : Stt} (h : BInv x y) (k : BInv y z) : BInv x z := by
  obtain ⟨_, a2, a3, a4, a5, a6, a7, a8, a9, a10, a11, a12, a13, a14, a15⟩ := h
  obtain ⟨b1, b2, b3, b4, b5, b6, b7, b8, b9, b10, b11, b12, b13, b14, b15⟩ := k
  exact ⟨b1, b2.trans a2, b3.trans a3, b4.trans a4, b5.trans a5, b6.trans a6, b7.trans a7, b8.trans a8, b9.trans a9, b10.trans a10, b11.trans a11, b12.trans a12, b13.trans a13, b14.trans a14, b15.trans a15⟩
theorem wait_all {c : Cfg} {b : Int} {l : List Req} {m : Nat} (h : m < (waitK c b l l.length).length) : 0 ≤ ix (waitK c b l l.length) m ∧ (ix (waitK c b l l.length) m).toNat < l.length := by
  have := wait_mem (ix_mem h)
  omega
theorem which_lt {c : Cfg} {s : Script} {x : Stt} {b : Int} (h : ¬ (waitK c b x.table x.table.length).length = 0) : whichF s x (waitK c b x.table x.table.length) < x.table.length := by
  unfold whichF
  split
  · rename_i hm
    have := pick_rng s x.picks (n := ((waitK c b x.table x.table.length).length : Int)) (by omega)
    exact (wait_all (by omega)).2
  · exact (wait_all (m := 0) (by omega)).2
theorem lat_i64 (s : Script) (i most : Int) : i64R (latF s i most) := by
  have := nth_bnd s.lats i most
  unfold latF i64R
  omega
theorem beg_inv {c : Cfg} {s : Script} {x : Stt} {b : Int} (hw : x.wf) : BInv x (begF c s x b) := by
  unfold begF
  split
  · exact .refl hw
  · split
    · exact .refl hw
    · rename_i hz
      obtain ⟨a1, a2, a3, a4, a5, a6, a7, a8, a9, a10, a11, a12, a13, a14, a15, a16⟩ := hw
      have hk := which_lt (s := s) hz
      generalize whichF s x (waitK c b x.table x.table.length) = k at hk ⊢
      refine ⟨⟨a1, a2, a3, a4, a5, a6, a7, a8, a9, ⟨fun y hy => ?_, ?_⟩, a11, a12, a13, w64_rng _, ?_, a16⟩, rfl, rfl, rfl, rfl, rfl, rfl, List.length_set, rfl, rfl, rfl, rfl, rfl, rfl, rfl⟩
      · rcases List.mem_or_eq_of_mem_set hy with hy | rfl
        · exact a10.1 y hy
        · have := a10.1 _ (ix_mem hk)
          exact ⟨this.1, this.2.1, this.2.2.1, this.2.2.2.1, lat_i64 _ _ _, this.2.2.2.2.2⟩
      · show (x.table.set k _).length * 64 ≤ _
        rw [List.length_set]; exact a10.2
      · show i64R (if _ then _ else _)
        split
        · exact w64_rng _
        · exact a15
theorem bgK_inv {c : Cfg} {s : Script} {x : Stt} (hw : x.wf) : ∀ k, BInv x (bgK c s x k)
  | 0 => .refl hw
  | k + 1 => (bgK_inv hw k).trans (beg_inv (bgK_inv hw k).1)
theorem end_inv {x : Stt} (hw : x.wf) (hm : x.mem.length ≤ 1000000) (hb : x.writes.length + x.table.length ≤ 1000000) : (endF x).wf ∧ (endF x).ldq.length = x.ldq.length ∧ (endF x).sdq = x.sdq ∧ (endF x).aeq = x.aeq ∧ (endF x).abq = x.abq ∧ (endF x).ebq = x.ebq ∧ (endF x).saq.length ≤ x.saq.length ∧ (endF x).mem.length = x.mem.length ∧ (endF x).writes.length + (endF x).table.length ≤ x.writes.length + x.table.length := by
  have h := endL_inv hw hm hb (Nat.le_refl x.table.length)
  rw [List.take_length] at h
  unfold endF
  generalize endL x.table (x, []) = p at h ⊢
  obtain ⟨⟨a1, a2, a3, a4, a5, a6, a7, a8, a9, a10, a11, a12, a13⟩, b2, b3, b4, b5, b6, b7, b8, b9, b10, _, _, b11⟩ := h
  exact ⟨⟨a1, a2, a3, a4, a5, a6, a7, a8, a9, ⟨b11, by show p.2.length * 64 ≤ _; omega⟩, a11, a12, a13⟩, b2, b3, b4, b5, b6, b7, b9, b10⟩
/-- A state that is not too long, whatever is written. -/
def goodS (x : Stt) : Prop := x.ok ∧ x.writes.length + x.table.length ≤ 1000000
theorem end_good {x : Stt} (h : goodS x) : goodS (endF x) := by
  obtain ⟨ho, hb⟩ := h
  have hw : x.wf := ho.1
  obtain ⟨c1, c2, c3, c4, c5, c6, c7, c8, c9⟩ := end_inv hw ho.2.2.2.2.2.2.2.2.1 hb
  obtain ⟨_, b1, b2, b3, b4, b5, b6, b7, b8, b9⟩ := ho
  refine ⟨⟨c1, by omega, by rw [c3]; exact b2, by rw [c4]; exact b3, by rw [c5]; exact b4, by rw [c6]; exact b5, by omega, by omega, by omega, by omega⟩, by omega⟩
theorem binv_good {x y : Stt} (h : goodS x) (hb : BInv x y) : goodS y := by
  obtain ⟨⟨_, b1, b2, b3, b4, b5, b6, b7, b8, b9⟩, hl⟩ := h
  obtain ⟨c1, c2, c3, c4, c5, c6, c7, c8, c9, c10, _⟩ := hb
  exact ⟨⟨c1, by rw [c2]; exact b1, by rw [c3]; exact b2, by rw [c4]; exact b3, by rw [c5]; exact b4, by rw [c6]; exact b5, by rw [c7]; exact b6, by rw [c8]; exact b7, by rw [c9]; exact b8, by rw [c10]; exact b9⟩, by rw [c8, c10]; exact hl⟩
theorem gk_end : GkOk Try.prog qq (59, endG) := gkOf_ok (by decide) fun ⟨c, s, x⟩ h => gen_end h.1 h.2
theorem gk_beg : GkOk Try.prog qq (60, begG) := gkOf_ok (by decide) fun ⟨c, s, x, b⟩ h => gen_beg h.1 h.2
theorem TMvok : TabOk Try.prog TMv := mkT2_ok clok_banks trivial trivial trivial ⟨gk_end, gk_beg, trivial⟩
theorem mov_out {c : Cfg} {s : Script} {x : Stt} : EndAt 13 (.tup []) ⟨[], layT c s x, 17⟩ (.tup []) ⟨[], layF x, 17⟩ :=
  ⟨.frz (frz_env (L := [15]) rfl ⟨rfl, .same, trivial⟩ ⟨rfl, .same, rfl, .agg (.cons .same (.cons .same (.cons .same (.cons .same (.cons .same (.cons .same (.cons .same (.cons .same (.cons .same (.cons (fz_row rfl rfl) (.cons .same (.cons .same (.cons .same (.cons .same (.cons .same (.cons .same .nil)))))))))))))))), trivial⟩)⟩
theorem mov_out0 {c : Cfg} {s : Script} {x : Stt} : EndAt 13 (.tup []) ⟨[], layO c s x, 15⟩ (.tup []) ⟨[], layF x, 17⟩ :=
  ⟨(WeakE.frz (frz_env (L := [4, 5, 6, 7, 8, 9, 10, 11, 12]) (σ := ⟨[(0, .tup [])], layO c s x, 15⟩) (τ := ⟨[(0, .tup [])], layF x, 15⟩) rfl ⟨rfl, .same, trivial⟩ ⟨rfl, .same, rfl, .agg (.cons .same (.cons .same (.cons .same (.cons (fz_row rfl rfl) (.cons (fz_row rfl rfl) (.cons (fz_row rfl rfl) (.cons (fz_row rfl rfl) (.cons (fz_row rfl rfl) (.cons (fz_row rfl rfl) (.cons (fz_row rfl rfl) (.cons (fz_row rfl rfl) (.cons (fz_row rfl rfl) (.cons .same (.cons .same (.cons .same (.cons .same .nil)))))))))))))))), trivial⟩)).trans (.of (weakX (σ := ⟨[(0, .tup [])], layF x, 15⟩) (τ := ⟨[(0, .tup [])], layF x, 17⟩) ⟨rfl, trivial⟩ ⟨rfl, rfl, trivial⟩ (Nat.le_add_right 15 2)))⟩
theorem gen_mov {c : Cfg} {s : Script} {x : Stt} (hg : goodS x) : Gen Try.prog 49 (cons [e_Cfg c, e_Script s, .ptr 2 [] 0]) (XSt.st ⟨[], lay0 x, 13⟩) (con (.tup [])) (XSt.st ⟨[], layF (advF c s x), 17⟩) := by
  refine genG mix TMvok t_banks_Move (Nat.le_of_ble_eq_true rfl) (σ := ⟨[], lay0 x, 13⟩) ?_
  refine Eq.mpr (r_mov0 c s x _ _) ?_
  unfold advF
  by_cases hb : 1 ≤ c.banks ∧ c.banks ≤ 16 ∧ 1 ≤ c.lat ∧ c.lat ≤ 1000
  case neg =>
    have e : (bif (bif (bif decide (c.banks < 1) then true else decide (c.banks > 16)) then true else decide (c.lat < 1)) then true else decide (c.lat > 1000)) = true := by
      simp only [bor, Bool.or_eq_true, decide_eq_true_eq]
      omega
    simp only [g1, g2, g3, g4, g5, g6, g7, allN_true, cond_true, Nat.le_refl, decide_true, pl_eq, e]
    rw [if_neg hb]
    exact ⟨mov_out0.out⟩
  obtain ⟨h1, h2, h3, h4⟩ := hb
  have e : (bif (bif (bif decide (c.banks < 1) then true else decide (c.banks > 16)) then true else decide (c.lat < 1)) then true else decide (c.lat > 1000)) = false := by
    simp only [bor, Bool.or_eq_false_iff, decide_eq_false_iff_not]
    omega
  simp only [g1, g2, g3, g4, g5, g6, g7, allN_true, cond_true, Nat.le_refl, decide_true, pl_eq, e, cond_false]
  rw [if_pos ⟨h1, h2, h3, h4⟩]
  refine ⟨(c, s, x), .rfl, memIs ⟨rfl, rfl, rfl, rfl, rfl, rfl, rfl, rfl, rfl, rfl, rfl, rfl, rfl, trivial⟩ (Nat.le_refl _), ⟨hg⟩, ?_⟩
  intro y hy
  replace hy : y = (c, s, endF x) := hy
  subst hy
  have hge := end_good hg
  refine loopG mix TMvok (fun k : Nat => mvSt c s (bgK c s (endF x) k) c.banks k) (fun k => k ≤ c.banks.toNat) (fun k => c.banks.toNat - k) 0 (Nat.zero_le _) (.of (weakX ⟨rfl, rfl, rfl, rfl, rfl, trivial⟩ ⟨rfl, rfl, rfl, rfl, rfl, trivial⟩ (Nat.le_refl _))) ?_
  intro k hk
  replace hk : k ≤ c.banks.toNat := hk
  have hgk := binv_good hge (bgK_inv (c := c) (s := s) hge.1.1 k)
  refine Eq.mpr (r_mov1 c s _ c.banks k _ _ _) ?_
  by_cases hlt : k < c.banks.toNat
  · have g1 : (k : Int) < c.banks := by omega
    have w1 : IntKind.i64.wrap ((k : Int) + 1) = ((k + 1 : Nat) : Int) := wrap_i64 (by omega) (by omega)
    simp only [g1, w1, decide_true, cond_true]
    refine ⟨(c, s, bgK c s (endF x) k, (k : Int)), .rfl, memIs ⟨rfl, rfl, rfl, rfl, rfl, trivial⟩ (Nat.le_refl _), ⟨hgk.1.2.2.2.2.2.2.2.1, hgk.1.1.2.2.2.2.2.2.2.2.2.1.1⟩, ?_⟩
    intro y hy
    replace hy : y = (c, s, bgK c s (endF x) (k + 1)) := hy
    subst hy
    exact ⟨k + 1, hlt, .of (weakX ⟨rfl, rfl, rfl, rfl, rfl, trivial⟩ ⟨rfl, rfl, rfl, rfl, rfl, trivial⟩ (Nat.le_refl _)), by omega⟩
  · have g1 : ¬ (k : Int) < c.banks := by omega
    obtain rfl : k = c.banks.toNat := by omega
    simp only [g1, decide_false, cond_false]
    exact ⟨mov_out.out⟩
theorem gk_mov : GkOk Try.prog qq (49, movG) := gkOf_ok (by decide) fun ⟨c, s, x⟩ h => gen_mov h
theorem TAdok : TabOk Try.prog TAd := mkT2_ok clok_banks trivial glok_slices trivial ⟨gk_mov, trivial⟩
def avS : List XV → Option ((XV → Prop) → Prop) := skOf (fun q : Cfg × Script × Stt => [e_Cfg q.1, e_Script q.2.1, e_Stt q.2.2]) (fun q => goodS q.2.2) (fun q => advF q.1 q.2.1 q.2.2) (fun y => e_Stt y)
theorem okb {s : Stt} (h : s.ok) : s.ldq.length * 16 ≤ 140737488355328 ∧ s.sdq.length * 4 ≤ 140737488355328 ∧ s.aeq.length * 4 ≤ 140737488355328 ∧ s.abq.length * 1 ≤ 140737488355328 ∧ s.ebq.length * 1 ≤ 140737488355328 ∧ s.saq.length * 32 ≤ 140737488355328 ∧ s.table.length * 64 ≤ 140737488355328 ∧ s.mem.length * 1 ≤ 140737488355328 ∧ s.writes.length * 24 ≤ 140737488355328 := by
  obtain ⟨_, h⟩ := h
  omega
theorem sk_adv : SkOk Try.prog (28, avS) := skOf_ok fun ⟨c, s, x⟩ h => by
  have hg : goodS x := h
  show Pure _ _ (cons [e_Cfg c, e_Script s, e_Stt x]) (con (e_Stt (advF c s x)))
  refine pureQ mix TAdok t_banks_Advance (Nat.le_of_ble_eq_true rfl) ?_
  refine Eq.mpr (r_adv c s x _) ?_
  obtain ⟨b1, b2, b3, b4, b5, b6, b7, b8, b9⟩ := okb hg.1
  simp only [b1, b2, b3, b4, b5, b6, b7, b8, b9, allN_true, Nat.le_refl, pl_eq, decide_true, cond_true]
  refine ⟨(c, s, x), .rfl, memIs ⟨rfl, rfl, rfl, rfl, rfl, rfl, rfl, rfl, rfl, rfl, rfl, trivial⟩ (Nat.le_refl _), ⟨hg.1, hg.2⟩, ?_⟩
  intro y hy
  replace hy : y = advF c s x := hy
  rw [hy]
  exact .rfl
end Go.Proofs.Ytbemlndjdbopeaa

/- A cycle of the banks, as the document tells it: forms. -/
namespace Go.Proofs.Ytbemlndjdbopeaa
open Go.Ra
set_option linter.unusedVariables false
set_option linter.unusedSimpArgs false
end Go.Proofs.Ytbemlndjdbopeaa

/- The document's loop that ends requests. -/
namespace Go.Proofs.Ytbemlndjdbopeaa
open Go.Ra
set_option linter.unusedVariables false
set_option linter.unusedSimpArgs false
end Go.Proofs.Ytbemlndjdbopeaa

/- The document's cycle of the banks. -/
namespace Go.Proofs.Ytbemlndjdbopeaa
open Go.Ra
set_option linter.unusedVariables false
set_option linter.unusedSimpArgs false
end Go.Proofs.Ytbemlndjdbopeaa

/- When two states are one. -/
namespace Go.Proofs.Ytbemlndjdbopeaa
open Go.Ra
set_option linter.unusedVariables false
set_option linter.unusedSimpArgs false
end Go.Proofs.Ytbemlndjdbopeaa

/- Which states are few; copies. -/
namespace Go.Proofs.Ytbemlndjdbopeaa
open Go.Ra
set_option linter.unusedVariables false
set_option linter.unusedSimpArgs false
end Go.Proofs.Ytbemlndjdbopeaa

/- A load alone in the banks, plainly. -/
namespace Go.Proofs.Ytbemlndjdbopeaa
open Go.Ra
set_option linter.unusedVariables false
set_option linter.unusedSimpArgs false
theorem bnk_rng {a n : Int} (h : 1 ≤ n) : 0 ≤ bnkI a n ∧ bnkI a n < n := by
  unfold bnkI
  split
  · omega
  · have := Int.emod_nonneg (a / 4) (show n ≠ 0 by omega)
    have := Int.emod_lt_of_pos (a / 4) (show 0 < n by omega)
    omega
def zS0 : Side := ⟨fun _ => 0, fun _ => 0, ⟨0, 0, 0⟩, 0, false, 0⟩
section
variable {c : Cfg} {s : Script} {m : List Int} {op a sz reg lats cyc : Int}
end
end Go.Proofs.Ytbemlndjdbopeaa

/- Each request is done at last: forms. -/
namespace Go.Proofs.Ytbemlndjdbopeaa
open Go.Ra
set_option linter.unusedVariables false
set_option linter.unusedSimpArgs false
def TBs : Tab := mkT2 qq cl_law18 [(21, alvSp), (22, bnkSp)] [] [(28, avS)] []
def newR (q : Req) : Req := { q with left := 0, reg := 0 }
def svX (m : List Int) (t : List Req) : Stt := ⟨0, zS0, zS0, [], [], [], [], [], [], t, m, [], ⟨0, 0, 0⟩, 0, 0, 0⟩
def bxV (m : List Int) (n : Nat) : XV := .agg 92 [.int .i64 0, e_Side zS0, e_Side zS0, e_row 3 e_Slot [], e_row 1 e_u32 [], e_row 1 e_u32 [], e_row 1 e_bool [], e_row 1 e_bool [], e_row 5 e_Entry [], .sl 4 [] 0 0 n 8, e_row 1 e_u8 m, e_row 3 e_Wr [], .agg 3 [.int .i64 0, .int .i64 0, .int .i64 0], .int .i64 0, .int .i64 0, .int .i64 0]
def sv1 (c : Cfg) (s : Script) (m : List Int) (l t : List Req) (i : Nat) : XSt := ⟨[(11, .int .i64 i), (10, .ptr 3 [] 0), (5, .ptr 1 [] 0), (4, .ptr 0 [] 0), (3, e_row 8 e_Req l)], [(4, some (e_tb 8 e_Req t)), (3, some (bxV m t.length)), (1, some (e_Script s)), (0, some (e_Cfg c))], 5⟩
def sv4 (c : Cfg) (s : Script) (l : List Req) (x : Stt) (k : Nat) : XSt := ⟨[(13, .int .i64 k), (10, .ptr 3 [] 0), (5, .ptr 1 [] 0), (4, .ptr 0 [] 0), (3, e_row 8 e_Req l)], [(3, some (e_Stt x)), (1, some (e_Script s)), (0, some (e_Cfg c))], 5⟩
def sv3 (c : Cfg) (s : Script) (l : List Req) (x : Stt) (k i : Nat) : XSt := ⟨[(14, .int .i64 i), (13, .int .i64 k), (10, .ptr 3 [] 0), (5, .ptr 1 [] 0), (4, .ptr 0 [] 0), (3, e_row 8 e_Req l)], [(3, some (e_Stt x)), (1, some (e_Script s)), (0, some (e_Cfg c))], 5⟩
def sv2 (c : Cfg) (s : Script) (l : List Req) (x : Stt) (k i j : Nat) : XSt := ⟨[(15, .int .i64 j), (14, .int .i64 i), (13, .int .i64 k), (10, .ptr 3 [] 0), (5, .ptr 1 [] 0), (4, .ptr 0 [] 0), (3, e_row 8 e_Req l)], [(3, some (e_Stt x)), (1, some (e_Script s)), (0, some (e_Cfg c))], 5⟩
def sv5 (c : Cfg) (s : Script) (l : List Req) (x : Stt) (i n : Nat) : XSt := ⟨[(17, .int .i64 i), (16, .int .i64 n), (10, .ptr 3 [] 0), (3, e_row 8 e_Req l)], [(3, some (e_Stt x)), (1, some (e_Script s)), (0, some (e_Cfg c))], 5⟩
theorem TBsok : TabOk Try.prog TBs := mkT2_ok clok_law18 ⟨sp_alv18, sp_bnk1, trivial⟩ trivial ⟨sk_adv, trivial⟩ trivial
theorem r_srv0 (c : Cfg) (s : Script) (m : List Int) (l : List Req) (r : XV) : (goQ Try.prog TBs [(.tmp 8)] r (.run c_law18_BanksServe) [] ⟨envX 0 [e_Cfg c, e_Script s, e_row 1 e_u8 m, e_row 8 e_Req l], [], 0⟩) = (let q1 : Bool := decide ((↑(List.length l) : Int) > 20);
let q2 : Bool := bif q1 then true else decide ((↑(List.length m) : Int) > 300);
let q3 : Bool := bif
 q2 then true else decide ((↑(List.length (Script.lats s)) : Int) > 60);
let q4 : Bool := bif q3 then true else decide ((↑(List.length (Script.picks s)) : Int) >
 60);
let q5 : Bool := bif q4 then true else decide (Cfg.banks c < 1);
let q6 : Bool := bif q5 then true else decide (Cfg.banks c > 16);
let q7 : Bool := bif q6 then
 true else decide (Cfg.lat c < 1);
let q8 : List XV := [.int .i64 0, .int .i64 0, .int .i64 0];
let q9 : XV := .agg 3 q8;
let q10 : XV := .agg 38 [.tab 16 1 fun x
 => .int .u32 0, .tab 16 1 fun x => .int .i64 0, q9, .int .i64 0, .bool false, .int .i64 0];
let q11 : XV := .row true 0 0 fun x => .unk;
bif bif q1 then true else
 !q1 then bif bif q2 then true else !q2 then bif bif q3 then true else !q3 then bif bif q4 then true else !q4 then bif bif q5 then true else !q5 then bif bif q6 then
 true else !q6 then bif bif q7 then true else !q7 then bif bif q7 then true else decide (Cfg.lat c > 30) then ResLe (.bool true) r else bif decide (List.length m
 * 1 ≤ 140737488355328) then LoopAt (Ok Try.prog (Tab.q TBs)) c_law18_BanksServe_l1 (XSt.mk [(11, .int .i64 0), (10, .ptr 3 [] 0), (8, .bool false), (5, .ptr 1 []
 0), (4, .ptr 0 [] 0), (3, e_row 8 e_Req l)] [(3, some (.agg 92 (.int .i64 0 :: q10 :: q10 :: q11 :: q11 :: q11 :: q11 :: q11 :: q11 :: q11 :: .sl 2 [] 0 0 (List.length
 m) 1 :: q11 :: q9 :: q8))), (2, some (.tab (List.length m) 1 fun i => e_u8 (ix m i))), (1, some (e_Script s)), (0, some (e_Cfg c))] 4) [Frm.blk 0, Frm.seq c_law18_BanksServe_p6]
 (finQR [AR.tmp 8] r) else False else False else False else False else False else False else False
else False) := by kernel_rfl
theorem r_srv1 (c : Cfg) (s : Script) (m : List Int) (l t : List Req) (i : Nat) (r : XV) (A : XSt → Prop) : (goQ Try.prog TBs [(.tmp 8)] r (.run c_law18_BanksServe_l1) [.lp c_law18_BanksServe_l1 A, .blk 0, .seq c_law18_BanksServe_p6] (sv1 c s m l t i)) = (let q1 : Bool := decide ((↑i : Int) < (↑(List.length l) : Int));
let q2 : List (Nat × XV) := [(10, .ptr 3 [] 0), (5, .ptr 1 [] 0), (4, .ptr 0 [] 0), (3, e_row
 8 e_Req l)];
let q3 : Nat → Bool := fun i => decide (i < List.length t);
let q4 : List XV := [.int .i64 0, .int .i64 0, .int .i64 0];
let q5 : List XV := e_row 1
 e_u8 m :: e_row 3 e_Wr [] :: .agg 3 q4 :: q4;
let q6 : List (Nat × Option XV) := [(1, some (e_Script s)), (0, some (e_Cfg c))];
bif q1 then bif q1 then bif decide
 (List.length t ≤ List.length t) then bif decide (pl (List.length t) 1 * 64 ≤ 140737488355328) then A (XSt.mk ((11, .int .i64 (IntKind.wrap .i64 ((↑i : Int) + (1
 : Int)))) :: q2) ((6, some (.tab (pl (List.length t) 1) 8 fun i_1 => .agg 8 [.bool (bif q3 i_1 then Req.store (ix t i_1) else Req.store (ix l i)), .int .i64 (bif
 q3 i_1 then Req.op (ix t i_1) else Req.op (ix l i)), .int .i64 (bif q3 i_1 then Req.addr (ix t i_1) else Req.addr (ix l i)), .int .i64 (bif q3 i_1 then Req.size
 (ix t i_1) else Req.size (ix l i)), .int .u32 (bif q3 i_1 then Req.val (ix t i_1) else Req.val (ix l i)), .int .i64 (bif q3 i_1 then Req.left (ix t i_1) else (0
 : Int)), .int .i64 (bif q3 i_1 then Req.reg (ix t i_1) else (0 : Int)), .int .i64 (bif q3 i_1 then Req.tag (ix t i_1) else Req.tag (ix l i))])) :: (5, some (.agg
 8 [.bool (Req.store (ix l i)), .int .i64 (Req.op (ix l i)), .int .i64 (Req.addr (ix l i)), .int .i64 (Req.size (ix l i)), .int .u32 (Req.val (ix l i)), .int .i64
 0, .int .i64 0, .int .i64 (Req.tag (ix l i))])) :: (4, none) :: (3, some (.agg 92 (.int .i64 0 :: e_Side zS0 :: e_Side zS0 :: e_row 3 e_Slot [] :: e_row 1 e_u32
 [] :: e_row 1 e_u32 [] :: e_row 1 e_bool [] :: e_row 1 e_bool [] :: e_row 5 e_Entry [] :: .sl 6 [] 0 0 (pl (List.length t) 1) 8 :: q5))) :: q6) 7) else False else
 False else False
else LoopAt (Ok Try.prog (Tab.q TBs)) c_law18_BanksServe_l4 (XSt.mk ((13, .int .i64 0) :: q2) ((4, some (e_tb 8 e_Req t)) :: (3, some (.agg 92 (.int
 .i64 0 :: e_Side zS0 :: e_Side zS0 :: e_row 3 e_Slot [] :: e_row 1 e_u32 [] :: e_row 1 e_u32 [] :: e_row 1 e_bool [] :: e_row 1 e_bool [] :: e_row 5 e_Entry [] ::
 .sl 4 [] 0 0 (List.length t) 8 :: q5))) :: q6) 5) [Frm.blk 2, Frm.seq c_law18_BanksServe_p5] (finQR [AR.tmp 8] r)) := by kernel_rfl
theorem r_srv4 (c : Cfg) (s : Script) (l : List Req) (x : Stt) (k : Nat) (r : XV) (A : XSt → Prop) : (goQ Try.prog TBs [(.tmp 8)] r (.run c_law18_BanksServe_l4) [.lp c_law18_BanksServe_l4 A, .blk 2, .seq c_law18_BanksServe_p5] (sv4 c s l x k)) = (let q1 : Int := IntKind.wrap .i64 (IntKind.wrap .i64 ((↑(List.length l) : Int) + (1 : Int)) * IntKind.wrap .i64 (Cfg.lat c + (1 : Int)));
let q2 : XV := .ptr
 3 [] 0;
let q3 : List (Nat × XV) := [(3, e_row 8 e_Req l)];
let q4 : List (Nat × Option XV) := [(1, some (e_Script s)), (0, some (e_Cfg c))];
bif decide ((↑k : Int)
 < q1) then ∃ (s_1 : Cfg × Script × Stt), ArgsLe [e_Cfg c, e_Script s, e_Stt x] [e_Cfg (Prod.fst s_1), e_Script (Prod.fst (Prod.snd s_1)), e_Stt (Prod.snd (Prod.snd
 s_1))] ∧ PreIs (goodS (Prod.snd (Prod.snd s_1))) ∧ ∀ (y : Stt), y = advF (Prod.fst s_1) (Prod.fst (Prod.snd s_1)) (Prod.snd (Prod.snd s_1)) → LoopAt (Ok Try.prog
 (Tab.q TBs)) c_law18_BanksServe_l3 (XSt.mk ((14, .int .i64 0) :: (13, .int .i64 (↑k : Int)) :: (10, q2) :: (5, .ptr 1 [] 0) :: (4, .ptr 0 [] 0) :: q3) ((3, some
 (e_Stt y)) :: q4) 5) [Frm.blk 4, Frm.blk 3, Frm.seq c_law18_BanksServe_p3, Frm.lp c_law18_BanksServe_l4 A, Frm.blk 2, Frm.seq c_law18_BanksServe_p5] (finQR [AR.tmp
 8] r)
else LoopAt (Ok Try.prog (Tab.q TBs)) c_law18_BanksServe_l5 (XSt.mk ((17, .int .i64 0) :: (16, .int .i64 0) :: (10, q2) :: q3) ((3, some (e_Stt x)) :: q4)
 5) [Frm.blk 8, Frm.seq c_law18_BanksServe_p4] (finQR [AR.tmp 8] r)) := by kernel_rfl
theorem r_srv3 (c : Cfg) (s : Script) (l : List Req) (x : Stt) (k i : Nat) (r : XV) (A B : XSt → Prop) : (goQ Try.prog TBs [(.tmp 8)] r (.run c_law18_BanksServe_l3) [.lp c_law18_BanksServe_l3 B, .blk 4, .blk 3, .seq c_law18_BanksServe_p3, .lp c_law18_BanksServe_l4 A, .blk 2, .seq c_law18_BanksServe_p5] (sv3 c s l x k i)) = (let q1 : List (Nat × XV) := [(10, .ptr 3 [] 0), (5, .ptr 1 [] 0), (4, .ptr 0 [] 0), (3, e_row 8 e_Req l)];
let q2 : List (Nat × Option XV) := [(3, some (e_Stt
 x)), (1, some (e_Script s)), (0, some (e_Cfg c))];
bif decide ((↑i : Int) < (↑(List.length (Stt.table x)) : Int)) then LoopAt (Ok Try.prog (Tab.q TBs)) c_law18_BanksServe_l2
 (XSt.mk ((15, .int .i64 0) :: (14, .int .i64 (↑i : Int)) :: (13, .int .i64 (↑k : Int)) :: q1) q2 5) [Frm.blk 6, Frm.seq c_law18_BanksServe_p1, Frm.blk 5, Frm.seq
 c_law18_BanksServe_p2, Frm.lp c_law18_BanksServe_l3 B, Frm.blk 4, Frm.blk 3, Frm.seq c_law18_BanksServe_p3, Frm.lp c_law18_BanksServe_l4 A, Frm.blk 2, Frm.seq c_law18_BanksServe_p5]
 (finQR [AR.tmp 8] r)
else A (XSt.mk ((13, .int .i64 (IntKind.wrap .i64 ((↑k : Int) + (1 : Int)))) :: q1) q2 5)) := by kernel_rfl
theorem r_srv2 (c : Cfg) (s : Script) (l : List Req) (x : Stt) (k i j : Nat) (r : XV) (A B C : XSt → Prop) : (goQ Try.prog TBs [(.tmp 8)] r (.run c_law18_BanksServe_l2) [.lp c_law18_BanksServe_l2 C, .blk 6, .seq c_law18_BanksServe_p1, .blk 5, .seq c_law18_BanksServe_p2, .lp c_law18_BanksServe_l3 B, .blk 4, .blk 3, .seq c_law18_BanksServe_p3, .lp c_law18_BanksServe_l4 A, .blk 2, .seq c_law18_BanksServe_p5] (sv2 c s l x k i j)) = (let q1 : Bool := decide ((↑i : Int) < (↑(List.length (Stt.table x)) : Int));
let q2 : Bool := decide ((↑j : Int) < (↑(List.length (Stt.table x)) : Int));
let
 q3 : Bool := decide (Req.left (ix (Stt.table x) i) > 0);
let q4 : Bool := bif q3 then decide (Req.left (ix (Stt.table x) j) > 0) else false;
let q5 : Bool := !q4;
let
 q6 : List (Nat × XV) := [(13, .int .i64 (↑k : Int)), (10, .ptr 3 [] 0), (5, .ptr 1 [] 0), (4, .ptr 0 [] 0), (3, e_row 8 e_Req l)];
let q7 : List (Nat × Option XV)
 := [(3, some (e_Stt x)), (1, some (e_Script s)), (0, some (e_Cfg c))];
let q8 : Bool := decide (Req.left (ix (Stt.table x) i) < 0);
let q9 : Bool := !q8;
bif decide
 ((↑j : Int) < (↑i : Int)) then bif q1 then bif bif q2 then true else !q3 then bif bif q3 then q3 else true then bif bif q1 then true else q5 then bif bif decide
 (Req.addr (ix (Stt.table x) i) ≤ 9223372036854775807) then true else q5 then bif bif q2 then true else q5 then bif bif decide (Req.addr (ix (Stt.table x) j) ≤ 9223372036854775807)
 then true else q5 then bif bif q4 then q4 else true then bif bif q4 then decide (bnkI (Req.addr (ix (Stt.table x) i)) (Cfg.banks c) = bnkI (Req.addr (ix (Stt.table
 x) j)) (Cfg.banks c)) else false then ResLe (.bool false) r else C (XSt.mk ((15, .int .i64 (IntKind.wrap .i64 ((↑j : Int) + (1 : Int)))) :: (14, .int .i64 (↑i :
 Int)) :: q6) q7 5) else False else False else False else False else False else False else False else False
else bif q1 then bif bif q1 then true else !q9 then bif
 bif q8 then true else q9 then bif bif q8 then true else decide (Req.left (ix (Stt.table x) i) > Cfg.lat c) then ResLe (.bool false) r else B (XSt.mk ((14, .int .i64
 (IntKind.wrap .i64 ((↑i : Int) + (1 : Int)))) :: q6) q7 5) else False else False else False) := by kernel_rfl
theorem r_srv5 (c : Cfg) (s : Script) (l : List Req) (x : Stt) (i n : Nat) (r : XV) (A : XSt → Prop) : (goQ Try.prog TBs [(.tmp 8)] r (.run c_law18_BanksServe_l5) [.lp c_law18_BanksServe_l5 A, .blk 8, .seq c_law18_BanksServe_p4] (sv5 c s l x i n)) = (let q1 : Bool := decide ((↑i : Int) < (↑(List.length l) : Int));
let q2 : XV := .int .i64 (IntKind.wrap .i64 ((↑i : Int) + (1 : Int)));
let q3 : List (Nat ×
 XV) := [(10, .ptr 3 [] 0), (3, e_row 8 e_Req l)];
let q4 : List (Nat × Option XV) := [(3, some (e_Stt x)), (1, some (e_Script s)), (0, some (e_Cfg c))];
let q5 :
 Bool := decide ((↑(List.length (Stt.table x)) : Int) = 0);
let q6 : Bool := bif q5 then decide ((↑(List.length (Stt.writes x)) : Int) = (↑n : Int)) else false;
bif
 q1 then bif q1 then bif Req.store (ix l i) then A (XSt.mk ((17, q2) :: (16, .int .i64 (IntKind.wrap .i64 ((↑n : Int) + (1 : Int)))) :: q3) q4 5) else A (XSt.mk ((17,
 q2) :: (16, .int .i64 (↑n : Int)) :: q3) q4 5) else False
else bif bif q5 then q5 else true then bif bif q6 then q6 else true then ResLe (.bool (bif q6 then decide
 (Stt.lats x = (↑(List.length l) : Int)) else false)) r else False else False) := by kernel_rfl
end Go.Proofs.Ytbemlndjdbopeaa

/- Each request is done at last, plainly. -/
namespace Go.Proofs.Ytbemlndjdbopeaa
open Go.Ra
set_option linter.unusedVariables false
set_option linter.unusedSimpArgs false
def sumI (f : Req → Int) : List Req → Int
  | [] => 0
  | r :: l => f r + sumI f l
theorem sumI_app {f : Req → Int} {l r : List Req} : sumI f (l ++ r) = sumI f l + sumI f r := by
  induction l with
  | nil => simp [sumI]
  | cons a l ih => simp only [List.cons_append, sumI, ih]; omega
theorem sumI_set {f : Req → Int} {a : Req} : ∀ {l : List Req} {k : Nat}, k < l.length → sumI f (l.set k a) = sumI f l - f (ix l k) + f a
  | [], k, h => absurd h (Nat.not_lt_zero _)
  | r :: l, 0, h => by
    show f a + sumI f l = f r + sumI f l - f r + f a
    omega
  | r :: l, k + 1, h => by
    show f r + sumI f (l.set k a) = f r + sumI f l - f (ix l k) + f a
    rw [sumI_set (Nat.lt_of_succ_lt_succ h)]
    omega
theorem sumI_nn {f : Req → Int} (hf : ∀ r, 0 ≤ f r) {l : List Req} : 0 ≤ sumI f l := by
  induction l with
  | nil => exact Int.le_refl _
  | cons a l ih => have := hf a; simp only [sumI]; omega
theorem sumI_ge {f : Req → Int} (hf : ∀ r, 0 ≤ f r) : ∀ {l : List Req} {k : Nat}, k < l.length → f (ix l k) ≤ sumI f l
  | [], k, h => absurd h (Nat.not_lt_zero _)
  | r :: l, 0, h => by
    have := sumI_nn hf (l := l)
    show f r ≤ f r + sumI f l
    omega
  | r :: l, k + 1, h => by
    have h1 := sumI_ge hf (l := l) (Nat.lt_of_succ_lt_succ h)
    have := hf r
    show f (ix l k) ≤ f r + sumI f l
    omega
/-- Two places that have something: together at least two. -/
theorem sumI_two {f : Req → Int} (hf : ∀ r, 0 ≤ f r) : ∀ {l : List Req} {i j : Nat}, i < j → j < l.length → f (ix l i) + f (ix l j) ≤ sumI f l
  | [], i, j, _, h => absurd h (Nat.not_lt_zero _)
  | r :: l, 0, j + 1, _, h => by
    have := sumI_ge hf (l := l) (Nat.lt_of_succ_lt_succ h)
    show f r + f (ix l j) ≤ f r + sumI f l
    omega
  | r :: l, i + 1, j + 1, hij, h => by
    have := sumI_two hf (l := l) (Nat.lt_of_succ_lt_succ hij) (Nat.lt_of_succ_lt_succ h)
    have := hf r
    show f (ix l i) + f (ix l j) ≤ f r + sumI f l
    omega
/-- What becomes of a request in a cycle. -/
def decR (r : Req) : Option Req := if r.left > 1 then some { r with left := r.left - 1 } else if r.left = 1 then none else some r
theorem sumI_dec {f : Req → Int} : ∀ {l : List Req}, (∀ r ∈ l, match decR r with | some r' => f r' ≤ f r | none => 0 ≤ f r) → sumI f (l.filterMap decR) ≤ sumI f l
  | [], _ => Int.le_refl _
  | r :: l, h => by
    have h1 := sumI_dec (l := l) fun q hq => h q (List.mem_cons_of_mem _ hq)
    have h2 := h r List.mem_cons_self
    rw [List.filterMap_cons]
    cases hd : decR r with
    | none => rw [hd] at h2; show sumI f (l.filterMap decR) ≤ f r + sumI f l; simp only at h2; omega
    | some r' => rw [hd] at h2; show f r' + sumI f (l.filterMap decR) ≤ f r + sumI f l; simp only at h2; omega
theorem sumI_decE {f : Req → Int} : ∀ {l : List Req}, (∀ r ∈ l, match decR r with | some r' => f r' = f r | none => f r = 0) → sumI f (l.filterMap decR) = sumI f l
  | [], _ => rfl
  | r :: l, h => by
    have h1 := sumI_decE (l := l) fun q hq => h q (List.mem_cons_of_mem _ hq)
    have h2 := h r List.mem_cons_self
    rw [List.filterMap_cons]
    cases hd : decR r with
    | none => rw [hd] at h2; show sumI f (l.filterMap decR) = f r + sumI f l; simp only at h2; omega
    | some r' => rw [hd] at h2; show f r' + sumI f (l.filterMap decR) = f r + sumI f l; simp only at h2; omega
theorem sumI_decL {f : Req → Int} : ∀ {l : List Req}, (∀ r ∈ l, match decR r with | some r' => f r' ≤ f r | none => 0 ≤ f r) → (∃ r ∈ l, match decR r with | some r' => f r' < f r | none => 0 < f r) → sumI f (l.filterMap decR) < sumI f l
  | [], _, ⟨r, hr, _⟩ => by cases hr
  | r :: l, h, ⟨q, hq, hq2⟩ => by
    have h1 := sumI_dec (l := l) fun q hq => h q (List.mem_cons_of_mem _ hq)
    have h2 := h r List.mem_cons_self
    rw [List.filterMap_cons]
    rcases List.mem_cons.1 hq with rfl | hq
    · cases hd : decR q with
      | none => rw [hd] at hq2; show sumI f (l.filterMap decR) < f q + sumI f l; simp only at hq2; omega
      | some r' => rw [hd] at hq2; show f r' + sumI f (l.filterMap decR) < f q + sumI f l; simp only at hq2; omega
    · have h3 := sumI_decL (l := l) (fun q hq => h q (List.mem_cons_of_mem _ hq)) ⟨q, hq, hq2⟩
      cases hd : decR r with
      | none => rw [hd] at h2; show sumI f (l.filterMap decR) < f r + sumI f l; simp only at h2; omega
      | some r' => rw [hd] at h2; show f r' + sumI f (l.filterMap decR) < f r + sumI f l; simp only at h2; omega
theorem dec_cases {r : Req} : (r.left > 1 ∧ decR r = some { r with left := r.left - 1 }) ∨ (r.left = 1 ∧ decR r = none) ∨ (r.left < 1 ∧ decR r = some r) := by
  unfold decR
  by_cases h1 : r.left > 1
  · exact .inl ⟨h1, by rw [if_pos h1]⟩
  · by_cases h2 : r.left = 1
    · exact .inr (.inl ⟨h2, by rw [if_neg h1, if_pos h2]⟩)
    · exact .inr (.inr ⟨by omega, by rw [if_neg h1, if_neg h2]⟩)
/-- How many cycles a request may still take; is it a store; does it wait; has a bank begun it. -/
def wgI (M : Int) (r : Req) : Int := if r.left > 0 then r.left else M + 1
def stI (r : Req) : Int := if r.store then 1 else 0
def zrI (r : Req) : Int := if r.left = 0 then 1 else 0
def bzI (c : Cfg) (b : Int) (r : Req) : Int := if isBz c b r then 1 else 0
theorem zrI_nn (r : Req) : 0 ≤ zrI r := by unfold zrI; split <;> omega
theorem bzI_nn (c : Cfg) (b : Int) (r : Req) : 0 ≤ bzI c b r := by unfold bzI; split <;> omega
theorem done_keep {x : Stt} {r : Req} : (doneF x r).lats = x.lats ∧ ((doneF x r).writes.length : Int) = x.writes.length + stI r := by
  unfold stI
  by_cases hs : r.store = true
  · rw [done_st hs, if_pos hs]
    refine ⟨rfl, ?_⟩
    show ((x.writes ++ [_]).length : Int) = _
    rw [app_len]; omega
  · have hs : r.store = false := by simpa using hs
    rw [if_neg (by rw [hs]; simp)]
    by_cases h1 : r.reg < 0
    · rw [done_ldq hs h1]; exact ⟨rfl, by simp⟩
    · by_cases h2 : 1 ≤ r.reg ∧ r.reg ≤ 15
      · rw [done_reg hs h2]; exact ⟨rfl, by simp⟩
      · rw [done_no hs h1 h2]; exact ⟨rfl, by simp⟩
theorem endS_all {p : Stt × List Req} {r : Req} : (endS p r).2 = p.2 ++ (decR r).toList ∧ (endS p r).1.lats = p.1.lats ∧ ((endS p r).1.writes.length : Int) + sumI stI (endS p r).2 = p.1.writes.length + sumI stI p.2 + stI r := by
  have hd := done_keep (x := p.1) (r := r)
  unfold endS
  rcases dec_cases (r := r) with ⟨h1, h2⟩ | ⟨h1, h2⟩ | ⟨h1, h2⟩
  · rw [h2, if_pos (by omega), if_neg (by omega)]
    refine ⟨rfl, rfl, ?_⟩
    show (p.1.writes.length : Int) + sumI stI (p.2 ++ [_]) = _
    rw [sumI_app]
    show _ + (_ + (stI r + 0)) = _
    omega
  · rw [h2, if_pos (by omega), if_pos h1]
    refine ⟨by simp, hd.1, ?_⟩
    show ((doneF p.1 r).writes.length : Int) + sumI stI p.2 = _
    rw [hd.2]; omega
  · rw [h2, if_neg (by omega)]
    refine ⟨rfl, rfl, ?_⟩
    show (p.1.writes.length : Int) + sumI stI (p.2 ++ [_]) = _
    rw [sumI_app]
    show _ + (_ + (stI r + 0)) = _
    omega
theorem endL_all : ∀ {l : List Req} {p : Stt × List Req}, (endL l p).2 = p.2 ++ l.filterMap decR ∧ (endL l p).1.lats = p.1.lats ∧ ((endL l p).1.writes.length : Int) + sumI stI (endL l p).2 = p.1.writes.length + sumI stI p.2 + sumI stI l
  | [], p => ⟨by simp [endL], rfl, by simp [endL, sumI]⟩
  | r :: l, p => by
    obtain ⟨a1, a2, a3⟩ := endL_all (l := l) (p := endS p r)
    obtain ⟨b1, b2, b3⟩ := endS_all (p := p) (r := r)
    refine ⟨?_, a2.trans b2, ?_⟩
    · show (endL l (endS p r)).2 = _
      rw [a1, b1, List.filterMap_cons]
      cases decR r <;> simp
    · show ((endL l (endS p r)).1.writes.length : Int) + sumI stI (endL l (endS p r)).2 = p.1.writes.length + sumI stI p.2 + (stI r + sumI stI l)
      omega
theorem end_all {x : Stt} : (endF x).table = x.table.filterMap decR ∧ (endF x).lats = x.lats ∧ ((endF x).writes.length : Int) + sumI stI (endF x).table = x.writes.length + sumI stI x.table := by
  obtain ⟨a1, a2, a3⟩ := endL_all (l := x.table) (p := (x, []))
  unfold endF
  exact ⟨by rw [a1]; rfl, a2, by rw [a3]; simp [sumI]⟩
/-- What may be between two cycles. -/
structure SOk (c : Cfg) (n st : Int) (x : Stt) : Prop where
  good : goodS x
  left : ∀ r ∈ x.table, 0 ≤ r.left ∧ r.left ≤ c.lat
  one : ∀ b, sumI (bzI c b) x.table ≤ 1
  lats : x.lats + sumI zrI x.table = n
  writes : (x.writes.length : Int) + sumI stI x.table = st
theorem end_sok {c : Cfg} {n st : Int} {x : Stt} (h : SOk c n st x) : SOk c n st (endF x) := by
  obtain ⟨e1, e2, e3⟩ := end_all (x := x)
  refine ⟨end_good h.good, fun r hr => ?_, fun b => ?_, ?_, by rw [e3]; exact h.writes⟩
  · rw [e1] at hr
    obtain ⟨q, hq, hd⟩ := List.mem_filterMap.1 hr
    have := h.left q hq
    rcases dec_cases (r := q) with ⟨h1, h2⟩ | ⟨h1, h2⟩ | ⟨h1, h2⟩ <;> rw [h2] at hd
    · simp only [Option.some.injEq] at hd
      subst hd
      show 0 ≤ q.left - 1 ∧ q.left - 1 ≤ _
      omega
    · cases hd
    · simp only [Option.some.injEq] at hd
      subst hd; exact this
  · rw [e1]
    refine Int.le_trans (sumI_dec fun q hq => ?_) (h.one b)
    rcases dec_cases (r := q) with ⟨h1, h2⟩ | ⟨h1, h2⟩ | ⟨h1, h2⟩ <;> rw [h2]
    · show bzI c b _ ≤ bzI c b q
      have : isBz c b { q with left := q.left - 1 } = isBz c b q := by
        unfold isBz
        congr 1
        exact decide_eq_decide.2 ⟨fun _ => by omega, fun _ => by show q.left - 1 > 0; omega⟩
      unfold bzI
      rw [this]
      exact Int.le_refl _
    · exact bzI_nn c b q
    · exact Int.le_refl _
  · rw [e1, e2, sumI_decE fun q hq => ?_]
    · exact h.lats
    · rcases dec_cases (r := q) with ⟨h1, h2⟩ | ⟨h1, h2⟩ | ⟨h1, h2⟩ <;> rw [h2]
      · show (if q.left - 1 = 0 then (1 : Int) else 0) = if q.left = 0 then 1 else 0
        rw [if_neg (by omega), if_neg (by omega)]
      · show zrI q = 0
        unfold zrI
        rw [if_neg (by omega)]
theorem wait_wt {c : Cfg} {b : Int} {l : List Req} {k : Nat} {x : Int} (h : x ∈ waitK c b l k) : isWt c b (ix l x.toNat) = true := by
  unfold waitK at h
  obtain ⟨j, hj, rfl⟩ := List.mem_map.1 h
  have := (List.mem_filter.1 hj).2
  simpa using this
theorem wait_in {c : Cfg} {b : Int} {l : List Req} {k j : Nat} (hj : j < k) (h : isWt c b (ix l j) = true) : ¬ (waitK c b l k).length = 0 := by
  intro h0
  have h1 : ((j : Nat) : Int) ∈ waitK c b l k := by
    unfold waitK
    exact List.mem_map.2 ⟨j, List.mem_filter.2 ⟨List.mem_range.2 hj, h⟩, rfl⟩
  rw [List.eq_nil_of_length_eq_zero h0] at h1
  cases h1
theorem which_wt {c : Cfg} {s : Script} {x : Stt} {b : Int} (h : ¬ (waitK c b x.table x.table.length).length = 0) : isWt c b (ix x.table (whichF s x (waitK c b x.table x.table.length))) = true := by
  unfold whichF
  split
  · rename_i hm
    have := pick_rng s x.picks (n := ((waitK c b x.table x.table.length).length : Int)) (by omega)
    exact wait_wt (ix_mem (by omega))
  · exact wait_wt (ix_mem (by show (0 : Int).toNat < _; simp; omega))
theorem beg_cases {c : Cfg} {s : Script} {x : Stt} {b : Int} : (begF c s x b = x ∧ (x.table.any (isBz c b) = true ∨ (waitK c b x.table x.table.length).length = 0)) ∨ (x.table.any (isBz c b) = false ∧ ∃ k pi, k < x.table.length ∧ isWt c b (ix x.table k) = true ∧ begF c s x b = { x with picks := pi, lats := IntKind.i64.wrap (x.lats + 1), table := x.table.set k { ix x.table k with left := latF s x.lats c.lat } }) := by
  by_cases h1 : x.table.any (isBz c b) = true
  · exact .inl ⟨by unfold begF; rw [if_pos h1], .inl h1⟩
  · by_cases h2 : (waitK c b x.table x.table.length).length = 0
    · exact .inl ⟨by unfold begF; rw [if_neg h1, if_pos h2], .inr h2⟩
    · refine .inr ⟨by simpa using h1, whichF s x (waitK c b x.table x.table.length), (if (waitK c b x.table x.table.length).length > 1 then IntKind.i64.wrap (x.picks + 1) else x.picks), which_lt (s := s) h2, which_wt h2, ?_⟩
      unfold begF
      rw [if_neg h1, if_neg h2]
theorem any_no {c : Cfg} {b : Int} {l : List Req} (h : l.any (isBz c b) = false) : sumI (bzI c b) l = 0 := by
  induction l with
  | nil => rfl
  | cons r l ih =>
    simp only [List.any_cons, Bool.or_eq_false_iff] at h
    simp only [sumI, ih h.2]
    unfold bzI
    rw [if_neg (by rw [h.1]; simp)]
    rfl
theorem beg_sok {c : Cfg} {s : Script} {n st : Int} {x : Stt} {b : Int} (h : SOk c n st x) (hc : 1 ≤ c.lat) (hn : 0 ≤ x.lats ∧ n ≤ 1000) : SOk c n st (begF c s x b) ∧ 0 ≤ (begF c s x b).lats ∧ sumI (wgI c.lat) (begF c s x b).table ≤ sumI (wgI c.lat) x.table ∧ ((begF c s x b).table = x.table ∧ (x.table.any (isBz c b) = true ∨ (waitK c b x.table x.table.length).length = 0) ∨ sumI (wgI c.lat) (begF c s x b).table < sumI (wgI c.lat) x.table) := by
  have hg := binv_good h.good (beg_inv (c := c) (s := s) (b := b) h.good.1.1)
  have hiv := beg_inv (c := c) (s := s) (b := b) h.good.1.1
  rcases beg_cases (c := c) (s := s) (x := x) (b := b) with ⟨e, hw⟩ | ⟨ha, k, pi, hk, hwt, e⟩
  · rw [e]; exact ⟨h, hn.1, Int.le_refl _, .inl ⟨rfl, hw⟩⟩
  · have hl := lat_rng s x.lats (most := c.lat) hc
    simp only [isWt, Bool.and_eq_true, decide_eq_true_eq] at hwt
    have hz : zrI (ix x.table k) = 1 := by unfold zrI; rw [if_pos hwt.2]
    have hzs := sumI_ge zrI_nn hk
    rw [hz] at hzs
    have hlt := h.lats
    have hwr : IntKind.i64.wrap (x.lats + 1) = x.lats + 1 := wrap_i64 (by omega) (by omega)
    have hwg : sumI (wgI c.lat) (begF c s x b).table < sumI (wgI c.lat) x.table := by
      rw [e]
      show sumI (wgI c.lat) (x.table.set k _) < _
      rw [sumI_set hk]
      have e1 : wgI c.lat (ix x.table k) = c.lat + 1 := by unfold wgI; rw [if_neg (by omega)]
      have e2 : wgI c.lat { ix x.table k with left := latF s x.lats c.lat } = latF s x.lats c.lat := by unfold wgI; rw [if_pos (by show latF s x.lats c.lat > 0; omega)]
      rw [e1, e2]; omega
    refine ⟨⟨hg, ?_, ?_, ?_, ?_⟩, ?_, Int.le_of_lt hwg, .inr hwg⟩
    · rw [e]
      intro r hr
      rcases List.mem_or_eq_of_mem_set hr with hr | rfl
      · exact h.left r hr
      · show 0 ≤ latF s x.lats c.lat ∧ latF s x.lats c.lat ≤ c.lat
        omega
    · rw [e]
      intro b'
      show sumI (bzI c b') (x.table.set k _) ≤ 1
      rw [sumI_set hk]
      have e1 : bzI c b' (ix x.table k) = 0 := by
        unfold bzI isBz
        rw [if_neg (by simp [hwt.2])]
      rw [e1]
      by_cases hb : b' = b
      · subst hb
        rw [any_no ha]
        unfold bzI
        split <;> omega
      · have e2 : bzI c b' { ix x.table k with left := latF s x.lats c.lat } = 0 := by
          unfold bzI isBz
          rw [if_neg]
          show ¬ (decide (bnkI (ix x.table k).addr c.banks = b') && _) = true
          rw [hwt.1, decide_eq_false (fun h => hb h.symm)]
          simp
        rw [e2]
        have := h.one b'
        omega
    · rw [e]
      show IntKind.i64.wrap (x.lats + 1) + sumI zrI (x.table.set k _) = n
      rw [sumI_set hk, hwr, hz]
      have e2 : zrI { ix x.table k with left := latF s x.lats c.lat } = 0 := by unfold zrI; rw [if_neg (by show ¬ latF s x.lats c.lat = 0; omega)]
      rw [e2]; omega
    · rw [e]
      show (x.writes.length : Int) + sumI stI (x.table.set k _) = st
      rw [sumI_set hk]
      have e2 : stI { ix x.table k with left := latF s x.lats c.lat } = stI (ix x.table k) := rfl
      rw [e2]
      have := h.writes
      omega
    · rw [e]
      show 0 ≤ IntKind.i64.wrap (x.lats + 1)
      omega
theorem bgK_sok {c : Cfg} {s : Script} {n st : Int} {x : Stt} (h : SOk c n st x) (hc : 1 ≤ c.lat) (hn : 0 ≤ x.lats ∧ n ≤ 1000) : ∀ k, SOk c n st (bgK c s x k) ∧ 0 ≤ (bgK c s x k).lats ∧ sumI (wgI c.lat) (bgK c s x k).table ≤ sumI (wgI c.lat) x.table ∧
    ((bgK c s x k).table = x.table ∧ (∀ j : Nat, j < k → x.table.any (isBz c j) = true ∨ (waitK c j x.table x.table.length).length = 0) ∨ sumI (wgI c.lat) (bgK c s x k).table < sumI (wgI c.lat) x.table)
  | 0 => ⟨h, hn.1, Int.le_refl _, .inl ⟨rfl, fun j hj => absurd hj (Nat.not_lt_zero _)⟩⟩
  | k + 1 => by
    obtain ⟨a1, a2, a3, a4⟩ := bgK_sok h hc hn k
    obtain ⟨b1, b2, b3, b4⟩ := beg_sok (s := s) (b := (k : Int)) a1 hc ⟨a2, hn.2⟩
    refine ⟨b1, b2, Int.le_trans b3 a3, ?_⟩
    rcases a4 with ⟨a4, a5⟩ | a4
    · rcases b4 with ⟨b4, b5⟩ | b4
      · rw [a4] at b5
        refine .inl ⟨b4.trans a4, fun j hj => ?_⟩
        by_cases hjk : j = k
        · subst hjk; exact b5
        · exact a5 j (by omega)
      · rw [a4] at b4; exact .inr b4
    · exact .inr (Int.lt_of_le_of_lt b3 a4)
/-- A cycle. -/
theorem adv_sok {c : Cfg} {s : Script} {n st : Int} {x : Stt} (h : SOk c n st x) (h1 : 1 ≤ c.banks) (h2 : c.banks ≤ 16) (h3 : 1 ≤ c.lat) (h4 : c.lat ≤ 1000) (hn : 0 ≤ x.lats ∧ n ≤ 1000) : SOk c n st (advF c s x) ∧ 0 ≤ (advF c s x).lats ∧ sumI (wgI c.lat) (advF c s x).table ≤ sumI (wgI c.lat) x.table ∧ (0 < x.table.length → sumI (wgI c.lat) (advF c s x).table < sumI (wgI c.lat) x.table) := by
  have he := end_sok h
  obtain ⟨e1, e2, e3⟩ := end_all (x := x)
  unfold advF
  rw [if_pos ⟨h1, h2, h3, h4⟩]
  obtain ⟨b1, b2, b3, b4⟩ := bgK_sok (s := s) he h3 ⟨by rw [e2]; exact hn.1, hn.2⟩ c.banks.toNat
  have hd : ∀ r ∈ x.table, match decR r with | some r' => wgI c.lat r' ≤ wgI c.lat r | none => 0 ≤ wgI c.lat r := fun r hr => by
    have := h.left r hr
    rcases dec_cases (r := r) with ⟨g1, g2⟩ | ⟨g1, g2⟩ | ⟨g1, g2⟩ <;> rw [g2]
    · show wgI c.lat _ ≤ wgI c.lat r
      unfold wgI
      rw [if_pos (show r.left > 0 by omega), if_pos (by show r.left - 1 > 0; omega)]
      show r.left - 1 ≤ _
      omega
    · show 0 ≤ wgI c.lat r
      unfold wgI
      split <;> omega
    · exact Int.le_refl _
  have hle : sumI (wgI c.lat) (endF x).table ≤ sumI (wgI c.lat) x.table := by rw [e1]; exact sumI_dec hd
  refine ⟨b1, b2, Int.le_trans b3 hle, fun hlen => ?_⟩
  by_cases hb : ∃ r ∈ x.table, r.left > 0
  · obtain ⟨r, hr, hr2⟩ := hb
    have : sumI (wgI c.lat) (endF x).table < sumI (wgI c.lat) x.table := by
      rw [e1]
      refine sumI_decL hd ⟨r, hr, ?_⟩
      rcases dec_cases (r := r) with ⟨g1, g2⟩ | ⟨g1, g2⟩ | ⟨g1, g2⟩ <;> rw [g2]
      · show wgI c.lat _ < wgI c.lat r
        unfold wgI
        rw [if_pos hr2, if_pos (by show r.left - 1 > 0; omega)]
        show r.left - 1 < _
        omega
      · show 0 < wgI c.lat r
        unfold wgI
        rw [if_pos hr2]; omega
      · omega
    omega
  · have hz : ∀ r ∈ x.table, r.left = 0 := fun r hr => by
      have := h.left r hr
      have : ¬ r.left > 0 := fun g => hb ⟨r, hr, g⟩
      omega
    have hsame : (endF x).table = x.table := by
      rw [e1]
      have key : ∀ l : List Req, (∀ r ∈ l, r.left = 0) → l.filterMap decR = l := by
        intro l
        induction l with
        | nil => exact fun _ => rfl
        | cons r l ih =>
          intro hl
          rw [List.filterMap_cons]
          have : decR r = some r := by
            have := hl r List.mem_cons_self
            unfold decR
            rw [if_neg (by omega), if_neg (by omega)]
          rw [this]
          show r :: l.filterMap decR = _
          rw [ih fun q hq => hl q (List.mem_cons_of_mem _ hq)]
      exact key _ hz
    rw [hsame] at b4
    rcases b4 with ⟨_, b4⟩ | b4
    · exfalso
      have hr0 := hz _ (ix_mem hlen)
      have hbr := bnk_rng (a := (ix x.table 0).addr) h1
      have hj := b4 (bnkI (ix x.table 0).addr c.banks).toNat (by omega)
      have hcast : (((bnkI (ix x.table 0).addr c.banks).toNat : Nat) : Int) = bnkI (ix x.table 0).addr c.banks := by omega
      rw [hcast] at hj
      rcases hj with hj | hj
      · obtain ⟨q, hq, hq2⟩ := List.any_eq_true.1 hj
        have := hz q hq
        simp [isBz, this] at hq2
      · exact wait_in (k := x.table.length) hlen (by simp [isWt, hr0]) hj
    · exact b4
end Go.Proofs.Ytbemlndjdbopeaa

