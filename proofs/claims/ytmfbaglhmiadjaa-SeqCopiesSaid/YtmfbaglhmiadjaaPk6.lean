/- Texts put together. -/
import Derived.Test.YtmfbaglhmiadjaaPk5
/- A round of a run. -/
namespace Go.Proofs.Ytmfbaglhmiadjaa
open Go.Ra
set_option linter.unusedVariables false
set_option linter.unusedSimpArgs false
set_option maxRecDepth 4000
def sRunV (x y : Bool) (p : PV) (r : RV) (pc bd : Int) (k : Nat) : XSt := sRun x p.n p.f p.sz y p.m p.d r.st r.rg r.nm r.mm r.nw r.wf pc bd k
/-- A result that goes on. -/
abbrev rv0 (st : Int) (rg : Nat → XV) (nm : Nat) (mm : Nat → XV) (nw : Nat) (wf : Nat → XV) : RV := ⟨0, 0, 0, 0, st, rg, nm, mm, nw, wf⟩
theorem xfin_eq {en tk ts tp st : Int} {rg rg' : Nat → XV} {nm nw : Nat} {mm mm' wf wf' : Nat → XV} (h0 : ∀ i, i < 16 → con (rg i) = con (rg' i)) (h1 : ∀ i, i < nm → con (mm i) = con (mm' i)) (h2 : ∀ i, i < nw → con (wf i) = con (wf' i)) :
    con (.agg 23 [.int .i64 en, .agg 3 [.int .i64 tk, .int .i64 ts, .int .i64 tp], .int .i64 st, .tab 16 1 rg, .row false 1 nm mm, .row false 3 nw wf]) = con (.agg 23 [.int .i64 en, .agg 3 [.int .i64 tk, .int .i64 ts, .int .i64 tp], .int .i64 st, .tab 16 1 rg', .row false 1 nm mm', .row false 3 nw wf']) := by
  simp only [con, cons]
  rw [tabL_congr h0, tabL_congr h1, tabL_congr h2]
section
variable {x y : Bool} {p : PV} {st : Int} {rg : Nat → XV} {nm : Nat} {mm : Nat → XV} {nw : Nat} {wf : Nat → XV} {pc bd : Int} {k : Nat} {R : AV} {A : XSt → Prop}
/-- What is asked behind a round. -/
abbrev Aft (x y : Bool) (p : PV) (bd : Int) (k : Nat) (R : AV) (A : XSt → Prop) (s : RV × Int) : Prop :=
  (s.1.en = 0 → ∀ τ : XSt, WeakE 6 τ.st (sRunV x y p s.1 s.2 bd (k + 1)).st → A τ) ∧ (¬ s.1.en = 0 → con (s.1.xv false false) = R)

theorem rn_pc (hp : p.ok) (hr : (rv0 st rg nm mm nw wf).ok) (hk : (k : Int) < bd) (hkb : k ≤ 100000) (hpc : pc < 0 ∨ pc ≥ p.n) (hE : con (((rv0 st rg nm mm nw wf).trap 4 pc).xv false false) = R) : goS Try.prog (TQ 8) [(.cell 4 true 23)] R (.run c_seq_Run_l1) [.lp c_seq_Run_l1 A, .blk 0, .seq c_seq_Run_p1] (sRun x p.n p.f p.sz y p.m p.d st rg nm mm nw wf pc bd k) := by
  refine Eq.mpr (r_rn_8 x p.n p.f p.sz y p.m p.d st rg nm mm nw wf pc bd k _ _) ?_
  by_cases c4 : pc < 0
  · simp only [hk, c4, pk_or, pk_and, pk_t, decide_true, decide_false, cond_true, cond_false, allN_true, Nat.le_refl, Int.toNat_natCast, Nat.beq_refl, pk_and, pk_or, Bool.not_true, Bool.not_false, not_true_eq_false, not_false_eq_true, Bool.and_true, Bool.true_and, Bool.and_self, ge_iff_le, Int.le_refl, if_true, if_false, reduceCtorEq, eq_self, BEq.rfl]
    exact hE
  · have c5 : pc ≥ p.n := hpc.resolve_left c4
    simp only [hk, c4, c5, pk_or, pk_and, pk_t, decide_true, decide_false, cond_true, cond_false, allN_true, Nat.le_refl, Int.toNat_natCast, Nat.beq_refl, pk_and, pk_or, Bool.not_true, Bool.not_false, not_true_eq_false, not_false_eq_true, Bool.and_true, Bool.true_and, Bool.and_self, ge_iff_le, Int.le_refl, if_true, if_false, reduceCtorEq, eq_self, BEq.rfl]
    exact hE
theorem rn_end (hk : ¬ (k : Int) < bd) (hE : con (({ rv0 st rg nm mm nw wf with en := 3 } : RV).xv false false) = R) : goS Try.prog (TQ 8) [(.cell 4 true 23)] R (.run c_seq_Run_l1) [.lp c_seq_Run_l1 A, .blk 0, .seq c_seq_Run_p1] (sRun x p.n p.f p.sz y p.m p.d st rg nm mm nw wf pc bd k) := by
  refine Eq.mpr (r_rn_8 x p.n p.f p.sz y p.m p.d st rg nm mm nw wf pc bd k _ _) ?_
  simp only [hk, decide_true, decide_false, cond_true, cond_false, allN_true, Nat.le_refl, Int.toNat_natCast, Nat.beq_refl, pk_and, pk_or, Bool.not_true, Bool.not_false, not_true_eq_false, not_false_eq_true, Bool.and_true, Bool.true_and, Bool.and_self, ge_iff_le, Int.le_refl, if_true, if_false, reduceCtorEq, eq_self, BEq.rfl]
  exact hE

theorem rn_8 (hp : p.ok) (hr : (rv0 st rg nm mm nw wf).ok) (hk : (k : Int) < bd) (hkb : k ≤ 100000) (hR : allR p.n p.f = true) (h0 : 0 ≤ pc) (h1 : pc < p.n) (hf : fmI (iOp (p.f pc.toNat)) = 8) (hA : Aft x y p bd k R A (insV (p.f pc.toNat) (rv0 st rg nm mm nw wf) pc)) : goS Try.prog (TQ 8) [(.cell 4 true 23)] R (.run c_seq_Run_l1) [.lp c_seq_Run_l1 A, .blk 0, .seq c_seq_Run_p1] (sRun x p.n p.f p.sz y p.m p.d st rg nm mm nw wf pc bd k) := by
  refine Eq.mpr (r_rn_8 x p.n p.f p.sz y p.m p.d st rg nm mm nw wf pc bd k _ _) ?_
  have hn := hp.n
  have hm := hp.m
  have b1 : nm * 1 ≤ 140737488355328 := by have : nm ≤ 1099511627776 := hr.nm; omega
  have b2 : nw * 24 ≤ 140737488355328 := by have : nw ≤ 1000000 := hr.nw; omega
  have b3 : nm ≤ 1099511627776 := hr.nm
  have c4 : ¬ pc < 0 := by omega
  have c5 : ¬ pc ≥ p.n := by omega
  have c6 : (0 : Int) ≤ pc := by omega
  have c7 : pc < p.n := by omega
  have wk : IntKind.i64.wrap ((k : Int) + 1) = ((k + 1 : Nat) : Int) := wrap_i64 (by omega) (by omega)
  have hrt := allR_iff.1 hR pc.toNat (by omega)
  obtain ⟨_, ⟨hd0, hd1⟩, ⟨ha0, ha1⟩, ⟨hb0, hb1⟩, hi0, hi1⟩ := rt_fields hrt
  have hrg : ∀ i, i < 16 → 0 ≤ asN (rg i) ∧ asN (rg i) ≤ 4294967295 := hr.rg
  obtain ⟨va0, va1⟩ := vl_rng hrg ha0 ha1
  obtain ⟨vb0, vb1⟩ := vl_rng hrg hb0 hb1
  obtain ⟨ad0, ad1⟩ := u32_rng (vlI rg (iA (p.f pc.toNat)) + IntKind.u32.wrap (iM (p.f pc.toNat)))
  have hd2 : iD (p.f pc.toNat) < 16 := by omega
  have hd3 : (iD (p.f pc.toNat)).toNat < 16 := by omega
  have hmm : rngB nm (fun i => .int .u8 (asN (mm i))) = true := rng_by hr.mm
  have e : insV (p.f pc.toNat) (rv0 st rg nm mm nw wf) pc = ({ (rv0 st rg nm mm nw wf).tick with en := 1 }, pc) := by unfold insV; rw [if_pos hf]
  rw [e] at hA
  simp only [hk, wk, c4, c5, c6, c7, hf, pr_in, vl_in, load_by, hn, hm, b1, b2, b3, ha0, ha1, hb0, hb1, hd0, hd2, hd3, va0, va1, vb0, vb1, ad0, ad1, hmm, pk_or, pk_and, pk_t, decide_true, decide_false, cond_true, cond_false, allN_true, Nat.le_refl, Int.toNat_natCast, Nat.beq_refl, pk_and, pk_or, Bool.not_true, Bool.not_false, not_true_eq_false, not_false_eq_true, Bool.and_true, Bool.true_and, Bool.and_self, ge_iff_le, Int.le_refl, if_true, if_false, reduceCtorEq, eq_self, BEq.rfl]
  exact hA.2 (by show ¬ (1 : Int) = 0; decide)

theorem rn_7 (hp : p.ok) (hr : (rv0 st rg nm mm nw wf).ok) (hk : (k : Int) < bd) (hkb : k ≤ 100000) (hR : allR p.n p.f = true) (h0 : 0 ≤ pc) (h1 : pc < p.n) (hf : fmI (iOp (p.f pc.toNat)) = 7) (hA : Aft x y p bd k R A (insV (p.f pc.toNat) (rv0 st rg nm mm nw wf) pc)) : goS Try.prog (TQ 7) [(.cell 4 true 23)] R (.run c_seq_Run_l1) [.lp c_seq_Run_l1 A, .blk 0, .seq c_seq_Run_p1] (sRun x p.n p.f p.sz y p.m p.d st rg nm mm nw wf pc bd k) := by
  refine Eq.mpr (r_rn_7 x p.n p.f p.sz y p.m p.d st rg nm mm nw wf pc bd k _ _) ?_
  have hn := hp.n
  have hm := hp.m
  have b1 : nm * 1 ≤ 140737488355328 := by have : nm ≤ 1099511627776 := hr.nm; omega
  have b2 : nw * 24 ≤ 140737488355328 := by have : nw ≤ 1000000 := hr.nw; omega
  have b3 : nm ≤ 1099511627776 := hr.nm
  have c4 : ¬ pc < 0 := by omega
  have c5 : ¬ pc ≥ p.n := by omega
  have c6 : (0 : Int) ≤ pc := by omega
  have c7 : pc < p.n := by omega
  have wk : IntKind.i64.wrap ((k : Int) + 1) = ((k + 1 : Nat) : Int) := wrap_i64 (by omega) (by omega)
  have hrt := allR_iff.1 hR pc.toNat (by omega)
  obtain ⟨_, ⟨hd0, hd1⟩, ⟨ha0, ha1⟩, ⟨hb0, hb1⟩, hi0, hi1⟩ := rt_fields hrt
  have hrg : ∀ i, i < 16 → 0 ≤ asN (rg i) ∧ asN (rg i) ≤ 4294967295 := hr.rg
  obtain ⟨va0, va1⟩ := vl_rng hrg ha0 ha1
  obtain ⟨vb0, vb1⟩ := vl_rng hrg hb0 hb1
  obtain ⟨ad0, ad1⟩ := u32_rng (vlI rg (iA (p.f pc.toNat)) + IntKind.u32.wrap (iM (p.f pc.toNat)))
  have hd2 : iD (p.f pc.toNat) < 16 := by omega
  have hd3 : (iD (p.f pc.toNat)).toNat < 16 := by omega
  have hmm : rngB nm (fun i => .int .u8 (asN (mm i))) = true := rng_by hr.mm
  have e : insV (p.f pc.toNat) (rv0 st rg nm mm nw wf) pc = ((rv0 st rg nm mm nw wf).tick, IntKind.i64.wrap (pc + iM (p.f pc.toNat))) := by unfold insV; rw [if_neg (by omega), if_pos hf]
  rw [e] at hA
  simp only [hk, wk, c4, c5, c6, c7, hf, pr_in, vl_in, load_by, hn, hm, b1, b2, b3, ha0, ha1, hb0, hb1, hd0, hd2, hd3, va0, va1, vb0, vb1, ad0, ad1, hmm, pk_or, pk_and, pk_t, decide_true, decide_false, cond_true, cond_false, allN_true, Nat.le_refl, Int.toNat_natCast, Nat.beq_refl, pk_and, pk_or, Bool.not_true, Bool.not_false, not_true_eq_false, not_false_eq_true, Bool.and_true, Bool.true_and, Bool.and_self, ge_iff_le, Int.le_refl, if_true, if_false, reduceCtorEq, eq_self, BEq.rfl]
  exact hA.1 rfl _ (weakK [(0, 0), (1, 1), (2, 2), (3, 3), (4, 4), (5, 5), (6, 6)] rfl rfl rfl rfl rfl ⟨k_is rfl rfl, k_is rfl rfl, .ptr rfl, .ptr rfl, .ptr rfl, trivial⟩ ⟨k_is rfl rfl, .agg (.cons (k_is rfl rfl) (.cons (.ptr rfl) (.cons (k_is rfl rfl) .nil))), .agg (.cons (k_is rfl rfl) (.cons (k_is rfl rfl) (.cons (k_is rfl rfl) (.cons (k_is rfl rfl) (.cons (.sl rfl) (.cons (.sl rfl) .nil)))))), k_is rfl rfl, k_is rfl rfl, k_is rfl rfl, trivial⟩)

theorem rn_6 (hp : p.ok) (hr : (rv0 st rg nm mm nw wf).ok) (hk : (k : Int) < bd) (hkb : k ≤ 100000) (hR : allR p.n p.f = true) (h0 : 0 ≤ pc) (h1 : pc < p.n) (hf : fmI (iOp (p.f pc.toNat)) = 6) (hA : Aft x y p bd k R A (insV (p.f pc.toNat) (rv0 st rg nm mm nw wf) pc)) : goS Try.prog (TQ 6) [(.cell 4 true 23)] R (.run c_seq_Run_l1) [.lp c_seq_Run_l1 A, .blk 0, .seq c_seq_Run_p1] (sRun x p.n p.f p.sz y p.m p.d st rg nm mm nw wf pc bd k) := by
  refine Eq.mpr (r_rn_6 x p.n p.f p.sz y p.m p.d st rg nm mm nw wf pc bd k _ _) ?_
  have hn := hp.n
  have hm := hp.m
  have b1 : nm * 1 ≤ 140737488355328 := by have : nm ≤ 1099511627776 := hr.nm; omega
  have b2 : nw * 24 ≤ 140737488355328 := by have : nw ≤ 1000000 := hr.nw; omega
  have b3 : nm ≤ 1099511627776 := hr.nm
  have c4 : ¬ pc < 0 := by omega
  have c5 : ¬ pc ≥ p.n := by omega
  have c6 : (0 : Int) ≤ pc := by omega
  have c7 : pc < p.n := by omega
  have wk : IntKind.i64.wrap ((k : Int) + 1) = ((k + 1 : Nat) : Int) := wrap_i64 (by omega) (by omega)
  have hrt := allR_iff.1 hR pc.toNat (by omega)
  obtain ⟨_, ⟨hd0, hd1⟩, ⟨ha0, ha1⟩, ⟨hb0, hb1⟩, hi0, hi1⟩ := rt_fields hrt
  have hrg : ∀ i, i < 16 → 0 ≤ asN (rg i) ∧ asN (rg i) ≤ 4294967295 := hr.rg
  obtain ⟨va0, va1⟩ := vl_rng hrg ha0 ha1
  obtain ⟨vb0, vb1⟩ := vl_rng hrg hb0 hb1
  obtain ⟨ad0, ad1⟩ := u32_rng (vlI rg (iA (p.f pc.toNat)) + IntKind.u32.wrap (iM (p.f pc.toNat)))
  have hd2 : iD (p.f pc.toNat) < 16 := by omega
  have hd3 : (iD (p.f pc.toNat)).toNat < 16 := by omega
  have hmm : rngB nm (fun i => .int .u8 (asN (mm i))) = true := rng_by hr.mm
  have e : insV (p.f pc.toNat) (rv0 st rg nm mm nw wf) pc = ((rv0 st rg nm mm nw wf).tick, if tkB (iOp (p.f pc.toNat)) (vlI rg (iA (p.f pc.toNat))) (vlI rg (iB (p.f pc.toNat))) = true then IntKind.i64.wrap (pc + iM (p.f pc.toNat)) else IntKind.i64.wrap (pc + 1)) := by unfold insV; rw [if_neg (by omega), if_neg (by omega), if_pos hf]
  rw [e] at hA
  simp only [hk, wk, c4, c5, c6, c7, hf, pr_in, vl_in, load_by, hn, hm, b1, b2, b3, ha0, ha1, hb0, hb1, hd0, hd2, hd3, va0, va1, vb0, vb1, ad0, ad1, hmm, pk_or, pk_and, pk_t, decide_true, decide_false, cond_true, cond_false, allN_true, Nat.le_refl, Int.toNat_natCast, Nat.beq_refl, pk_and, pk_or, Bool.not_true, Bool.not_false, not_true_eq_false, not_false_eq_true, Bool.and_true, Bool.true_and, Bool.and_self, ge_iff_le, Int.le_refl, if_true, if_false, reduceCtorEq, eq_self, BEq.rfl]
  refine cnd2 (fun h => ?_) (fun h => ?_)
  · rw [if_pos h] at hA
    exact hA.1 rfl _ (weakK [(0, 0), (1, 1), (2, 2), (3, 3), (4, 4), (5, 5), (6, 6)] rfl rfl rfl rfl rfl ⟨k_is rfl rfl, k_is rfl rfl, .ptr rfl, .ptr rfl, .ptr rfl, trivial⟩ ⟨k_is rfl rfl, .agg (.cons (k_is rfl rfl) (.cons (.ptr rfl) (.cons (k_is rfl rfl) .nil))), .agg (.cons (k_is rfl rfl) (.cons (k_is rfl rfl) (.cons (k_is rfl rfl) (.cons (k_is rfl rfl) (.cons (.sl rfl) (.cons (.sl rfl) .nil)))))), k_is rfl rfl, k_is rfl rfl, k_is rfl rfl, trivial⟩)
  · rw [if_neg (by rw [h]; decide)] at hA
    exact hA.1 rfl _ (weakK [(0, 0), (1, 1), (2, 2), (3, 3), (4, 4), (5, 5), (6, 6)] rfl rfl rfl rfl rfl ⟨k_is rfl rfl, k_is rfl rfl, .ptr rfl, .ptr rfl, .ptr rfl, trivial⟩ ⟨k_is rfl rfl, .agg (.cons (k_is rfl rfl) (.cons (.ptr rfl) (.cons (k_is rfl rfl) .nil))), .agg (.cons (k_is rfl rfl) (.cons (k_is rfl rfl) (.cons (k_is rfl rfl) (.cons (k_is rfl rfl) (.cons (.sl rfl) (.cons (.sl rfl) .nil)))))), k_is rfl rfl, k_is rfl rfl, k_is rfl rfl, trivial⟩)

theorem rn_4 (hp : p.ok) (hr : (rv0 st rg nm mm nw wf).ok) (hk : (k : Int) < bd) (hkb : k ≤ 100000) (hR : allR p.n p.f = true) (h0 : 0 ≤ pc) (h1 : pc < p.n) (hf : fmI (iOp (p.f pc.toNat)) = 4) (hA : Aft x y p bd k R A (insV (p.f pc.toNat) (rv0 st rg nm mm nw wf) pc)) : goS Try.prog (TQ 4) [(.cell 4 true 23)] R (.run c_seq_Run_l1) [.lp c_seq_Run_l1 A, .blk 0, .seq c_seq_Run_p1] (sRun x p.n p.f p.sz y p.m p.d st rg nm mm nw wf pc bd k) := by
  refine Eq.mpr (r_rn_4 x p.n p.f p.sz y p.m p.d st rg nm mm nw wf pc bd k _ _) ?_
  have hn := hp.n
  have hm := hp.m
  have b1 : nm * 1 ≤ 140737488355328 := by have : nm ≤ 1099511627776 := hr.nm; omega
  have b2 : nw * 24 ≤ 140737488355328 := by have : nw ≤ 1000000 := hr.nw; omega
  have b3 : nm ≤ 1099511627776 := hr.nm
  have c4 : ¬ pc < 0 := by omega
  have c5 : ¬ pc ≥ p.n := by omega
  have c6 : (0 : Int) ≤ pc := by omega
  have c7 : pc < p.n := by omega
  have wk : IntKind.i64.wrap ((k : Int) + 1) = ((k + 1 : Nat) : Int) := wrap_i64 (by omega) (by omega)
  have hrt := allR_iff.1 hR pc.toNat (by omega)
  obtain ⟨_, ⟨hd0, hd1⟩, ⟨ha0, ha1⟩, ⟨hb0, hb1⟩, hi0, hi1⟩ := rt_fields hrt
  have hrg : ∀ i, i < 16 → 0 ≤ asN (rg i) ∧ asN (rg i) ≤ 4294967295 := hr.rg
  obtain ⟨va0, va1⟩ := vl_rng hrg ha0 ha1
  obtain ⟨vb0, vb1⟩ := vl_rng hrg hb0 hb1
  obtain ⟨ad0, ad1⟩ := u32_rng (vlI rg (iA (p.f pc.toNat)) + IntKind.u32.wrap (iM (p.f pc.toNat)))
  have hd2 : iD (p.f pc.toNat) < 16 := by omega
  have hd3 : (iD (p.f pc.toNat)).toNat < 16 := by omega
  have hmm : rngB nm (fun i => .int .u8 (asN (mm i))) = true := rng_by hr.mm
  have e : insV (p.f pc.toNat) (rv0 st rg nm mm nw wf) pc = (if chkI (szI (iOp (p.f pc.toNat))) (adV (p.f pc.toNat) (rv0 st rg nm mm nw wf)) nm = 0 then ((rv0 st rg nm mm nw wf).set (iD (p.f pc.toNat)) (loadI nm mm (iOp (p.f pc.toNat)) (adV (p.f pc.toNat) (rv0 st rg nm mm nw wf))), IntKind.i64.wrap (pc + 1)) else ((rv0 st rg nm mm nw wf).trap (chkI (szI (iOp (p.f pc.toNat))) (adV (p.f pc.toNat) (rv0 st rg nm mm nw wf)) nm) pc, pc)) := by
    unfold insV; rw [if_neg (by omega), if_neg (by omega), if_neg (by omega), if_neg (by omega), if_pos hf]
  rw [e] at hA
  unfold adV at hA
  by_cases hc : chkI (szI (iOp (p.f pc.toNat))) (IntKind.u32.wrap (vlI rg (iA (p.f pc.toNat)) + IntKind.u32.wrap (iM (p.f pc.toNat)))) nm = 0
  case neg =>
    rw [if_neg hc] at hA
    simp only [hc, hk, wk, c4, c5, c6, c7, hf, pr_in, vl_in, load_by, hn, hm, b1, b2, b3, ha0, ha1, hb0, hb1, hd0, hd2, hd3, va0, va1, vb0, vb1, ad0, ad1, hmm, pk_or, pk_and, pk_t, decide_true, decide_false, cond_true, cond_false, allN_true, Nat.le_refl, Int.toNat_natCast, Nat.beq_refl, pk_and, pk_or, Bool.not_true, Bool.not_false, not_true_eq_false, not_false_eq_true, Bool.and_true, Bool.true_and, Bool.and_self, ge_iff_le, Int.le_refl, if_true, if_false, reduceCtorEq, eq_self, BEq.rfl]
    exact hA.2 (by show ¬ (2 : Int) = 0; decide)
  rw [if_pos hc] at hA
  by_cases hd : iD (p.f pc.toNat) = 0
  · have hdd : decide (¬ iD (p.f pc.toNat) = 0) = false := by simp [hd]
    simp only [hc, hdd, hk, wk, c4, c5, c6, c7, hf, pr_in, vl_in, load_by, hn, hm, b1, b2, b3, ha0, ha1, hb0, hb1, hd0, hd2, hd3, va0, va1, vb0, vb1, ad0, ad1, hmm, pk_or, pk_and, pk_t, decide_true, decide_false, cond_true, cond_false, allN_true, Nat.le_refl, Int.toNat_natCast, Nat.beq_refl, pk_and, pk_or, Bool.not_true, Bool.not_false, not_true_eq_false, not_false_eq_true, Bool.and_true, Bool.true_and, Bool.and_self, ge_iff_le, Int.le_refl, if_true, if_false, reduceCtorEq, eq_self, BEq.rfl]
    refine hA.1 rfl _ (weakK [(0, 0), (1, 1), (2, 2), (3, 3), (4, 4), (5, 5), (6, 6)] rfl rfl rfl rfl rfl ⟨k_is rfl rfl, k_is rfl rfl, .ptr rfl, .ptr rfl, .ptr rfl, trivial⟩ ⟨k_is rfl rfl, .agg (.cons (k_is rfl rfl) (.cons (.ptr rfl) (.cons (k_is rfl rfl) .nil))), .agg (.cons (k_is rfl rfl) (.cons (k_is rfl rfl) (.cons (k_is rfl rfl) (.cons (k_tab fun i hi => ?_) (.cons (.sl rfl) (.cons (.sl rfl) .nil)))))), k_is rfl rfl, k_is rfl rfl, k_is rfl rfl, trivial⟩)
    exact congrArg con (congrFun (set_no (g := rg) (v := loadI nm mm (iOp (p.f pc.toNat)) (IntKind.u32.wrap (vlI rg (iA (p.f pc.toNat)) + IntKind.u32.wrap (iM (p.f pc.toNat))))) hd) i).symm
  · simp only [hc, hd, hk, wk, c4, c5, c6, c7, hf, pr_in, vl_in, load_by, hn, hm, b1, b2, b3, ha0, ha1, hb0, hb1, hd0, hd2, hd3, va0, va1, vb0, vb1, ad0, ad1, hmm, pk_or, pk_and, pk_t, decide_true, decide_false, cond_true, cond_false, allN_true, Nat.le_refl, Int.toNat_natCast, Nat.beq_refl, pk_and, pk_or, Bool.not_true, Bool.not_false, not_true_eq_false, not_false_eq_true, Bool.and_true, Bool.true_and, Bool.and_self, ge_iff_le, Int.le_refl, if_true, if_false, reduceCtorEq, eq_self, BEq.rfl]
    refine hA.1 rfl _ (weakK [(0, 0), (1, 1), (2, 2), (3, 3), (4, 4), (5, 5), (6, 6)] rfl rfl rfl rfl rfl ⟨k_is rfl rfl, k_is rfl rfl, .ptr rfl, .ptr rfl, .ptr rfl, trivial⟩ ⟨k_is rfl rfl, .agg (.cons (k_is rfl rfl) (.cons (.ptr rfl) (.cons (k_is rfl rfl) .nil))), .agg (.cons (k_is rfl rfl) (.cons (k_is rfl rfl) (.cons (k_is rfl rfl) (.cons (k_tab fun i hi => ?_) (.cons (.sl rfl) (.cons (.sl rfl) .nil)))))), k_is rfl rfl, k_is rfl rfl, k_is rfl rfl, trivial⟩)
    exact congrArg con (congrFun (set_eq (g := rg) (v := loadI nm mm (iOp (p.f pc.toNat)) (IntKind.u32.wrap (vlI rg (iA (p.f pc.toNat)) + IntKind.u32.wrap (iM (p.f pc.toNat))))) hd) i)

theorem rn_1 (hp : p.ok) (hr : (rv0 st rg nm mm nw wf).ok) (hk : (k : Int) < bd) (hkb : k ≤ 100000) (hR : allR p.n p.f = true) (h0 : 0 ≤ pc) (h1 : pc < p.n) (hf : fmI (iOp (p.f pc.toNat)) = 1) (hA : Aft x y p bd k R A (insV (p.f pc.toNat) (rv0 st rg nm mm nw wf) pc)) : goS Try.prog (TQ 1) [(.cell 4 true 23)] R (.run c_seq_Run_l1) [.lp c_seq_Run_l1 A, .blk 0, .seq c_seq_Run_p1] (sRun x p.n p.f p.sz y p.m p.d st rg nm mm nw wf pc bd k) := by
  refine Eq.mpr (r_rn_1 x p.n p.f p.sz y p.m p.d st rg nm mm nw wf pc bd k _ _) ?_
  have hn := hp.n
  have hm := hp.m
  have b1 : nm * 1 ≤ 140737488355328 := by have : nm ≤ 1099511627776 := hr.nm; omega
  have b2 : nw * 24 ≤ 140737488355328 := by have : nw ≤ 1000000 := hr.nw; omega
  have b3 : nm ≤ 1099511627776 := hr.nm
  have c4 : ¬ pc < 0 := by omega
  have c5 : ¬ pc ≥ p.n := by omega
  have c6 : (0 : Int) ≤ pc := by omega
  have c7 : pc < p.n := by omega
  have wk : IntKind.i64.wrap ((k : Int) + 1) = ((k + 1 : Nat) : Int) := wrap_i64 (by omega) (by omega)
  have hrt := allR_iff.1 hR pc.toNat (by omega)
  obtain ⟨_, ⟨hd0, hd1⟩, ⟨ha0, ha1⟩, ⟨hb0, hb1⟩, hi0, hi1⟩ := rt_fields hrt
  have hrg : ∀ i, i < 16 → 0 ≤ asN (rg i) ∧ asN (rg i) ≤ 4294967295 := hr.rg
  obtain ⟨va0, va1⟩ := vl_rng hrg ha0 ha1
  obtain ⟨vb0, vb1⟩ := vl_rng hrg hb0 hb1
  obtain ⟨ad0, ad1⟩ := u32_rng (vlI rg (iA (p.f pc.toNat)) + IntKind.u32.wrap (iM (p.f pc.toNat)))
  have hd2 : iD (p.f pc.toNat) < 16 := by omega
  have hd3 : (iD (p.f pc.toNat)).toNat < 16 := by omega
  have hmm : rngB nm (fun i => .int .u8 (asN (mm i))) = true := rng_by hr.mm
  have e : insV (p.f pc.toNat) (rv0 st rg nm mm nw wf) pc = (if dkB (iOp (p.f pc.toNat)) (iD (p.f pc.toNat)) (iA (p.f pc.toNat)) (iB (p.f pc.toNat)) (iM (p.f pc.toNat)) (vlI rg (iB (p.f pc.toNat))) = true then ((rv0 st rg nm mm nw wf).set (iD (p.f pc.toNat)) (doI (iOp (p.f pc.toNat)) (iD (p.f pc.toNat)) (iA (p.f pc.toNat)) (iB (p.f pc.toNat)) (iM (p.f pc.toNat)) (vlI rg (iA (p.f pc.toNat))) (vlI rg (iB (p.f pc.toNat)))), IntKind.i64.wrap (pc + 1)) else ((rv0 st rg nm mm nw wf).trap 3 pc, pc)) := by
    unfold insV; rw [if_neg (by omega), if_neg (by omega), if_neg (by omega), if_neg (by omega), if_neg (by omega)]
  rw [e] at hA
  by_cases hc : dkB (iOp (p.f pc.toNat)) (iD (p.f pc.toNat)) (iA (p.f pc.toNat)) (iB (p.f pc.toNat)) (iM (p.f pc.toNat)) (vlI rg (iB (p.f pc.toNat))) = true
  case neg =>
    rw [if_neg hc] at hA
    have hc' : dkB (iOp (p.f pc.toNat)) (iD (p.f pc.toNat)) (iA (p.f pc.toNat)) (iB (p.f pc.toNat)) (iM (p.f pc.toNat)) (vlI rg (iB (p.f pc.toNat))) = false := by simpa using hc
    simp only [hc', hk, wk, c4, c5, c6, c7, hf, pr_in, vl_in, load_by, hn, hm, b1, b2, b3, ha0, ha1, hb0, hb1, hd0, hd2, hd3, va0, va1, vb0, vb1, ad0, ad1, hmm, pk_or, pk_and, pk_t, decide_true, decide_false, cond_true, cond_false, allN_true, Nat.le_refl, Int.toNat_natCast, Nat.beq_refl, pk_and, pk_or, Bool.not_true, Bool.not_false, not_true_eq_false, not_false_eq_true, Bool.and_true, Bool.true_and, Bool.and_self, ge_iff_le, Int.le_refl, if_true, if_false, reduceCtorEq, eq_self, BEq.rfl]
    exact hA.2 (by show ¬ (2 : Int) = 0; decide)
  rw [if_pos hc] at hA
  by_cases hd : iD (p.f pc.toNat) = 0
  · have hdd : decide (¬ iD (p.f pc.toNat) = 0) = false := by simp [hd]
    simp only [hc, hdd, hk, wk, c4, c5, c6, c7, hf, pr_in, vl_in, load_by, hn, hm, b1, b2, b3, ha0, ha1, hb0, hb1, hd0, hd2, hd3, va0, va1, vb0, vb1, ad0, ad1, hmm, pk_or, pk_and, pk_t, decide_true, decide_false, cond_true, cond_false, allN_true, Nat.le_refl, Int.toNat_natCast, Nat.beq_refl, pk_and, pk_or, Bool.not_true, Bool.not_false, not_true_eq_false, not_false_eq_true, Bool.and_true, Bool.true_and, Bool.and_self, ge_iff_le, Int.le_refl, if_true, if_false, reduceCtorEq, eq_self, BEq.rfl]
    refine hA.1 rfl _ (weakK [(0, 0), (1, 1), (2, 2), (3, 3), (4, 4), (5, 5), (6, 6)] rfl rfl rfl rfl rfl ⟨k_is rfl rfl, k_is rfl rfl, .ptr rfl, .ptr rfl, .ptr rfl, trivial⟩ ⟨k_is rfl rfl, .agg (.cons (k_is rfl rfl) (.cons (.ptr rfl) (.cons (k_is rfl rfl) .nil))), .agg (.cons (k_is rfl rfl) (.cons (k_is rfl rfl) (.cons (k_is rfl rfl) (.cons (k_tab fun i hi => ?_) (.cons (.sl rfl) (.cons (.sl rfl) .nil)))))), k_is rfl rfl, k_is rfl rfl, k_is rfl rfl, trivial⟩)
    exact congrArg con (congrFun (set_no (g := rg) (v := doI (iOp (p.f pc.toNat)) (iD (p.f pc.toNat)) (iA (p.f pc.toNat)) (iB (p.f pc.toNat)) (iM (p.f pc.toNat)) (vlI rg (iA (p.f pc.toNat))) (vlI rg (iB (p.f pc.toNat)))) hd) i).symm
  · simp only [hc, hd, hk, wk, c4, c5, c6, c7, hf, pr_in, vl_in, load_by, hn, hm, b1, b2, b3, ha0, ha1, hb0, hb1, hd0, hd2, hd3, va0, va1, vb0, vb1, ad0, ad1, hmm, pk_or, pk_and, pk_t, decide_true, decide_false, cond_true, cond_false, allN_true, Nat.le_refl, Int.toNat_natCast, Nat.beq_refl, pk_and, pk_or, Bool.not_true, Bool.not_false, not_true_eq_false, not_false_eq_true, Bool.and_true, Bool.true_and, Bool.and_self, ge_iff_le, Int.le_refl, if_true, if_false, reduceCtorEq, eq_self, BEq.rfl]
    refine hA.1 rfl _ (weakK [(0, 0), (1, 1), (2, 2), (3, 3), (4, 4), (5, 5), (6, 6)] rfl rfl rfl rfl rfl ⟨k_is rfl rfl, k_is rfl rfl, .ptr rfl, .ptr rfl, .ptr rfl, trivial⟩ ⟨k_is rfl rfl, .agg (.cons (k_is rfl rfl) (.cons (.ptr rfl) (.cons (k_is rfl rfl) .nil))), .agg (.cons (k_is rfl rfl) (.cons (k_is rfl rfl) (.cons (k_is rfl rfl) (.cons (k_tab fun i hi => ?_) (.cons (.sl rfl) (.cons (.sl rfl) .nil)))))), k_is rfl rfl, k_is rfl rfl, k_is rfl rfl, trivial⟩)
    exact congrArg con (congrFun (set_eq (g := rg) (v := doI (iOp (p.f pc.toNat)) (iD (p.f pc.toNat)) (iA (p.f pc.toNat)) (iB (p.f pc.toNat)) (iM (p.f pc.toNat)) (vlI rg (iA (p.f pc.toNat))) (vlI rg (iB (p.f pc.toNat)))) hd) i)

theorem rn_2 (hp : p.ok) (hr : (rv0 st rg nm mm nw wf).ok) (hk : (k : Int) < bd) (hkb : k ≤ 100000) (hR : allR p.n p.f = true) (h0 : 0 ≤ pc) (h1 : pc < p.n) (hf : fmI (iOp (p.f pc.toNat)) = 2) (hA : Aft x y p bd k R A (insV (p.f pc.toNat) (rv0 st rg nm mm nw wf) pc)) : goS Try.prog (TQ 2) [(.cell 4 true 23)] R (.run c_seq_Run_l1) [.lp c_seq_Run_l1 A, .blk 0, .seq c_seq_Run_p1] (sRun x p.n p.f p.sz y p.m p.d st rg nm mm nw wf pc bd k) := by
  refine Eq.mpr (r_rn_2 x p.n p.f p.sz y p.m p.d st rg nm mm nw wf pc bd k _ _) ?_
  have hn := hp.n
  have hm := hp.m
  have b1 : nm * 1 ≤ 140737488355328 := by have : nm ≤ 1099511627776 := hr.nm; omega
  have b2 : nw * 24 ≤ 140737488355328 := by have : nw ≤ 1000000 := hr.nw; omega
  have b3 : nm ≤ 1099511627776 := hr.nm
  have c4 : ¬ pc < 0 := by omega
  have c5 : ¬ pc ≥ p.n := by omega
  have c6 : (0 : Int) ≤ pc := by omega
  have c7 : pc < p.n := by omega
  have wk : IntKind.i64.wrap ((k : Int) + 1) = ((k + 1 : Nat) : Int) := wrap_i64 (by omega) (by omega)
  have hrt := allR_iff.1 hR pc.toNat (by omega)
  obtain ⟨_, ⟨hd0, hd1⟩, ⟨ha0, ha1⟩, ⟨hb0, hb1⟩, hi0, hi1⟩ := rt_fields hrt
  have hrg : ∀ i, i < 16 → 0 ≤ asN (rg i) ∧ asN (rg i) ≤ 4294967295 := hr.rg
  obtain ⟨va0, va1⟩ := vl_rng hrg ha0 ha1
  obtain ⟨vb0, vb1⟩ := vl_rng hrg hb0 hb1
  obtain ⟨ad0, ad1⟩ := u32_rng (vlI rg (iA (p.f pc.toNat)) + IntKind.u32.wrap (iM (p.f pc.toNat)))
  have hd2 : iD (p.f pc.toNat) < 16 := by omega
  have hd3 : (iD (p.f pc.toNat)).toNat < 16 := by omega
  have hmm : rngB nm (fun i => .int .u8 (asN (mm i))) = true := rng_by hr.mm
  have e : insV (p.f pc.toNat) (rv0 st rg nm mm nw wf) pc = (if dkB (iOp (p.f pc.toNat)) (iD (p.f pc.toNat)) (iA (p.f pc.toNat)) (iB (p.f pc.toNat)) (iM (p.f pc.toNat)) (vlI rg (iB (p.f pc.toNat))) = true then ((rv0 st rg nm mm nw wf).set (iD (p.f pc.toNat)) (doI (iOp (p.f pc.toNat)) (iD (p.f pc.toNat)) (iA (p.f pc.toNat)) (iB (p.f pc.toNat)) (iM (p.f pc.toNat)) (vlI rg (iA (p.f pc.toNat))) (vlI rg (iB (p.f pc.toNat)))), IntKind.i64.wrap (pc + 1)) else ((rv0 st rg nm mm nw wf).trap 3 pc, pc)) := by
    unfold insV; rw [if_neg (by omega), if_neg (by omega), if_neg (by omega), if_neg (by omega), if_neg (by omega)]
  rw [e] at hA
  by_cases hc : dkB (iOp (p.f pc.toNat)) (iD (p.f pc.toNat)) (iA (p.f pc.toNat)) (iB (p.f pc.toNat)) (iM (p.f pc.toNat)) (vlI rg (iB (p.f pc.toNat))) = true
  case neg =>
    rw [if_neg hc] at hA
    have hc' : dkB (iOp (p.f pc.toNat)) (iD (p.f pc.toNat)) (iA (p.f pc.toNat)) (iB (p.f pc.toNat)) (iM (p.f pc.toNat)) (vlI rg (iB (p.f pc.toNat))) = false := by simpa using hc
    simp only [hc', hk, wk, c4, c5, c6, c7, hf, pr_in, vl_in, load_by, hn, hm, b1, b2, b3, ha0, ha1, hb0, hb1, hd0, hd2, hd3, va0, va1, vb0, vb1, ad0, ad1, hmm, pk_or, pk_and, pk_t, decide_true, decide_false, cond_true, cond_false, allN_true, Nat.le_refl, Int.toNat_natCast, Nat.beq_refl, pk_and, pk_or, Bool.not_true, Bool.not_false, not_true_eq_false, not_false_eq_true, Bool.and_true, Bool.true_and, Bool.and_self, ge_iff_le, Int.le_refl, if_true, if_false, reduceCtorEq, eq_self, BEq.rfl]
    exact hA.2 (by show ¬ (2 : Int) = 0; decide)
  rw [if_pos hc] at hA
  by_cases hd : iD (p.f pc.toNat) = 0
  · have hdd : decide (¬ iD (p.f pc.toNat) = 0) = false := by simp [hd]
    simp only [hc, hdd, hk, wk, c4, c5, c6, c7, hf, pr_in, vl_in, load_by, hn, hm, b1, b2, b3, ha0, ha1, hb0, hb1, hd0, hd2, hd3, va0, va1, vb0, vb1, ad0, ad1, hmm, pk_or, pk_and, pk_t, decide_true, decide_false, cond_true, cond_false, allN_true, Nat.le_refl, Int.toNat_natCast, Nat.beq_refl, pk_and, pk_or, Bool.not_true, Bool.not_false, not_true_eq_false, not_false_eq_true, Bool.and_true, Bool.true_and, Bool.and_self, ge_iff_le, Int.le_refl, if_true, if_false, reduceCtorEq, eq_self, BEq.rfl]
    refine hA.1 rfl _ (weakK [(0, 0), (1, 1), (2, 2), (3, 3), (4, 4), (5, 5), (6, 6)] rfl rfl rfl rfl rfl ⟨k_is rfl rfl, k_is rfl rfl, .ptr rfl, .ptr rfl, .ptr rfl, trivial⟩ ⟨k_is rfl rfl, .agg (.cons (k_is rfl rfl) (.cons (.ptr rfl) (.cons (k_is rfl rfl) .nil))), .agg (.cons (k_is rfl rfl) (.cons (k_is rfl rfl) (.cons (k_is rfl rfl) (.cons (k_tab fun i hi => ?_) (.cons (.sl rfl) (.cons (.sl rfl) .nil)))))), k_is rfl rfl, k_is rfl rfl, k_is rfl rfl, trivial⟩)
    exact congrArg con (congrFun (set_no (g := rg) (v := doI (iOp (p.f pc.toNat)) (iD (p.f pc.toNat)) (iA (p.f pc.toNat)) (iB (p.f pc.toNat)) (iM (p.f pc.toNat)) (vlI rg (iA (p.f pc.toNat))) (vlI rg (iB (p.f pc.toNat)))) hd) i).symm
  · simp only [hc, hd, hk, wk, c4, c5, c6, c7, hf, pr_in, vl_in, load_by, hn, hm, b1, b2, b3, ha0, ha1, hb0, hb1, hd0, hd2, hd3, va0, va1, vb0, vb1, ad0, ad1, hmm, pk_or, pk_and, pk_t, decide_true, decide_false, cond_true, cond_false, allN_true, Nat.le_refl, Int.toNat_natCast, Nat.beq_refl, pk_and, pk_or, Bool.not_true, Bool.not_false, not_true_eq_false, not_false_eq_true, Bool.and_true, Bool.true_and, Bool.and_self, ge_iff_le, Int.le_refl, if_true, if_false, reduceCtorEq, eq_self, BEq.rfl]
    refine hA.1 rfl _ (weakK [(0, 0), (1, 1), (2, 2), (3, 3), (4, 4), (5, 5), (6, 6)] rfl rfl rfl rfl rfl ⟨k_is rfl rfl, k_is rfl rfl, .ptr rfl, .ptr rfl, .ptr rfl, trivial⟩ ⟨k_is rfl rfl, .agg (.cons (k_is rfl rfl) (.cons (.ptr rfl) (.cons (k_is rfl rfl) .nil))), .agg (.cons (k_is rfl rfl) (.cons (k_is rfl rfl) (.cons (k_is rfl rfl) (.cons (k_tab fun i hi => ?_) (.cons (.sl rfl) (.cons (.sl rfl) .nil)))))), k_is rfl rfl, k_is rfl rfl, k_is rfl rfl, trivial⟩)
    exact congrArg con (congrFun (set_eq (g := rg) (v := doI (iOp (p.f pc.toNat)) (iD (p.f pc.toNat)) (iA (p.f pc.toNat)) (iB (p.f pc.toNat)) (iM (p.f pc.toNat)) (vlI rg (iA (p.f pc.toNat))) (vlI rg (iB (p.f pc.toNat)))) hd) i)

theorem rn_3 (hp : p.ok) (hr : (rv0 st rg nm mm nw wf).ok) (hk : (k : Int) < bd) (hkb : k ≤ 100000) (hR : allR p.n p.f = true) (h0 : 0 ≤ pc) (h1 : pc < p.n) (hf : fmI (iOp (p.f pc.toNat)) = 3) (hA : Aft x y p bd k R A (insV (p.f pc.toNat) (rv0 st rg nm mm nw wf) pc)) : goS Try.prog (TQ 3) [(.cell 4 true 23)] R (.run c_seq_Run_l1) [.lp c_seq_Run_l1 A, .blk 0, .seq c_seq_Run_p1] (sRun x p.n p.f p.sz y p.m p.d st rg nm mm nw wf pc bd k) := by
  refine Eq.mpr (r_rn_3 x p.n p.f p.sz y p.m p.d st rg nm mm nw wf pc bd k _ _) ?_
  have hn := hp.n
  have hm := hp.m
  have b1 : nm * 1 ≤ 140737488355328 := by have : nm ≤ 1099511627776 := hr.nm; omega
  have b2 : nw * 24 ≤ 140737488355328 := by have : nw ≤ 1000000 := hr.nw; omega
  have b3 : nm ≤ 1099511627776 := hr.nm
  have c4 : ¬ pc < 0 := by omega
  have c5 : ¬ pc ≥ p.n := by omega
  have c6 : (0 : Int) ≤ pc := by omega
  have c7 : pc < p.n := by omega
  have wk : IntKind.i64.wrap ((k : Int) + 1) = ((k + 1 : Nat) : Int) := wrap_i64 (by omega) (by omega)
  have hrt := allR_iff.1 hR pc.toNat (by omega)
  obtain ⟨_, ⟨hd0, hd1⟩, ⟨ha0, ha1⟩, ⟨hb0, hb1⟩, hi0, hi1⟩ := rt_fields hrt
  have hrg : ∀ i, i < 16 → 0 ≤ asN (rg i) ∧ asN (rg i) ≤ 4294967295 := hr.rg
  obtain ⟨va0, va1⟩ := vl_rng hrg ha0 ha1
  obtain ⟨vb0, vb1⟩ := vl_rng hrg hb0 hb1
  obtain ⟨ad0, ad1⟩ := u32_rng (vlI rg (iA (p.f pc.toNat)) + IntKind.u32.wrap (iM (p.f pc.toNat)))
  have hd2 : iD (p.f pc.toNat) < 16 := by omega
  have hd3 : (iD (p.f pc.toNat)).toNat < 16 := by omega
  have hmm : rngB nm (fun i => .int .u8 (asN (mm i))) = true := rng_by hr.mm
  have e : insV (p.f pc.toNat) (rv0 st rg nm mm nw wf) pc = (if dkB (iOp (p.f pc.toNat)) (iD (p.f pc.toNat)) (iA (p.f pc.toNat)) (iB (p.f pc.toNat)) (iM (p.f pc.toNat)) (vlI rg (iB (p.f pc.toNat))) = true then ((rv0 st rg nm mm nw wf).set (iD (p.f pc.toNat)) (doI (iOp (p.f pc.toNat)) (iD (p.f pc.toNat)) (iA (p.f pc.toNat)) (iB (p.f pc.toNat)) (iM (p.f pc.toNat)) (vlI rg (iA (p.f pc.toNat))) (vlI rg (iB (p.f pc.toNat)))), IntKind.i64.wrap (pc + 1)) else ((rv0 st rg nm mm nw wf).trap 3 pc, pc)) := by
    unfold insV; rw [if_neg (by omega), if_neg (by omega), if_neg (by omega), if_neg (by omega), if_neg (by omega)]
  rw [e] at hA
  by_cases hc : dkB (iOp (p.f pc.toNat)) (iD (p.f pc.toNat)) (iA (p.f pc.toNat)) (iB (p.f pc.toNat)) (iM (p.f pc.toNat)) (vlI rg (iB (p.f pc.toNat))) = true
  case neg =>
    rw [if_neg hc] at hA
    have hc' : dkB (iOp (p.f pc.toNat)) (iD (p.f pc.toNat)) (iA (p.f pc.toNat)) (iB (p.f pc.toNat)) (iM (p.f pc.toNat)) (vlI rg (iB (p.f pc.toNat))) = false := by simpa using hc
    simp only [hc', hk, wk, c4, c5, c6, c7, hf, pr_in, vl_in, load_by, hn, hm, b1, b2, b3, ha0, ha1, hb0, hb1, hd0, hd2, hd3, va0, va1, vb0, vb1, ad0, ad1, hmm, pk_or, pk_and, pk_t, decide_true, decide_false, cond_true, cond_false, allN_true, Nat.le_refl, Int.toNat_natCast, Nat.beq_refl, pk_and, pk_or, Bool.not_true, Bool.not_false, not_true_eq_false, not_false_eq_true, Bool.and_true, Bool.true_and, Bool.and_self, ge_iff_le, Int.le_refl, if_true, if_false, reduceCtorEq, eq_self, BEq.rfl]
    exact hA.2 (by show ¬ (2 : Int) = 0; decide)
  rw [if_pos hc] at hA
  by_cases hd : iD (p.f pc.toNat) = 0
  · have hdd : decide (¬ iD (p.f pc.toNat) = 0) = false := by simp [hd]
    simp only [hc, hdd, hk, wk, c4, c5, c6, c7, hf, pr_in, vl_in, load_by, hn, hm, b1, b2, b3, ha0, ha1, hb0, hb1, hd0, hd2, hd3, va0, va1, vb0, vb1, ad0, ad1, hmm, pk_or, pk_and, pk_t, decide_true, decide_false, cond_true, cond_false, allN_true, Nat.le_refl, Int.toNat_natCast, Nat.beq_refl, pk_and, pk_or, Bool.not_true, Bool.not_false, not_true_eq_false, not_false_eq_true, Bool.and_true, Bool.true_and, Bool.and_self, ge_iff_le, Int.le_refl, if_true, if_false, reduceCtorEq, eq_self, BEq.rfl]
    refine hA.1 rfl _ (weakK [(0, 0), (1, 1), (2, 2), (3, 3), (4, 4), (5, 5), (6, 6)] rfl rfl rfl rfl rfl ⟨k_is rfl rfl, k_is rfl rfl, .ptr rfl, .ptr rfl, .ptr rfl, trivial⟩ ⟨k_is rfl rfl, .agg (.cons (k_is rfl rfl) (.cons (.ptr rfl) (.cons (k_is rfl rfl) .nil))), .agg (.cons (k_is rfl rfl) (.cons (k_is rfl rfl) (.cons (k_is rfl rfl) (.cons (k_tab fun i hi => ?_) (.cons (.sl rfl) (.cons (.sl rfl) .nil)))))), k_is rfl rfl, k_is rfl rfl, k_is rfl rfl, trivial⟩)
    exact congrArg con (congrFun (set_no (g := rg) (v := doI (iOp (p.f pc.toNat)) (iD (p.f pc.toNat)) (iA (p.f pc.toNat)) (iB (p.f pc.toNat)) (iM (p.f pc.toNat)) (vlI rg (iA (p.f pc.toNat))) (vlI rg (iB (p.f pc.toNat)))) hd) i).symm
  · simp only [hc, hd, hk, wk, c4, c5, c6, c7, hf, pr_in, vl_in, load_by, hn, hm, b1, b2, b3, ha0, ha1, hb0, hb1, hd0, hd2, hd3, va0, va1, vb0, vb1, ad0, ad1, hmm, pk_or, pk_and, pk_t, decide_true, decide_false, cond_true, cond_false, allN_true, Nat.le_refl, Int.toNat_natCast, Nat.beq_refl, pk_and, pk_or, Bool.not_true, Bool.not_false, not_true_eq_false, not_false_eq_true, Bool.and_true, Bool.true_and, Bool.and_self, ge_iff_le, Int.le_refl, if_true, if_false, reduceCtorEq, eq_self, BEq.rfl]
    refine hA.1 rfl _ (weakK [(0, 0), (1, 1), (2, 2), (3, 3), (4, 4), (5, 5), (6, 6)] rfl rfl rfl rfl rfl ⟨k_is rfl rfl, k_is rfl rfl, .ptr rfl, .ptr rfl, .ptr rfl, trivial⟩ ⟨k_is rfl rfl, .agg (.cons (k_is rfl rfl) (.cons (.ptr rfl) (.cons (k_is rfl rfl) .nil))), .agg (.cons (k_is rfl rfl) (.cons (k_is rfl rfl) (.cons (k_is rfl rfl) (.cons (k_tab fun i hi => ?_) (.cons (.sl rfl) (.cons (.sl rfl) .nil)))))), k_is rfl rfl, k_is rfl rfl, k_is rfl rfl, trivial⟩)
    exact congrArg con (congrFun (set_eq (g := rg) (v := doI (iOp (p.f pc.toNat)) (iD (p.f pc.toNat)) (iA (p.f pc.toNat)) (iB (p.f pc.toNat)) (iM (p.f pc.toNat)) (vlI rg (iA (p.f pc.toNat))) (vlI rg (iB (p.f pc.toNat)))) hd) i)

theorem rn_51 (hp : p.ok) (hr : (rv0 st rg nm mm nw wf).ok) (hk : (k : Int) < bd) (hkb : k ≤ 100000) (hR : allR p.n p.f = true) (h0 : 0 ≤ pc) (h1 : pc < p.n) (hf : fmI (iOp (p.f pc.toNat)) = 5) (hs : szI (iOp (p.f pc.toNat)) = 1) (hA : Aft x y p bd k R A (insV (p.f pc.toNat) (rv0 st rg nm mm nw wf) pc)) : goS Try.prog (TQs 1) [(.cell 4 true 23)] R (.run c_seq_Run_l1) [.lp c_seq_Run_l1 A, .blk 0, .seq c_seq_Run_p1] (sRun x p.n p.f p.sz y p.m p.d st rg nm mm nw wf pc bd k) := by
  refine Eq.mpr (r_rn_51 x p.n p.f p.sz y p.m p.d st rg nm mm nw wf pc bd k _ _) ?_
  have hn := hp.n
  have hm := hp.m
  have b1 : nm * 1 ≤ 140737488355328 := by have : nm ≤ 1099511627776 := hr.nm; omega
  have b2 : nw * 24 ≤ 140737488355328 := by have : nw ≤ 1000000 := hr.nw; omega
  have b3 : nm ≤ 1099511627776 := hr.nm
  have c4 : ¬ pc < 0 := by omega
  have c5 : ¬ pc ≥ p.n := by omega
  have c6 : (0 : Int) ≤ pc := by omega
  have c7 : pc < p.n := by omega
  have wk : IntKind.i64.wrap ((k : Int) + 1) = ((k + 1 : Nat) : Int) := wrap_i64 (by omega) (by omega)
  have hrt := allR_iff.1 hR pc.toNat (by omega)
  obtain ⟨_, ⟨hd0, hd1⟩, ⟨ha0, ha1⟩, ⟨hb0, hb1⟩, hi0, hi1⟩ := rt_fields hrt
  have hrg : ∀ i, i < 16 → 0 ≤ asN (rg i) ∧ asN (rg i) ≤ 4294967295 := hr.rg
  obtain ⟨va0, va1⟩ := vl_rng hrg ha0 ha1
  obtain ⟨vb0, vb1⟩ := vl_rng hrg hb0 hb1
  obtain ⟨ad0, ad1⟩ := u32_rng (vlI rg (iA (p.f pc.toNat)) + IntKind.u32.wrap (iM (p.f pc.toNat)))
  have hd2 : iD (p.f pc.toNat) < 16 := by omega
  have hd3 : (iD (p.f pc.toNat)).toNat < 16 := by omega
  have hmm : rngB nm (fun i => .int .u8 (asN (mm i))) = true := rng_by hr.mm
  have e : insV (p.f pc.toNat) (rv0 st rg nm mm nw wf) pc = (if chkI 1 (adV (p.f pc.toNat) (rv0 st rg nm mm nw wf)) nm = 0 then ((rv0 st rg nm mm nw wf).sto (adV (p.f pc.toNat) (rv0 st rg nm mm nw wf)) 1 (mskI (vlI rg (iB (p.f pc.toNat))) 1), IntKind.i64.wrap (pc + 1)) else ((rv0 st rg nm mm nw wf).trap (chkI 1 (adV (p.f pc.toNat) (rv0 st rg nm mm nw wf)) nm) pc, pc)) := by
    unfold insV; rw [if_neg (by omega), if_neg (by omega), if_neg (by omega), if_pos hf, hs]
  rw [e] at hA
  unfold adV at hA
  generalize hAd : IntKind.u32.wrap (vlI rg (iA (p.f pc.toNat)) + IntKind.u32.wrap (iM (p.f pc.toNat))) = ad at ad0 ad1 hA ⊢
  by_cases hc : chkI 1 ad nm = 0
  case neg =>
    rw [if_neg hc] at hA
    simp only [hc, hs, hAd, hk, wk, c4, c5, c6, c7, hf, pr_in, vl_in, load_by, hn, hm, b1, b2, b3, ha0, ha1, hb0, hb1, hd0, hd2, hd3, va0, va1, vb0, vb1, ad0, ad1, hmm, pk_or, pk_and, pk_t, decide_true, decide_false, cond_true, cond_false, allN_true, Nat.le_refl, Int.toNat_natCast, Nat.beq_refl, pk_and, pk_or, Bool.not_true, Bool.not_false, not_true_eq_false, not_false_eq_true, Bool.and_true, Bool.true_and, Bool.and_self, ge_iff_le, Int.le_refl, if_true, if_false, reduceCtorEq, eq_self, BEq.rfl]
    exact hA.2 (by show ¬ (2 : Int) = 0; decide)
  rw [if_pos hc] at hA
  have hk2 : mskI (vlI rg (iB (p.f pc.toNat))) 1 = bitsI .and .u32 (vlI rg (iB (p.f pc.toNat))) 255 := rfl
  obtain ⟨hin, _⟩ := chk_in (by omega) ad0 ad1 b3 hc
  have hok : okW nm ad 1 = true := okW_iff.2 ⟨by omega, ad0, ad1, hc⟩
  have w0 : IntKind.i64.wrap ad = ad := wrap_i64 (by omega) (by omega)
  have w1 : IntKind.u32.wrap ad = ad := wrap_u32 ad0 ad1
  have n1 : ¬ ad < 0 := by omega
  have n2 : ¬ ad > 4294967295 := by omega
  have hpl : pl nw 1 = nw + 1 := pl_eq _ _
  have b4 : (nw + 1) * 24 ≤ 140737488355328 := by
    have : nw ≤ 1000000 := hr.nw
    omega
  have e0 : (IntKind.i64.wrap (ad + 0)).toNat = ad.toNat + 0 := by rw [wrap_i64 (by omega) (by omega)]; omega
  have z0 : (0 : Int) ≤ IntKind.i64.wrap (ad + 0) := by rw [wrap_i64 (by omega) (by omega)]; omega
  have y0 : IntKind.i64.wrap (ad + 0) < nm := by rw [wrap_i64 (by omega) (by omega)]; omega
  have x0 : ad.toNat + 0 < nm := by omega
  simp only [hc, hs, hAd, w0, w1, n1, n2, hpl, b4, e0, z0, y0, x0, hk, wk, c4, c5, c6, c7, hf, pr_in, vl_in, load_by, hn, hm, b1, b2, b3, ha0, ha1, hb0, hb1, hd0, hd2, hd3, va0, va1, vb0, vb1, ad0, ad1, hmm, pk_or, pk_and, pk_t, decide_true, decide_false, cond_true, cond_false, allN_true, Nat.le_refl, Int.toNat_natCast, Nat.beq_refl, pk_and, pk_or, Bool.not_true, Bool.not_false, not_true_eq_false, not_false_eq_true, Bool.and_true, Bool.true_and, Bool.and_self, ge_iff_le, Int.le_refl, if_true, if_false, reduceCtorEq, eq_self, BEq.rfl]
  refine hA.1 rfl _ (weakK [(0, 0), (1, 1), (2, 2), (3, 3), (4, 4), (5, 5), (6, 11)] rfl rfl rfl rfl rfl ⟨k_is rfl rfl, k_is rfl rfl, .ptr rfl, .ptr rfl, .ptr rfl, trivial⟩ ⟨k_tab fun i hi => ?_, .agg (.cons (k_is rfl rfl) (.cons (.ptr rfl) (.cons (k_is rfl rfl) .nil))), .agg (.cons (k_is rfl rfl) (.cons (k_is rfl rfl) (.cons (k_is rfl rfl) (.cons (k_is rfl rfl) (.cons (.sl rfl) (.cons (.sl rfl) .nil)))))), k_tab fun i hi => ?_, k_is rfl rfl, k_is rfl rfl, trivial⟩)
  · show con _ = con (o_wr (o_apw nw wf ad 1 (mskI (vlI rg (iB (p.f pc.toNat))) 1)) i)
    unfold o_apw o_wr
    by_cases hin : i < nw
    · simp only [hin, decide_true, cond_true]
      rfl
    · simp only [hin, decide_false, cond_false, hk2]
      rfl
  · show con _ = con (o_sto (okW nm ad 1) mm ad.toNat 1 (mskI (vlI rg (iB (p.f pc.toNat))) 1) i)
    rw [hok]
    by_cases h0 : i = ad.toNat + 0
    · rw [sto_in (j := 0) (by omega) h0]
      simp only [h0, Nat.beq_refl, cond_true, cond_false]
      rw [fdivE (by omega), wU8, hk2]
      rfl
    rw [sto_out (by omega)]
    simp only [beq_ne h0, cond_false]

theorem rn_52 (hp : p.ok) (hr : (rv0 st rg nm mm nw wf).ok) (hk : (k : Int) < bd) (hkb : k ≤ 100000) (hR : allR p.n p.f = true) (h0 : 0 ≤ pc) (h1 : pc < p.n) (hf : fmI (iOp (p.f pc.toNat)) = 5) (hs : szI (iOp (p.f pc.toNat)) = 2) (hA : Aft x y p bd k R A (insV (p.f pc.toNat) (rv0 st rg nm mm nw wf) pc)) : goS Try.prog (TQs 2) [(.cell 4 true 23)] R (.run c_seq_Run_l1) [.lp c_seq_Run_l1 A, .blk 0, .seq c_seq_Run_p1] (sRun x p.n p.f p.sz y p.m p.d st rg nm mm nw wf pc bd k) := by
  refine Eq.mpr (r_rn_52 x p.n p.f p.sz y p.m p.d st rg nm mm nw wf pc bd k _ _) ?_
  have hn := hp.n
  have hm := hp.m
  have b1 : nm * 1 ≤ 140737488355328 := by have : nm ≤ 1099511627776 := hr.nm; omega
  have b2 : nw * 24 ≤ 140737488355328 := by have : nw ≤ 1000000 := hr.nw; omega
  have b3 : nm ≤ 1099511627776 := hr.nm
  have c4 : ¬ pc < 0 := by omega
  have c5 : ¬ pc ≥ p.n := by omega
  have c6 : (0 : Int) ≤ pc := by omega
  have c7 : pc < p.n := by omega
  have wk : IntKind.i64.wrap ((k : Int) + 1) = ((k + 1 : Nat) : Int) := wrap_i64 (by omega) (by omega)
  have hrt := allR_iff.1 hR pc.toNat (by omega)
  obtain ⟨_, ⟨hd0, hd1⟩, ⟨ha0, ha1⟩, ⟨hb0, hb1⟩, hi0, hi1⟩ := rt_fields hrt
  have hrg : ∀ i, i < 16 → 0 ≤ asN (rg i) ∧ asN (rg i) ≤ 4294967295 := hr.rg
  obtain ⟨va0, va1⟩ := vl_rng hrg ha0 ha1
  obtain ⟨vb0, vb1⟩ := vl_rng hrg hb0 hb1
  obtain ⟨ad0, ad1⟩ := u32_rng (vlI rg (iA (p.f pc.toNat)) + IntKind.u32.wrap (iM (p.f pc.toNat)))
  have hd2 : iD (p.f pc.toNat) < 16 := by omega
  have hd3 : (iD (p.f pc.toNat)).toNat < 16 := by omega
  have hmm : rngB nm (fun i => .int .u8 (asN (mm i))) = true := rng_by hr.mm
  have e : insV (p.f pc.toNat) (rv0 st rg nm mm nw wf) pc = (if chkI 2 (adV (p.f pc.toNat) (rv0 st rg nm mm nw wf)) nm = 0 then ((rv0 st rg nm mm nw wf).sto (adV (p.f pc.toNat) (rv0 st rg nm mm nw wf)) 2 (mskI (vlI rg (iB (p.f pc.toNat))) 2), IntKind.i64.wrap (pc + 1)) else ((rv0 st rg nm mm nw wf).trap (chkI 2 (adV (p.f pc.toNat) (rv0 st rg nm mm nw wf)) nm) pc, pc)) := by
    unfold insV; rw [if_neg (by omega), if_neg (by omega), if_neg (by omega), if_pos hf, hs]
  rw [e] at hA
  unfold adV at hA
  generalize hAd : IntKind.u32.wrap (vlI rg (iA (p.f pc.toNat)) + IntKind.u32.wrap (iM (p.f pc.toNat))) = ad at ad0 ad1 hA ⊢
  by_cases hc : chkI 2 ad nm = 0
  case neg =>
    rw [if_neg hc] at hA
    simp only [hc, hs, hAd, hk, wk, c4, c5, c6, c7, hf, pr_in, vl_in, load_by, hn, hm, b1, b2, b3, ha0, ha1, hb0, hb1, hd0, hd2, hd3, va0, va1, vb0, vb1, ad0, ad1, hmm, pk_or, pk_and, pk_t, decide_true, decide_false, cond_true, cond_false, allN_true, Nat.le_refl, Int.toNat_natCast, Nat.beq_refl, pk_and, pk_or, Bool.not_true, Bool.not_false, not_true_eq_false, not_false_eq_true, Bool.and_true, Bool.true_and, Bool.and_self, ge_iff_le, Int.le_refl, if_true, if_false, reduceCtorEq, eq_self, BEq.rfl]
    exact hA.2 (by show ¬ (2 : Int) = 0; decide)
  rw [if_pos hc] at hA
  have hk2 : mskI (vlI rg (iB (p.f pc.toNat))) 2 = bitsI .and .u32 (vlI rg (iB (p.f pc.toNat))) 65535 := rfl
  obtain ⟨hin, _⟩ := chk_in (by omega) ad0 ad1 b3 hc
  have hok : okW nm ad 2 = true := okW_iff.2 ⟨by omega, ad0, ad1, hc⟩
  have w0 : IntKind.i64.wrap ad = ad := wrap_i64 (by omega) (by omega)
  have w1 : IntKind.u32.wrap ad = ad := wrap_u32 ad0 ad1
  have n1 : ¬ ad < 0 := by omega
  have n2 : ¬ ad > 4294967295 := by omega
  have hpl : pl nw 1 = nw + 1 := pl_eq _ _
  have b4 : (nw + 1) * 24 ≤ 140737488355328 := by
    have : nw ≤ 1000000 := hr.nw
    omega
  have e0 : (IntKind.i64.wrap (ad + 0)).toNat = ad.toNat + 0 := by rw [wrap_i64 (by omega) (by omega)]; omega
  have z0 : (0 : Int) ≤ IntKind.i64.wrap (ad + 0) := by rw [wrap_i64 (by omega) (by omega)]; omega
  have y0 : IntKind.i64.wrap (ad + 0) < nm := by rw [wrap_i64 (by omega) (by omega)]; omega
  have x0 : ad.toNat + 0 < nm := by omega
  have e1 : (IntKind.i64.wrap (ad + 1)).toNat = ad.toNat + 1 := by rw [wrap_i64 (by omega) (by omega)]; omega
  have z1 : (0 : Int) ≤ IntKind.i64.wrap (ad + 1) := by rw [wrap_i64 (by omega) (by omega)]; omega
  have y1 : IntKind.i64.wrap (ad + 1) < nm := by rw [wrap_i64 (by omega) (by omega)]; omega
  have x1 : ad.toNat + 1 < nm := by omega
  simp only [hc, hs, hAd, w0, w1, n1, n2, hpl, b4, e0, z0, y0, x0, e1, z1, y1, x1, hk, wk, c4, c5, c6, c7, hf, pr_in, vl_in, load_by, hn, hm, b1, b2, b3, ha0, ha1, hb0, hb1, hd0, hd2, hd3, va0, va1, vb0, vb1, ad0, ad1, hmm, pk_or, pk_and, pk_t, decide_true, decide_false, cond_true, cond_false, allN_true, Nat.le_refl, Int.toNat_natCast, Nat.beq_refl, pk_and, pk_or, Bool.not_true, Bool.not_false, not_true_eq_false, not_false_eq_true, Bool.and_true, Bool.true_and, Bool.and_self, ge_iff_le, Int.le_refl, if_true, if_false, reduceCtorEq, eq_self, BEq.rfl]
  refine hA.1 rfl _ (weakK [(0, 0), (1, 1), (2, 2), (3, 3), (4, 4), (5, 5), (6, 11)] rfl rfl rfl rfl rfl ⟨k_is rfl rfl, k_is rfl rfl, .ptr rfl, .ptr rfl, .ptr rfl, trivial⟩ ⟨k_tab fun i hi => ?_, .agg (.cons (k_is rfl rfl) (.cons (.ptr rfl) (.cons (k_is rfl rfl) .nil))), .agg (.cons (k_is rfl rfl) (.cons (k_is rfl rfl) (.cons (k_is rfl rfl) (.cons (k_is rfl rfl) (.cons (.sl rfl) (.cons (.sl rfl) .nil)))))), k_tab fun i hi => ?_, k_is rfl rfl, k_is rfl rfl, trivial⟩)
  · show con _ = con (o_wr (o_apw nw wf ad 2 (mskI (vlI rg (iB (p.f pc.toNat))) 2)) i)
    unfold o_apw o_wr
    by_cases hin : i < nw
    · simp only [hin, decide_true, cond_true]
      rfl
    · simp only [hin, decide_false, cond_false, hk2]
      rfl
  · show con _ = con (o_sto (okW nm ad 2) mm ad.toNat 2 (mskI (vlI rg (iB (p.f pc.toNat))) 2) i)
    rw [hok]
    by_cases h0 : i = ad.toNat + 0
    · rw [sto_in (j := 0) (by omega) h0]
      simp only [h0, Nat.beq_refl, beq_ne (show ¬ ad.toNat + 0 = ad.toNat + 1 by omega), cond_true, cond_false]
      rw [fdivE (by omega), wU8, hk2]
      rfl
    by_cases h1 : i = ad.toNat + 1
    · rw [sto_in (j := 1) (by omega) h1]
      simp only [h1, Nat.beq_refl, beq_ne (show ¬ ad.toNat + 1 = ad.toNat + 0 by omega), cond_true, cond_false]
      rw [fdivE (by omega), wU8, hk2]
      rfl
    rw [sto_out (by omega)]
    simp only [beq_ne h0, beq_ne h1, cond_false]

theorem rn_54 (hp : p.ok) (hr : (rv0 st rg nm mm nw wf).ok) (hk : (k : Int) < bd) (hkb : k ≤ 100000) (hR : allR p.n p.f = true) (h0 : 0 ≤ pc) (h1 : pc < p.n) (hf : fmI (iOp (p.f pc.toNat)) = 5) (hs : szI (iOp (p.f pc.toNat)) = 4) (hA : Aft x y p bd k R A (insV (p.f pc.toNat) (rv0 st rg nm mm nw wf) pc)) : goS Try.prog (TQs 4) [(.cell 4 true 23)] R (.run c_seq_Run_l1) [.lp c_seq_Run_l1 A, .blk 0, .seq c_seq_Run_p1] (sRun x p.n p.f p.sz y p.m p.d st rg nm mm nw wf pc bd k) := by
  refine Eq.mpr (r_rn_54 x p.n p.f p.sz y p.m p.d st rg nm mm nw wf pc bd k _ _) ?_
  have hn := hp.n
  have hm := hp.m
  have b1 : nm * 1 ≤ 140737488355328 := by have : nm ≤ 1099511627776 := hr.nm; omega
  have b2 : nw * 24 ≤ 140737488355328 := by have : nw ≤ 1000000 := hr.nw; omega
  have b3 : nm ≤ 1099511627776 := hr.nm
  have c4 : ¬ pc < 0 := by omega
  have c5 : ¬ pc ≥ p.n := by omega
  have c6 : (0 : Int) ≤ pc := by omega
  have c7 : pc < p.n := by omega
  have wk : IntKind.i64.wrap ((k : Int) + 1) = ((k + 1 : Nat) : Int) := wrap_i64 (by omega) (by omega)
  have hrt := allR_iff.1 hR pc.toNat (by omega)
  obtain ⟨_, ⟨hd0, hd1⟩, ⟨ha0, ha1⟩, ⟨hb0, hb1⟩, hi0, hi1⟩ := rt_fields hrt
  have hrg : ∀ i, i < 16 → 0 ≤ asN (rg i) ∧ asN (rg i) ≤ 4294967295 := hr.rg
  obtain ⟨va0, va1⟩ := vl_rng hrg ha0 ha1
  obtain ⟨vb0, vb1⟩ := vl_rng hrg hb0 hb1
  obtain ⟨ad0, ad1⟩ := u32_rng (vlI rg (iA (p.f pc.toNat)) + IntKind.u32.wrap (iM (p.f pc.toNat)))
  have hd2 : iD (p.f pc.toNat) < 16 := by omega
  have hd3 : (iD (p.f pc.toNat)).toNat < 16 := by omega
  have hmm : rngB nm (fun i => .int .u8 (asN (mm i))) = true := rng_by hr.mm
  have e : insV (p.f pc.toNat) (rv0 st rg nm mm nw wf) pc = (if chkI 4 (adV (p.f pc.toNat) (rv0 st rg nm mm nw wf)) nm = 0 then ((rv0 st rg nm mm nw wf).sto (adV (p.f pc.toNat) (rv0 st rg nm mm nw wf)) 4 (mskI (vlI rg (iB (p.f pc.toNat))) 4), IntKind.i64.wrap (pc + 1)) else ((rv0 st rg nm mm nw wf).trap (chkI 4 (adV (p.f pc.toNat) (rv0 st rg nm mm nw wf)) nm) pc, pc)) := by
    unfold insV; rw [if_neg (by omega), if_neg (by omega), if_neg (by omega), if_pos hf, hs]
  rw [e] at hA
  unfold adV at hA
  generalize hAd : IntKind.u32.wrap (vlI rg (iA (p.f pc.toNat)) + IntKind.u32.wrap (iM (p.f pc.toNat))) = ad at ad0 ad1 hA ⊢
  by_cases hc : chkI 4 ad nm = 0
  case neg =>
    rw [if_neg hc] at hA
    simp only [hc, hs, hAd, hk, wk, c4, c5, c6, c7, hf, pr_in, vl_in, load_by, hn, hm, b1, b2, b3, ha0, ha1, hb0, hb1, hd0, hd2, hd3, va0, va1, vb0, vb1, ad0, ad1, hmm, pk_or, pk_and, pk_t, decide_true, decide_false, cond_true, cond_false, allN_true, Nat.le_refl, Int.toNat_natCast, Nat.beq_refl, pk_and, pk_or, Bool.not_true, Bool.not_false, not_true_eq_false, not_false_eq_true, Bool.and_true, Bool.true_and, Bool.and_self, ge_iff_le, Int.le_refl, if_true, if_false, reduceCtorEq, eq_self, BEq.rfl]
    exact hA.2 (by show ¬ (2 : Int) = 0; decide)
  rw [if_pos hc] at hA
  have hk2 : mskI (vlI rg (iB (p.f pc.toNat))) 4 = bitsI .and .u32 (vlI rg (iB (p.f pc.toNat))) 4294967295 := (and_full vb0 vb1).symm
  obtain ⟨hin, _⟩ := chk_in (by omega) ad0 ad1 b3 hc
  have hok : okW nm ad 4 = true := okW_iff.2 ⟨by omega, ad0, ad1, hc⟩
  have w0 : IntKind.i64.wrap ad = ad := wrap_i64 (by omega) (by omega)
  have w1 : IntKind.u32.wrap ad = ad := wrap_u32 ad0 ad1
  have n1 : ¬ ad < 0 := by omega
  have n2 : ¬ ad > 4294967295 := by omega
  have hpl : pl nw 1 = nw + 1 := pl_eq _ _
  have b4 : (nw + 1) * 24 ≤ 140737488355328 := by
    have : nw ≤ 1000000 := hr.nw
    omega
  have e0 : (IntKind.i64.wrap (ad + 0)).toNat = ad.toNat + 0 := by rw [wrap_i64 (by omega) (by omega)]; omega
  have z0 : (0 : Int) ≤ IntKind.i64.wrap (ad + 0) := by rw [wrap_i64 (by omega) (by omega)]; omega
  have y0 : IntKind.i64.wrap (ad + 0) < nm := by rw [wrap_i64 (by omega) (by omega)]; omega
  have x0 : ad.toNat + 0 < nm := by omega
  have e1 : (IntKind.i64.wrap (ad + 1)).toNat = ad.toNat + 1 := by rw [wrap_i64 (by omega) (by omega)]; omega
  have z1 : (0 : Int) ≤ IntKind.i64.wrap (ad + 1) := by rw [wrap_i64 (by omega) (by omega)]; omega
  have y1 : IntKind.i64.wrap (ad + 1) < nm := by rw [wrap_i64 (by omega) (by omega)]; omega
  have x1 : ad.toNat + 1 < nm := by omega
  have e2 : (IntKind.i64.wrap (ad + 2)).toNat = ad.toNat + 2 := by rw [wrap_i64 (by omega) (by omega)]; omega
  have z2 : (0 : Int) ≤ IntKind.i64.wrap (ad + 2) := by rw [wrap_i64 (by omega) (by omega)]; omega
  have y2 : IntKind.i64.wrap (ad + 2) < nm := by rw [wrap_i64 (by omega) (by omega)]; omega
  have x2 : ad.toNat + 2 < nm := by omega
  have e3 : (IntKind.i64.wrap (ad + 3)).toNat = ad.toNat + 3 := by rw [wrap_i64 (by omega) (by omega)]; omega
  have z3 : (0 : Int) ≤ IntKind.i64.wrap (ad + 3) := by rw [wrap_i64 (by omega) (by omega)]; omega
  have y3 : IntKind.i64.wrap (ad + 3) < nm := by rw [wrap_i64 (by omega) (by omega)]; omega
  have x3 : ad.toNat + 3 < nm := by omega
  simp only [hc, hs, hAd, w0, w1, n1, n2, hpl, b4, e0, z0, y0, x0, e1, z1, y1, x1, e2, z2, y2, x2, e3, z3, y3, x3, hk, wk, c4, c5, c6, c7, hf, pr_in, vl_in, load_by, hn, hm, b1, b2, b3, ha0, ha1, hb0, hb1, hd0, hd2, hd3, va0, va1, vb0, vb1, ad0, ad1, hmm, pk_or, pk_and, pk_t, decide_true, decide_false, cond_true, cond_false, allN_true, Nat.le_refl, Int.toNat_natCast, Nat.beq_refl, pk_and, pk_or, Bool.not_true, Bool.not_false, not_true_eq_false, not_false_eq_true, Bool.and_true, Bool.true_and, Bool.and_self, ge_iff_le, Int.le_refl, if_true, if_false, reduceCtorEq, eq_self, BEq.rfl]
  refine hA.1 rfl _ (weakK [(0, 0), (1, 1), (2, 2), (3, 3), (4, 4), (5, 5), (6, 11)] rfl rfl rfl rfl rfl ⟨k_is rfl rfl, k_is rfl rfl, .ptr rfl, .ptr rfl, .ptr rfl, trivial⟩ ⟨k_tab fun i hi => ?_, .agg (.cons (k_is rfl rfl) (.cons (.ptr rfl) (.cons (k_is rfl rfl) .nil))), .agg (.cons (k_is rfl rfl) (.cons (k_is rfl rfl) (.cons (k_is rfl rfl) (.cons (k_is rfl rfl) (.cons (.sl rfl) (.cons (.sl rfl) .nil)))))), k_tab fun i hi => ?_, k_is rfl rfl, k_is rfl rfl, trivial⟩)
  · show con _ = con (o_wr (o_apw nw wf ad 4 (mskI (vlI rg (iB (p.f pc.toNat))) 4)) i)
    unfold o_apw o_wr
    by_cases hin : i < nw
    · simp only [hin, decide_true, cond_true]
      rfl
    · simp only [hin, decide_false, cond_false, hk2]
      rfl
  · show con _ = con (o_sto (okW nm ad 4) mm ad.toNat 4 (mskI (vlI rg (iB (p.f pc.toNat))) 4) i)
    rw [hok]
    by_cases h0 : i = ad.toNat + 0
    · rw [sto_in (j := 0) (by omega) h0]
      simp only [h0, Nat.beq_refl, beq_ne (show ¬ ad.toNat + 0 = ad.toNat + 1 by omega), beq_ne (show ¬ ad.toNat + 0 = ad.toNat + 2 by omega), beq_ne (show ¬ ad.toNat + 0 = ad.toNat + 3 by omega), cond_true, cond_false]
      rw [fdivE (by omega), wU8, hk2]
      rfl
    by_cases h1 : i = ad.toNat + 1
    · rw [sto_in (j := 1) (by omega) h1]
      simp only [h1, Nat.beq_refl, beq_ne (show ¬ ad.toNat + 1 = ad.toNat + 0 by omega), beq_ne (show ¬ ad.toNat + 1 = ad.toNat + 2 by omega), beq_ne (show ¬ ad.toNat + 1 = ad.toNat + 3 by omega), cond_true, cond_false]
      rw [fdivE (by omega), wU8, hk2]
      rfl
    by_cases h2 : i = ad.toNat + 2
    · rw [sto_in (j := 2) (by omega) h2]
      simp only [h2, Nat.beq_refl, beq_ne (show ¬ ad.toNat + 2 = ad.toNat + 0 by omega), beq_ne (show ¬ ad.toNat + 2 = ad.toNat + 1 by omega), beq_ne (show ¬ ad.toNat + 2 = ad.toNat + 3 by omega), cond_true, cond_false]
      rw [fdivE (by omega), wU8, hk2]
      rfl
    by_cases h3 : i = ad.toNat + 3
    · rw [sto_in (j := 3) (by omega) h3]
      simp only [h3, Nat.beq_refl, beq_ne (show ¬ ad.toNat + 3 = ad.toNat + 0 by omega), beq_ne (show ¬ ad.toNat + 3 = ad.toNat + 1 by omega), beq_ne (show ¬ ad.toNat + 3 = ad.toNat + 2 by omega), cond_true, cond_false]
      rw [fdivE (by omega), wU8, hk2]
      rfl
    rw [sto_out (by omega)]
    simp only [beq_ne h0, beq_ne h1, beq_ne h2, beq_ne h3, cond_false]

end
end Go.Proofs.Ytmfbaglhmiadjaa

/- A whole run, plainly, and that it is what the code does. -/
namespace Go.Proofs.Ytmfbaglhmiadjaa
open Go.Ra
set_option linter.unusedVariables false
set_option linter.unusedSimpArgs false
/-- A program's memory at first. -/
def memV (p : PV) (i : Nat) : XV := .int .u8 (bif decide (i < p.m) then asN (p.d i) else 0)
def rFirst (p : PV) : RV := rv0 0 (fun _ => .int .u32 0) p.sz.toNat (memV p) 0 (fun _ => mkS kWr .unk)
/-- So many steps. -/
def iterV (p : PV) : Nat → RV × Int
  | 0 => (rFirst p, 0)
  | k + 1 => if (iterV p k).1.en = 0 then goV p (iterV p k).1 (iterV p k).2 else iterV p k
def fuelI (fuel : Int) : Int := if (if 100000 < fuel then 100000 else fuel) > 0 then if 100000 < fuel then 100000 else fuel else 0
/-- What a run leaves. -/
def runV (p : PV) (fuel : Int) : RV := if (iterV p (fuelI fuel).toNat).1.en = 0 then { (iterV p (fuelI fuel).toNat).1 with en := 3 } else (iterV p (fuelI fuel).toNat).1
theorem fuel_rng (fuel : Int) : 0 ≤ fuelI fuel ∧ fuelI fuel ≤ 100000 := by
  unfold fuelI
  repeat' split
  all_goals omega
/-- What a result is like behind so many steps. -/
structure RV.good (r : RV) (k : Nat) : Prop where
  nm : r.nm ≤ 65536
  nw : r.nw ≤ k
  rg : ∀ i, i < 16 → 0 ≤ asN (r.rg i) ∧ asN (r.rg i) ≤ 4294967295
  mm : ∀ i, i < r.nm → 0 ≤ asN (r.mm i) ∧ asN (r.mm i) ≤ 255
structure PV.good (p : PV) : Prop where
  n : p.n ≤ 4611686018427387904
  m : p.m ≤ 4611686018427387904
  d : ∀ i, i < p.m → 0 ≤ asN (p.d i) ∧ asN (p.d i) ≤ 255
theorem PV.good.ok {p : PV} (h : p.good) : p.ok := ⟨h.n, h.m⟩
theorem RV.good.ok {r : RV} {k : Nat} (h : r.good k) (hk : k ≤ 1000000) : r.ok := ⟨Nat.le_trans h.nm (by decide), Nat.le_trans h.nw hk, h.rg, h.mm⟩
theorem ext_rng {op w : Int} (h0 : 0 ≤ w) (h1 : w ≤ 4294967295) : 0 ≤ extI op w ∧ extI op w ≤ 4294967295 := by
  unfold extI
  repeat' split
  all_goals omega
theorem load_rng {n : Nat} {f : Nat → XV} (hn : n ≤ 1099511627776) (hb : ∀ i, i < n → 0 ≤ asN (f i) ∧ asN (f i) ≤ 255) {op a : Int} (h0 : 0 ≤ a) (h1 : a ≤ 4294967295) : 0 ≤ loadI n f op a ∧ loadI n f op a ≤ 4294967295 := by
  unfold loadI
  split
  · rename_i h
    have hs := sz_load h.1 h.2.1
    obtain ⟨h5, _⟩ := chk_in hs h0 h1 hn h.2.2
    obtain ⟨g1, g2⟩ := wrd_bd hb a.toNat (szI op).toNat (by omega)
    refine ext_rng g1 ?_
    have : (2 : Int) ^ (8 * (szI op).toNat) ≤ 4294967296 := by
      rcases hs with h | h | h <;> rw [h] <;> decide
    omega
  · omega
theorem sto_rng {c : Bool} {f : Nat → XV} {a s : Nat} {v : Int} {n i : Nat} (hb : ∀ i, i < n → 0 ≤ asN (f i) ∧ asN (f i) ≤ 255) (hi : i < n) : 0 ≤ asN (o_sto c f a s v i) ∧ asN (o_sto c f a s v i) ≤ 255 := by
  show 0 ≤ (bif (c && (decide (a ≤ i) && decide (i < a + s))) then v / 2 ^ (8 * (i - a)) % 256 else asN (f i)) ∧ (bif (c && (decide (a ≤ i) && decide (i < a + s))) then v / 2 ^ (8 * (i - a)) % 256 else asN (f i)) ≤ 255
  cases (c && (decide (a ≤ i) && decide (i < a + s)))
  · exact hb i hi
  · simp only [cond_true]; omega
theorem set_rng {g : Nat → XV} {d v : Int} (hg : ∀ i, i < 16 → 0 ≤ asN (g i) ∧ asN (g i) ≤ 4294967295) (h0 : 0 ≤ v) (h1 : v ≤ 4294967295) : ∀ i, i < 16 → 0 ≤ asN (o_set g d v i) ∧ asN (o_set g d v i) ≤ 4294967295 := by
  intro i hi
  show 0 ≤ (bif (!decide (d = 0) && Nat.beq i d.toNat) then v else asN (g i)) ∧ (bif (!decide (d = 0) && Nat.beq i d.toNat) then v else asN (g i)) ≤ 4294967295
  cases (!decide (d = 0) && Nat.beq i d.toNat)
  · exact hg i hi
  · exact ⟨h0, h1⟩
theorem trap_good {r : RV} {k : Nat} {a b : Int} (h : r.good k) : (r.trap a b).good (k + 1) := ⟨h.nm, Nat.le_trans h.nw (Nat.le_succ k), h.rg, h.mm⟩
theorem tick_good {r : RV} {k : Nat} (h : r.good k) : r.tick.good (k + 1) := ⟨h.nm, Nat.le_trans h.nw (Nat.le_succ k), h.rg, h.mm⟩
theorem ins_good {v : XV} (hv : u_rt v = true) {r : RV} {k : Nat} {pc : Int} (h : r.good k) : (insV v r pc).1.good (k + 1) := by
  obtain ⟨_, ⟨hd0, hd1⟩, ⟨ha0, ha1⟩, ⟨hb0, hb1⟩, hi0, hi1⟩ := rt_fields hv
  obtain ⟨va0, va1⟩ := vl_rng h.rg ha0 ha1
  obtain ⟨vb0, vb1⟩ := vl_rng h.rg hb0 hb1
  have ad : 0 ≤ adV v r ∧ adV v r ≤ 4294967295 := u32_rng _
  unfold insV
  repeat' split
  all_goals first
    | exact tick_good h
    | exact trap_good h
    | exact ⟨(tick_good h).nm, (tick_good h).nw, (tick_good h).rg, (tick_good h).mm⟩
    | exact ⟨h.nm, Nat.succ_le_succ h.nw, h.rg, fun i hi => sto_rng h.mm hi⟩
    | exact ⟨h.nm, Nat.le_trans h.nw (Nat.le_succ k), set_rng h.rg (load_rng (Nat.le_trans h.nm (by decide)) h.mm ad.1 ad.2).1 (load_rng (Nat.le_trans h.nm (by decide)) h.mm ad.1 ad.2).2, h.mm⟩
    | exact ⟨h.nm, Nat.le_trans h.nw (Nat.le_succ k), set_rng h.rg (do_rng _ _ _ _ _ va0 va1 vb0 vb1).1 (do_rng _ _ _ _ _ va0 va1 vb0 vb1).2, h.mm⟩
theorem go_good {p : PV} (hR : allR p.n p.f = true) {r : RV} {k : Nat} {pc : Int} (h : r.good k) : (goV p r pc).1.good (k + 1) := by
  unfold goV
  split
  · exact trap_good h
  · exact ins_good (allR_iff.1 hR pc.toNat (by omega)) h
theorem pr_all {p : PV} (h : p.right = true) : 1 ≤ p.n ∧ p.n ≤ 2000 ∧ 0 ≤ p.sz ∧ p.sz ≤ 65536 ∧ (p.m : Int) ≤ p.sz ∧ allR p.n p.f = true ∧ allT2 p.n p.f = true := by
  unfold PV.right prB at h
  simp only [Bool.and_eq_true, decide_eq_true_eq] at h
  exact ⟨h.1.1, h.1.2.1, h.1.2.2.1, h.1.2.2.2.1, h.1.2.2.2.2, h.2.1, h.2.2⟩
theorem first_good {p : PV} (hp : p.good) (h : p.right = true) : (rFirst p).good 0 := by
  obtain ⟨_, _, h1, h2, h3, _⟩ := pr_all h
  refine ⟨by show p.sz.toNat ≤ 65536; omega, Nat.le_refl _, fun i hi => ⟨by show (0 : Int) ≤ 0; decide, by show (0 : Int) ≤ 4294967295; decide⟩, fun i hi => ?_⟩
  show 0 ≤ (bif decide (i < p.m) then asN (p.d i) else 0) ∧ (bif decide (i < p.m) then asN (p.d i) else 0) ≤ 255
  by_cases hlt : i < p.m
  · simp only [hlt, decide_true, cond_true]; exact hp.d i hlt
  · simp only [hlt, decide_false, cond_false]; omega
theorem iter_good {p : PV} (hp : p.good) (h : p.right = true) : ∀ k, (iterV p k).1.good k
  | 0 => first_good hp h
  | k + 1 => by
    have ih := iter_good hp h k
    simp only [iterV]
    split
    · exact go_good (pr_all h).2.2.2.2.2.1 ih
    · exact ⟨ih.nm, Nat.le_trans ih.nw (Nat.le_succ k), ih.rg, ih.mm⟩
/-- The numbers of a trap stay nought while a run goes on. -/
def RV.calm (r : RV) : Prop := r.en = 0 → r.tk = 0 ∧ r.ts = 0 ∧ r.tp = 0
theorem ins_calm {v : XV} {r : RV} {pc : Int} (h : r.tk = 0 ∧ r.ts = 0 ∧ r.tp = 0) : (insV v r pc).1.calm := by
  unfold insV
  repeat' split
  all_goals first
    | (intro _; exact h)
    | (intro h2; exact absurd (show (2 : Int) = 0 from h2) (by decide))
theorem iter_calm {p : PV} : ∀ k, (iterV p k).1.calm
  | 0 => fun _ => ⟨rfl, rfl, rfl⟩
  | k + 1 => by
    have ih := iter_calm (p := p) k
    simp only [iterV]
    split
    · rename_i h0
      unfold goV
      split
      · intro h2; exact absurd (show (2 : Int) = 0 from h2) (by decide)
      · exact ins_calm (ih h0)
    · exact ih
theorem iter_stop {p : PV} {k : Nat} (h : ¬ (iterV p k).1.en = 0) : ∀ j, k ≤ j → iterV p j = iterV p k := by
  intro j
  induction j with
  | zero => intro hj; have : k = 0 := by omega
            subst this; rfl
  | succ j ih =>
    intro hj
    by_cases hkj : k = j + 1
    · subst hkj; rfl
    · have := ih (by omega)
      simp only [iterV]
      rw [this, if_neg h]
theorem goV_nm {p : PV} {r : RV} {pc : Int} : (goV p r pc).1.nm = r.nm := by
  unfold goV insV
  repeat' split
  all_goals rfl
theorem iter_nm {p : PV} : ∀ k, (iterV p k).1.nm = p.sz.toNat
  | 0 => rfl
  | k + 1 => by
    simp only [iterV]
    split
    · rw [goV_nm, iter_nm k]
    · exact iter_nm k
theorem loopKT {P : Program} (hmix : P.follows .mixedOrders = true) {T0 : Tab} {rs : List AR} {r : AV} {c : AC} {σ : XSt} {s : List Frm} {ι : Type} (T : ι → Tab) (hT : ∀ i, TabOk P (T i)) (hq : ∀ i, (T i).q = T0.q) (S : ι → XSt) (V : ι → Prop) (m : ι → Nat) (i0 : ι) (hV : V i0) (h0 : WeakE σ.n σ.st (S i0).st)
    (hr : ∀ i, V i → goS P (T i) rs r (.run c) (.lp c (fun τ => ∃ j, V j ∧ WeakE σ.n τ.st (S j).st ∧ m j < m i) :: s) (S i)) : LoopAt (Ok P T0.q) c σ s (finR rs r) :=
  ⟨wpC_forE (fun i => (S i).st) V m i0 hV h0 fun i hi => by
    have h := exS_ok (hT i) (callI_ok hmix (hT i) 20) finP_ok 2000 _ _ _ (hr i hi)
    rw [hq i] at h
    refine wpC_mono _ _ (fun e t he => ?_) c _ h
    cases e with
    | normal =>
      obtain ⟨τ, hw, j, h1, h2, h3⟩ := he
      exact ⟨j, h1, weakE_trans hw h2, h3⟩
    | exit _ => exact he
    | ret => exact he⟩
def tabOf (p : PV) (s : RV × Int) : Tab := if s.2 < 0 ∨ s.2 ≥ p.n then TQ 8 else if fmI (iOp (p.f s.2.toNat)) = 5 then TQs (szI (iOp (p.f s.2.toNat))) else TQ (fmI (iOp (p.f s.2.toNat)))
theorem tabOf_ok (p : PV) (s : RV × Int) : TabOk Try.prog (tabOf p s) := by
  unfold tabOf
  repeat' split
  · exact TQok 8
  · exact TQsok _
  · exact TQok _
theorem tabOf_q (p : PV) (s : RV × Int) : (tabOf p s).q = qq := by
  unfold tabOf
  repeat' split
  all_goals rfl
theorem run_st {p : PV} {fuel : Int} {k : Nat} (h : (iterV p k).1.en = 0) : (iterV p k).1 = rv0 (iterV p k).1.st (iterV p k).1.rg (iterV p k).1.nm (iterV p k).1.mm (iterV p k).1.nw (iterV p k).1.wf := by
  obtain ⟨h1, h2, h3⟩ := iter_calm (p := p) k h
  revert h h1 h2 h3
  generalize (iterV p k).1 = r
  obtain ⟨en, tk, ts, tp, st, rg, nm, mm, nw, wf⟩ := r
  intro h h1 h2 h3
  simp only at h h1 h2 h3
  subst h h1 h2 h3
  rfl
theorem run_round {x y : Bool} {p : PV} {R : AV} {A : XSt → Prop} {bd : Int} {k : Nat} (hp : p.good) (hR : p.right = true) (h0 : (iterV p k).1.en = 0) (hb : 0 ≤ bd) (hb2 : bd ≤ 100000) (hkb : (k : Int) ≤ bd)
    (hA : (k : Int) < bd → (iterV p (k + 1)).1.en = 0 → ∀ τ : XSt, WeakE 6 τ.st (sRunV x y p (iterV p (k + 1)).1 (iterV p (k + 1)).2 bd (k + 1)).st → A τ) (hE : (k : Int) < bd → ¬ (iterV p (k + 1)).1.en = 0 → con ((iterV p (k + 1)).1.xv false false) = R)
    (hF : ¬ (k : Int) < bd → con (({ (iterV p k).1 with en := 3 } : RV).xv false false) = R) :
    goS Try.prog (tabOf p (if (k : Int) < bd then iterV p k else (rFirst p, -1))) [(.cell 4 true 23)] R (.run c_seq_Run_l1) [.lp c_seq_Run_l1 A, .blk 0, .seq c_seq_Run_p1] (sRunV x y p (iterV p k).1 (iterV p k).2 bd k) := by
  have hst := run_st (fuel := 0) h0
  have hg := iter_good hp hR k
  have hall := (pr_all hR).2.2.2.2.2.1
  by_cases hk : (k : Int) < bd
  case neg =>
    rw [if_neg hk]
    have ht : tabOf p (rFirst p, -1) = TQ 8 := by unfold tabOf; rw [if_pos (.inl (by show (-1 : Int) < 0; decide))]
    rw [ht]
    refine rn_end hk ?_
    have := hF hk
    rw [hst] at this
    exact this
  rw [if_pos hk]
  have hnext : iterV p (k + 1) = goV p (iterV p k).1 (iterV p k).2 := by simp only [iterV]; rw [if_pos h0]
  rw [hnext] at hA hE
  have hA' := hA hk
  have hE' := hE hk
  have hok : (rv0 (iterV p k).1.st (iterV p k).1.rg (iterV p k).1.nm (iterV p k).1.mm (iterV p k).1.nw (iterV p k).1.wf).ok := by
    rw [← hst]
    exact hg.ok (by omega)
  rw [hst] at hA' hE'
  generalize hpc : (iterV p k).2 = pc at hA' hE' ⊢
  have hs : iterV p k = ((iterV p k).1, pc) := by rw [← hpc]
  by_cases hb : pc < 0 ∨ pc ≥ p.n
  · have ht : tabOf p (iterV p k) = TQ 8 := by unfold tabOf; rw [hpc, if_pos hb]
    rw [ht]
    have e : goV p (rv0 (iterV p k).1.st (iterV p k).1.rg (iterV p k).1.nm (iterV p k).1.mm (iterV p k).1.nw (iterV p k).1.wf) pc = ((rv0 (iterV p k).1.st (iterV p k).1.rg (iterV p k).1.nm (iterV p k).1.mm (iterV p k).1.nw (iterV p k).1.wf).trap 4 pc, pc) := by unfold goV; rw [if_pos hb]
    rw [e] at hE'
    exact rn_pc hp.ok hok hk (by omega) hb (hE' (by show ¬ (2 : Int) = 0; decide))
  · have e : goV p (rv0 (iterV p k).1.st (iterV p k).1.rg (iterV p k).1.nm (iterV p k).1.mm (iterV p k).1.nw (iterV p k).1.wf) pc = insV (p.f pc.toNat) (rv0 (iterV p k).1.st (iterV p k).1.rg (iterV p k).1.nm (iterV p k).1.mm (iterV p k).1.nw (iterV p k).1.wf) pc := by unfold goV; rw [if_neg hb]
    rw [e] at hA' hE'
    have haft : Aft x y p bd k R A (insV (p.f pc.toNat) (rv0 (iterV p k).1.st (iterV p k).1.rg (iterV p k).1.nm (iterV p k).1.mm (iterV p k).1.nw (iterV p k).1.wf) pc) := ⟨hA', hE'⟩
    have g0 : 0 ≤ pc := by omega
    have g1 : pc < p.n := by omega
    have hrt := allR_iff.1 hall pc.toNat (by omega)
    obtain ⟨hf0, _⟩ := rt_fields hrt
    have hkb2 : k ≤ 100000 := by omega
    have ht : tabOf p (iterV p k) = if fmI (iOp (p.f pc.toNat)) = 5 then TQs (szI (iOp (p.f pc.toNat))) else TQ (fmI (iOp (p.f pc.toNat))) := by unfold tabOf; rw [hpc, if_neg hb]
    rw [ht]
    rcases fm_in (iOp (p.f pc.toNat)) with hf | hf | hf | hf | hf | hf | hf | hf | hf
    · exact absurd hf hf0
    · rw [if_neg (by omega), hf]; exact rn_1 hp.ok hok hk hkb2 hall g0 g1 hf haft
    · rw [if_neg (by omega), hf]; exact rn_2 hp.ok hok hk hkb2 hall g0 g1 hf haft
    · rw [if_neg (by omega), hf]; exact rn_3 hp.ok hok hk hkb2 hall g0 g1 hf haft
    · rw [if_neg (by omega), hf]; exact rn_4 hp.ok hok hk hkb2 hall g0 g1 hf haft
    · rw [if_pos hf]
      rcases sz_store hf with hs | hs | hs <;> rw [hs]
      · exact rn_51 hp.ok hok hk hkb2 hall g0 g1 hf hs haft
      · exact rn_52 hp.ok hok hk hkb2 hall g0 g1 hf hs haft
      · exact rn_54 hp.ok hok hk hkb2 hall g0 g1 hf hs haft
    · rw [if_neg (by omega), hf]; exact rn_6 hp.ok hok hk hkb2 hall g0 g1 hf haft
    · rw [if_neg (by omega), hf]; exact rn_7 hp.ok hok hk hkb2 hall g0 g1 hf haft
    · rw [if_neg (by omega), hf]; exact rn_8 hp.ok hok hk hkb2 hall g0 g1 hf haft
theorem run_loop {x y : Bool} {p : PV} {fuel : Int} (hp : p.good) (hR : p.right = true) {σ : XSt} (hn : σ.n = 6) (h0 : WeakE 6 σ.st (sRunV x y p (rFirst p) 0 (fuelI fuel) 0).st) :
    LoopAt (Ok Try.prog (Tab.q (TQ 8))) c_seq_Run_l1 σ [.blk 0, .seq c_seq_Run_p1] (finR [.cell 4 true 23] (con ((runV p fuel).xv false false))) := by
  obtain ⟨f0, f1⟩ := fuel_rng fuel
  refine loopKT mix (fun k : Nat => tabOf p (if (k : Int) < fuelI fuel then iterV p k else (rFirst p, -1))) (fun k => tabOf_ok p _) (fun k => tabOf_q p _) (fun k => sRunV x y p (iterV p k).1 (iterV p k).2 (fuelI fuel) k) (fun k => (k : Int) ≤ fuelI fuel ∧ (iterV p k).1.en = 0) (fun k => (fuelI fuel).toNat - k) 0 ⟨f0, rfl⟩ (by rw [hn]; exact h0) ?_
  rintro k ⟨hk, hen⟩
  rw [hn]
  refine run_round hp hR hen f0 f1 hk (fun hk2 h τ hτ => ⟨k + 1, ⟨by omega, h⟩, hτ, by omega⟩) (fun hk2 h => ?_) (fun hk2 => ?_)
  · unfold runV
    rw [iter_stop h (fuelI fuel).toNat (by omega), if_neg h]
  · have : (fuelI fuel).toNat = k := by omega
    unfold runV
    rw [this, if_pos hen]
theorem run1 {x y : Bool} {p : PV} {fuel : Int} (hp : p.good) : Pure Try.prog 13 (cons [p.xv x y, .int .i64 fuel]) (bif p.right then con ((runV p fuel).xv false false) else con xNo) := by
  refine pureS mix (TQok 8) t_seq_Run (Nat.le_of_ble_eq_true rfl) ?_
  refine Eq.mpr (r_run0 x p.n p.f p.sz y p.m p.d fuel _) ?_
  have hn := hp.n
  have hm := hp.m
  cases hR : p.right with
  | false =>
    have c2 : prB p.n p.f p.sz p.m = false := hR
    simp only [hn, hm, c2, pr_in, decide_true, decide_false, cond_true, cond_false, allN_true, Nat.le_refl, Int.toNat_natCast, Nat.beq_refl, pk_and, pk_or, Bool.not_true, Bool.not_false, not_true_eq_false, not_false_eq_true, Bool.and_true, Bool.true_and, Bool.and_self, ge_iff_le, Int.le_refl, if_true, if_false, reduceCtorEq, eq_self, BEq.rfl]
    rfl
  | true =>
    have c2 : prB p.n p.f p.sz p.m = true := hR
    obtain ⟨_, _, h1, h2, h3, _⟩ := pr_all hR
    have b1 : p.sz.toNat * 1 ≤ 140737488355328 := by omega
    simp only [hn, hm, c2, pr_in, h1, b1, decide_true, decide_false, cond_true, cond_false, allN_true, Nat.le_refl, Int.toNat_natCast, Nat.beq_refl, pk_and, pk_or, Bool.not_true, Bool.not_false, not_true_eq_false, not_false_eq_true, Bool.and_true, Bool.true_and, Bool.and_self, ge_iff_le, Int.le_refl, if_true, if_false, reduceCtorEq, eq_self, BEq.rfl]
    refine run_loop (x := x) (y := y) hp hR rfl ?_
    exact weakK [(0, 0), (1, 1), (2, 2), (3, 3), (4, 4), (5, 5)] rfl rfl rfl rfl rfl ⟨k_is rfl rfl, k_is rfl rfl, .ptr rfl, .ptr rfl, .ptr rfl, trivial⟩
      ⟨⟨3, rfl⟩, .agg (.cons (k_is rfl rfl) (.cons (.ptr rfl) (.cons (k_is rfl rfl) .nil))), .agg (.cons (k_is rfl rfl) (.cons (k_is rfl rfl) (.cons (k_is rfl rfl) (.cons (k_is rfl rfl) (.cons (.sl rfl) (.cons (k_nil rfl) .nil)))))), k_is rfl rfl, k_is rfl rfl, k_is rfl rfl, trivial⟩
end Go.Proofs.Ytmfbaglhmiadjaa

/- Specs of Step, Run, First and SameResult, by the parts of programs and results. -/
namespace Go.Proofs.Ytmfbaglhmiadjaa
open Go.Ra
set_option linter.unusedVariables false
set_option linter.unusedSimpArgs false
def TSr : Tab := mkT qq (cl_ref1 ++ cl_slices) [] gl_slices
def sEnd (en tk ts tp st : Int) (rg : Nat → XV) (x1 x2 y1 y2 : Bool) (nm : Nat) (mm : Nat → XV) (nw : Nat) (wf : Nat → XV) (i : Nat) : XSt := ⟨[(5, .int .i64 i), (4, .bool false), (3, .ptr 1 [] 0), (2, .ptr 0 [] 0)], [(1, some (xRe en tk ts tp st rg x2 nm mm y2 nw wf)), (0, some (xRe en tk ts tp st rg x1 nm mm y1 nw wf))], 2⟩
theorem TSrok : TabOk Try.prog TSr := mkT_ok (clok_ref1.app clok_slices) trivial glok_slices
theorem r_first (x y : Bool) (n : Nat) (f : Nat → XV) (sz : Int) (m : Nat) (d : Nat → XV) (K : XV → Prop) : (quietGo TSr 5 (callI TSr 5 20) 14 [xPr x n f sz y m d] K) = (bif decide (0 ≤ sz) then bif decide (Int.toNat sz * 1 ≤ 140737488355328) then bif Nat.beq (Int.toNat sz) (Int.toNat sz) then bif decide (Int.toNat sz ≤ Int.toNat
 sz) then K (.row false 1 (Int.toNat sz) fun i => .int .u8 (bif decide (i < m) then asN (d i) else (0 : Int))) else False else False else False
else False) := by
 kernel_rfl
theorem r_same1 (en tk ts tp st : Int) (rg : Nat → XV) (x1 x2 y1 y2 : Bool) (nm : Nat) (mm : Nat → XV) (nw : Nat) (wf : Nat → XV) (r : AV) : (goS Try.prog TSr [(.tmp 4)] r (.run c_ref1_SameEnd) [] ⟨envX 0 [xRe en tk ts tp st rg x1 nm mm y1 nw wf, xRe en tk ts tp st rg x2 nm mm y2 nw wf], [], 0⟩) = (bif bif decide ¬en = en then true else !decide ¬en = en then bif bif bif decide ¬en = en then true else !(decide (tk = tk) && (decide (ts = ts) && (decide (tp
 = tp) && true))) then true else !bif decide ¬en = en then true else !(decide (tk = tk) && (decide (ts = ts) && (decide (tp = tp) && true))) then bif bif allN (fun
 i => true) nm then true else !!bif bif decide ¬en = en then true else !(decide (tk = tk) && (decide (ts = ts) && (decide (tp = tp) && true))) then true else decide
 ¬st = st then bif bif allN (fun i => true) nm then true else !!bif bif decide ¬en = en then true else !(decide (tk = tk) && (decide (ts = ts) && (decide (tp = tp)
 && true))) then true else decide ¬st = st then bif bif bif bif decide ¬en = en then true else !(decide (tk = tk) && (decide (ts = ts) && (decide (tp = tp) && true)))
 then true else decide ¬st = st then true else !bif bif decide ¬en = en then true else !(decide (tk = tk) && (decide (ts = ts) && (decide (tp = tp) && true))) then
 true else decide ¬st = st then bif bif bif bif bif decide ¬en = en then true else !(decide (tk = tk) && (decide (ts = ts) && (decide (tp = tp) && true))) then true
 else decide ¬st = st then true else !strEq nm (fun i => asN (mm i)) nm fun i => asN (mm i) then true else !bif bif bif decide ¬en = en then true else !(decide (tk
 = tk) && (decide (ts = ts) && (decide (tp = tp) && true))) then true else decide ¬st = st then true else !strEq nm (fun i => asN (mm i)) nm fun i => asN (mm i) then
 bif bif bif bif bif decide ¬en = en then true else !(decide (tk = tk) && (decide (ts = ts) && (decide (tp = tp) && true))) then true else decide ¬st = st then true
 else !strEq nm (fun i => asN (mm i)) nm fun i => asN (mm i) then true else decide ¬(↑nw : Int) = (↑nw : Int) then con (.bool false) = r else LoopAt (Ok Try.prog
 (Tab.q TSr)) c_ref1_SameEnd_l1 (XSt.mk [(5, .int .i64 0), (4, .bool false), (3, .ptr 1 [] 0), (2, .ptr 0 [] 0)] [(1, some (.agg 23 [.int .i64 en, .agg 3 [.int .i64
 tk, .int .i64 ts, .int .i64 tp], .int .i64 st, .tab 16 1 (o_rg fun a => rg a), .row x2 1 nm (o_by fun a => mm a), .row y2 3 nw (o_wr fun a => wf a)])), (0, some
 (.agg 23 [.int .i64 en, .agg 3 [.int .i64 tk, .int .i64 ts, .int .i64 tp], .int .i64 st, .tab 16 1 (o_rg fun a => rg a), .row x1 1 nm (o_by fun a => mm a), .row
 y1 3 nw (o_wr fun a => wf a)]))] 2) [Frm.blk 0, Frm.seq c_ref1_SameEnd_p1] (finR [AR.tmp 4] r) else False else False else False else False else False
else False)
 := by kernel_rfl
theorem r_same2 (en tk ts tp st : Int) (rg : Nat → XV) (x1 x2 y1 y2 : Bool) (nm : Nat) (mm : Nat → XV) (nw : Nat) (wf : Nat → XV) (i : Nat) (r : AV) (A : XSt → Prop) : (goS Try.prog TSr [(.tmp 4)] r (.run c_ref1_SameEnd_l1) [.lp c_ref1_SameEnd_l1 A, .blk 0, .seq c_ref1_SameEnd_p1] (sEnd en tk ts tp st rg x1 x2 y1 y2 nm mm nw wf i)) = (bif decide ((↑i : Int) < (↑nw : Int)) then bif decide ((↑i : Int) < (↑nw : Int)) then bif decide ((↑i : Int) < (↑nw : Int)) then bif !(decide (asN (fld 0 (wf
 i)) = asN (fld 0 (wf i))) && (decide (asN (fld 1 (wf i)) = asN (fld 1 (wf i))) && (decide (asN (fld 2 (wf i)) = asN (fld 2 (wf i))) && true))) then con (.bool false)
 = r else A (XSt.mk [(5, .int .i64 (IntKind.wrap .i64 ((↑i : Int) + (1 : Int)))), (4, .bool false), (3, .ptr 1 [] 0), (2, .ptr 0 [] 0)] [(1, some (.agg 23 [.int .i64
 en, .agg 3 [.int .i64 tk, .int .i64 ts, .int .i64 tp], .int .i64 st, .tab 16 1 (o_rg fun a => rg a), .row x2 1 nm (o_by fun a => mm a), .row y2 3 nw (o_wr fun a
 => wf a)])), (0, some (.agg 23 [.int .i64 en, .agg 3 [.int .i64 tk, .int .i64 ts, .int .i64 tp], .int .i64 st, .tab 16 1 (o_rg fun a => rg a), .row x1 1 nm (o_by
 fun a => mm a), .row y1 3 nw (o_wr fun a => wf a)]))] 2) else False else False
else con (.bool true) = r) := by kernel_rfl
/-- A program's parts, read off. -/
def pvF : XV → Option (PV × Bool × Bool)
  | .agg 3 [.row x e n f, .int .i64 sz, .row y e2 m d] => bif (okE e 5 n && okE e2 1 m) then some (⟨n, f, sz, m, d⟩, x, y) else none
  | _ => none
def PV.nd (p : PV) : List Bool := [decide (p.n ≤ 4611686018427387904), allN (fun i => isS kIn (p.f i)) p.n, decide (p.m ≤ 4611686018427387904), allN (fun i => isK (.i .u8) (p.d i)) p.m, rngB p.m p.d]
def rvF : XV → Option (RV × Bool × Bool)
  | .agg 23 [.int .i64 en, .agg 3 [.int .i64 tk, .int .i64 ts, .int .i64 tp], .int .i64 st, .tab 16 1 rg, .row x e nm mm, .row y e2 nw wf] => bif (okE e 1 nm && okE e2 3 nw) then some (⟨en, tk, ts, tp, st, rg, nm, mm, nw, wf⟩, x, y) else none
  | _ => none
def RV.nd (r : RV) : List Bool := [decide (r.nm ≤ 1099511627776), decide (r.nw ≤ 1000000), allN (fun i => isK (.i .u32) (r.rg i)) 16, allN (fun i => decide (0 ≤ asN (r.rg i)) && decide (asN (r.rg i) ≤ 4294967295)) 16, allN (fun i => isK (.i .u8) (r.mm i)) r.nm, rngB r.nm r.mm, allN (fun i => isS kWr (r.wf i)) r.nw]
theorem pvF_ok {v : XV} {p : PV} {x y : Bool} (h : pvF v = some (p, x, y)) (hn : allT p.nd) : nilQ (con v) (con (p.xv x y)) ∧ p.good := by
  unfold pvF at h
  split at h
  · rename_i x' e n f sz y' e2 m d
    cases hc : (okE e 5 n && okE e2 1 m) <;> rw [hc] at h
    · cases h
    · simp only [cond_true, Option.some.injEq, Prod.mk.injEq] at h
      obtain ⟨rfl, rfl, rfl⟩ := h
      simp only [Bool.and_eq_true] at hc
      simp only [PV.nd, allT_cons, decide_eq_true_eq] at hn
      obtain ⟨h1, h2, h3, h4, h5, _⟩ := hn
      rw [allN_iff] at h2 h4
      rw [rngB_iff] at h5
      refine ⟨.agg (.cons (nilQ_row hc.1 fun i hi => by rw [in_id h2 hi]) (.cons (.refl _) (.cons (nilQ_row hc.2 fun i hi => ?_) .nil))), ⟨h1, h3, h5⟩⟩
      exact congrArg con (mkK_eq (h4 i hi)).symm
  · cases h
theorem rvF_ok {v : XV} {r : RV} {x y : Bool} (h : rvF v = some (r, x, y)) (hn : allT r.nd) : nilQ (con v) (con (r.xv x y)) ∧ r.ok := by
  unfold rvF at h
  split at h
  · rename_i en tk ts tp st rg x' e nm mm y' e2 nw wf
    cases hc : (okE e 1 nm && okE e2 3 nw) <;> rw [hc] at h
    · cases h
    · simp only [cond_true, Option.some.injEq, Prod.mk.injEq] at h
      obtain ⟨rfl, rfl, rfl⟩ := h
      simp only [Bool.and_eq_true] at hc
      simp only [RV.nd, allT_cons, decide_eq_true_eq] at hn
      obtain ⟨h1, h2, h3, h4, h5, h6, h7, _⟩ := hn
      rw [allN_iff] at h3 h4 h5 h7
      simp only [Bool.and_eq_true, decide_eq_true_eq] at h4
      rw [rngB_iff] at h6
      refine ⟨.agg (.cons (.refl _) (.cons (.refl _) (.cons (.refl _) (.cons ?_ (.cons (nilQ_row hc.1 fun i hi => ?_) (.cons (nilQ_row hc.2 fun i hi => ?_) .nil)))))), ⟨h1, h2, h4, h6⟩⟩
      · rw [rg_eq h3]; exact .refl _
      · exact congrArg con (mkK_eq (h5 i hi)).symm
      · exact congrArg con (mkS_eq (h7 i hi)).symm
  · cases h
theorem pure_out {P : Program} {f : Nat} {l : List AV} {v v' : AV} (hp : Pure P f l v) (h : leK (fun _ => none) v v') : Pure P f l v' :=
  ⟨hp.1, fun w F vs hF hr => (hp.2 w F vs hF hr).mono fun e w' ⟨u, F', h1, h2, h3, h4, h5⟩ => ⟨u, F', h1, h2, h3, h4, h5.leK h⟩⟩
def stepSp : List XV → Option (List Bool × XV)
  | [a, b, .int .i64 pc] =>
    match pvF a, rvF b with
    | some (p, _, _), some (r, _, _) => some (p.nd ++ r.nd, .tup [(stepV p r pc).1.xv false false, .int .i64 (stepV p r pc).2])
    | _, _ => none
  | _ => none
theorem sp_step : SpOk Try.prog (20, stepSp) := fun args nd v h hn => by
  simp only [stepSp] at h
  split at h
  · split at h
    · rename_i p x y r x2 y2 hp hr
      simp only [Option.some.injEq, Prod.mk.injEq] at h
      obtain ⟨rfl, rfl⟩ := h
      rw [allT_app] at hn
      obtain ⟨a1, a2⟩ := pvF_ok hp hn.1
      obtain ⟨b1, b2⟩ := rvF_ok hr hn.2
      exact (st1 a2.ok b2).nilQ (.cons a1 (.cons b1 (.cons (.refl _) .nil)))
    · cases h
  · cases h
/-- What a run leaves, of any program. -/
def runW (p : PV) (fuel : Int) : RV := if p.right = true then runV p fuel else rv0 0 (fun _ => .int .u32 0) 0 (fun _ => .int .u8 0) 0 (fun _ => mkS kWr .unk)
def runSp : List XV → Option (List Bool × XV)
  | [a, .int .i64 fuel] =>
    match pvF a with
    | some (p, _, _) => some (p.nd, (runW p fuel).xv false false)
    | none => none
  | _ => none
theorem sp_run : SpOk Try.prog (13, runSp) := fun args nd v h hn => by
  simp only [runSp] at h
  split at h
  · split at h
    · rename_i p x y hp
      simp only [Option.some.injEq, Prod.mk.injEq] at h
      obtain ⟨rfl, rfl⟩ := h
      obtain ⟨a1, a2⟩ := pvF_ok hp hn
      refine Pure.nilQ ?_ (.cons a1 (.cons (.refl _) .nil))
      refine pure_out (run1 a2) ?_
      unfold runW
      cases hR : p.right with
      | true => rw [cond_true, if_pos rfl]; exact leK.agg (.cons (k_is rfl rfl) (.cons (k_is rfl rfl) (.cons (k_is rfl rfl) (.cons (k_is rfl rfl) (.cons (k_is rfl rfl) (.cons (k_is rfl rfl) .nil))))))
      | false => rw [cond_false, if_neg (by decide)]; exact leK.agg (.cons (k_is rfl rfl) (.cons (k_is rfl rfl) (.cons (k_is rfl rfl) (.cons (k_is rfl rfl) (.cons (.fro (.inr rfl)) (.cons (.fro (.inr rfl)) .nil))))))
    · cases h
  · cases h
def firstSp : List XV → Option (List Bool × XV)
  | [a] =>
    match pvF a with
    | some (p, _, _) => some (p.nd ++ [decide (0 ≤ p.sz), decide (p.sz ≤ 65536)], .row false 1 p.sz.toNat (memV p))
    | none => none
  | _ => none
theorem sp_first : SpOk Try.prog (14, firstSp) := fun args nd v h hn => by
  simp only [firstSp] at h
  split at h
  · split at h
    · rename_i p x y hp
      simp only [Option.some.injEq, Prod.mk.injEq] at h
      obtain ⟨rfl, rfl⟩ := h
      rw [allT_app] at hn
      obtain ⟨a1, a2⟩ := pvF_ok hp hn.1
      simp only [allT_cons, decide_eq_true_eq] at hn
      obtain ⟨_, h0, h1, _⟩ := hn
      refine Pure.nilQ ?_ (.cons a1 .nil)
      show Pure Try.prog _ (cons [p.xv x y]) _
      refine pureX (u := 5) (k := 20) mix TSrok ?_
      refine Eq.mpr (r_first x y p.n p.f p.sz p.m p.d _) ?_
      have b1 : p.sz.toNat * 1 ≤ 140737488355328 := by omega
      simp only [h0, b1, decide_true, decide_false, cond_true, cond_false, allN_true, Nat.le_refl, Int.toNat_natCast, Nat.beq_refl, pk_and, pk_or, Bool.not_true, Bool.not_false, not_true_eq_false, not_false_eq_true, Bool.and_true, Bool.true_and, Bool.and_self, ge_iff_le, Int.le_refl, if_true, if_false, reduceCtorEq, eq_self, BEq.rfl]
      rfl
    · cases h
  · cases h
/-- Are two results one? -/
def eqRV (a b : RV) : Bool := decide (a.en = b.en ∧ a.tk = b.tk ∧ a.ts = b.ts ∧ a.tp = b.tp ∧ a.st = b.st) && (eqR 16 16 (fun i => decide (asN (a.rg i) = asN (b.rg i))) && (eqR a.nm b.nm (fun i => decide (asN (a.mm i) = asN (b.mm i))) && eqR a.nw b.nw (fun i => decide (asN (fld 0 (a.wf i)) = asN (fld 0 (b.wf i)) ∧ asN (fld 1 (a.wf i)) = asN (fld 1 (b.wf i)) ∧ asN (fld 2 (a.wf i)) = asN (fld 2 (b.wf i))))))
theorem eqRV_self (a : RV) : eqRV a a = true := by
  unfold eqRV
  simp only [and_self, decide_true, Bool.true_and, Bool.and_eq_true]
  exact ⟨eqR_self fun _ _ => rfl, eqR_self fun _ _ => rfl, eqR_self fun _ _ => rfl⟩
theorem eqRV_con {a b : RV} (h : eqRV a b = true) (x y : Bool) : con (b.xv x y) = con (a.xv x y) := by
  unfold eqRV at h
  simp only [Bool.and_eq_true, decide_eq_true_eq, eqR_iff] at h
  obtain ⟨⟨h1, h2, h3, h4, h5⟩, ⟨_, h6⟩, ⟨h7, h8⟩, ⟨h9, h10⟩⟩ := h
  have e1 : (tabL 16 fun i => con (o_rg b.rg i)) = tabL 16 fun i => con (o_rg a.rg i) := tabL_congr fun i hi => by simp only [o_rg, h6 i hi]
  have e2 : (tabL b.nm fun i => con (o_by b.mm i)) = tabL a.nm fun i => con (o_by a.mm i) := by rw [← h7]; exact tabL_congr fun i hi => by simp only [o_by, h8 i hi]
  have e3 : (tabL b.nw fun i => con (o_wr b.wf i)) = tabL a.nw fun i => con (o_wr a.wf i) := by
    rw [← h9]
    refine tabL_congr fun i hi => ?_
    obtain ⟨g1, g2, g3⟩ := h10 i hi
    simp only [o_wr, mkS, mkKs, mkK, g1, g2, g3]
  simp only [RV.xv, xRe, con, cons]
  rw [e1, e2, e3, h1, h2, h3, h4, h5]
theorem ne_self (n : Int) : decide (¬ n = n) = false := by simp
theorem eq_self3 (a b c : Int) : (decide (a = a) && (decide (b = b) && (decide (c = c) && true))) = true := by simp
theorem end_self {a : RV} {x1 y1 x2 y2 : Bool} (hw : a.nw ≤ 1000000) : Pure Try.prog 40 (cons [a.xv x1 y1, a.xv x2 y2]) (con (.bool true)) := by
  refine pureS mix TSrok t_ref1_SameEnd (Nat.le_of_ble_eq_true rfl) ?_
  refine Eq.mpr (r_same1 a.en a.tk a.ts a.tp a.st a.rg x1 x2 y1 y2 a.nm a.mm a.nw a.wf _) ?_
  simp only [ne_self, eq_self3, strEq_self, decide_true, decide_false, cond_true, cond_false, allN_true, Nat.le_refl, Int.toNat_natCast, Nat.beq_refl, pk_and, pk_or, Bool.not_true, Bool.not_false, not_true_eq_false, not_false_eq_true, Bool.and_true, Bool.true_and, Bool.and_self, ge_iff_le, Int.le_refl, if_true, if_false, reduceCtorEq, eq_self, BEq.rfl]
  refine loopT mix TSrok (fun i : Nat => sEnd a.en a.tk a.ts a.tp a.st a.rg x1 x2 y1 y2 a.nm a.mm a.nw a.wf i) (fun i => i ≤ a.nw) (fun i => a.nw - i) 0 (Nat.zero_le _) (weakX ⟨rfl, rfl, rfl, rfl, trivial⟩ ⟨rfl, rfl, trivial⟩ (Nat.le_refl _)) ?_
  intro i hi
  refine Eq.mpr (r_same2 a.en a.tk a.ts a.tp a.st a.rg x1 x2 y1 y2 a.nm a.mm a.nw a.wf i _ _) ?_
  by_cases hlt : i < a.nw
  · have h1 : (i : Int) < (a.nw : Int) := by omega
    have w1 : IntKind.i64.wrap ((i : Int) + 1) = ((i + 1 : Nat) : Int) := wrap_i64 (by omega) (by omega)
    simp only [h1, hlt, w1, eq_self3, decide_true, decide_false, cond_true, cond_false, allN_true, Nat.le_refl, Int.toNat_natCast, Nat.beq_refl, pk_and, pk_or, Bool.not_true, Bool.not_false, not_true_eq_false, not_false_eq_true, Bool.and_true, Bool.true_and, Bool.and_self, ge_iff_le, Int.le_refl, if_true, if_false, reduceCtorEq, eq_self, BEq.rfl]
    exact ⟨i + 1, hlt, weakT ⟨le_is rfl, le_is rfl, le_is rfl, le_is rfl, trivial⟩ ⟨rfl, rfl, trivial⟩ (Nat.le_refl _) rfl, by omega⟩
  · have h1 : ¬ (i : Int) < (a.nw : Int) := by omega
    simp only [h1, decide_true, decide_false, cond_true, cond_false, allN_true, Nat.le_refl, Int.toNat_natCast, Nat.beq_refl, pk_and, pk_or, Bool.not_true, Bool.not_false, not_true_eq_false, not_false_eq_true, Bool.and_true, Bool.true_and, Bool.and_self, ge_iff_le, Int.le_refl, if_true, if_false, reduceCtorEq, eq_self, BEq.rfl]
theorem end_pure {a b : RV} {x1 y1 x2 y2 : Bool} (hw : a.nw ≤ 1000000) (h : eqRV a b = true) : Pure Try.prog 40 (cons [a.xv x1 y1, b.xv x2 y2]) (con (.bool true)) := by
  have := end_self (a := a) (x1 := x1) (y1 := y1) (x2 := x2) (y2 := y2) hw
  simp only [cons] at this ⊢
  rw [eqRV_con h]
  exact this
def sameSp : List XV → Option (List Bool × XV)
  | [a, b] =>
    match rvF a, rvF b with
    | some (r, _, _), some (s, _, _) => some (r.nd ++ (s.nd ++ [eqRV r s]), .bool true)
    | _, _ => none
  | _ => none
theorem sp_end : SpOk Try.prog (40, sameSp) := fun args nd v h hn => by
  simp only [sameSp] at h
  split at h
  · split at h
    · rename_i r x1 y1 s x2 y2 hr hs
      simp only [Option.some.injEq, Prod.mk.injEq] at h
      obtain ⟨rfl, rfl⟩ := h
      rw [allT_app, allT_app, allT_cons] at hn
      obtain ⟨a1, a2⟩ := rvF_ok hr hn.1
      obtain ⟨b1, b2⟩ := rvF_ok hs hn.2.1
      exact (end_pure a2.nw hn.2.2.1).nilQ (.cons a1 (.cons b1 .nil))
    · cases h
  · cases h
end Go.Proofs.Ytmfbaglhmiadjaa

/- Abstract code of the functions of law4: printed by a program from what the given translation yields. -/
namespace Go.Proofs.Ytmfbaglhmiadjaa
open Go.Ra
def c_law4_Few : AC := (.seq (.ops [⟨(.some 1), (.box (.t 0)), .none⟩, ⟨(.some 2), (.mv (.c (.sc (.bool .false)))), .none⟩]) (.seq (.ops [⟨(.some 3), (.fadr 0 0 1 (.t 1)), .none⟩, ⟨(.some 4), (.load .false 1 (.t 3)), .none⟩, ⟨(.some 5), (.len .none (.t 4)), .none⟩, ⟨(.some 6), (.bin .leq (.t 5) (.c (.sc (.int .i64 200)))), .none⟩, ⟨(.some 7), (.mv (.t 6)), .none⟩, ⟨(.some 8), (.fadr 2 2 1 (.t 1)), (.some (7, .true))⟩, ⟨(.some 9), (.load .false 1 (.t 8)), (.some (7, .true))⟩, ⟨(.some 10), (.len .none (.t 9)), (.some (7, .true))⟩, ⟨(.some 11), (.bin .leq (.t 10) (.c (.sc (.int .i64 500)))), (.some (7, .true))⟩, ⟨(.some 12), (.pick (.t 7) (.t 11) (.c (.sc (.bool .false)))), .none⟩, ⟨(.some 2), (.mv (.t 12)), .none⟩]) .ret))
theorem t_law4_Few : trF Try.prog qq 11 = some (13, [(.tmp 2)], c_law4_Few) := by kernel_rfl
/-- The functions of law4. -/
def cl_law4 : CodeL := [(11, 13, [(.tmp 2)], c_law4_Few)]
theorem clok_law4 : AllL (fun p => trF Try.prog qq p.1 = some p.2) cl_law4 := ⟨t_law4_Few, trivial⟩
end Go.Proofs.Ytmfbaglhmiadjaa

/- Whether two results are one. -/
namespace Go.Proofs.Ytmfbaglhmiadjaa
open Go.Ra
set_option linter.unusedVariables false
set_option linter.unusedSimpArgs false
def TSe : Tab := mkT qq (cl_ref1 ++ cl_slices) [(40, sameSp)] gl_slices
def TLa : Tab := mkT qq (cl_law6 ++ cl_law4 ++ cl_seq ++ cl_bytes ++ cl_slices ++ cl_ref1 ++ cl_word ++ cl_math ++ cl_image ++ cl_isa ++ cl_alu) [] gl_slices
theorem TLaok : TabOk Try.prog TLa := mkT_ok ((((((((((clok_law6.app clok_law4).app clok_seq).app clok_bytes).app clok_slices).app clok_ref1).app clok_word).app clok_math).app clok_image).app clok_isa).app clok_alu) trivial glok_slices
theorem r_alv (K : XV → Prop) : (quietGo TLa 80 (callI TLa 80 20) 10 [] K) = (K (.bool true)) := by kernel_rfl
theorem alv : Pure Try.prog 10 (cons []) (con (.bool true)) := by
  refine pureX (u := 80) (k := 20) mix TLaok ?_
  rw [r_alv]
theorem sp_alv : SpOk Try.prog (10, alvSp) := fun args nd v h hn => by
  simp only [alvSp] at h
  split at h
  · simp only [Option.some.injEq, Prod.mk.injEq] at h
    obtain ⟨rfl, rfl⟩ := h
    exact alv
  · cases h
theorem TSeok : TabOk Try.prog TSe := mkT_ok (clok_ref1.app clok_slices) ⟨sp_end, trivial⟩ glok_slices
theorem r_same3 (en tk ts tp st : Int) (rg : Nat → XV) (x1 x2 y1 y2 : Bool) (nm : Nat) (mm : Nat → XV) (nw : Nat) (wf : Nat → XV) (K : XV → Prop) : (quietGo TSe 5 (callI TSe 5 20) 23 [xRe en tk ts tp st rg x1 nm mm y1 nw wf, xRe en tk ts tp st rg x2 nm mm y2 nw wf] K) = (bif bif decide (RV.nm (RV.mk en tk ts tp st (o_rg rg) nm (o_by mm) nw (o_wr wf)) ≤ 1099511627776) then true else !allN (fun i => decide (asN (rg i) = asN (rg
 i))) 16 then bif bif decide (RV.nw (RV.mk en tk ts tp st (o_rg rg) nm (o_by mm) nw (o_wr wf)) ≤ 1000000) then true else !allN (fun i => decide (asN (rg i) = asN
 (rg i))) 16 then bif bif allN (fun i => decide (0 ≤ asN (rg i)) && decide (asN (rg i) ≤ 4294967295)) 16 then true else !allN (fun i => decide (asN (rg i) = asN (rg
 i))) 16 then bif bif allN (fun i => true) (RV.nm (RV.mk en tk ts tp st (o_rg rg) nm (o_by mm) nw (o_wr wf))) then true else !allN (fun i => decide (asN (rg i) =
 asN (rg i))) 16 then bif bif rngB (RV.nm (RV.mk en tk ts tp st (o_rg rg) nm (o_by mm) nw (o_wr wf))) fun a => .int .u8 (asN (mm a)) then true else !allN (fun i =>
 decide (asN (rg i) = asN (rg i))) 16 then bif bif allN (fun i => true) (RV.nw (RV.mk en tk ts tp st (o_rg rg) nm (o_by mm) nw (o_wr wf))) then true else !allN (fun
 i => decide (asN (rg i) = asN (rg i))) 16 then bif bif decide (RV.nm (RV.mk en tk ts tp st (o_rg rg) nm (o_by mm) nw (o_wr wf)) ≤ 1099511627776) then true else !allN
 (fun i => decide (asN (rg i) = asN (rg i))) 16 then bif bif decide (RV.nw (RV.mk en tk ts tp st (o_rg rg) nm (o_by mm) nw (o_wr wf)) ≤ 1000000) then true else !allN
 (fun i => decide (asN (rg i) = asN (rg i))) 16 then bif bif allN (fun i => decide (0 ≤ asN (rg i)) && decide (asN (rg i) ≤ 4294967295)) 16 then true else !allN (fun
 i => decide (asN (rg i) = asN (rg i))) 16 then bif bif allN (fun i => true) (RV.nm (RV.mk en tk ts tp st (o_rg rg) nm (o_by mm) nw (o_wr wf))) then true else !allN
 (fun i => decide (asN (rg i) = asN (rg i))) 16 then bif bif rngB (RV.nm (RV.mk en tk ts tp st (o_rg rg) nm (o_by mm) nw (o_wr wf))) fun a => .int .u8 (asN (mm a))
 then true else !allN (fun i => decide (asN (rg i) = asN (rg i))) 16 then bif bif allN (fun i => true) (RV.nw (RV.mk en tk ts tp st (o_rg rg) nm (o_by mm) nw (o_wr
 wf))) then true else !allN (fun i => decide (asN (rg i) = asN (rg i))) 16 then bif bif eqRV (RV.mk en tk ts tp st (o_rg rg) nm (o_by mm) nw (o_wr wf)) (RV.mk en
 tk ts tp st (o_rg rg) nm (o_by mm) nw (o_wr wf)) then true else !allN (fun i => decide (asN (rg i) = asN (rg i))) 16 then bif bif allN (fun i => decide (asN (rg
 i) = asN (rg i))) 16 then allN (fun i => decide (asN (rg i) = asN (rg i))) 16 else true then K (.bool (bif allN (fun i => decide (asN (rg i) = asN (rg i))) 16 then
 true else false)) else False else False else False else False else False else False else False else False else False else False else False else False else False
else
 False) := by kernel_rfl
/-- What a run leaves, not looked into. -/
noncomputable def runO (p : PV) (fuel : Int) : RV := Classical.choose (⟨runW p fuel, rfl⟩ : ∃ r, r = runW p fuel)
theorem runO_eq (p : PV) (fuel : Int) : runO p fuel = runW p fuel := Classical.choose_spec (⟨runW p fuel, rfl⟩ : ∃ r, r = runW p fuel)
noncomputable def stepO (p : PV) (r : RV) (pc : Int) : RV × Int := Classical.choose (⟨stepV p r pc, rfl⟩ : ∃ s, s = stepV p r pc)
theorem stepO_eq (p : PV) (r : RV) (pc : Int) : stepO p r pc = stepV p r pc := Classical.choose_spec (⟨stepV p r pc, rfl⟩ : ∃ s, s = stepV p r pc)
noncomputable def runSpO : List XV → Option (List Bool × XV)
  | [a, .int .i64 fuel] =>
    match pvF a with
    | some (p, _, _) => some (p.nd, (runO p fuel).xv false false)
    | none => none
  | _ => none
noncomputable def stepSpO : List XV → Option (List Bool × XV)
  | [a, b, .int .i64 pc] =>
    match pvF a, rvF b with
    | some (p, _, _), some (r, _, _) => some (p.nd ++ r.nd, .tup [(stepO p r pc).1.xv false false, .int .i64 (stepO p r pc).2])
    | _, _ => none
  | _ => none
theorem sp_runO : SpOk Try.prog (13, runSpO) := fun args nd v h hn => by
  simp only [runSpO] at h
  split at h
  · split at h
    · rename_i p x y hp
      simp only [Option.some.injEq, Prod.mk.injEq] at h
      obtain ⟨rfl, rfl⟩ := h
      rw [runO_eq]
      exact sp_run _ p.nd _ (by simp only [runSp, hp]) hn
    · cases h
  · cases h
theorem sp_stepO : SpOk Try.prog (20, stepSpO) := fun args nd v h hn => by
  simp only [stepSpO] at h
  split at h
  · split at h
    · rename_i p x y r x2 y2 hp hr
      simp only [Option.some.injEq, Prod.mk.injEq] at h
      obtain ⟨rfl, rfl⟩ := h
      rw [stepO_eq]
      exact sp_step _ (p.nd ++ r.nd) _ (by simp only [stepSp, hp, hr]) hn
    · cases h
  · cases h
theorem same_pure {a b : RV} {x1 y1 x2 y2 : Bool} (ha : a.ok) (h : eqRV a b = true) : Pure Try.prog 23 (cons [a.xv x1 y1, b.xv x2 y2]) (con (.bool true)) := by
  have e : cons [a.xv x1 y1, b.xv x2 y2] = cons [a.xv x1 y1, a.xv x2 y2] := by simp only [cons]; rw [eqRV_con h]
  rw [e]
  refine pureX (u := 5) (k := 20) mix TSeok ?_
  refine Eq.mpr (r_same3 a.en a.tk a.ts a.tp a.st a.rg x1 x2 y1 y2 a.nm a.mm a.nw a.wf _) ?_
  have h1 : allN (fun i => decide (asN (a.rg i) = asN (a.rg i))) 16 = true := allN_iff.2 fun i _ => by simp
  have h2 : allN (fun i => decide (0 ≤ asN (a.rg i)) && decide (asN (a.rg i) ≤ 4294967295)) 16 = true := allN_iff.2 fun i hi => by simpa using ha.rg i hi
  have h3 : rngB a.nm (fun i => XV.int .u8 (asN (a.mm i))) = true := rng_by ha.mm
  have h4 : a.nm ≤ 1099511627776 := ha.nm
  have h5 : a.nw ≤ 1000000 := ha.nw
  simp only [h1, h2, h3, h4, h5, eqRV_self, pk_or, pk_and, pk_t, decide_true, decide_false, cond_true, cond_false, allN_true, Nat.le_refl, Int.toNat_natCast, Nat.beq_refl, pk_and, pk_or, Bool.not_true, Bool.not_false, not_true_eq_false, not_false_eq_true, Bool.and_true, Bool.true_and, Bool.and_self, ge_iff_le, Int.le_refl, if_true, if_false, reduceCtorEq, eq_self, BEq.rfl]
theorem sp_same : SpOk Try.prog (23, sameSp) := fun args nd v h hn => by
  simp only [sameSp] at h
  split at h
  · split at h
    · rename_i r x1 y1 s x2 y2 hr hs
      simp only [Option.some.injEq, Prod.mk.injEq] at h
      obtain ⟨rfl, rfl⟩ := h
      rw [allT_app, allT_app, allT_cons] at hn
      obtain ⟨a1, a2⟩ := rvF_ok hr hn.1
      obtain ⟨b1, b2⟩ := rvF_ok hs hn.2.1
      exact (same_pure a2 hn.2.2.1).nilQ (.cons a1 (.cons b1 .nil))
    · cases h
  · cases h
def eqI (v w : XV) : Bool := decide (asN (fld 0 v) = asN (fld 0 w) ∧ asN (fld 1 v) = asN (fld 1 w) ∧ asN (fld 2 v) = asN (fld 2 w) ∧ asN (fld 3 v) = asN (fld 3 w) ∧ asN (fld 4 v) = asN (fld 4 w))
/-- Are two programs one? -/
def eqPV (p q : PV) : Bool := bif Nat.beq p.n q.n then bif decide (p.sz = q.sz) then bif Nat.beq p.m q.m then bif allN (fun i => eqI (p.f i) (q.f i)) p.n then allN (fun i => decide (asN (p.d i) = asN (q.d i))) p.m else false else false else false else false
theorem eqPV_con {p q : PV} (h : eqPV p q = true) (x y : Bool) : con (p.xv x y) = con (q.xv x y) := by
  unfold eqPV at h
  cases h1 : Nat.beq p.n q.n <;> rw [h1] at h
  · cases h
  cases h2 : decide (p.sz = q.sz) <;> rw [h2] at h
  · cases h
  cases h3 : Nat.beq p.m q.m <;> rw [h3] at h
  · cases h
  cases h4 : allN (fun i => eqI (p.f i) (q.f i)) p.n <;> rw [h4] at h
  · cases h
  simp only [cond_true] at h
  have g1 := Nat.eq_of_beq_eq_true h1
  have g2 := of_decide_eq_true h2
  have g3 := Nat.eq_of_beq_eq_true h3
  rw [allN_iff] at h4 h
  have e1 : (tabL p.n fun i => con (o_in p.f i)) = tabL q.n fun i => con (o_in q.f i) := by
    rw [← g1]
    refine tabL_congr fun i hi => ?_
    have := of_decide_eq_true (h4 i hi)
    obtain ⟨a1, a2, a3, a4, a5⟩ := this
    simp only [o_in, mkS, mkKs, mkK, a1, a2, a3, a4, a5]
  have e2 : (tabL p.m fun i => con (o_by p.d i)) = tabL q.m fun i => con (o_by q.d i) := by
    rw [← g3]
    refine tabL_congr fun i hi => ?_
    have := of_decide_eq_true (h i hi)
    simp only [o_by, this]
  simp only [PV.xv, xPr, con, cons]
  rw [e1, e2, g2]
def u_eqI (v w : XV) : Bool := decide (asN (fld 0 v) = asN (fld 0 w) ∧ asN (fld 1 v) = asN (fld 1 w) ∧ asN (fld 2 v) = asN (fld 2 w) ∧ asN (fld 3 v) = asN (fld 3 w) ∧ asN (fld 4 v) = asN (fld 4 w))
def eqIL (p q : PV) : Nat → List Bool
  | 0 => []
  | i + 1 => u_eqI (p.f i) (q.f i) :: eqIL p q i
def eqDL (p q : PV) : Nat → List Bool
  | 0 => []
  | i + 1 => decide (asN (p.d i) = asN (q.d i)) :: eqDL p q i
def eqPL (p q : PV) : List Bool := Nat.beq p.n q.n :: decide (p.sz = q.sz) :: Nat.beq p.m q.m :: (eqIL p q p.n ++ eqDL p q p.m)
theorem eqIL_iff {p q : PV} : ∀ {n : Nat}, allT (eqIL p q n) → ∀ i, i < n → eqI (p.f i) (q.f i) = true
  | 0, _, i, hi => by omega
  | n + 1, h, i, hi => by
    simp only [eqIL, allT_cons] at h
    by_cases hin : i = n
    · subst hin; exact h.1
    · exact eqIL_iff h.2 i (by omega)
theorem eqDL_iff {p q : PV} : ∀ {n : Nat}, allT (eqDL p q n) → ∀ i, i < n → decide (asN (p.d i) = asN (q.d i)) = true
  | 0, _, i, hi => by omega
  | n + 1, h, i, hi => by
    simp only [eqDL, allT_cons] at h
    by_cases hin : i = n
    · subst hin; exact h.1
    · exact eqDL_iff h.2 i (by omega)
theorem eqPL_ok {p q : PV} (h : allT (eqPL p q)) : eqPV p q = true := by
  simp only [eqPL, allT_cons, allT_app] at h
  obtain ⟨h1, h2, h3, h4, h5⟩ := h
  unfold eqPV
  rw [h1, h2, h3, allN_iff.2 (eqIL_iff h4), allN_iff.2 (eqDL_iff h5)]
  rfl
/-- What a run of a program that has a name leaves. -/
def runSpN (P : PV) (R : RV) (fuel : Int) : List XV → Option (List Bool × XV)
  | [a, .int .i64 k] =>
    match pvF a with
    | some (p, _, _) => some (p.nd ++ decide (k = fuel) :: eqPL p P, R.xv false false)
    | none => none
  | _ => none
theorem sp_runN {P : PV} {R : RV} {fuel : Int} (hP : P.good) (hR : R = runW P fuel) : SpOk Try.prog (13, runSpN P R fuel) := fun args nd v h hn => by
  simp only [runSpN] at h
  split at h
  · split at h
    · rename_i p x y hp
      simp only [Option.some.injEq, Prod.mk.injEq] at h
      obtain ⟨rfl, rfl⟩ := h
      rw [allT_app, allT_cons, decide_eq_true_eq] at hn
      obtain ⟨hn1, hk, hn2⟩ := hn
      replace hn2 := eqPL_ok hn2
      subst hk
      obtain ⟨a1, a2⟩ := pvF_ok hp hn1
      refine Pure.nilQ ?_ (.cons a1 (.cons (.refl _) .nil))
      rw [eqPV_con hn2]
      refine pure_out (run1 (x := x) (y := y) hP) ?_
      subst hR
      unfold runW
      cases hR : P.right with
      | true => rw [cond_true, if_pos rfl]; exact leK.agg (.cons (k_is rfl rfl) (.cons (k_is rfl rfl) (.cons (k_is rfl rfl) (.cons (k_is rfl rfl) (.cons (k_is rfl rfl) (.cons (k_is rfl rfl) .nil))))))
      | false => rw [cond_false, if_neg (by decide)]; exact leK.agg (.cons (k_is rfl rfl) (.cons (k_is rfl rfl) (.cons (k_is rfl rfl) (.cons (k_is rfl rfl) (.cons (.fro (.inr rfl)) (.cons (.fro (.inr rfl)) .nil))))))
    · cases h
  · cases h
end Go.Proofs.Ytmfbaglhmiadjaa

/- Single instructions, plainly. -/
namespace Go.Proofs.Ytmfbaglhmiadjaa
open Go.Ra
set_option linter.unusedVariables false
set_option linter.unusedSimpArgs false
/-- An instruction. -/
def mkI (op d a b m : Int) : XV := .agg 5 [.int .i64 op, .int .i64 d, .int .i64 a, .int .i64 b, .int .i64 m]
def R15 (n : Int) : Prop := 0 ≤ n ∧ n ≤ 15
theorem rt_addi {d a m : Int} (hd : R15 d) (ha : R15 a) (h0 : -8192 ≤ m) (h1 : m ≤ 8191) : rtB 17 d a 0 m = true := by
  unfold R15 at hd ha
  refine decide_eq_true ?_
  rw [show fmI 17 = 2 from rfl]
  unfold rtP rgP
  omega
theorem rt_slti {d a m : Int} (hd : R15 d) (ha : R15 a) (h0 : -8192 ≤ m) (h1 : m ≤ 8191) : rtB 21 d a 0 m = true := by
  unfold R15 at hd ha
  refine decide_eq_true ?_
  rw [show fmI 21 = 2 from rfl]
  unfold rtP rgP
  omega
theorem rt_lw {d a m : Int} (hd : R15 d) (ha : R15 a) (h0 : -8192 ≤ m) (h1 : m ≤ 8191) : rtB 26 d a 0 m = true := by
  unfold R15 at hd ha
  refine decide_eq_true ?_
  rw [show fmI 26 = 4 from rfl]
  unfold rtP rgP
  omega
theorem rt_sw {a b m : Int} (ha : R15 a) (hb : R15 b) (h0 : -8192 ≤ m) (h1 : m ≤ 8191) : rtB 31 0 a b m = true := by
  unfold R15 at ha hb
  refine decide_eq_true ?_
  rw [show fmI 31 = 5 from rfl]
  unfold rtP rgP
  omega
theorem rt_bne {a b m : Int} (ha : R15 a) (hb : R15 b) (h0 : -8192 ≤ m) (h1 : m ≤ 8191) : rtB 35 0 a b m = true := by
  unfold R15 at ha hb
  refine decide_eq_true ?_
  rw [show fmI 35 = 6 from rfl]
  unfold rtP rgP
  omega
theorem rt_halt : rtB 41 0 0 0 0 = true := by decide
theorem ins_addi {d a m pc : Int} {r : RV} (hd : R15 d) (ha : R15 a) (h0 : -8192 ≤ m) (h1 : m ≤ 8191) : insV (mkI 17 d a 0 m) r pc = (r.set d ((vlI r.rg a + m) % 4294967296), IntKind.i64.wrap (pc + 1)) := by
  have hr := rt_addi hd ha h0 h1
  have e1 : dkB 17 d a 0 m (vlI r.rg 0) = true := by
    unfold dkB
    rw [if_neg (by rw [hr, show fmI 17 = 2 from rfl]; decide)]
    simp
  have e2 : doI 17 d a 0 m (vlI r.rg a) (vlI r.rg 0) = (vlI r.rg a + m) % 4294967296 := by
    unfold doI
    rw [if_neg (by rw [hr, show fmI 17 = 2 from rfl]; decide), if_neg (by decide), if_pos (show fmI 17 = 2 from rfl), show plI 17 = 1 from rfl]
    unfold alW
    rw [if_pos rfl]
    omega
  show (if fmI 17 = 8 then _ else if fmI 17 = 7 then _ else if fmI 17 = 6 then _ else if fmI 17 = 5 then _ else if fmI 17 = 4 then _ else if dkB 17 d a 0 m (vlI r.rg 0) = true then (r.set d (doI 17 d a 0 m (vlI r.rg a) (vlI r.rg 0)), IntKind.i64.wrap (pc + 1)) else _) = _
  rw [if_neg (by decide), if_neg (by decide), if_neg (by decide), if_neg (by decide), if_neg (by decide), if_pos e1, e2]
theorem ins_bne {a b m pc : Int} {r : RV} : insV (mkI 35 0 a b m) r pc = (r.tick, if vlI r.rg a = vlI r.rg b then IntKind.i64.wrap (pc + 1) else IntKind.i64.wrap (pc + m)) := by
  show (if fmI 35 = 8 then _ else if fmI 35 = 7 then _ else if fmI 35 = 6 then (r.tick, if tkB 35 (vlI r.rg a) (vlI r.rg b) = true then IntKind.i64.wrap (pc + m) else IntKind.i64.wrap (pc + 1)) else _) = _
  rw [if_neg (by decide), if_neg (by decide), if_pos (show fmI 35 = 6 from rfl)]
  have e : tkB 35 (vlI r.rg a) (vlI r.rg b) = !decide (vlI r.rg a = vlI r.rg b) := by
    unfold tkB
    rw [if_neg (by decide), if_pos rfl]
  rw [e]
  by_cases h : vlI r.rg a = vlI r.rg b
  · rw [if_pos h, if_neg (by simp [h])]
  · rw [if_neg h, if_pos (by simp [h])]
theorem ins_halt {pc : Int} {r : RV} : insV (mkI 41 0 0 0 0) r pc = ({ r.tick with en := 1 }, pc) := by
  show (if fmI 41 = 8 then _ else _) = _
  rw [if_pos (by decide)]
theorem iter_go {p : PV} {k : Nat} (h : (iterV p k).1.en = 0) : iterV p (k + 1) = goV p (iterV p k).1 (iterV p k).2 := by
  simp only [iterV]
  rw [if_pos h]
theorem go_at {p : PV} {r : RV} {pc : Int} (h0 : 0 ≤ pc) (h1 : pc < p.n) : goV p r pc = insV (p.f pc.toNat) r pc := by
  unfold goV
  rw [if_neg (by omega)]
theorem iter_at {p : PV} {k i : Nat} {r : RV} {pc : Int} (hs : iterV p k = (r, pc)) (he : r.en = 0) (hi : (i : Int) = pc) (hn : i < p.n) : iterV p (k + 1) = insV (p.f i) r pc := by
  subst hi
  rw [iter_go (by rw [hs]; exact he), hs, go_at (show (0 : Int) ≤ (i : Int) by omega) (show ((i : Nat) : Int) < (p.n : Int) by omega)]
  rfl
theorem asN_int {k : IntKind} {n : Int} : asN (.int k n) = n := rfl
theorem right_of {p : PV} (h : 1 ≤ p.n ∧ p.n ≤ 2000 ∧ 0 ≤ p.sz ∧ p.sz ≤ 65536 ∧ (p.m : Int) ≤ p.sz) (h1 : ∀ i, i < p.n → u_rt (p.f i) = true) (h2 : ∀ i, i < p.n → tgB p.n (p.f i) i = true) : p.right = true := by
  unfold PV.right
  rw [pr_yes h, allR_iff.2 h1, allT2_iff.2 h2]
  rfl
theorem tg_not {n i : Nat} {v : XV} (h6 : fmI (iOp v) ≠ 6) (h7 : fmI (iOp v) ≠ 7) : tgB n v i = true := by
  unfold tgB
  rw [decide_eq_false h6, decide_eq_false h7]
  rfl
theorem tg_in2 {n i : Nat} {v : XV} (h0 : 0 ≤ (i : Int) + iM v) (h1 : (i : Int) + iM v < n) : tgB n v i = true := by
  unfold tgB
  rw [decide_eq_true h0, decide_eq_true h1]
  cases (decide (fmI (asN (fld 0 v)) = 6) || decide (fmI (asN (fld 0 v)) = 7)) <;> rfl
/-- The end of a run that stops. -/
theorem run_stop {p : PV} {fuel : Int} {k : Nat} (hR : p.right = true) (hk : (k : Int) ≤ fuelI fuel) (h : ¬ (iterV p k).1.en = 0) : runW p fuel = (iterV p k).1 := by
  unfold runW
  rw [if_pos hR]
  unfold runV
  rw [iter_stop h (fuelI fuel).toNat (by omega), if_neg h]
/-- What a run of a named program leaves. -/
def runSpM (P : PV) (R : RV) (fuel : Int) : List XV → Option (List Bool × XV)
  | [a, .int .i64 k] =>
    match pvF a with
    | some (p, _, _) => some (p.nd ++ [decide (k = fuel), eqPV p P], R.xv false false)
    | none => none
  | _ => none
theorem sp_runM {P : PV} {R : RV} {fuel : Int} (hP : P.good) (hR : R = runW P fuel) : SpOk Try.prog (13, runSpM P R fuel) := fun args nd v h hn => by
  simp only [runSpM] at h
  split at h
  · split at h
    · rename_i p x y hp
      simp only [Option.some.injEq, Prod.mk.injEq] at h
      obtain ⟨rfl, rfl⟩ := h
      rw [allT_app, allT_cons, decide_eq_true_eq, allT_cons] at hn
      obtain ⟨hn1, hk, hn2, _⟩ := hn
      subst hk
      obtain ⟨a1, a2⟩ := pvF_ok hp hn1
      refine Pure.nilQ ?_ (.cons a1 (.cons (.refl _) .nil))
      rw [eqPV_con hn2]
      refine pure_out (run1 (x := x) (y := y) hP) ?_
      subst hR
      unfold runW
      cases hR : P.right with
      | true => rw [cond_true, if_pos rfl]; exact leK.agg (.cons (k_is rfl rfl) (.cons (k_is rfl rfl) (.cons (k_is rfl rfl) (.cons (k_is rfl rfl) (.cons (k_is rfl rfl) (.cons (k_is rfl rfl) .nil))))))
      | false => rw [cond_false, if_neg (by decide)]; exact leK.agg (.cons (k_is rfl rfl) (.cons (k_is rfl rfl) (.cons (k_is rfl rfl) (.cons (k_is rfl rfl) (.cons (.fro (.inr rfl)) (.cons (.fro (.inr rfl)) .nil))))))
    · cases h
  · cases h
theorem eqI_w (v : XV) : eqI (mkS kIn v) v = true := by
  unfold eqI
  exact decide_eq_true ⟨rfl, rfl, rfl, rfl, rfl⟩
theorem eqPV_w (P : PV) : eqPV ⟨P.n, o_in P.f, P.sz, P.m, o_by P.d⟩ P = true := by
  unfold eqPV
  simp only [Nat.beq_refl, decide_true, cond_true]
  rw [show allN (fun i => eqI (o_in P.f i) (P.f i)) P.n = true from allN_iff.2 fun i hi => eqI_w (P.f i), cond_true]
  exact allN_iff.2 fun i hi => decide_eq_true rfl
/-- Register 0 is 0. -/
theorem set_r0 {g : Nat → XV} {d v : Int} (h0 : 0 ≤ d) : asN (o_set g d v 0) = asN (g 0) := by
  show (bif (!decide (d = 0) && Nat.beq 0 d.toNat) then v else asN (g 0)) = _
  by_cases hd : d = 0
  · rw [decide_eq_true hd]; rfl
  · rw [beq_ne (by omega : ¬ 0 = d.toNat), Bool.and_false]; rfl
theorem go_r0 {p : PV} (hR : allR p.n p.f = true) {r : RV} {pc : Int} (h : asN (r.rg 0) = 0) : asN ((goV p r pc).1.rg 0) = 0 := by
  unfold goV
  split
  · exact h
  · rename_i hpc
    obtain ⟨_, ⟨hd0, hd1⟩, _⟩ := rt_fields (allR_iff.1 hR pc.toNat (by omega))
    unfold insV
    repeat' split
    all_goals first
      | exact h
      | exact (set_r0 hd0).trans h
theorem iter_r0 {p : PV} (hR : allR p.n p.f = true) : ∀ k, asN ((iterV p k).1.rg 0) = 0
  | 0 => rfl
  | k + 1 => by
    simp only [iterV]
    split
    · exact go_r0 hR (iter_r0 hR k)
    · exact iter_r0 hR k
/-- What steps of a named program leave, as a function. -/
def stepSpF (P : PV) (S : RV → Int → RV × Int) : List XV → Option (List Bool × XV)
  | [a, b, .int .i64 pc] =>
    match pvF a, rvF b with
    | some (p, _, _), some (r, _, _) => some (p.nd ++ (r.nd ++ [eqPV p P]), .tup [(S r pc).1.xv false false, .int .i64 (S r pc).2])
    | _, _ => none
  | _ => none
theorem sp_stepF {P : PV} (hP : P.good) : SpOk Try.prog (20, stepSpF P (stepV P)) := fun args nd v h hn => by
  simp only [stepSpF] at h
  split at h
  · split at h
    · rename_i p x y r x2 y2 hp hr
      simp only [Option.some.injEq, Prod.mk.injEq] at h
      obtain ⟨rfl, rfl⟩ := h
      rw [allT_app, allT_app, allT_cons] at hn
      obtain ⟨a1, a2⟩ := pvF_ok hp hn.1
      obtain ⟨b1, b2⟩ := rvF_ok hr hn.2.1
      refine Pure.nilQ ?_ (.cons a1 (.cons b1 (.cons (.refl _) .nil)))
      rw [eqPV_con hn.2.2.1]
      exact st1 (x := x) (y := y) (xm := x2) (xw := y2) hP.ok b2
    · cases h
  · cases h
def runSpF (P : PV) (F : Int → RV) : List XV → Option (List Bool × XV)
  | [a, .int .i64 k] =>
    match pvF a with
    | some (p, _, _) => some (p.nd ++ [eqPV p P], (F k).xv false false)
    | none => none
  | _ => none
theorem sp_runF {P : PV} (hP : P.good) : SpOk Try.prog (13, runSpF P (runW P)) := fun args nd v h hn => by
  simp only [runSpF] at h
  split at h
  · rename_i a k
    split at h
    · rename_i p x y hp
      simp only [Option.some.injEq, Prod.mk.injEq] at h
      obtain ⟨rfl, rfl⟩ := h
      rw [allT_app, allT_cons] at hn
      refine sp_runM (fuel := k) hP rfl [a, .int .i64 k] (p.nd ++ [decide (k = k), eqPV p P]) _ (by simp only [runSpM, hp]) ?_
      rw [allT_app, allT_cons, allT_cons]
      exact ⟨hn.1, by simp, hn.2.1, hn.2.2⟩
    · cases h
  · cases h
/-- Written in one way. -/
structure RV.can (r : RV) : Prop where
  rg : o_rg r.rg = r.rg
  mm : o_by r.mm = r.mm
  wf : o_wr r.wf = r.wf
theorem wr_wr (v : XV) : mkS kWr (mkS kWr v) = mkS kWr v := rfl
theorem can_apw {n : Nat} {wf : Nat → XV} {a s v : Int} : o_wr (o_apw n wf a s v) = o_apw n wf a s v := by
  funext i
  show mkS kWr (bif decide (i < n) then mkS kWr (wf i) else .agg 3 [.int .i64 a, .int .i64 s, .int .u32 v]) = bif decide (i < n) then mkS kWr (wf i) else .agg 3 [.int .i64 a, .int .i64 s, .int .u32 v]
  generalize decide (i < n) = b
  cases b <;> rfl
theorem go_can {p : PV} {r : RV} {pc : Int} (h : r.can) : (goV p r pc).1.can := by
  unfold goV insV
  repeat' split
  all_goals first
    | exact ⟨h.rg, h.mm, h.wf⟩
    | exact ⟨rfl, h.mm, h.wf⟩
    | exact ⟨h.rg, rfl, can_apw⟩
theorem iter_can {p : PV} : ∀ k, (iterV p k).1.can
  | 0 => ⟨rfl, rfl, rfl⟩
  | k + 1 => by
    simp only [iterV]
    split
    · exact go_can (iter_can k)
    · exact iter_can k
theorem can_eq {r : RV} (h : r.can) : RV.mk r.en r.tk r.ts r.tp r.st (o_rg r.rg) r.nm (o_by r.mm) r.nw (o_wr r.wf) = r := by
  rw [h.rg, h.mm, h.wf]
theorem step_go {p : PV} {k : Nat} (hR : p.right = true) (h : (iterV p k).1.en = 0) : stepV p (iterV p k).1 (iterV p k).2 = iterV p (k + 1) := by
  obtain ⟨_, _, h0, _⟩ := pr_all hR
  unfold stepV
  rw [if_pos ⟨h, hR, by rw [iter_nm]; omega⟩, iter_go h]
theorem step_stop {p : PV} {r : RV} {pc : Int} (h : ¬ r.en = 0) : stepV p r pc = (r, pc) := by
  unfold stepV
  rw [if_neg fun h2 => h h2.1]
end Go.Proofs.Ytmfbaglhmiadjaa

/- A program that copies words, plainly. -/
namespace Go.Proofs.Ytmfbaglhmiadjaa
open Go.Ra
set_option linter.unusedVariables false
set_option linter.unusedSimpArgs false
theorem ins_lw {d a m pc : Int} {r : RV} (hc : chkI 4 (IntKind.u32.wrap (vlI r.rg a + IntKind.u32.wrap m)) r.nm = 0) :
    insV (mkI 26 d a 0 m) r pc = (r.set d (loadI r.nm r.mm 26 (IntKind.u32.wrap (vlI r.rg a + IntKind.u32.wrap m))), IntKind.i64.wrap (pc + 1)) := by
  show (if fmI 26 = 8 then _ else if fmI 26 = 7 then _ else if fmI 26 = 6 then _ else if fmI 26 = 5 then _ else if fmI 26 = 4 then (if chkI (szI 26) (IntKind.u32.wrap (vlI r.rg a + IntKind.u32.wrap m)) r.nm = 0 then (r.set d (loadI r.nm r.mm 26 (IntKind.u32.wrap (vlI r.rg a + IntKind.u32.wrap m))), IntKind.i64.wrap (pc + 1)) else _) else _) = _
  rw [if_neg (by decide), if_neg (by decide), if_neg (by decide), if_neg (by decide), if_pos (show fmI 26 = 4 from rfl), show szI 26 = 4 from rfl, if_pos hc]
theorem ins_sw {a b m pc : Int} {r : RV} (hc : chkI 4 (IntKind.u32.wrap (vlI r.rg a + IntKind.u32.wrap m)) r.nm = 0) :
    insV (mkI 31 0 a b m) r pc = (r.sto (IntKind.u32.wrap (vlI r.rg a + IntKind.u32.wrap m)) 4 (vlI r.rg b), IntKind.i64.wrap (pc + 1)) := by
  show (if fmI 31 = 8 then _ else if fmI 31 = 7 then _ else if fmI 31 = 6 then _ else if fmI 31 = 5 then (if chkI (szI 31) (IntKind.u32.wrap (vlI r.rg a + IntKind.u32.wrap m)) r.nm = 0 then (r.sto (IntKind.u32.wrap (vlI r.rg a + IntKind.u32.wrap m)) (szI 31) (mskI (vlI r.rg b) (szI 31)), IntKind.i64.wrap (pc + 1)) else _) else _) = _
  rw [if_neg (by decide), if_neg (by decide), if_neg (by decide), if_pos (show fmI 31 = 5 from rfl), show szI 31 = 4 from rfl, if_pos hc]
  rfl
theorem ins_slti {d a m pc : Int} {r : RV} (hd : R15 d) (ha : R15 a) (h0 : -8192 ≤ m) (h1 : m ≤ 8191) : insV (mkI 21 d a 0 m) r pc = (r.set d (oneI (decide (i32 (vlI r.rg a) < i32 (m % 4294967296)))), IntKind.i64.wrap (pc + 1)) := by
  have hr := rt_slti hd ha h0 h1
  have e1 : dkB 21 d a 0 m (vlI r.rg 0) = true := by
    unfold dkB
    rw [if_neg (by rw [hr, show fmI 21 = 2 from rfl]; decide)]
    simp
  have e2 : doI 21 d a 0 m (vlI r.rg a) (vlI r.rg 0) = oneI (decide (i32 (vlI r.rg a) < i32 (m % 4294967296))) := by
    unfold doI
    rw [if_neg (by rw [hr, show fmI 21 = 2 from rfl]; decide), if_neg (by decide), if_pos (show fmI 21 = 2 from rfl), show plI 21 = 9 from rfl]
    unfold alW
    rw [if_neg (by decide), if_neg (by decide), if_neg (by decide), if_neg (by decide), if_neg (by decide), if_neg (by decide), if_neg (by decide), if_neg (by decide), if_pos rfl]
  show (if fmI 21 = 8 then _ else if fmI 21 = 7 then _ else if fmI 21 = 6 then _ else if fmI 21 = 5 then _ else if fmI 21 = 4 then _ else if dkB 21 d a 0 m (vlI r.rg 0) = true then (r.set d (doI 21 d a 0 m (vlI r.rg a) (vlI r.rg 0)), IntKind.i64.wrap (pc + 1)) else _) = _
  rw [if_neg (by decide), if_neg (by decide), if_neg (by decide), if_neg (by decide), if_neg (by decide), if_pos e1, e2]
theorem chk_ok {a n : Int} (h0 : 0 ≤ a) (h1 : a + 4 ≤ n) (h2 : a % 4 = 0) (h3 : n ≤ 65536) : chkI 4 a n = 0 := by
  unfold chkI
  rw [wrap_i64 (x := a) (by omega) (by omega), wrap_i64 (x := n - 4) (by omega) (by omega), wrap_i64 (x := a + 4) (by omega) (by omega), Int.tmod_eq_emod_of_nonneg h0]
  rw [if_neg (by omega), if_neg (by omega)]
def dV (l : Nat → Int) (k : Nat) : XV := .int .u8 (l (k / 4) / 2 ^ (8 * (k % 4)) % 256)
def copF (n : Int) : Nat → XV
  | 0 => mkI 26 2 1 0 0
  | 1 => mkI 31 0 1 2 n
  | 2 => mkI 17 1 1 0 4
  | 3 => mkI 21 3 1 0 n
  | 4 => mkI 35 0 3 0 (-4)
  | _ => mkI 41 0 0 0 0
def copP (L : Nat) (l : Nat → Int) : PV := ⟨6, copF (4 * L : Nat), (8 * L : Nat), 4 * L, dV l⟩
theorem q15 {n : Int} (h0 : 0 ≤ n) (h1 : n ≤ 15) : R15 n := ⟨h0, h1⟩
theorem cop_good {L : Nat} {l : Nat → Int} (hL : L ≤ 30) : (copP L l).good := by
  refine ⟨by show 6 ≤ 4611686018427387904; decide, by show 4 * L ≤ _; omega, fun i hi => ?_⟩
  show 0 ≤ l (i / 4) / 2 ^ (8 * (i % 4)) % 256 ∧ l (i / 4) / 2 ^ (8 * (i % 4)) % 256 ≤ 255
  omega
theorem cop_right {L : Nat} {l : Nat → Int} (h1 : 1 ≤ L) (hL : L ≤ 30) : (copP L l).right = true := by
  refine right_of ⟨by show 1 ≤ 6; decide, by show 6 ≤ 2000; decide, by show (0 : Int) ≤ (8 * L : Nat); omega, by show ((8 * L : Nat) : Int) ≤ 65536; omega, by show ((4 * L : Nat) : Int) ≤ (8 * L : Nat); omega⟩ (fun i hi => ?_) (fun i hi => ?_)
  · rcases (by have : i < 6 := hi; omega : i = 0 ∨ i = 1 ∨ i = 2 ∨ i = 3 ∨ i = 4 ∨ i = 5) with rfl | rfl | rfl | rfl | rfl | rfl
    · show rtB 26 2 1 0 0 = true; decide
    · show rtB 31 0 1 2 (4 * L : Nat) = true; exact rt_sw (q15 (by omega) (by omega)) (q15 (by omega) (by omega)) (by omega) (by omega)
    · show rtB 17 1 1 0 4 = true; decide
    · show rtB 21 3 1 0 (4 * L : Nat) = true; exact rt_slti (q15 (by omega) (by omega)) (q15 (by omega) (by omega)) (by omega) (by omega)
    · show rtB 35 0 3 0 (-4) = true; decide
    · exact rt_halt
  · rcases (by have : i < 6 := hi; omega : i = 0 ∨ i = 1 ∨ i = 2 ∨ i = 3 ∨ i = 4 ∨ i = 5) with rfl | rfl | rfl | rfl | rfl | rfl
    · exact tg_not (by show ¬ fmI 26 = 6; decide) (by show ¬ fmI 26 = 7; decide)
    · exact tg_not (by show ¬ fmI 31 = 6; decide) (by show ¬ fmI 31 = 7; decide)
    · exact tg_not (by show ¬ fmI 17 = 6; decide) (by show ¬ fmI 17 = 7; decide)
    · exact tg_not (by show ¬ fmI 21 = 6; decide) (by show ¬ fmI 21 = 7; decide)
    · exact tg_in2 (by show (0 : Int) ≤ 4 + -4; decide) (by show (4 : Int) + -4 < 6; decide)
    · exact tg_not (by show ¬ fmI 41 = 6; decide) (by show ¬ fmI 41 = 7; decide)
/-- Behind so many turns. -/
structure CopI (L : Nat) (l : Nat → Int) (j : Nat) (r : RV) : Prop where
  en : r.en = 0
  r1 : vlI r.rg 1 = 4 * j
  nm : r.nm = 8 * L
  nw : r.nw = j
  mm : ∀ k, k < 8 * L → asN (r.mm k) = if k < 4 * L then asN (dV l k) else if k < 4 * L + 4 * j then asN (dV l (k - 4 * L)) else 0
  wf : ∀ i, i < j → asN (fld 0 (r.wf i)) = 4 * L + 4 * i ∧ asN (fld 1 (r.wf i)) = 4 ∧ asN (fld 2 (r.wf i)) = l i
theorem dV_at {l : Nat → Int} {j t : Nat} (ht : t < 4) : asN (dV l (4 * j + t)) = l j / 2 ^ (8 * t) % 256 := by
  show l ((4 * j + t) / 4) / 2 ^ (8 * ((4 * j + t) % 4)) % 256 = _
  rw [show (4 * j + t) / 4 = j by omega, show (4 * j + t) % 4 = t by omega]
theorem cop_load {L : Nat} {l : Nat → Int} {j : Nat} {r : RV} (h : CopI L l j r) (hj : j < L) (hL : L ≤ 30) (hl : 0 ≤ l j ∧ l j ≤ 4294967295) : loadI r.nm r.mm 26 (4 * j : Nat) = l j := by
  unfold loadI
  rw [if_pos ⟨by decide, by decide, by rw [h.nm]; exact chk_ok (by omega) (by show ((4 * j : Nat) : Int) + 4 ≤ (8 * L : Nat); omega) (by omega) (by omega)⟩]
  have hx : ∀ t, t < 4 → asN (r.mm (4 * j + t)) = l j / 2 ^ (8 * t) % 256 := fun t ht => by
    rw [h.mm _ (by omega), if_pos (by omega), dV_at ht]
  have e : wrd r.mm ((4 * j : Nat) : Int).toNat (szI 26).toNat = l j := by
    show wrd r.mm (4 * j) 4 = l j
    show 0 + asN (r.mm (4 * j + 0)) * 2 ^ (8 * 0) + asN (r.mm (4 * j + 1)) * 2 ^ (8 * 1) + asN (r.mm (4 * j + 2)) * 2 ^ (8 * 2) + asN (r.mm (4 * j + 3)) * 2 ^ (8 * 3) = l j
    rw [hx 0 (by decide), hx 1 (by decide), hx 2 (by decide), hx 3 (by decide)]
    show 0 + l j / 1 % 256 * 1 + l j / 256 % 256 * 256 + l j / 65536 % 256 * 65536 + l j / 16777216 % 256 * 16777216 = l j
    omega
  rw [e]
  unfold extI
  rw [if_neg (by decide), if_neg (by decide)]
theorem cop_turn {L : Nat} {l : Nat → Int} {j k : Nat} {r : RV} (hL : L ≤ 30) (hj : j < L) (hl : 0 ≤ l j ∧ l j ≤ 4294967295) (hs : iterV (copP L l) k = (r, 0)) (h : CopI L l j r) :
    ∃ r', iterV (copP L l) (k + 5) = (r', if j + 1 < L then 0 else 5) ∧ CopI L l (j + 1) r' := by
  have w0 : IntKind.u32.wrap (vlI r.rg 1 + IntKind.u32.wrap 0) = (4 * j : Nat) := by rw [h.r1, wU32, wU32]; omega
  have hld := cop_load h hj hL hl
  have g1 : iterV (copP L l) (k + 1) = (r.set 2 (l j), 1) := by
    rw [iter_at (i := 0) hs h.en rfl (by show 0 < 6; decide)]
    show insV (mkI 26 2 1 0 0) r 0 = _
    rw [ins_lw (by rw [w0, h.nm]; exact chk_ok (by omega) (by show ((4 * j : Nat) : Int) + 4 ≤ (8 * L : Nat); omega) (by omega) (by omega)), w0, hld]
    rfl
  generalize hr1 : r.set 2 (l j) = r1 at g1
  have a1 : r1.en = 0 := by rw [← hr1]; exact h.en
  have a2 : vlI r1.rg 1 = 4 * j := by rw [← hr1]; exact h.r1
  have a3 : vlI r1.rg 2 = l j := by rw [← hr1]; rfl
  have a4 : r1.nm = 8 * L := by rw [← hr1]; exact h.nm
  have a5 : r1.nw = j := by rw [← hr1]; exact h.nw
  have a6 : r1.mm = r.mm := by rw [← hr1]; rfl
  have a7 : r1.wf = r.wf := by rw [← hr1]; rfl
  have w1 : IntKind.u32.wrap (vlI r1.rg 1 + IntKind.u32.wrap (4 * L : Nat)) = (4 * L + 4 * j : Nat) := by rw [a2, wU32, wU32]; omega
  have hchk : chkI 4 ((4 * L + 4 * j : Nat) : Int) r1.nm = 0 := by rw [a4]; exact chk_ok (by omega) (by show ((4 * L + 4 * j : Nat) : Int) + 4 ≤ (8 * L : Nat); omega) (by omega) (by omega)
  have g2 : iterV (copP L l) (k + 1 + 1) = (r1.sto (4 * L + 4 * j : Nat) 4 (l j), 2) := by
    rw [iter_at (i := 1) g1 a1 rfl (by show 1 < 6; decide)]
    show insV (mkI 31 0 1 2 (4 * L : Nat)) r1 1 = _
    rw [ins_sw (by rw [w1]; exact hchk), w1, a3]
    rfl
  have hok : okW r1.nm (4 * L + 4 * j : Nat) 4 = true := okW_iff.2 ⟨by omega, by omega, by omega, hchk⟩
  generalize hr2 : r1.sto (4 * L + 4 * j : Nat) 4 (l j) = r2 at g2
  have b1 : r2.en = 0 := by rw [← hr2]; exact a1
  have b2 : vlI r2.rg 1 = 4 * j := by rw [← hr2]; exact a2
  have b3 : r2.nm = 8 * L := by rw [← hr2]; exact a4
  have b4 : r2.nw = j + 1 := by rw [← hr2]; show r1.nw + 1 = _; rw [a5]
  have b5 : ∀ q, q < 8 * L → asN (r2.mm q) = if q < 4 * L then asN (dV l q) else if q < 4 * L + 4 * (j + 1) then asN (dV l (q - 4 * L)) else 0 := fun q hq => by
    rw [← hr2]
    show asN (o_sto (okW r1.nm (4 * L + 4 * j : Nat) 4) r1.mm (4 * L + 4 * j) 4 (l j) q) = _
    rw [hok]
    by_cases hin : 4 * L + 4 * j ≤ q ∧ q < 4 * L + 4 * j + 4
    · rw [sto_in (j := q - (4 * L + 4 * j)) (by omega) (by omega), if_neg (by omega), if_pos (by omega)]
      rw [show q - 4 * L = 4 * j + (q - (4 * L + 4 * j)) by omega, dV_at (by omega)]
      rfl
    · rw [sto_out (by omega), a6]
      show asN (r.mm q) = _
      rw [h.mm q hq]
      by_cases c1 : q < 4 * L
      · rw [if_pos c1, if_pos c1]
      · rw [if_neg c1, if_neg c1]
        by_cases c2 : q < 4 * L + 4 * j
        · rw [if_pos c2, if_pos (by omega)]
        · rw [if_neg c2, if_neg (by omega)]
  have b6 : ∀ i, i < j + 1 → asN (fld 0 (r2.wf i)) = 4 * L + 4 * i ∧ asN (fld 1 (r2.wf i)) = 4 ∧ asN (fld 2 (r2.wf i)) = l i := fun i hi => by
    rw [← hr2]
    show asN (fld 0 (o_apw r1.nw r1.wf (4 * L + 4 * j : Nat) 4 (l j) i)) = _ ∧ asN (fld 1 (o_apw r1.nw r1.wf (4 * L + 4 * j : Nat) 4 (l j) i)) = 4 ∧ asN (fld 2 (o_apw r1.nw r1.wf (4 * L + 4 * j : Nat) 4 (l j) i)) = l i
    rw [a5, a7]
    unfold o_apw
    by_cases hij : i < j
    · rw [decide_eq_true hij, cond_true]
      exact h.wf i hij
    · have : i = j := by omega
      subst this
      rw [decide_eq_false hij, cond_false]
      exact ⟨by show ((4 * L + 4 * i : Nat) : Int) = 4 * L + 4 * i; omega, rfl, rfl⟩
  have g3 : iterV (copP L l) (k + 1 + 1 + 1) = (r2.set 1 ((vlI r2.rg 1 + 4) % 4294967296), 3) := by
    rw [iter_at (i := 2) g2 b1 rfl (by show 2 < 6; decide)]
    show insV (mkI 17 1 1 0 4) r2 2 = _
    rw [ins_addi (q15 (by omega) (by omega)) (q15 (by omega) (by omega)) (by omega) (by omega)]
    rfl
  generalize hr3 : r2.set 1 ((vlI r2.rg 1 + 4) % 4294967296) = r3 at g3
  have c1 : r3.en = 0 := by rw [← hr3]; exact b1
  have c2 : vlI r3.rg 1 = 4 * (j + 1 : Nat) := by
    rw [← hr3]
    show (vlI r2.rg 1 + 4) % 4294967296 = _
    rw [b2]; omega
  have g4 : iterV (copP L l) (k + 1 + 1 + 1 + 1) = (r3.set 3 (oneI (decide (i32 (vlI r3.rg 1) < i32 (((4 * L : Nat) : Int) % 4294967296)))), 4) := by
    rw [iter_at (i := 3) g3 c1 rfl (by show 3 < 6; decide)]
    show insV (mkI 21 3 1 0 (4 * L : Nat)) r3 3 = _
    rw [ins_slti (q15 (by omega) (by omega)) (q15 (by omega) (by omega)) (by omega) (by omega)]
    rfl
  have hcmp : oneI (decide (i32 (vlI r3.rg 1) < i32 (((4 * L : Nat) : Int) % 4294967296))) = if j + 1 < L then 1 else 0 := by
    rw [c2, show ((4 * L : Nat) : Int) % 4294967296 = 4 * L by omega]
    unfold i32
    rw [wI32, wI32]
    by_cases hjl : j + 1 < L
    · rw [if_pos hjl]
      simp only [oneI]
      rw [decide_eq_true (by omega)]
      rfl
    · rw [if_neg hjl]
      simp only [oneI]
      rw [decide_eq_false (by omega)]
      rfl
  rw [hcmp] at g4
  generalize hr4 : r3.set 3 (if j + 1 < L then 1 else 0) = r4 at g4
  have d1 : r4.en = 0 := by rw [← hr4]; exact c1
  have d3 : vlI r4.rg 3 = if j + 1 < L then 1 else 0 := by rw [← hr4]; rfl
  have g5 : iterV (copP L l) (k + 5) = (r4.tick, if j + 1 < L then 0 else 5) := by
    rw [show k + 5 = k + 1 + 1 + 1 + 1 + 1 from rfl, iter_at (i := 4) g4 d1 rfl (by show 4 < 6; decide)]
    show insV (mkI 35 0 3 0 (-4)) r4 4 = _
    rw [ins_bne, d3, show vlI r4.rg 0 = 0 from rfl]
    by_cases hjl : j + 1 < L
    · rw [if_pos hjl, if_pos hjl, if_neg (by decide)]; rfl
    · rw [if_neg hjl, if_neg hjl, if_pos rfl]; rfl
  refine ⟨r4.tick, g5, d1, ?_, ?_, ?_, ?_, ?_⟩
  · rw [← hr4]; exact c2
  · rw [← hr4, ← hr3]; exact b3
  · rw [← hr4, ← hr3]; exact b4
  · rw [← hr4, ← hr3]; exact b5
  · rw [← hr4, ← hr3]; exact b6
theorem cop_first {L : Nat} {l : Nat → Int} : CopI L l 0 (rFirst (copP L l)) := by
  refine ⟨rfl, rfl, by show ((8 * L : Nat) : Int).toNat = 8 * L; omega, rfl, fun k hk => ?_, fun i hi => absurd hi (Nat.not_lt_zero i)⟩
  show (bif decide (k < 4 * L) then asN (dV l k) else 0) = _
  by_cases h : k < 4 * L
  · rw [decide_eq_true h, if_pos h]; rfl
  · rw [decide_eq_false h, if_neg h, if_neg (by omega)]; rfl
theorem cop_at {L : Nat} {l : Nat → Int} (h1 : 1 ≤ L) (hL : L ≤ 30) (hl : ∀ j, j < L → 0 ≤ l j ∧ l j ≤ 4294967295) : ∀ j, j ≤ L → ∃ r, iterV (copP L l) (5 * j) = (r, if j < L then 0 else 5) ∧ CopI L l j r
  | 0, _ => ⟨rFirst (copP L l), by rw [if_pos (show 0 < L by omega)]; rfl, cop_first⟩
  | j + 1, hj => by
    obtain ⟨r, e, h⟩ := cop_at h1 hL hl j (by omega)
    rw [if_pos (by omega)] at e
    exact cop_turn hL (by omega) (hl j (by omega)) e h
theorem cop_end {L : Nat} {l : Nat → Int} (h1 : 1 ≤ L) (hL : L ≤ 30) (hl : ∀ j, j < L → 0 ≤ l j ∧ l j ≤ 4294967295) : ∃ r, CopI L l L r ∧ runW (copP L l) 1000 = { r.tick with en := 1 } := by
  obtain ⟨r, e, h⟩ := cop_at h1 hL hl L (Nat.le_refl L)
  rw [if_neg (Nat.lt_irrefl L)] at e
  refine ⟨r, h, ?_⟩
  have g : iterV (copP L l) (5 * L + 1) = ({ r.tick with en := 1 }, 5) := by
    rw [iter_at (i := 5) e h.en rfl (by show 5 < 6; decide)]
    show insV (mkI 41 0 0 0 0) r 5 = _
    rw [ins_halt]
  rw [run_stop (k := 5 * L + 1) (cop_right h1 hL) (by show _ ≤ (1000 : Int); omega) (by rw [g]; show ¬ (1 : Int) = 0; decide), g]
end Go.Proofs.Ytmfbaglhmiadjaa

