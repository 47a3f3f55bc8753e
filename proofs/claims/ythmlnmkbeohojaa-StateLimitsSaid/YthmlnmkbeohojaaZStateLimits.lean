/- Of each number of a config from where to where it may be. -/
import Derived.Test.YthmlnmkbeohojaaRows
import Derived.WalkKit
import Derived.ProofKit
import Derived.OpenShut
import Derived.ShutString
import Derived.ChangeOld
import Derived.Below
import Derived.SizedLaws
import Derived.Test.YthmlnmkbeohojaaPk6

namespace Go.Proofs.Ythmlnmkbeohojaa
open Go.Ra
set_option linter.unusedVariables false
set_option linter.unusedSimpArgs false
def TQ0 : Tab := mkT2 qq cl_law19 [] [] [(7, alvS), (11, cfgS)] []
theorem TQ0ok : TabOk Try.prog TQ0 := mkT2_ok clok_law19 trivial trivial ⟨sk_alv, sk_cfg, trivial⟩ trivial
theorem r_lim (w n : Int) (r : XV) : (quietGo TQ0 80 (callI TQ0 80 20) 5 [.int .i64 w, .int .i64 n] (fun v => ResLe v r)) = (∃ (s : Unit), ArgsLe [] [] ∧ PreIs True ∧ ∀ (y : Bool), y = true → bif bif !y then true else !!y then bif bif bif !y then true else decide (w < 0) then true
 else !bif !y then true else decide (w < 0) then bif bif bif bif !y then true else decide (w < 0) then true else decide (w > 11) then true else !bif bif !y then true
 else decide (w < 0) then true else decide (w > 11) then bif bif bif bif bif !y then true else decide (w < 0) then true else decide (w > 11) then true else decide
 (n < (-2 : Int)) then true else !bif bif bif !y then true else decide (w < 0) then true else decide (w > 11) then true else decide (n < (-2 : Int)) then bif bif
 bif bif bif !y then true else decide (w < 0) then true else decide (w > 11) then true else decide (n < (-2 : Int)) then true else decide (n > 1002) then ResLe (.bool
 y) r else bif decide (w = 0) then ∃ (s : Cfg), ArgsLe [.agg 12 [.int .i64 n, .int .i64 1, .int .i64 1, .int .i64 1, .int .i64 1, .int .i64 1, .int .i64 1, .int .i64
 1, .int .i64 1, .int .i64 1, .int .i64 1, .int .i64 1]] [e_Cfg s] ∧ PreIs True ∧ ∀ (y : Bool), y = rightCfg s → bif bif decide (n ≥ 1) then decide (n ≥ 1) else true
 then ResLe (.bool (y == bif decide (n ≥ 1) then decide (n ≤ 64) else false)) r else False else bif decide (w = 1) then ∃ (s : Cfg), ArgsLe [.agg 12 [.int .i64 1,
 .int .i64 n, .int .i64 1, .int .i64 1, .int .i64 1, .int .i64 1, .int .i64 1, .int .i64 1, .int .i64 1, .int .i64 1, .int .i64 1, .int .i64 1]] [e_Cfg s] ∧ PreIs
 True ∧ ∀ (y : Bool), y = rightCfg s → bif bif decide (n ≥ 1) then decide (n ≥ 1) else true then ResLe (.bool (y == bif decide (n ≥ 1) then decide (n ≤ 64) else false))
 r else False else bif decide (w = 2) then ∃ (s : Cfg), ArgsLe [.agg 12 [.int .i64 1, .int .i64 1, .int .i64 n, .int .i64 1, .int .i64 1, .int .i64 1, .int .i64 1,
 .int .i64 1, .int .i64 1, .int .i64 1, .int .i64 1, .int .i64 1]] [e_Cfg s] ∧ PreIs True ∧ ∀ (y : Bool), y = rightCfg s → bif bif decide (n ≥ 1) then decide (n ≥
 1) else true then ResLe (.bool (y == bif decide (n ≥ 1) then decide (n ≤ 64) else false)) r else False else bif decide (w = 3) then ∃ (s : Cfg), ArgsLe [.agg 12
 [.int .i64 1, .int .i64 1, .int .i64 1, .int .i64 n, .int .i64 1, .int .i64 1, .int .i64 1, .int .i64 1, .int .i64 1, .int .i64 1, .int .i64 1, .int .i64 1]] [e_Cfg
 s] ∧ PreIs True ∧ ∀ (y : Bool), y = rightCfg s → bif bif decide (n ≥ 1) then decide (n ≥ 1) else true then ResLe (.bool (y == bif decide (n ≥ 1) then decide (n ≤
 64) else false)) r else False else bif decide (w = 4) then ∃ (s : Cfg), ArgsLe [.agg 12 [.int .i64 1, .int .i64 1, .int .i64 1, .int .i64 1, .int .i64 n, .int .i64
 1, .int .i64 1, .int .i64 1, .int .i64 1, .int .i64 1, .int .i64 1, .int .i64 1]] [e_Cfg s] ∧ PreIs True ∧ ∀ (y : Bool), y = rightCfg s → bif bif decide (n ≥ 1)
 then decide (n ≥ 1) else true then ResLe (.bool (y == bif decide (n ≥ 1) then decide (n ≤ 64) else false)) r else False else bif decide (w = 5) then ∃ (s : Cfg),
 ArgsLe [.agg 12 [.int .i64 1, .int .i64 1, .int .i64 1, .int .i64 1, .int .i64 1, .int .i64 n, .int .i64 1, .int .i64 1, .int .i64 1, .int .i64 1, .int .i64 1, .int
 .i64 1]] [e_Cfg s] ∧ PreIs True ∧ ∀ (y : Bool), y = rightCfg s → bif bif decide (n ≥ 1) then decide (n ≥ 1) else true then ResLe (.bool (y == bif decide (n ≥ 1)
 then decide (n ≤ 64) else false)) r else False else bif decide (w = 6) then ∃ (s : Cfg), ArgsLe [.agg 12 [.int .i64 1, .int .i64 1, .int .i64 1, .int .i64 1, .int
 .i64 1, .int .i64 1, .int .i64 1, .int .i64 n, .int .i64 1, .int .i64 1, .int .i64 1, .int .i64 1]] [e_Cfg s] ∧ PreIs True ∧ ∀ (y : Bool), y = rightCfg s → bif bif
 decide (n ≥ 1) then decide (n ≥ 1) else true then ResLe (.bool (y == bif decide (n ≥ 1) then decide (n ≤ 64) else false)) r else False else bif decide (w = 7) then
 ∃ (s : Cfg), ArgsLe [.agg 12 [.int .i64 1, .int .i64 1, .int .i64 1, .int .i64 1, .int .i64 1, .int .i64 1, .int .i64 1, .int .i64 1, .int .i64 n, .int .i64 1, .int
 .i64 1, .int .i64 1]] [e_Cfg s] ∧ PreIs True ∧ ∀ (y : Bool), y = rightCfg s → bif bif decide (n ≥ 1) then decide (n ≥ 1) else true then ResLe (.bool (y == bif decide
 (n ≥ 1) then decide (n ≤ 64) else false)) r else False else bif decide (w = 8) then ∃ (s : Cfg), ArgsLe [.agg 12 [.int .i64 1, .int .i64 1, .int .i64 1, .int .i64
 1, .int .i64 1, .int .i64 1, .int .i64 n, .int .i64 1, .int .i64 1, .int .i64 1, .int .i64 1, .int .i64 1]] [e_Cfg s] ∧ PreIs True ∧ ∀ (y : Bool), y = rightCfg s
 → bif bif decide (n ≥ 1) then decide (n ≥ 1) else true then ResLe (.bool (y == bif decide (n ≥ 1) then decide (n ≤ 16) else false)) r else False else bif decide
 (w = 9) then ∃ (s : Cfg), ArgsLe [.agg 12 [.int .i64 1, .int .i64 1, .int .i64 1, .int .i64 1, .int .i64 1, .int .i64 1, .int .i64 1, .int .i64 1, .int .i64 1, .int
 .i64 n, .int .i64 1, .int .i64 1]] [e_Cfg s] ∧ PreIs True ∧ ∀ (y : Bool), y = rightCfg s → bif bif decide (n ≥ 1) then decide (n ≥ 1) else true then ResLe (.bool
 (y == bif decide (n ≥ 1) then decide (n ≤ 1000) else false)) r else False else bif decide (w = 10) then ∃ (s : Cfg), ArgsLe [.agg 12 [.int .i64 1, .int .i64 1, .int
 .i64 1, .int .i64 1, .int .i64 1, .int .i64 1, .int .i64 1, .int .i64 1, .int .i64 1, .int .i64 1, .int .i64 n, .int .i64 1]] [e_Cfg s] ∧ PreIs True ∧ ∀ (y : Bool),
 y = rightCfg s → bif bif decide (n ≥ 1) then decide (n ≥ 1) else true then ResLe (.bool (y == bif decide (n ≥ 1) then decide (n ≤ 50) else false)) r else False else
 bif decide (w = 11) then ∃ (s : Cfg), ArgsLe [.agg 12 [.int .i64 1, .int .i64 1, .int .i64 1, .int .i64 1, .int .i64 1, .int .i64 1, .int .i64 1, .int .i64 1, .int
 .i64 1, .int .i64 1, .int .i64 1, .int .i64 n]] [e_Cfg s] ∧ PreIs True ∧ ∀ (y : Bool), y = rightCfg s → bif bif decide (n ≥ 1) then decide (n ≥ 1) else true then
 ResLe (.bool (y == bif decide (n ≥ 1) then decide (n ≤ 50) else false)) r else False else ∃ (s : Cfg), ArgsLe [.agg 12 [.int .i64 1, .int .i64 1, .int .i64 1, .int
 .i64 1, .int .i64 1, .int .i64 1, .int .i64 1, .int .i64 1, .int .i64 1, .int .i64 1, .int .i64 1, .int .i64 1]] [e_Cfg s] ∧ PreIs True ∧ ∀ (y : Bool), y = rightCfg
 s → bif bif decide (n ≥ 1) then decide (n ≥ 1) else true then ResLe (.bool (y == bif decide (n ≥ 1) then decide (n ≤ 64) else false)) r else False else False else
 False else False else False) := by kernel_rfl
theorem lim {n : Int} (c : Cfg) (most : Int) (h : rightCfg c = decide (1 ≤ n ∧ n ≤ most)) : ∃ s : Cfg, ArgsLe [e_Cfg c] [e_Cfg s] ∧ PreIs True ∧ ∀ y : Bool, y = rightCfg s → cond (bif decide (n ≥ 1) then decide (n ≥ 1) else true) (ResLe (.bool (y == bif decide (n ≥ 1) then decide (n ≤ most) else false)) (.bool true)) False := by
  refine ⟨c, .rfl, ⟨trivial⟩, ?_⟩
  intro y hy
  rw [h] at hy
  subst hy
  simp only [g2, cond_true, band]
  refine resB ?_
  by_cases h1 : 1 ≤ n
  · by_cases h2 : n ≤ most
    · simp [h1, h2]
    · simp [h1, h2]
  · simp [h1]
theorem lim_pure (w n : Int) : Pure Try.prog 5 (cons [.int .i64 w, .int .i64 n]) (con (.bool true)) := by
  refine pureR (u := 80) (k := 20) mix TQ0ok ?_
  refine Eq.mpr (r_lim w n _) ?_
  refine ⟨(), .rfl, ⟨trivial⟩, ?_⟩
  intro y hy
  replace hy : y = true := hy
  subst hy
  by_cases hb : w < 0 ∨ w > 11 ∨ n < -2 ∨ n > 1002
  · simp only [g1, g2, g3, g4, g5, g6, g7, allN_true, cond_true, Nat.le_refl, decide_true, pl_eq]
    simp only [bor]
    have e : (!true || decide (w < 0) || decide (w > 11) || decide (n < -2) || decide (n > 1002)) = true := by
      rcases hb with h | h | h | h <;> simp [h]
    rw [e]
    exact .rfl
  have b1 : ¬ w < 0 := by omega
  have b2 : ¬ w > 11 := by omega
  have b3 : ¬ n < -2 := by omega
  have b4 : ¬ n > 1002 := by omega
  simp only [b1, b2, b3, b4, decide_false, Bool.not_true, Bool.not_false, cond_true, cond_false]
  clear hb b3 b4
  rcases (by omega : w = 0 ∨ w = 1 ∨ w = 2 ∨ w = 3 ∨ w = 4 ∨ w = 5 ∨ w = 6 ∨ w = 7 ∨ w = 8 ∨ w = 9 ∨ w = 10 ∨ w = 11) with rfl | rfl | rfl | rfl | rfl | rfl | rfl | rfl | rfl | rfl | rfl | rfl
  · exact lim ⟨n, 1, 1, 1, 1, 1, 1, 1, 1, 1, 1, 1⟩ 64 (by simp [rightCfg, withinF])
  · exact lim ⟨1, n, 1, 1, 1, 1, 1, 1, 1, 1, 1, 1⟩ 64 (by simp [rightCfg, withinF])
  · exact lim ⟨1, 1, n, 1, 1, 1, 1, 1, 1, 1, 1, 1⟩ 64 (by simp [rightCfg, withinF])
  · exact lim ⟨1, 1, 1, n, 1, 1, 1, 1, 1, 1, 1, 1⟩ 64 (by simp [rightCfg, withinF])
  · exact lim ⟨1, 1, 1, 1, n, 1, 1, 1, 1, 1, 1, 1⟩ 64 (by simp [rightCfg, withinF])
  · exact lim ⟨1, 1, 1, 1, 1, n, 1, 1, 1, 1, 1, 1⟩ 64 (by simp [rightCfg, withinF])
  · exact lim ⟨1, 1, 1, 1, 1, 1, 1, n, 1, 1, 1, 1⟩ 64 (by simp [rightCfg, withinF])
  · exact lim ⟨1, 1, 1, 1, 1, 1, 1, 1, n, 1, 1, 1⟩ 64 (by simp [rightCfg, withinF])
  · exact lim ⟨1, 1, 1, 1, 1, 1, n, 1, 1, 1, 1, 1⟩ 16 (by simp [rightCfg, withinF])
  · exact lim ⟨1, 1, 1, 1, 1, 1, 1, 1, 1, n, 1, 1⟩ 1000 (by simp [rightCfg, withinF])
  · exact lim ⟨1, 1, 1, 1, 1, 1, 1, 1, 1, 1, n, 1⟩ 50 (by simp [rightCfg, withinF])
  · exact lim ⟨1, 1, 1, 1, 1, 1, 1, 1, 1, 1, 1, n⟩ 50 (by simp [rightCfg, withinF])
end Go.Proofs.Ythmlnmkbeohojaa
namespace Go.Proofs.Ythmlnmkbeohojaa.stateLimits
open Go.Ra Go.ChangeShapes Go.WideShapes Go.ChangeAt Go.RowKit
open Go.ChangeMaps (open_string shut_string)
theorem own : ownKnob Try.prog.godebug = none := by kernel_rfl
def Ts : List Ty := [.int .i64, .int .i64]
theorem law (xs : List AV) (h : Ty.hasL Ts xs) : Pure Try.prog 5 xs (.sc (.bool true)) := by
  simp only [Ts, Ty.hasL] at h
  obtain ⟨a, _, rfl, ha, b, _, rfl, hb, rfl⟩ := h
  obtain ⟨w, rfl, _⟩ := (by simpa only [Ty.has] using ha : ∃ n, a = .sc (.int .i64 n) ∧ _)
  obtain ⟨n, rfl, _⟩ := (by simpa only [Ty.has] using hb : ∃ n, b = .sc (.int .i64 n) ∧ _)
  exact lim_pure w n
set_option maxRecDepth 100000 in
theorem lifted (os : Os) (started : os.Started) (H : Type) (enc : TypeId × Value → H) :
    ReturnsInHanded {} Try.checked os 5 .any (Rows.stateLimitsSpec.pre6 enc Try.prog Try.f5 Rows.stateLimitsRow.domain false) (Rows.stateLimitsSpec.post enc Try.prog Try.f5 false true false false) := by
  refine returnsInHanded_of_change_sized (C := Try.checked) own started (by kernel_rfl) Try.func5
    (ChangeSpec.witness6 (enc := enc) (C := Try.checked) false ⟨#[], #[.int .i64 0, .int .i64 0], []⟩ 8 (by kernel_rfl) (by kernel_rfl) (by kernel_rfl) (by kernel_rfl)) ?_
  intro W base args ds gs before hval hW hcnd hsz _
  refine law_post (s := Rows.stateLimitsSpec) (n := 60) (Ts := Ts) (ts := [3, 3]) (tb := 4) (by kernel_rfl) rfl rfl Try.underlying4 rfl (by kernel_rfl) (by kernel_rfl) (fun ds hds => ?_) law W base args ds gs before hval hW hsz
  match ds, hds with
  | [d1, d2], _ => exact ⟨rfl, rfl, rfl⟩
theorem over : Rows.stateLimitsRow.holds Try.pinned (OpenSpec.ofChange Rows.stateLimitsSpec) :=
  OpenClaim.holds_of_wide 5 Try.f5 rfl rfl rfl rfl rfl rfl rfl ⟨rfl, rfl, rfl, rfl, rfl⟩ rfl rfl rfl rfl rfl (by kernel_rfl) Try.func5 (by kernel_rfl)
    (of_decide_eq_true (by kernel_rfl)) (by unfold Func.isWrapper; first | (rw [if_pos (by decide +kernel)]; kernel_rfl) | (rw [if_neg (by decide +kernel)]; exact ⟨rfl, rfl⟩))
    (fun os started H enc _ => lifted os started H enc)
theorem proved : Rows.StateLimitsSaid := over
end Go.Proofs.Ythmlnmkbeohojaa.stateLimits
namespace Go.Proofs.Ythmlnmkbeohojaa
/-- The row, under a short name, for the claim. -/
theorem stateLimits_holds : Rows.StateLimitsSaid := stateLimits.proved
end Go.Proofs.Ythmlnmkbeohojaa
#print axioms Go.Proofs.Ythmlnmkbeohojaa.stateLimits_holds

