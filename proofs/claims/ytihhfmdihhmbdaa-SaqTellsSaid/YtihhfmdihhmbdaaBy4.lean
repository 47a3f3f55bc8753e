/- Stretches that overlap. -/
import Derived.Test.YtihhfmdihhmbdaaBy3
namespace Go.Proofs.Ytihhfmdihhmbdaa
open Go.Ra
set_option linter.unusedVariables false
set_option linter.unusedSimpArgs false
def TB4 : Tab := mkT qq (cl_bytes ++ cl_ref1 ++ cl_slices) [(41, befSp)] gl_slices
def i64B (a : Int) : Bool := decide (-9223372036854775808 ≤ a) && decide (a ≤ 9223372036854775807)
/-- Is some byte in both? -/
def ovlB (a n b m : Int) : Bool := decide (n ≥ 1 ∧ m ≥ 1 ∧ ((a ≤ b ∧ b - a < n) ∨ (b ≤ a ∧ a - b < m)))
def ovlSp : List XV → Option (List Bool × XV)
  | [.int .i64 a, .int .i64 n, .int .i64 b, .int .i64 m] => some ([i64B a, i64B n, i64B b, i64B m], .bool (ovlB a n b m))
  | _ => none
theorem TB4ok : TabOk Try.prog TB4 := mkT_ok ((clok_bytes.app clok_ref1).app clok_slices) ⟨sp_bef, trivial⟩ glok_slices
theorem i64B_iff {a : Int} : i64B a = true ↔ -9223372036854775808 ≤ a ∧ a ≤ 9223372036854775807 := by simp [i64B]
theorem r_ovl1 (a n b m : Int) (K : XV → Prop) : (quietGo TB4 80 (callI TB4 80 20) 33 [.int .i64 a, .int .i64 n, .int .i64 b, .int .i64 m] K) =
    (bif bif decide (n ≥ (1 : Int)) then decide (n ≥ (1 : Int)) else true then
  bif bif bif decide (n ≥ (1 : Int)) then decide (m ≥ (1 : Int)) else false then true else !bif decide (n ≥ (1 : Int)) then decide (m ≥ (1 : Int)) else false then
    bif
        bif bif befB a n b then true else bif bif decide (n ≥ (1 : Int)) then decide (m ≥ (1 : Int)) else false then !befB a n b else false then true
        else !bif decide (n ≥ (1 : Int)) then decide (m ≥ (1 : Int)) else false then
      bif bif bif decide (n ≥ (1 : Int)) then decide (m ≥ (1 : Int)) else false then bif decide (n ≥ (1 : Int)) then decide (m ≥ (1 : Int)) else false else true then
        K (XV.bool (bif bif decide (n ≥ (1 : Int)) then decide (m ≥ (1 : Int)) else false then bif befB a n b then true else befB b m a else false))
      else False
    else False
  else False
 else False) := by kernel_rfl
theorem r_ovl2 (a n b m : Int) (K : XV → Prop) : (quietGo TB4 80 (callI TB4 80 20) 34 [.int .i64 a, .int .i64 n, .int .i64 b, .int .i64 m] K) =
    (bif bif decide (n < (1 : Int)) then true else !decide (n < (1 : Int)) then
  bif bif decide (n < (1 : Int)) then true else decide (m < (1 : Int)) then K (XV.bool false)
  else
    bif decide (a ≤ b) then
      bif bif decide (b < IntKind.wrap IntKind.i64 (a + n)) then true else !decide (b < IntKind.wrap IntKind.i64 (a + n)) then
        K (XV.bool (bif decide (b < IntKind.wrap IntKind.i64 (a + n)) then true else decide (IntKind.wrap IntKind.i64 (a + n) < a)))
      else False
    else
      bif bif decide (a < IntKind.wrap IntKind.i64 (b + m)) then true else !decide (a < IntKind.wrap IntKind.i64 (b + m)) then
        K (XV.bool (bif decide (a < IntKind.wrap IntKind.i64 (b + m)) then true else decide (IntKind.wrap IntKind.i64 (b + m) < b)))
      else False
 else False) := by kernel_rfl
theorem bef_is {a n b : Int} (ha : -9223372036854775808 ≤ a ∧ a ≤ 9223372036854775807) (hb : -9223372036854775808 ≤ b ∧ b ≤ 9223372036854775807) (hn : 1 ≤ n ∧ n ≤ 9223372036854775807) : (bif decide (a ≤ b) then decide (IntKind.u64.wrap (IntKind.u64.wrap b - IntKind.u64.wrap a) < IntKind.u64.wrap n) else false) = decide (a ≤ b ∧ b - a < n) := by
  rw [Bool.eq_iff_iff]
  simp only [Bool.cond_false_right, Bool.and_eq_true, decide_eq_true_eq]
  simp only [wU64]
  have h1 : a ≤ b → (b % 18446744073709551616 - a % 18446744073709551616) % 18446744073709551616 = b - a := fun h => by omega
  have h2 : n % 18446744073709551616 = n := by omega
  constructor
  · rintro ⟨g1, g2⟩
    rw [h1 g1, h2] at g2
    exact ⟨g1, g2⟩
  · rintro ⟨g1, g2⟩
    rw [h1 g1, h2]
    exact ⟨g1, g2⟩
theorem sp_ovl : SpOk Try.prog (33, ovlSp) := by
  intro args nd v ha hn
  simp only [ovlSp] at ha
  split at ha <;> simp only [Option.some.injEq, Prod.mk.injEq, reduceCtorEq] at ha
  obtain ⟨rfl, rfl⟩ := ha
  rename_i a n b m
  simp only [allT_cons, i64B_iff] at hn
  obtain ⟨h1, h2, h3, h4, h5⟩ := hn
  refine pureX (u := 80) (k := 20) mix TB4ok ?_
  rw [r_ovl1]
  have e : ovlB a n b m = (bif (bif decide (n ≥ 1) then decide (m ≥ 1) else false) then (bif befB a n b then true else befB b m a) else false) := by
    unfold befB
    by_cases hn : n ≥ 1
    · by_cases hm : m ≥ 1
      · rw [bef_is h1 h3 ⟨hn, h2.2⟩, bef_is h3 h1 ⟨hm, h4.2⟩]
        simp [ovlB, hn, hm]
      · simp [ovlB, hn, hm]
    · simp [ovlB, hn]
  rw [e]
  generalize decide (n ≥ 1) = p
  generalize decide (m ≥ 1) = q
  generalize befB a n b = r
  generalize befB b m a = s
  cases p <;> cases q <;> cases r <;> cases s <;> rfl
theorem sp_rovl : SpOk Try.prog (34, ovlSp) := by
  intro args nd v ha hn
  simp only [ovlSp] at ha
  split at ha <;> simp only [Option.some.injEq, Prod.mk.injEq, reduceCtorEq] at ha
  obtain ⟨rfl, rfl⟩ := ha
  rename_i a n b m
  simp only [allT_cons, i64B_iff] at hn
  obtain ⟨h1, h2, h3, h4, h5⟩ := hn
  refine pureX (u := 80) (k := 20) mix TB4ok ?_
  rw [r_ovl2]
  simp only [pk_or, cond_true]
  refine cnd2 (fun h => conB ?_) (fun h => cnd2 (fun g => conB ?_) (fun g => conB ?_))
  all_goals
    rw [Bool.eq_iff_iff]
    simp only [Bool.cond_true_left, Bool.cond_false_right, Bool.cond_true_right, Bool.cond_false_left, Bool.or_eq_false_iff, Bool.or_eq_true, Bool.and_eq_true, Bool.and_eq_false_iff, decide_eq_false_iff_not, decide_eq_true_eq, Bool.not_eq_true', Bool.not_eq_false', Bool.not_not, Int.not_lt, Int.not_le, gt_iff_lt, ge_iff_le, ovlB, wI64, Bool.false_eq_true, false_iff] at *
    first
      | omega
      | (constructor <;> intro hh <;> first | omega | (rcases hh with hh | hh <;> omega) | (obtain ⟨hh1, hh2, hh3 | hh3⟩ := hh <;> omega))
end Go.Proofs.Ytihhfmdihhmbdaa
