/- Banks: which bank an address has, and the numbers of a script. -/
import Derived.Test.YtbemlndjdbopeaaBk1
namespace Go.Proofs.Ytbemlndjdbopeaa
open Go.Ra
set_option linter.unusedVariables false
set_option linter.unusedSimpArgs false
/-- Which bank an address has. -/
def bnkI (a n : Int) : Int := if a < 0 ∨ n < 1 then 0 else a / 4 % n
def bnkSp : List XV → Option (List Bool × XV)
  | [.int .i64 a, .int .i64 n] => some ([decide (a ≤ 9223372036854775807)], .int .i64 (bnkI a n))
  | _ => none
/-- A number of a script. -/
def nthI (n : Nat) (f : Nat → XV) (i most : Int) : Int := if n = 0 ∨ i < 0 ∨ most < 1 then 0 else Int.tmod (bitsI .and .i64 (asN (f (i.toNat % n))) 1073741823) most
def nthG (n : Nat) (f : Nat → XV) : List XV → Option (List Bool × XV)
  | [.int .i64 i, .int .i64 most] => some ([], .int .i64 (nthI n f i most))
  | _ => none
def nthSp := rowKSp 1 (.i .i64) 1099511627776 nthG
theorem r_bnk1 (a n : Int) (K : XV → Prop) : (quietGo TK 80 (callI TK 80 20) 22 [.int .i64 a, .int .i64 n] K) =
    (bif bif decide (a < (0 : Int)) then true else !decide (a < (0 : Int)) then
  bif bif decide (a < (0 : Int)) then true else decide (n < (1 : Int)) then K (XV.int IntKind.i64 (0 : Int))
  else bif !decide (n = (0 : Int)) then K (XV.int IntKind.i64 (Int.tmod (IntKind.wrap IntKind.i64 (Int.tdiv a (4 : Int))) n)) else False
else False) := by kernel_rfl
theorem r_nth1 (x : Bool) (n : Nat) (f : Nat → XV) (i most : Int) (K : XV → Prop) : (quietGo TK 80 (callI TK 80 20) 40 [.row x 1 n (fun i => mkK (.i .i64) (f i)), .int .i64 i, .int .i64 most] K) =
    (bif bif decide ((↑n : Int) = (0 : Int)) then true else !decide ((↑n : Int) = (0 : Int)) then
  bif bif bif decide ((↑n : Int) = (0 : Int)) then true else decide (i < (0 : Int)) then true else !bif decide ((↑n : Int) = (0 : Int)) then true else decide (i < (0 : Int)) then
    bif bif bif decide ((↑n : Int) = (0 : Int)) then true else decide (i < (0 : Int)) then true else decide (most < (1 : Int)) then K (XV.int IntKind.i64 (0 : Int))
    else
      bif !decide ((↑n : Int) = (0 : Int)) then
        bif decide ((0 : Int) ≤ Int.tmod i (↑n : Int)) then
          bif decide (Int.tmod i (↑n : Int) < (↑n : Int)) then
            bif !decide (most = (0 : Int)) then K (XV.int IntKind.i64 (Int.tmod (bitsI BinOp.and IntKind.i64 (asN (f (Int.toNat (Int.tmod i (↑n : Int))))) (1073741823 : Int)) most)) else False
          else False
        else False
      else False
  else False
else False) := by kernel_rfl
theorem bnk1 {a n : Int} (h : a ≤ 9223372036854775807) : Pure Try.prog 22 (cons [.int .i64 a, .int .i64 n]) (con (.int .i64 (bnkI a n))) := by
  refine pureX (u := 80) (k := 20) mix TKok ?_
  rw [r_bnk1]
  simp only [pk_or, pk_and, cond_true]
  unfold bnkI
  by_cases g : a < 0 ∨ n < 1
  · rw [if_pos g]
    rcases g with g | g <;> simp [g]
  · have g1 : ¬ a < 0 := fun h => g (.inl h)
    have g2 : ¬ n < 1 := fun h => g (.inr h)
    have g3 : ¬ n = 0 := by omega
    rw [if_neg g]
    simp only [g1, g2, g3, decide_true, decide_false, cond_true, cond_false, allN_true, Nat.le_refl, Int.toNat_natCast, Nat.beq_refl, pk_and, pk_or, Bool.not_true, Bool.not_false, not_true_eq_false, not_false_eq_true, Bool.and_true, Bool.true_and, Bool.and_self, ge_iff_le, Int.le_refl, if_true, if_false, reduceCtorEq, eq_self, BEq.rfl]
    refine conI ?_
    rw [Int.tdiv_eq_ediv_of_nonneg (by omega), wrap_i64 (x := a / 4) (by omega) (by omega), Int.tmod_eq_emod_of_nonneg (by omega)]
theorem sp_bnk1 : SpOk Try.prog (22, bnkSp) := fun args nd v h hn => by
  simp only [bnkSp] at h
  split at h
  · simp only [Option.some.injEq, Prod.mk.injEq] at h
    obtain ⟨rfl, rfl⟩ := h
    simp only [allT_cons, decide_eq_true_eq] at hn
    exact bnk1 hn.1
  · cases h
theorem sp_nth1 : SpOk Try.prog (40, nthSp) := rowKSp_ok fun x n f rest nd v hn hg hnd => by
  unfold nthG at hg
  split at hg <;> simp only [Option.some.injEq, Prod.mk.injEq, reduceCtorEq] at hg
  rename_i i most
  obtain ⟨_, rfl⟩ := hg
  refine pureX (u := 80) (k := 20) mix TKok ?_
  rw [r_nth1]
  simp only [pk_or, pk_and, cond_true]
  unfold nthI
  by_cases g0 : n = 0
  · subst g0; simp
  by_cases g1 : i < 0
  · have g0' : ¬ (n : Int) = 0 := by omega
    simp [g0, g1]
  by_cases g2 : most < 1
  · simp [g0, g1, g2]
  have g0' : ¬ (n : Int) = 0 := by omega
  have g3 : ¬ most = 0 := by omega
  obtain ⟨j, rfl⟩ := Int.eq_ofNat_of_zero_le (show 0 ≤ i by omega)
  have e1 : Int.tmod (j : Int) (n : Int) = ((j % n : Nat) : Int) := rfl
  have e2 : ((j % n : Nat) : Int) < (n : Int) := by
    have := Nat.mod_lt j (show 0 < n by omega)
    omega
  have e3 : (0 : Int) ≤ ((j % n : Nat) : Int) := Int.natCast_nonneg _
  rw [if_neg (by omega)]
  simp only [g0', g1, g2, g3, e1, e2, e3, decide_true, decide_false, cond_true, cond_false, allN_true, Nat.le_refl, Int.toNat_natCast, Nat.beq_refl, pk_and, pk_or, Bool.not_true, Bool.not_false, not_true_eq_false, not_false_eq_true, Bool.and_true, Bool.true_and, Bool.and_self, ge_iff_le, Int.le_refl, if_true, if_false, reduceCtorEq, eq_self, BEq.rfl]
def TKb : Tab := mkT qq (cl_law18 ++ cl_law23 ++ cl_banks ++ cl_bytes ++ cl_commit ++ cl_ref1 ++ cl_ref15 ++ cl_ref21 ++ cl_saq ++ cl_slices ++ cl_slots ++ cl_state) [(21, alvSp), (12, alvSp), (22, bnkSp), (40, nthSp)] (gl_slices ++ gl_ref15)
theorem TKbok : TabOk Try.prog TKb := mkT_ok (((((((((((clok_law18.app clok_law23).app clok_banks).app clok_bytes).app clok_commit).app clok_ref1).app clok_ref15).app clok_ref21).app clok_saq).app clok_slices).app clok_slots).app clok_state) ⟨sp_alv18, sp_alv23, sp_bnk1, sp_nth1, trivial⟩ (glok_slices.app glok_ref15)
end Go.Proofs.Ytbemlndjdbopeaa
