/- Shifts, bit by bit. -/
import Derived.Test.YtghmogkapedmfaaAl0
namespace Go.Ra
set_option linter.unusedVariables false
set_option linter.unusedSimpArgs false
/-- A bit of a word. -/
theorem bit_of {X : Nat} (i : Nat) (hX : X < 4294967296) (hi : i < 32) : decide (bitsI .and .u32 (Int.fdiv (X : Int) (2 ^ Nat.min i 32)) 1 = 1) = X.testBit i := by
  have e0 : Nat.min i 32 = i := Nat.min_eq_left (by omega)
  have e1 : Int.fdiv (X : Int) (2 ^ i) = ((X / 2 ^ i : Nat) : Int) := by
    rw [Int.fdiv_eq_ediv_of_nonneg _ (Int.pow_nonneg (by omega))]
    norm_cast
  have h2 : X / 2 ^ i ≤ X := Nat.div_le_self _ _
  have h := bAnd (A := X / 2 ^ i) (B := 1) (by omega) (by omega)
  rw [e0, e1, show (1 : Int) = ((1 : Nat) : Int) from rfl, h, Nat.and_one_is_mod, Nat.testBit_eq_decide_div_mod_eq]
  simp only [decide_eq_decide]
  omega
theorem sll_bit {A : Nat} (k i : Nat) (hi : i < 32) : (A * 2 ^ k % 4294967296).testBit i = (decide (k ≤ i) && A.testBit (i - k)) := by
  rw [show 4294967296 = 2 ^ 32 from rfl, Nat.testBit_mod_two_pow, Nat.mul_comm, Nat.testBit_two_pow_mul]
  simp [hi]
theorem srl_bit {A : Nat} (k i : Nat) : (A / 2 ^ k).testBit i = A.testBit (i + k) := by
  rw [Nat.testBit_div_two_pow]
theorem top_bit {A : Nat} (h : A < 4294967296) (j : Nat) (hj : 32 ≤ j) : A.testBit j = false := Nat.testBit_lt_two_pow (Nat.lt_of_lt_of_le h (Nat.pow_le_pow_right (n := 2) (by omega) hj))
theorem sra_bit {A : Nat} (hA : A < 4294967296) (k i : Nat) (hk : k < 32) (hi : i < 32) : (((IntKind.i32.wrap (A : Int)) / 2 ^ k) % 4294967296).toNat.testBit i = (bif decide (i + k < 32) then A.testBit (i + k) else A.testBit 31) := by
  have e1 : IntKind.i32.wrap (A : Int) = (BitVec.ofNat 32 A).toInt := by
    rw [wI32, BitVec.toInt_eq_toNat_cond]
    simp only [BitVec.toNat_ofNat]
    split <;> omega
  have e2 : ((((BitVec.ofNat 32 A).toInt) / 2 ^ k) % 4294967296).toNat = ((BitVec.ofNat 32 A).sshiftRight k).toNat := by
    unfold BitVec.sshiftRight
    rw [BitVec.toNat_ofInt, Int.shiftRight_eq_div_pow]
    rfl
  rw [e1, e2, ← BitVec.getLsbD, BitVec.getLsbD_sshiftRight]
  have g : ∀ j, j < 32 → (BitVec.ofNat 32 A).getLsbD j = A.testBit j := fun j hj => by
    rw [BitVec.getLsbD_ofNat]; simp [hj]
  by_cases h : i + k < 32
  · rw [show k + i = i + k by omega, g _ h]
    simp [hi, h]
  · rw [BitVec.msb_eq_getLsbD_last, g 31 (by omega)]
    simp [show ¬ 32 ≤ i by omega, h, show ¬ k + i < 32 by omega]
end Go.Ra
