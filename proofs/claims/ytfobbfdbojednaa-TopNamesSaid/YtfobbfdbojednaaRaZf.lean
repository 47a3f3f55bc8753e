/- The first place of a row that has something; the last. -/
import Derived.Test.YtfobbfdbojednaaRaZe
namespace Go.Ra
set_option linter.unusedVariables false
set_option linter.unusedSimpArgs false
/-- The first place below n where p is true; n if there is none. -/
def fstI (p : Nat → Bool) : Nat → Nat
  | 0 => 0
  | n + 1 => bif decide (fstI p n < n) then fstI p n else bif p n then n else n + 1
theorem fstI_spec (p : Nat → Bool) : ∀ n, fstI p n ≤ n ∧ (∀ j, j < fstI p n → p j = false) ∧ (fstI p n < n → p (fstI p n) = true)
  | 0 => ⟨Nat.le_refl _, fun j hj => absurd hj (Nat.not_lt_zero _), fun h => absurd h (Nat.not_lt_zero _)⟩
  | n + 1 => by
    obtain ⟨h1, h2, h3⟩ := fstI_spec p n
    simp only [fstI]
    by_cases h : fstI p n < n
    · simp only [h, decide_true, cond_true]
      exact ⟨by omega, h2, fun _ => h3 h⟩
    · have he : fstI p n = n := by omega
      simp only [h, decide_false, cond_false]
      rw [he] at h2
      cases hp : p n
      · simp only [cond_false]
        refine ⟨Nat.le_refl _, fun j hj => ?_, fun h => absurd h (Nat.lt_irrefl _)⟩
        by_cases hjn : j = n
        · subst hjn; exact hp
        · exact h2 j (by omega)
      · simp only [cond_true]
        exact ⟨by omega, h2, fun _ => hp⟩
theorem fstI_is {p : Nat → Bool} {n i : Nat} (hi : i < n) (hp : p i = true) (hn : ∀ j, j < i → p j = false) : fstI p n = i := by
  obtain ⟨h1, h2, h3⟩ := fstI_spec p n
  rcases Nat.lt_trichotomy (fstI p n) i with h | h | h
  · have := hn _ h
    rw [h3 (by omega)] at this; cases this
  · exact h
  · have := h2 i h
    rw [hp] at this; cases this
theorem fstI_none {p : Nat → Bool} {n : Nat} (hn : ∀ j, j < n → p j = false) : fstI p n = n := by
  obtain ⟨h1, h2, h3⟩ := fstI_spec p n
  rcases Nat.lt_or_ge (fstI p n) n with h | h
  · have := hn _ h
    rw [h3 h] at this; cases this
  · omega
theorem fstI_congr {p q : Nat → Bool} {n : Nat} (h : ∀ j, j < n → p j = q j) : fstI p n = fstI q n := by
  obtain ⟨h1, h2, h3⟩ := fstI_spec p n
  by_cases hlt : fstI p n < n
  · exact (fstI_is hlt (by rw [← h _ hlt]; exact h3 hlt) fun j hj => by rw [← h j (by omega)]; exact h2 j hj).symm
  · have he : fstI p n = n := by omega
    rw [he]
    exact (fstI_none fun j hj => by rw [← h j hj]; exact h2 j (by omega)).symm
/-- The place behind the last one below n where p is true; 0 if there is none. -/
def lstI (p : Nat → Bool) : Nat → Nat
  | 0 => 0
  | n + 1 => bif p n then n + 1 else lstI p n
theorem lstI_spec (p : Nat → Bool) : ∀ n, lstI p n ≤ n ∧ (∀ j, lstI p n ≤ j → j < n → p j = false) ∧ (0 < lstI p n → p (lstI p n - 1) = true)
  | 0 => ⟨Nat.le_refl _, fun j _ hj => absurd hj (Nat.not_lt_zero _), fun h => absurd h (Nat.lt_irrefl _)⟩
  | n + 1 => by
    obtain ⟨h1, h2, h3⟩ := lstI_spec p n
    simp only [lstI]
    cases hp : p n
    · simp only [cond_false]
      refine ⟨by omega, fun j hj hj2 => ?_, h3⟩
      by_cases hjn : j = n
      · subst hjn; exact hp
      · exact h2 j hj (by omega)
    · simp only [cond_true, Nat.add_sub_cancel]
      exact ⟨Nat.le_refl _, fun j hj hj2 => by omega, fun _ => hp⟩
theorem allN_congr {p q : Nat → Bool} {n : Nat} (h : ∀ i, i < n → p i = q i) : allN p n = allN q n := by
  rw [Bool.eq_iff_iff, allN_iff, allN_iff]
  exact ⟨fun h1 i hi => by rw [← h i hi]; exact h1 i hi, fun h1 i hi => by rw [h i hi]; exact h1 i hi⟩
theorem conI {k : IntKind} {a b : Int} (h : a = b) : con (.int k a) = con (.int k b) := by rw [h]
theorem conB {a b : Bool} (h : a = b) : con (.bool a) = con (.bool b) := by rw [h]
theorem conR {x : Bool} {es n m : Nat} {f g : Nat → XV} (hn : n = m) (h : ∀ i, i < n → con (f i) = con (g i)) : con (.row x es n f) = con (.row x es m g) := by
  subst hn; exact con_row h
theorem conT2 {a b a' b' : XV} (h1 : con a = con a') (h2 : con b = con b') : con (.tup [a, b]) = con (.tup [a', b']) := by simp only [con, cons, h1, h2]
theorem conT3 {a b c a' b' c' : XV} (h1 : con a = con a') (h2 : con b = con b') (h3 : con c = con c') : con (.tup [a, b, c]) = con (.tup [a', b', c']) := by simp only [con, cons, h1, h2, h3]
theorem wI64 (n : Int) : IntKind.i64.wrap n = (n + 9223372036854775808) % 18446744073709551616 - 9223372036854775808 := by
  first | (rw [IntKind.wrap_i64]; done) | (rw [IntKind.wrap_i64]; omega)
theorem wI32 (n : Int) : IntKind.i32.wrap n = (n + 2147483648) % 4294967296 - 2147483648 := by
  first | (rw [IntKind.wrap_i32]; done) | (rw [IntKind.wrap_i32]; omega)
theorem wI16 (n : Int) : IntKind.i16.wrap n = (n + 32768) % 65536 - 32768 := by
  simp [IntKind.wrap, IntKind.signed, IntKind.bits]; split <;> omega
theorem wI8 (n : Int) : IntKind.i8.wrap n = (n + 128) % 256 - 128 := by
  simp [IntKind.wrap, IntKind.signed, IntKind.bits]; split <;> omega
theorem wU64 (n : Int) : IntKind.u64.wrap n = n % 18446744073709551616 := rfl
theorem wU32 (n : Int) : IntKind.u32.wrap n = n % 4294967296 := rfl
theorem wU8 (n : Int) : IntKind.u8.wrap n = n % 256 := rfl
theorem beq_ne {i k : Nat} (h : ¬ i = k) : Nat.beq i k = false := by
  rw [← Bool.not_eq_true]
  exact fun e => h (Nat.eq_of_beq_eq_true e)
theorem fdivE {a b : Int} (h : 0 ≤ b) : a.fdiv b = a / b := Int.fdiv_eq_ediv_of_nonneg a h
/-- Bytes. -/
def rngB (n : Nat) (f : Nat → XV) : Bool := allN (fun i => decide (0 ≤ asN (f i)) && decide (asN (f i) ≤ 255)) n
theorem rngB_iff {n : Nat} {f : Nat → XV} : rngB n f = true ↔ ∀ i, i < n → 0 ≤ asN (f i) ∧ asN (f i) ≤ 255 := by
  simp only [rngB, allN_iff, Bool.and_eq_true, decide_eq_true_eq]
theorem or_u32 {x b : Int} {k : Nat} (hx : 0 ≤ x) (hx2 : x < 2 ^ k) (hb : 0 ≤ b) (hb2 : b * 2 ^ k + x ≤ 4294967295) : bitsI .or .u32 x (b * 2 ^ k) = x + b * 2 ^ k := by
  obtain ⟨m, rfl⟩ := Int.eq_ofNat_of_zero_le hx
  obtain ⟨c, rfl⟩ := Int.eq_ofNat_of_zero_le hb
  have hp : ((2 : Int) ^ k) = ((2 ^ k : Nat) : Int) := (Int.natCast_pow 2 k).symm
  rw [hp] at hx2 hb2 ⊢
  have hm : m < 2 ^ k := by exact_mod_cast hx2
  have h2 : (c : Int) * ((2 ^ k : Nat) : Int) = ((c * 2 ^ k : Nat) : Int) := (Int.natCast_mul c (2 ^ k)).symm
  rw [h2] at hb2 ⊢
  have h1 : c * 2 ^ k + m ≤ 4294967295 := by
    generalize c * 2 ^ k = d at *
    omega
  clear hb2
  have h3 := Nat.two_pow_add_eq_or_of_lt hm c
  have h4 : m ||| c * 2 ^ k = m + c * 2 ^ k := by rw [Nat.or_comm, Nat.mul_comm, ← h3, Nat.add_comm]
  generalize c * 2 ^ k = d at *
  show IntKind.u32.wrap (((BitVec.ofInt 32 (m : Int)) ||| (BitVec.ofInt 32 (d : Int))).toNat : Int) = _
  have e1 : (BitVec.ofInt 32 (m : Int)).toNat = m := by rw [BitVec.toNat_ofInt]; omega
  have e2 : (BitVec.ofInt 32 (d : Int)).toNat = d := by rw [BitVec.toNat_ofInt]; omega
  rw [BitVec.toNat_or, e1, e2, h4, wU32]
  omega
end Go.Ra
