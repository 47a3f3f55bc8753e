/- An operation with a number is that of a register that has it, and two make any word. -/
import Derived.Test.YtghmogkapedmfaaRows
import Derived.Test.YtghmogkapedmfaaAl3
import Derived.WalkKit
import Derived.ProofKit
import Derived.OpenShut
import Derived.ShutString
import Derived.ChangeOld
import Derived.Below
import Derived.SizedLaws
namespace Go.Proofs.Ytghmogkapedmfaa
open Go.Ra
set_option linter.unusedVariables false
set_option linter.unusedSimpArgs false
theorem r_num (a w m : Int) (K : XV → Prop) : (quietGo TA3 80 (callI TA3 80 20) 8 [.int .u32 a, .int .u32 w, .int .i64 m] K) =
    (bif bif decide (m < (-8192 : Int)) then true else !decide (m < (-8192 : Int)) then
  bif bif decide (m < (-8192 : Int)) then true else decide (m > (8191 : Int)) then K (XV.bool true)
  else
    bif decide ((0 : Int) ≤ a) then
      bif decide (a ≤ (4294967295 : Int)) then
        bif !!dkB (17 : Int) (1 : Int) (2 : Int) (0 : Int) m (7 : Int) then
          bif decide ((0 : Int) ≤ a) then
            bif decide (a ≤ (4294967295 : Int)) then
              bif decide ((0 : Int) ≤ IntKind.wrap IntKind.u32 m) then
                bif decide (IntKind.wrap IntKind.u32 m ≤ (4294967295 : Int)) then
                  bif
                      bif !dkB (17 : Int) (1 : Int) (2 : Int) (0 : Int) m (7 : Int) then true
                      else decide ¬doI (17 : Int) (1 : Int) (2 : Int) (0 : Int) m a (7 : Int) = doI (1 : Int) (1 : Int) (2 : Int) (3 : Int) (0 : Int) a (IntKind.wrap IntKind.u32 m) then
                    K (XV.bool false)
                  else
                    bif decide ((0 : Int) ≤ a) then
                      bif decide (a ≤ (4294967295 : Int)) then
                        bif !!dkB (18 : Int) (1 : Int) (2 : Int) (0 : Int) m (7 : Int) then
                          bif decide ((0 : Int) ≤ a) then
                            bif decide (a ≤ (4294967295 : Int)) then
                              bif decide ((0 : Int) ≤ IntKind.wrap IntKind.u32 m) then
                                bif decide (IntKind.wrap IntKind.u32 m ≤ (4294967295 : Int)) then
                                  bif
                                      bif !dkB (18 : Int) (1 : Int) (2 : Int) (0 : Int) m (7 : Int) then true
                                      else
                                        decide ¬doI (18 : Int) (1 : Int) (2 : Int) (0 : Int) m a (7 : Int) = doI (3 : Int) (1 : Int) (2 : Int) (3 : Int) (0 : Int) a (IntKind.wrap IntKind.u32 m) then
                                    K (XV.bool false)
                                  else
                                    bif decide ((0 : Int) ≤ a) then
                                      bif decide (a ≤ (4294967295 : Int)) then
                                        bif !!dkB (19 : Int) (1 : Int) (2 : Int) (0 : Int) m (7 : Int) then
                                          bif decide ((0 : Int) ≤ a) then
                                            bif decide (a ≤ (4294967295 : Int)) then
                                              bif decide ((0 : Int) ≤ IntKind.wrap IntKind.u32 m) then
                                                bif decide (IntKind.wrap IntKind.u32 m ≤ (4294967295 : Int)) then
                                                  bif
                                                      bif !dkB (19 : Int) (1 : Int) (2 : Int) (0 : Int) m (7 : Int) then true
                                                      else
                                                        decide
                                                          ¬doI (19 : Int) (1 : Int) (2 : Int) (0 : Int) m a (7 : Int) =
                                                              doI (4 : Int) (1 : Int) (2 : Int) (3 : Int) (0 : Int) a (IntKind.wrap IntKind.u32 m) then
                                                    K (XV.bool false)
                                                  else
                                                    bif decide ((0 : Int) ≤ a) then
                                                      bif decide (a ≤ (4294967295 : Int)) then
                                                        bif !!dkB (20 : Int) (1 : Int) (2 : Int) (0 : Int) m (7 : Int) then
                                                          bif decide ((0 : Int) ≤ a) then
                                                            bif decide (a ≤ (4294967295 : Int)) then
                                                              bif decide ((0 : Int) ≤ IntKind.wrap IntKind.u32 m) then
                                                                bif decide (IntKind.wrap IntKind.u32 m ≤ (4294967295 : Int)) then
                                                                  bif
                                                                      bif !dkB (20 : Int) (1 : Int) (2 : Int) (0 : Int) m (7 : Int) then true
                                                                      else
                                                                        decide
                                                                          ¬doI (20 : Int) (1 : Int) (2 : Int) (0 : Int) m a (7 : Int) =
                                                                              doI (5 : Int) (1 : Int) (2 : Int) (3 : Int) (0 : Int) a (IntKind.wrap IntKind.u32 m) then
                                                                    K (XV.bool false)
                                                                  else
                                                                    bif decide ((0 : Int) ≤ a) then
                                                                      bif decide (a ≤ (4294967295 : Int)) then
                                                                        bif !!dkB (21 : Int) (1 : Int) (2 : Int) (0 : Int) m (7 : Int) then
                                                                          bif decide ((0 : Int) ≤ a) then
                                                                            bif decide (a ≤ (4294967295 : Int)) then
                                                                              bif decide ((0 : Int) ≤ IntKind.wrap IntKind.u32 m) then
                                                                                bif decide (IntKind.wrap IntKind.u32 m ≤ (4294967295 : Int)) then
                                                                                  bif
                                                                                      bif !dkB (21 : Int) (1 : Int) (2 : Int) (0 : Int) m (7 : Int) then true
                                                                                      else
                                                                                        decide
                                                                                          ¬doI (21 : Int) (1 : Int) (2 : Int) (0 : Int) m a (7 : Int) =
                                                                                              doI (9 : Int) (1 : Int) (2 : Int) (3 : Int) (0 : Int) a (IntKind.wrap IntKind.u32 m) then
                                                                                    K (XV.bool false)
                                                                                  else
                                                                                    bif decide ((0 : Int) ≤ w) then
                                                                                      bif decide (w ≤ (4294967295 : Int)) then
                                                                                        bif
                                                                                            decide
                                                                                              ((0 : Int) ≤
                                                                                                doI (19 : Int) (1 : Int) (2 : Int) (0 : Int)
                                                                                                  (IntKind.wrap IntKind.i64 (bitsI BinOp.and IntKind.u32 (Int.fdiv w (512 : Int)) (511 : Int)))
                                                                                                  (0 : Int) (0 : Int)) then
                                                                                          bif
                                                                                              decide
                                                                                                (doI (19 : Int) (1 : Int) (2 : Int) (0 : Int)
                                                                                                    (IntKind.wrap IntKind.i64 (bitsI BinOp.and IntKind.u32 (Int.fdiv w (512 : Int)) (511 : Int)))
                                                                                                    (0 : Int) (0 : Int) ≤
                                                                                                  (4294967295 : Int)) then
                                                                                            bif
                                                                                                decide
                                                                                                  ((0 : Int) ≤
                                                                                                    doI (22 : Int) (1 : Int) (2 : Int) (0 : Int) (9 : Int)
                                                                                                      (doI (19 : Int) (1 : Int) (2 : Int) (0 : Int)
                                                                                                        (IntKind.wrap IntKind.i64 (bitsI BinOp.and IntKind.u32 (Int.fdiv w (512 : Int)) (511 : Int)))
                                                                                                        (0 : Int) (0 : Int))
                                                                                                      (0 : Int)) then
                                                                                              bif
                                                                                                  decide
                                                                                                    (doI (22 : Int) (1 : Int) (2 : Int) (0 : Int) (9 : Int)
                                                                                                        (doI (19 : Int) (1 : Int) (2 : Int) (0 : Int)
                                                                                                          (IntKind.wrap IntKind.i64 (bitsI BinOp.and IntKind.u32 (Int.fdiv w (512 : Int)) (511 : Int)))
                                                                                                          (0 : Int) (0 : Int))
                                                                                                        (0 : Int) ≤
                                                                                                      (4294967295 : Int)) then
                                                                                                bif
                                                                                                    decide
                                                                                                      ((0 : Int) ≤
                                                                                                        doI (25 : Int) (1 : Int) (0 : Int) (0 : Int) (Int.fdiv (i32 w) (262144 : Int)) (0 : Int)
                                                                                                          (0 : Int)) then
                                                                                                  bif
                                                                                                      decide
                                                                                                        (doI (25 : Int) (1 : Int) (0 : Int) (0 : Int) (Int.fdiv (i32 w) (262144 : Int)) (0 : Int)
                                                                                                            (0 : Int) ≤
                                                                                                          (4294967295 : Int)) then
                                                                                                    bif
                                                                                                        decide
                                                                                                          ((0 : Int) ≤
                                                                                                            doI (19 : Int) (1 : Int) (2 : Int) (0 : Int)
                                                                                                              (IntKind.wrap IntKind.i64 (bitsI BinOp.and IntKind.u32 w (511 : Int)))
                                                                                                              (doI (22 : Int) (1 : Int) (2 : Int) (0 : Int) (9 : Int)
                                                                                                                (doI (19 : Int) (1 : Int) (2 : Int) (0 : Int)
                                                                                                                  (IntKind.wrap IntKind.i64
                                                                                                                    (bitsI BinOp.and IntKind.u32 (Int.fdiv w (512 : Int)) (511 : Int)))
                                                                                                                  (0 : Int) (0 : Int))
                                                                                                                (0 : Int))
                                                                                                              (0 : Int)) then
                                                                                                      bif
                                                                                                          decide
                                                                                                            (doI (19 : Int) (1 : Int) (2 : Int) (0 : Int)
                                                                                                                (IntKind.wrap IntKind.i64 (bitsI BinOp.and IntKind.u32 w (511 : Int)))
                                                                                                                (doI (22 : Int) (1 : Int) (2 : Int) (0 : Int) (9 : Int)
                                                                                                                  (doI (19 : Int) (1 : Int) (2 : Int) (0 : Int)
                                                                                                                    (IntKind.wrap IntKind.i64
                                                                                                                      (bitsI BinOp.and IntKind.u32 (Int.fdiv w (512 : Int)) (511 : Int)))
                                                                                                                    (0 : Int) (0 : Int))
                                                                                                                  (0 : Int))
                                                                                                                (0 : Int) ≤
                                                                                                              (4294967295 : Int)) then
                                                                                                        K
                                                                                                          (XV.bool
                                                                                                            (decide
                                                                                                              (doI (4 : Int) (1 : Int) (2 : Int) (3 : Int) (0 : Int)
                                                                                                                  (doI (25 : Int) (1 : Int) (0 : Int) (0 : Int) (Int.fdiv (i32 w) (262144 : Int))
                                                                                                                    (0 : Int) (0 : Int))
                                                                                                                  (doI (19 : Int) (1 : Int) (2 : Int) (0 : Int)
                                                                                                                    (IntKind.wrap IntKind.i64 (bitsI BinOp.and IntKind.u32 w (511 : Int)))
                                                                                                                    (doI (22 : Int) (1 : Int) (2 : Int) (0 : Int) (9 : Int)
                                                                                                                      (doI (19 : Int) (1 : Int) (2 : Int) (0 : Int)
                                                                                                                        (IntKind.wrap IntKind.i64
                                                                                                                          (bitsI BinOp.and IntKind.u32 (Int.fdiv w (512 : Int)) (511 : Int)))
                                                                                                                        (0 : Int) (0 : Int))
                                                                                                                      (0 : Int))
                                                                                                                    (0 : Int)) =
                                                                                                                w)))
                                                                                                      else False
                                                                                                    else False
                                                                                                  else False
                                                                                                else False
                                                                                              else False
                                                                                            else False
                                                                                          else False
                                                                                        else False
                                                                                      else False
                                                                                    else False
                                                                                else False
                                                                              else False
                                                                            else False
                                                                          else False
                                                                        else bif !dkB (21 : Int) (1 : Int) (2 : Int) (0 : Int) m (7 : Int) then K (XV.bool false) else False
                                                                      else False
                                                                    else False
                                                                else False
                                                              else False
                                                            else False
                                                          else False
                                                        else bif !dkB (20 : Int) (1 : Int) (2 : Int) (0 : Int) m (7 : Int) then K (XV.bool false) else False
                                                      else False
                                                    else False
                                                else False
                                              else False
                                            else False
                                          else False
                                        else bif !dkB (19 : Int) (1 : Int) (2 : Int) (0 : Int) m (7 : Int) then K (XV.bool false) else False
                                      else False
                                    else False
                                else False
                              else False
                            else False
                          else False
                        else bif !dkB (18 : Int) (1 : Int) (2 : Int) (0 : Int) m (7 : Int) then K (XV.bool false) else False
                      else False
                    else False
                else False
              else False
            else False
          else False
        else bif !dkB (17 : Int) (1 : Int) (2 : Int) (0 : Int) m (7 : Int) then K (XV.bool false) else False
      else False
    else False
else False) := by kernel_rfl
theorem rt_imm {op m : Int} (h : op = 17 ∨ op = 18 ∨ op = 19 ∨ op = 20 ∨ op = 21) (h0 : -8192 ≤ m) (h1 : m ≤ 8191) : rtB op 1 2 0 m = true := by
  unfold rtB
  refine decide_eq_true ?_
  have hf : fmI op = 2 := by rcases h with rfl | rfl | rfl | rfl | rfl <;> rfl
  rw [hf]
  unfold rtP rgP
  refine ⟨by omega, by omega, by omega, by omega, .inr ⟨by omega, by omega, .inl ⟨by omega, h0, h1⟩⟩⟩
theorem dk_imm {op m b : Int} (h : op = 17 ∨ op = 18 ∨ op = 19 ∨ op = 20 ∨ op = 21) (h0 : -8192 ≤ m) (h1 : m ≤ 8191) : dkB op 1 2 0 m b = true := by
  have hf : fmI op = 2 := by rcases h with rfl | rfl | rfl | rfl | rfl <;> rfl
  unfold dkB
  rw [rt_imm h h0 h1, hf, if_neg (by decide), decide_eq_false (by omega)]
  rfl
theorem do_imm {op m a b : Int} (h : op = 17 ∨ op = 18 ∨ op = 19 ∨ op = 20 ∨ op = 21) (h0 : -8192 ≤ m) (h1 : m ≤ 8191) : doI op 1 2 0 m a b = alW (plI op) a (m % 4294967296) := by
  have hf : fmI op = 2 := by rcases h with rfl | rfl | rfl | rfl | rfl <;> rfl
  unfold doI
  rw [rt_imm h h0 h1, hf, if_neg (by decide), if_neg (by omega), if_pos rfl]
theorem num_pure (a w m : Int) (h0 : 0 ≤ a) (h1 : a ≤ 4294967295) (h2 : 0 ≤ w) (h3 : w ≤ 4294967295) : Pure Try.prog 8 (cons [.int .u32 a, .int .u32 w, .int .i64 m]) (con (.bool true)) := by
  refine pureX (u := 80) (k := 20) mix TA3ok ?_
  rw [r_num]
  simp only [pk3, pk4, decide_true, cond_true, pk_and, pk_or]
  by_cases g0 : m < -8192
  · simp [g0]
  by_cases g1 : m > 8191
  · simp [g0, g1]
  have m0 : 0 ≤ IntKind.u32.wrap m := by rw [wU32]; omega
  have m1 : IntKind.u32.wrap m ≤ 4294967295 := by rw [wU32]; omega
  have f1 : ∀ op p : Int, (op = 17 ∨ op = 18 ∨ op = 19 ∨ op = 20 ∨ op = 21) → plI op = p → doI op 1 2 0 m a 7 = alW p a (IntKind.u32.wrap m) := fun op p h e => by
    rw [do_imm h (by omega) (by omega), e, wU32]
  have d17 := dk_imm (op := 17) (m := m) (b := 7) (by omega) (by omega) (by omega)
  have d18 := dk_imm (op := 18) (m := m) (b := 7) (by omega) (by omega) (by omega)
  have d19 := dk_imm (op := 19) (m := m) (b := 7) (by omega) (by omega) (by omega)
  have d20 := dk_imm (op := 20) (m := m) (b := 7) (by omega) (by omega) (by omega)
  have d21 := dk_imm (op := 21) (m := m) (b := 7) (by omega) (by omega) (by omega)
  have e17 := f1 17 1 (by omega) rfl
  have e18 := f1 18 3 (by omega) rfl
  have e19 := f1 19 4 (by omega) rfl
  have e20 := f1 20 5 (by omega) rfl
  have e21 := f1 21 9 (by omega) rfl
  obtain ⟨W, rfl⟩ := Int.eq_ofNat_of_zero_le h2
  have hW : W < 4294967296 := by omega
  have x4 : ∀ a b : Int, alW 4 a b = bitsI .or .u32 a b := fun _ _ => rfl
  have p1 : bitsI .and .u32 (Int.fdiv (W : Int) 512) 511 = ((W / 512 % 512 : Nat) : Int) := by
    have e : Int.fdiv (W : Int) 512 = ((W / 512 : Nat) : Int) := by rw [Int.fdiv_eq_ediv_of_nonneg _ (by omega)]; rfl
    have h := bAnd (A := W / 512) (B := 511) (by omega) (by omega)
    rw [show W / 512 &&& 511 = W / 512 % 512 from Nat.and_two_pow_sub_one_eq_mod _ 9] at h
    rw [e]; exact h
  have p2 : bitsI .and .u32 (W : Int) 511 = ((W % 512 : Nat) : Int) := by
    have h := bAnd (A := W) (B := 511) (by omega) (by omega)
    rw [show W &&& 511 = W % 512 from Nat.and_two_pow_sub_one_eq_mod _ 9] at h
    exact h
  have p3 : IntKind.i64.wrap ((W / 512 % 512 : Nat) : Int) = ((W / 512 % 512 : Nat) : Int) := wrap_i64 (by omega) (by omega)
  have p4 : IntKind.i64.wrap ((W % 512 : Nat) : Int) = ((W % 512 : Nat) : Int) := wrap_i64 (by omega) (by omega)
  have q19 : ∀ X P : Nat, X < 4294967296 → P < 512 → doI 19 1 2 0 (P : Int) (X : Int) 0 = ((X ||| P : Nat) : Int) := fun X P hX hP => by
    rw [do_imm (by omega) (by omega) (by omega), show plI 19 = 4 from rfl, x4, show (P : Int) % 4294967296 = (P : Int) by omega, bOr hX (by omega)]
  have q1 : doI 19 1 2 0 ((W / 512 % 512 : Nat) : Int) 0 0 = ((W / 512 % 512 : Nat) : Int) := by
    have h := q19 0 (W / 512 % 512) (by omega) (by omega)
    rw [Nat.zero_or] at h
    exact h
  have q2 : doI 22 1 2 0 9 ((W / 512 % 512 : Nat) : Int) 0 = ((W / 512 % 512 * 512 : Nat) : Int) := by
    have e : ∀ x : Int, doI 22 1 2 0 9 x 0 = (x * 512) % 4294967296 := fun x => rfl
    rw [e]
    omega
  have q3 : doI 19 1 2 0 ((W % 512 : Nat) : Int) ((W / 512 % 512 * 512 : Nat) : Int) 0 = ((W % 262144 : Nat) : Int) := by
    rw [q19 _ _ (by omega) (by omega)]
    have h := Nat.two_pow_add_eq_or_of_lt (i := 9) (b := W % 512) (by omega) (W / 512 % 512)
    rw [show W / 512 % 512 * 512 = 2 ^ 9 * (W / 512 % 512) by omega, ← h]
    omega
  have q4 : doI 25 1 0 0 (Int.fdiv (i32 (W : Int)) 262144) 0 0 = ((2 ^ 18 * (W / 262144) : Nat) : Int) := by
    rw [Int.fdiv_eq_ediv_of_nonneg _ (by omega)]
    unfold i32
    rw [wI32]
    obtain ⟨t, ht⟩ : ∃ t : Int, t = ((W : Int) + 2147483648) % 4294967296 - 2147483648 := ⟨_, rfl⟩
    rw [← ht]
    have hr : rtB 25 1 0 0 (t / 262144) = true := by
      unfold rtB
      refine decide_eq_true ?_
      rw [show fmI 25 = 3 from rfl]
      unfold rtP rgP
      refine ⟨by omega, by omega, by omega, by omega, .inr ⟨by omega, by omega, .inl ⟨by omega, by omega, by omega⟩⟩⟩
    unfold doI
    rw [hr, if_neg (by decide), if_pos rfl]
    omega
  have q5 : doI 4 1 2 3 0 ((2 ^ 18 * (W / 262144) : Nat) : Int) ((W % 262144 : Nat) : Int) = (W : Int) := by
    rw [do_4, x4, bOr (by omega) (by omega), ← Nat.two_pow_add_eq_or_of_lt (i := 18) (b := W % 262144) (by omega) (W / 262144)]
    omega
  have n1 : (0 : Int) ≤ ((2 ^ 18 * (W / 262144) : Nat) : Int) := Int.natCast_nonneg _
  have n2 : ((2 ^ 18 * (W / 262144) : Nat) : Int) ≤ 4294967295 := by omega
  have n3 : (0 : Int) ≤ ((W % 262144 : Nat) : Int) := Int.natCast_nonneg _
  have n4 : ((W % 262144 : Nat) : Int) ≤ 4294967295 := by omega
  have n5 : (0 : Int) ≤ ((W / 512 % 512 * 512 : Nat) : Int) := Int.natCast_nonneg _
  have n6 : ((W / 512 % 512 * 512 : Nat) : Int) ≤ 4294967295 := by omega
  have n7 : (0 : Int) ≤ ((W / 512 % 512 : Nat) : Int) := Int.natCast_nonneg _
  have n8 : ((W / 512 % 512 : Nat) : Int) ≤ 4294967295 := by omega
  have e19' := e19
  simp only [p1, p2, p3, p4, q1, q2, q3, q4, q5, n1, n2, n3, n4, n5, n6, n7, n8, d17, d18, d19, d20, d21, e17, e18, e19, e20, e21, do_1, do_3, do_4, do_5, do_9, g0, g1, h0, h1, h2, h3, m0, m1, decide_true, decide_false, cond_true, cond_false, allN_true, Nat.le_refl, Int.toNat_natCast, Nat.beq_refl, pk_and, pk_or, Bool.not_true, Bool.not_false, not_true_eq_false, not_false_eq_true, Bool.and_true, Bool.true_and, Bool.and_self, ge_iff_le, Int.le_refl, if_true, if_false, reduceCtorEq, eq_self, BEq.rfl]
end Go.Proofs.Ytghmogkapedmfaa
namespace Go.Proofs.Ytghmogkapedmfaa.aluNumbers
open Go.Ra Go.ChangeShapes Go.WideShapes Go.ChangeAt Go.RowKit
open Go.ChangeMaps (open_string shut_string)
theorem own : ownKnob Try.prog.godebug = none := by kernel_rfl
def Ts : List Ty := [.int .u32, .int .u32, .int .i64]
theorem law (xs : List AV) (h : Ty.hasL Ts xs) : Pure Try.prog 8 xs (.sc (.bool true)) := by
  have h0 := h
  simp only [Ts, Ty.hasL] at h0
  obtain ⟨a, _, rfl, ha, b, _, rfl, hb, c, _, rfl, _, rfl⟩ := h0
  exact lawX h (num_pure _ _ _ (has_u32 ha).1 (has_u32 ha).2 (has_u32 hb).1 (has_u32 hb).2)
set_option maxRecDepth 100000 in
theorem lifted (os : Os) (started : os.Started) (H : Type) (enc : TypeId × Value → H) :
    ReturnsInHanded {} Try.checked os 8 .any (Rows.aluNumbersSpec.pre6 enc Try.prog Try.f8 Rows.aluNumbersRow.domain false) (Rows.aluNumbersSpec.post enc Try.prog Try.f8 false true false false) := by
  refine returnsInHanded_of_change_sized (C := Try.checked) own started (by kernel_rfl) Try.func8
    (ChangeSpec.witness6 (enc := enc) (C := Try.checked) false ⟨#[], #[.int .u32 0, .int .u32 0, .int .i64 0], []⟩ 8 (by kernel_rfl) (by kernel_rfl) (by kernel_rfl) (by kernel_rfl)) ?_
  intro W base args ds gs before hval hW hcnd hsz _
  refine law_post (s := Rows.aluNumbersSpec) (n := 60) (Ts := Ts) (ts := [24, 24, 3]) (tb := 4) (by kernel_rfl) rfl rfl Try.underlying4 rfl (by kernel_rfl) (by kernel_rfl) (fun ds hds => ?_) law W base args ds gs before hval hW hsz
  match ds, hds with
  | [d1, d2, d3], _ => exact ⟨rfl, rfl, rfl⟩
theorem over : Rows.aluNumbersRow.holds Try.pinned (OpenSpec.ofChange Rows.aluNumbersSpec) :=
  OpenClaim.holds_of_wide 8 Try.f8 rfl rfl rfl rfl rfl rfl rfl ⟨rfl, rfl, rfl, rfl, rfl⟩ rfl rfl rfl rfl rfl (by kernel_rfl) Try.func8 (by kernel_rfl)
    (of_decide_eq_true (by kernel_rfl)) (by unfold Func.isWrapper; first | (rw [if_pos (by decide +kernel)]; kernel_rfl) | (rw [if_neg (by decide +kernel)]; exact ⟨rfl, rfl⟩))
    (fun os started H enc _ => lifted os started H enc)
theorem proved : Rows.AluNumbersSaid := over
end Go.Proofs.Ytghmogkapedmfaa.aluNumbers
namespace Go.Proofs.Ytghmogkapedmfaa
/-- The row, under a short name, for the claim. -/
theorem aluNumbers_holds : Rows.AluNumbersSaid := aluNumbers.proved
end Go.Proofs.Ytghmogkapedmfaa
#print axioms Go.Proofs.Ytghmogkapedmfaa.aluNumbers_holds
