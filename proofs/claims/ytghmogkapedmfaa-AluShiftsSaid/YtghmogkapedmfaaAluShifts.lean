/- Shifts are by the lowest five bits, bit by bit, and what is shifted up and down again keeps its lowest bits. -/
import Derived.Test.YtghmogkapedmfaaRows
import Derived.Test.YtghmogkapedmfaaAl3
import Derived.Test.YtghmogkapedmfaaAluSh
import Derived.WalkKit
import Derived.ProofKit
import Derived.OpenShut
import Derived.ShutString
import Derived.ChangeOld
import Derived.Below
import Derived.SizedLaws
namespace Go.Proofs.Ytghmogkapedmfaa
open Go.Ra
set_option linter.unusedVariables false
set_option linter.unusedSimpArgs false
def sSh (a k x y z : Int) (i : Nat) : XSt := ⟨[(10, .int .u32 i), (9, .int .u32 z), (8, .int .u32 y), (7, .int .u32 x), (6, .int .u32 k), (4, .bool false), (0, .int .u32 a)], [], 0⟩
theorem r_sh0 (a n : Int) (r : AV) : (goS Try.prog TA3 [(.tmp 4)] r (.run c_law3_AluShifts) [] ⟨envX 0 [.int .u32 a, .int .u32 n], [], 0⟩) =
    (bif decide ((0 : Int) ≤ a) then
  bif decide (a ≤ (4294967295 : Int)) then
    bif decide ((0 : Int) ≤ n) then
      bif decide (n ≤ (4294967295 : Int)) then
        bif decide ((0 : Int) ≤ a) then
          bif decide (a ≤ (4294967295 : Int)) then
            bif decide ((0 : Int) ≤ n) then
              bif decide (n ≤ (4294967295 : Int)) then
                bif decide ((0 : Int) ≤ a) then
                  bif decide (a ≤ (4294967295 : Int)) then
                    bif decide ((0 : Int) ≤ n) then
                      bif decide (n ≤ (4294967295 : Int)) then
                        LoopAt (Ok Try.prog (Tab.q TA3)) c_law3_AluShifts_l1
                          (XSt.mk
                            [((10 : Nat), XV.int IntKind.u32 (0 : Int)), ((9 : Nat), XV.int IntKind.u32 (doI (8 : Int) (1 : Int) (2 : Int) (3 : Int) (0 : Int) a n)),
                              ((8 : Nat), XV.int IntKind.u32 (doI (7 : Int) (1 : Int) (2 : Int) (3 : Int) (0 : Int) a n)),
                              ((7 : Nat), XV.int IntKind.u32 (doI (6 : Int) (1 : Int) (2 : Int) (3 : Int) (0 : Int) a n)), ((6 : Nat), XV.int IntKind.u32 (bitsI BinOp.and IntKind.u32 n (31 : Int))),
                              ((4 : Nat), XV.bool false), ((0 : Nat), XV.int IntKind.u32 a)]
                            [] (0 : Nat))
                          [Frm.blk (0 : Nat), Frm.seq c_law3_AluShifts_p1] (finR [AR.tmp (4 : Nat)] r)
                      else False
                    else False
                  else False
                else False
              else False
            else False
          else False
        else False
      else False
    else False
  else False
else False) := by kernel_rfl
theorem r_sh1 (a k x y z : Int) (i : Nat) (r : AV) (A : XSt → Prop) : (goS Try.prog TA3 [(.tmp 4)] r (.run c_law3_AluShifts_l1) [.lp c_law3_AluShifts_l1 A, .blk 0, .seq c_law3_AluShifts_p1] (sSh a k x y z i)) =
    (bif decide ((↑i : Int) < (32 : Int)) then
  bif bif decide ((0 : Int) ≤ IntKind.wrap IntKind.u32 ((↑i : Int) - k)) then true else !decide ((↑i : Int) ≥ k) then
    bif bif decide ((↑i : Int) ≥ k) then decide ((↑i : Int) ≥ k) else true then
      bif bif decide ((0 : Int) ≤ IntKind.wrap IntKind.u32 ((↑i : Int) + k)) then true else !decide (IntKind.wrap IntKind.u32 ((↑i : Int) + k) < (32 : Int)) then
        bif bif decide (IntKind.wrap IntKind.u32 ((↑i : Int) + k) < (32 : Int)) then decide (IntKind.wrap IntKind.u32 ((↑i : Int) + k) < (32 : Int)) else true then
          bif bif decide ((0 : Int) ≤ IntKind.wrap IntKind.u32 ((↑i : Int) + k)) then true else !decide (IntKind.wrap IntKind.u32 ((↑i : Int) + k) < (32 : Int)) then
            bif bif decide (IntKind.wrap IntKind.u32 ((↑i : Int) + k) < (32 : Int)) then decide (IntKind.wrap IntKind.u32 ((↑i : Int) + k) < (32 : Int)) else true then
              bif
                  bif
                      !bif decide (IntKind.wrap IntKind.u32 ((↑i : Int) + k) < (32 : Int)) then
                          decide (bitsI BinOp.and IntKind.u32 (Int.fdiv a ((2 : Int) ^ Nat.min (Int.toNat (IntKind.wrap IntKind.u32 ((↑i : Int) + k))) (32 : Nat))) (1 : Int) = (1 : Int))
                        else false then
                    true
                  else
                    !!bif decide (IntKind.wrap IntKind.u32 ((↑i : Int) + k) < (32 : Int)) then
                          decide (bitsI BinOp.and IntKind.u32 (Int.fdiv a ((2 : Int) ^ Nat.min (Int.toNat (IntKind.wrap IntKind.u32 ((↑i : Int) + k))) (32 : Nat))) (1 : Int) = (1 : Int))
                        else false then
                bif
                    bif
                        bif decide (IntKind.wrap IntKind.u32 ((↑i : Int) + k) ≥ (32 : Int)) then
                          bif
                              !bif decide (IntKind.wrap IntKind.u32 ((↑i : Int) + k) < (32 : Int)) then
                                  decide (bitsI BinOp.and IntKind.u32 (Int.fdiv a ((2 : Int) ^ Nat.min (Int.toNat (IntKind.wrap IntKind.u32 ((↑i : Int) + k))) (32 : Nat))) (1 : Int) = (1 : Int))
                                else false then
                            decide (IntKind.wrap IntKind.u32 ((↑i : Int) + k) ≥ (32 : Int))
                          else false
                        else true then
                      true
                    else
                      !!bif decide (IntKind.wrap IntKind.u32 ((↑i : Int) + k) < (32 : Int)) then
                            decide (bitsI BinOp.and IntKind.u32 (Int.fdiv a ((2 : Int) ^ Nat.min (Int.toNat (IntKind.wrap IntKind.u32 ((↑i : Int) + k))) (32 : Nat))) (1 : Int) = (1 : Int))
                          else false then
                  bif
                      bif
                          bif decide (IntKind.wrap IntKind.u32 ((↑i : Int) + k) < (32 : Int)) then
                            decide (bitsI BinOp.and IntKind.u32 (Int.fdiv a ((2 : Int) ^ Nat.min (Int.toNat (IntKind.wrap IntKind.u32 ((↑i : Int) + k))) (32 : Nat))) (1 : Int) = (1 : Int))
                          else false then
                        true
                      else
                        !bif decide (IntKind.wrap IntKind.u32 ((↑i : Int) + k) < (32 : Int)) then
                            decide (bitsI BinOp.and IntKind.u32 (Int.fdiv a ((2 : Int) ^ Nat.min (Int.toNat (IntKind.wrap IntKind.u32 ((↑i : Int) + k))) (32 : Nat))) (1 : Int) = (1 : Int))
                          else false then
                    bif
                        bif
                            !decide (bitsI BinOp.and IntKind.u32 (Int.fdiv x ((2 : Int) ^ Nat.min i (32 : Nat))) (1 : Int) = (1 : Int)) ==
                                bif decide ((↑i : Int) ≥ k) then
                                  decide (bitsI BinOp.and IntKind.u32 (Int.fdiv a ((2 : Int) ^ Nat.min (Int.toNat (IntKind.wrap IntKind.u32 ((↑i : Int) - k))) (32 : Nat))) (1 : Int) = (1 : Int))
                                else false then
                          true
                        else
                          !!decide (bitsI BinOp.and IntKind.u32 (Int.fdiv x ((2 : Int) ^ Nat.min i (32 : Nat))) (1 : Int) = (1 : Int)) ==
                                bif decide ((↑i : Int) ≥ k) then
                                  decide (bitsI BinOp.and IntKind.u32 (Int.fdiv a ((2 : Int) ^ Nat.min (Int.toNat (IntKind.wrap IntKind.u32 ((↑i : Int) - k))) (32 : Nat))) (1 : Int) = (1 : Int))
                                else false then
                      bif
                          bif
                              bif
                                  !decide (bitsI BinOp.and IntKind.u32 (Int.fdiv x ((2 : Int) ^ Nat.min i (32 : Nat))) (1 : Int) = (1 : Int)) ==
                                      bif decide ((↑i : Int) ≥ k) then
                                        decide (bitsI BinOp.and IntKind.u32 (Int.fdiv a ((2 : Int) ^ Nat.min (Int.toNat (IntKind.wrap IntKind.u32 ((↑i : Int) - k))) (32 : Nat))) (1 : Int) = (1 : Int))
                                      else false then
                                true
                              else
                                !decide (bitsI BinOp.and IntKind.u32 (Int.fdiv y ((2 : Int) ^ Nat.min i (32 : Nat))) (1 : Int) = (1 : Int)) ==
                                    bif decide (IntKind.wrap IntKind.u32 ((↑i : Int) + k) < (32 : Int)) then
                                      decide (bitsI BinOp.and IntKind.u32 (Int.fdiv a ((2 : Int) ^ Nat.min (Int.toNat (IntKind.wrap IntKind.u32 ((↑i : Int) + k))) (32 : Nat))) (1 : Int) = (1 : Int))
                                    else false then
                            true
                          else
                            !bif
                                  !decide (bitsI BinOp.and IntKind.u32 (Int.fdiv x ((2 : Int) ^ Nat.min i (32 : Nat))) (1 : Int) = (1 : Int)) ==
                                      bif decide ((↑i : Int) ≥ k) then
                                        decide (bitsI BinOp.and IntKind.u32 (Int.fdiv a ((2 : Int) ^ Nat.min (Int.toNat (IntKind.wrap IntKind.u32 ((↑i : Int) - k))) (32 : Nat))) (1 : Int) = (1 : Int))
                                      else false then
                                true
                              else
                                !decide (bitsI BinOp.and IntKind.u32 (Int.fdiv y ((2 : Int) ^ Nat.min i (32 : Nat))) (1 : Int) = (1 : Int)) ==
                                    bif decide (IntKind.wrap IntKind.u32 ((↑i : Int) + k) < (32 : Int)) then
                                      decide (bitsI BinOp.and IntKind.u32 (Int.fdiv a ((2 : Int) ^ Nat.min (Int.toNat (IntKind.wrap IntKind.u32 ((↑i : Int) + k))) (32 : Nat))) (1 : Int) = (1 : Int))
                                    else false then
                        bif
                            bif
                                bif
                                    !decide (bitsI BinOp.and IntKind.u32 (Int.fdiv x ((2 : Int) ^ Nat.min i (32 : Nat))) (1 : Int) = (1 : Int)) ==
                                        bif decide ((↑i : Int) ≥ k) then
                                          decide
                                            (bitsI BinOp.and IntKind.u32 (Int.fdiv a ((2 : Int) ^ Nat.min (Int.toNat (IntKind.wrap IntKind.u32 ((↑i : Int) - k))) (32 : Nat))) (1 : Int) = (1 : Int))
                                        else false then
                                  true
                                else
                                  !decide (bitsI BinOp.and IntKind.u32 (Int.fdiv y ((2 : Int) ^ Nat.min i (32 : Nat))) (1 : Int) = (1 : Int)) ==
                                      bif decide (IntKind.wrap IntKind.u32 ((↑i : Int) + k) < (32 : Int)) then
                                        decide (bitsI BinOp.and IntKind.u32 (Int.fdiv a ((2 : Int) ^ Nat.min (Int.toNat (IntKind.wrap IntKind.u32 ((↑i : Int) + k))) (32 : Nat))) (1 : Int) = (1 : Int))
                                      else false then
                              true
                            else
                              !decide (bitsI BinOp.and IntKind.u32 (Int.fdiv z ((2 : Int) ^ Nat.min i (32 : Nat))) (1 : Int) = (1 : Int)) ==
                                  bif
                                      bif decide (IntKind.wrap IntKind.u32 ((↑i : Int) + k) < (32 : Int)) then
                                        decide (bitsI BinOp.and IntKind.u32 (Int.fdiv a ((2 : Int) ^ Nat.min (Int.toNat (IntKind.wrap IntKind.u32 ((↑i : Int) + k))) (32 : Nat))) (1 : Int) = (1 : Int))
                                      else false then
                                    true
                                  else bif decide (IntKind.wrap IntKind.u32 ((↑i : Int) + k) ≥ (32 : Int)) then decide (Int.fdiv a (2147483648 : Int) = (1 : Int)) else false then
                          con (XV.bool false) = r
                        else
                          A
                            (XSt.mk
                              [((10 : Nat), XV.int IntKind.u32 (IntKind.wrap IntKind.u32 ((↑i : Int) + (1 : Int)))), ((9 : Nat), XV.int IntKind.u32 z), ((8 : Nat), XV.int IntKind.u32 y),
                                ((7 : Nat), XV.int IntKind.u32 x), ((6 : Nat), XV.int IntKind.u32 k), ((4 : Nat), XV.bool false), ((0 : Nat), XV.int IntKind.u32 a)]
                              [] (0 : Nat))
                      else False
                    else False
                  else False
                else False
              else False
            else False
          else False
        else False
      else False
    else False
  else False
else con (XV.bool true) = r) := by kernel_rfl
theorem sh_pure (a n : Int) (h0 : 0 ≤ a) (h1 : a ≤ 4294967295) (h2 : 0 ≤ n) (h3 : n ≤ 4294967295) : Pure Try.prog 6 (cons [.int .u32 a, .int .u32 n]) (con (.bool true)) := by
  refine pureS mix TA3ok t_law3_AluShifts (Nat.le_of_ble_eq_true rfl) ?_
  rw [r_sh0]
  obtain ⟨A, rfl⟩ := Int.eq_ofNat_of_zero_le h0
  have hA : A < 4294967296 := by omega
  obtain ⟨K, hK⟩ : ∃ K : Nat, (n % 32).toNat = K := ⟨_, rfl⟩
  have hK2 : K < 32 := by omega
  have ek : bitsI .and .u32 n 31 = (K : Int) := by rw [and31 h2 h3]; omega
  have ex : doI 6 1 2 3 0 A n = ((A * 2 ^ K % 4294967296 : Nat) : Int) := by
    rw [do_6, show alW 6 (A : Int) n = ((A : Int) * 2 ^ (n % 32).toNat) % 4294967296 from rfl, hK, Int.natCast_emod, Int.natCast_mul, Int.natCast_pow]
    rfl
  have ey : doI 7 1 2 3 0 A n = ((A / 2 ^ K : Nat) : Int) := by
    rw [do_7, show alW 7 (A : Int) n = (A : Int) / 2 ^ (n % 32).toNat from rfl, hK]
    norm_cast
  obtain ⟨Z, hZ⟩ : ∃ Z : Nat, ((IntKind.i32.wrap (A : Int)) / 2 ^ K % 4294967296).toNat = Z := ⟨_, rfl⟩
  have ez : doI 8 1 2 3 0 A n = (Z : Int) := by
    rw [do_8, show alW 8 (A : Int) n = (i32 (A : Int) / 2 ^ (n % 32).toNat) % 4294967296 from rfl, hK]
    unfold i32
    have := mod_rng (IntKind.i32.wrap (A : Int) / 2 ^ K)
    omega
  have hX : A * 2 ^ K % 4294967296 < 4294967296 := Nat.mod_lt _ (by omega)
  have hY : A / 2 ^ K < 4294967296 := Nat.lt_of_le_of_lt (Nat.div_le_self _ _) hA
  have hZ2 : Z < 4294967296 := by
    have := mod_rng (IntKind.i32.wrap (A : Int) / 2 ^ K)
    omega
  simp only [h0, h1, h2, h3, ek, ex, ey, ez, decide_true, decide_false, cond_true, cond_false, allN_true, Nat.le_refl, Int.toNat_natCast, Nat.beq_refl, pk_and, pk_or, Bool.not_true, Bool.not_false, not_true_eq_false, not_false_eq_true, Bool.and_true, Bool.true_and, Bool.and_self, ge_iff_le, Int.le_refl, if_true, if_false, reduceCtorEq, eq_self, BEq.rfl]
  refine loopS mix TA3ok (fun i : Nat => sSh A K ((A * 2 ^ K % 4294967296 : Nat) : Int) ((A / 2 ^ K : Nat) : Int) Z i) (fun i => i ≤ 32) (fun i => 32 - i) 0 (Nat.zero_le _) (weakN ⟨le_is rfl, le_is rfl, le_is rfl, le_is rfl, le_is rfl, le_is rfl, le_is rfl, trivial⟩ trivial (Nat.le_refl _)) ?_
  intro i hi
  rw [r_sh1]
  by_cases hl : (i : Int) < 32
  · have hl2 : i < 32 := by omega
    have w1 : IntKind.u32.wrap ((i : Int) + 1) = ((i + 1 : Nat) : Int) := by rw [wU32]; omega
    have w2 : 0 ≤ IntKind.u32.wrap ((i : Int) - (K : Int)) := by rw [wU32]; omega
    have w3 : IntKind.u32.wrap ((i : Int) + (K : Int)) = ((i + K : Nat) : Int) := by rw [wU32]; omega
    have w4 : (0 : Int) ≤ ((i + K : Nat) : Int) := Int.natCast_nonneg _
    have bx := bit_of i hX hl2
    have bY := bit_of i hY hl2
    have bz := bit_of i hZ2 hl2
    have bs : decide (Int.fdiv (A : Int) 2147483648 = 1) = A.testBit 31 := by
      rw [Int.fdiv_eq_ediv_of_nonneg _ (by omega), Nat.testBit_eq_decide_div_mod_eq, decide_eq_decide]
      omega
    rw [sll_bit K i hl2] at bx
    rw [srl_bit K i] at bY
    have hz := sra_bit hA K i hK2 hl2
    rw [hZ] at hz
    rw [hz] at bz
    have bd : i + K < 32 → decide (bitsI .and .u32 (Int.fdiv (A : Int) (2 ^ Nat.min (Int.toNat ((i + K : Nat) : Int)) 32)) 1 = 1) = A.testBit (i + K) := fun h => bit_of (i + K) hA h
    simp only [hl, w1, w2, w3, w4, bx, bY, bz, bs, pk3, pk4, decide_true, cond_true, pk_or, pk_and]
    by_cases c1 : i + K < 32
    · have d1 : ((i + K : Nat) : Int) < 32 := by omega
      have d2 : ¬ ((i + K : Nat) : Int) ≥ 32 := by omega
      simp only [d1, d2, bd c1, c1, decide_true, decide_false, cond_true, cond_false, pk_and]
      by_cases c2 : K ≤ i
      · have d3 : (i : Int) ≥ (K : Int) := by omega
        have w5 : IntKind.u32.wrap ((i : Int) - (K : Int)) = ((i - K : Nat) : Int) := by rw [wU32]; omega
        have bu : decide (bitsI .and .u32 (Int.fdiv (A : Int) (2 ^ Nat.min (Int.toNat ((i - K : Nat) : Int)) 32)) 1 = 1) = A.testBit (i - K) := bit_of (i - K) hA (by omega)
        simp only [d3, w5, bu, c2, decide_true, cond_true, Bool.true_and]
        generalize A.testBit (i + K) = t1
        generalize A.testBit (i - K) = t2
        have : ∃ j, j ≤ 32 ∧ Weak (sSh A K ((A * 2 ^ K % 4294967296 : Nat) : Int) ((A / 2 ^ K : Nat) : Int) Z (i + 1)).st (sSh A K ((A * 2 ^ K % 4294967296 : Nat) : Int) ((A / 2 ^ K : Nat) : Int) Z j).st ∧ 32 - j < 32 - i := ⟨i + 1, by omega, weakN ⟨le_is rfl, le_is rfl, le_is rfl, le_is rfl, le_is rfl, le_is rfl, le_is rfl, trivial⟩ trivial (Nat.le_refl _), by omega⟩
        cases t1 <;> cases t2 <;> exact this
      · have d3 : ¬ (i : Int) ≥ (K : Int) := by omega
        simp only [d3, c2, decide_false, cond_false, Bool.false_and]
        generalize A.testBit (i + K) = t1
        have : ∃ j, j ≤ 32 ∧ Weak (sSh A K ((A * 2 ^ K % 4294967296 : Nat) : Int) ((A / 2 ^ K : Nat) : Int) Z (i + 1)).st (sSh A K ((A * 2 ^ K % 4294967296 : Nat) : Int) ((A / 2 ^ K : Nat) : Int) Z j).st ∧ 32 - j < 32 - i := ⟨i + 1, by omega, weakN ⟨le_is rfl, le_is rfl, le_is rfl, le_is rfl, le_is rfl, le_is rfl, le_is rfl, trivial⟩ trivial (Nat.le_refl _), by omega⟩
        cases t1 <;> exact this
    · have d1 : ¬ ((i + K : Nat) : Int) < 32 := by omega
      have d2 : ((i + K : Nat) : Int) ≥ 32 := by omega
      have tb : A.testBit (i + K) = false := top_bit hA _ (by omega)
      simp only [d1, d2, c1, tb, decide_true, decide_false, cond_true, cond_false, pk_and]
      by_cases c2 : K ≤ i
      · have d3 : (i : Int) ≥ (K : Int) := by omega
        have w5 : IntKind.u32.wrap ((i : Int) - (K : Int)) = ((i - K : Nat) : Int) := by rw [wU32]; omega
        have bu : decide (bitsI .and .u32 (Int.fdiv (A : Int) (2 ^ Nat.min (Int.toNat ((i - K : Nat) : Int)) 32)) 1 = 1) = A.testBit (i - K) := bit_of (i - K) hA (by omega)
        simp only [d3, w5, bu, c2, decide_true, cond_true, Bool.true_and]
        generalize A.testBit 31 = t1
        generalize A.testBit (i - K) = t2
        have : ∃ j, j ≤ 32 ∧ Weak (sSh A K ((A * 2 ^ K % 4294967296 : Nat) : Int) ((A / 2 ^ K : Nat) : Int) Z (i + 1)).st (sSh A K ((A * 2 ^ K % 4294967296 : Nat) : Int) ((A / 2 ^ K : Nat) : Int) Z j).st ∧ 32 - j < 32 - i := ⟨i + 1, by omega, weakN ⟨le_is rfl, le_is rfl, le_is rfl, le_is rfl, le_is rfl, le_is rfl, le_is rfl, trivial⟩ trivial (Nat.le_refl _), by omega⟩
        cases t1 <;> cases t2 <;> exact this
      · have d3 : ¬ (i : Int) ≥ (K : Int) := by omega
        simp only [d3, c2, decide_false, cond_false, Bool.false_and]
        generalize A.testBit 31 = t1
        have : ∃ j, j ≤ 32 ∧ Weak (sSh A K ((A * 2 ^ K % 4294967296 : Nat) : Int) ((A / 2 ^ K : Nat) : Int) Z (i + 1)).st (sSh A K ((A * 2 ^ K % 4294967296 : Nat) : Int) ((A / 2 ^ K : Nat) : Int) Z j).st ∧ 32 - j < 32 - i := ⟨i + 1, by omega, weakN ⟨le_is rfl, le_is rfl, le_is rfl, le_is rfl, le_is rfl, le_is rfl, le_is rfl, trivial⟩ trivial (Nat.le_refl _), by omega⟩
        cases t1 <;> exact this
  · rw [decide_eq_false hl, cond_false]
end Go.Proofs.Ytghmogkapedmfaa
namespace Go.Proofs.Ytghmogkapedmfaa.aluShifts
open Go.Ra Go.ChangeShapes Go.WideShapes Go.ChangeAt Go.RowKit
open Go.ChangeMaps (open_string shut_string)
theorem own : ownKnob Try.prog.godebug = none := by kernel_rfl
def Ts : List Ty := [.int .u32, .int .u32]
theorem law (xs : List AV) (h : Ty.hasL Ts xs) : Pure Try.prog 6 xs (.sc (.bool true)) := by
  have h0 := h
  simp only [Ts, Ty.hasL] at h0
  obtain ⟨a, _, rfl, ha, b, _, rfl, hb, rfl⟩ := h0
  exact lawX h (sh_pure _ _ (has_u32 ha).1 (has_u32 ha).2 (has_u32 hb).1 (has_u32 hb).2)
set_option maxRecDepth 100000 in
theorem lifted (os : Os) (started : os.Started) (H : Type) (enc : TypeId × Value → H) :
    ReturnsInHanded {} Try.checked os 6 .any (Rows.aluShiftsSpec.pre6 enc Try.prog Try.f6 Rows.aluShiftsRow.domain false) (Rows.aluShiftsSpec.post enc Try.prog Try.f6 false true false false) := by
  refine returnsInHanded_of_change_sized (C := Try.checked) own started (by kernel_rfl) Try.func6
    (ChangeSpec.witness6 (enc := enc) (C := Try.checked) false ⟨#[], #[.int .u32 0, .int .u32 0], []⟩ 8 (by kernel_rfl) (by kernel_rfl) (by kernel_rfl) (by kernel_rfl)) ?_
  intro W base args ds gs before hval hW hcnd hsz _
  refine law_post (s := Rows.aluShiftsSpec) (n := 60) (Ts := Ts) (ts := [24, 24]) (tb := 4) (by kernel_rfl) rfl rfl Try.underlying4 rfl (by kernel_rfl) (by kernel_rfl) (fun ds hds => ?_) law W base args ds gs before hval hW hsz
  match ds, hds with
  | [d1, d2], _ => exact ⟨rfl, rfl, rfl⟩
theorem over : Rows.aluShiftsRow.holds Try.pinned (OpenSpec.ofChange Rows.aluShiftsSpec) :=
  OpenClaim.holds_of_wide 6 Try.f6 rfl rfl rfl rfl rfl rfl rfl ⟨rfl, rfl, rfl, rfl, rfl⟩ rfl rfl rfl rfl rfl (by kernel_rfl) Try.func6 (by kernel_rfl)
    (of_decide_eq_true (by kernel_rfl)) (by unfold Func.isWrapper; first | (rw [if_pos (by decide +kernel)]; kernel_rfl) | (rw [if_neg (by decide +kernel)]; exact ⟨rfl, rfl⟩))
    (fun os started H enc _ => lifted os started H enc)
theorem proved : Rows.AluShiftsSaid := over
end Go.Proofs.Ytghmogkapedmfaa.aluShifts
namespace Go.Proofs.Ytghmogkapedmfaa
/-- The row, under a short name, for the claim. -/
theorem aluShifts_holds : Rows.AluShiftsSaid := aluShifts.proved
end Go.Proofs.Ytghmogkapedmfaa
#print axioms Go.Proofs.Ytghmogkapedmfaa.aluShifts_holds
