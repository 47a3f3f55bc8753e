/- Which bytes of a word are its lowest, and that what a load has of them is with their sign, or without. -/
import Derived.Test.YtihhfmdihhmbdaaRows
import Derived.Test.YtihhfmdihhmbdaaSq2
import Derived.WalkKit
import Derived.ProofKit
import Derived.OpenShut
import Derived.ShutString
import Derived.ChangeOld
import Derived.Below
import Derived.SizedLaws
namespace Go.Proofs.Ytihhfmdihhmbdaa
open Go.Ra
set_option linter.unusedVariables false
set_option linter.unusedSimpArgs false
theorem r_masks (w op a : Int) (K : XV → Prop) : (quietGo TQ 80 (callI TQ 80 20) 5 [.int .u32 w, .int .i64 op, .int .i64 a] K) =
    (bif bif decide ¬formI op = (4 : Int) then true else !decide ¬formI op = (4 : Int) then
  bif bif decide ¬formI op = (4 : Int) then true else decide (a < (0 : Int)) then K (XV.bool true)
  else
    bif decide ((0 : Int) ≤ mskI w (szI op)) then
      bif decide (mskI w (szI op) ≤ (4294967295 : Int)) then
        bif decide ((0 : Int) ≤ mskI w (szI op)) then
          bif decide (mskI w (szI op) ≤ (4294967295 : Int)) then
            bif bif !bypB a (szI op) true op a then true else !!bypB a (szI op) true op a then
              bif
                  bif decide ((0 : Int) ≤ IntKind.wrap IntKind.u64 (IntKind.wrap IntKind.i64 ((8 : Int) * szI op))) then true
                  else !bif !bif !bypB a (szI op) true op a then true else bypB a (szI op) false op a then decide (szI op < (4 : Int)) else false then
                bif bif !bif !bypB a (szI op) true op a then true else bypB a (szI op) false op a then true else !!bif !bypB a (szI op) true op a then true else bypB a (szI op) false op a then
                  bif
                      bif bif decide (szI op < (4 : Int)) then bif !bif !bypB a (szI op) true op a then true else bypB a (szI op) false op a then decide (szI op < (4 : Int)) else false else true then
                        true
                      else !!bif !bypB a (szI op) true op a then true else bypB a (szI op) false op a then
                    bif bif bif !bypB a (szI op) true op a then true else bypB a (szI op) false op a then true else !bif !bypB a (szI op) true op a then true else bypB a (szI op) false op a then
                      bif
                          bif
                              bif bif !bypB a (szI op) true op a then true else bypB a (szI op) false op a then true
                              else
                                bif decide (szI op < (4 : Int)) then
                                  decide ¬Int.fdiv (mskI w (szI op)) ((2 : Int) ^ Nat.min (Int.toNat (IntKind.wrap IntKind.u64 (IntKind.wrap IntKind.i64 ((8 : Int) * szI op)))) (32 : Nat)) = (0 : Int)
                                else false then
                            true
                          else
                            !bif bif !bypB a (szI op) true op a then true else bypB a (szI op) false op a then true
                              else
                                bif decide (szI op < (4 : Int)) then
                                  decide ¬Int.fdiv (mskI w (szI op)) ((2 : Int) ^ Nat.min (Int.toNat (IntKind.wrap IntKind.u64 (IntKind.wrap IntKind.i64 ((8 : Int) * szI op)))) (32 : Nat)) = (0 : Int)
                                else false then
                        bif
                            bif
                                bif
                                    bif bif !bypB a (szI op) true op a then true else bypB a (szI op) false op a then true
                                    else
                                      bif decide (szI op < (4 : Int)) then
                                        decide
                                          ¬Int.fdiv (mskI w (szI op)) ((2 : Int) ^ Nat.min (Int.toNat (IntKind.wrap IntKind.u64 (IntKind.wrap IntKind.i64 ((8 : Int) * szI op)))) (32 : Nat)) =
                                              (0 : Int)
                                      else false then
                                  true
                                else decide ¬mskI (mskI w (szI op)) (szI op) = mskI w (szI op) then
                              true
                            else
                              !bif
                                    bif bif !bypB a (szI op) true op a then true else bypB a (szI op) false op a then true
                                    else
                                      bif decide (szI op < (4 : Int)) then
                                        decide
                                          ¬Int.fdiv (mskI w (szI op)) ((2 : Int) ^ Nat.min (Int.toNat (IntKind.wrap IntKind.u64 (IntKind.wrap IntKind.i64 ((8 : Int) * szI op)))) (32 : Nat)) =
                                              (0 : Int)
                                      else false then
                                  true
                                else decide ¬mskI (mskI w (szI op)) (szI op) = mskI w (szI op) then
                          bif
                              bif
                                  bif
                                      bif bif !bypB a (szI op) true op a then true else bypB a (szI op) false op a then true
                                      else
                                        bif decide (szI op < (4 : Int)) then
                                          decide
                                            ¬Int.fdiv (mskI w (szI op)) ((2 : Int) ^ Nat.min (Int.toNat (IntKind.wrap IntKind.u64 (IntKind.wrap IntKind.i64 ((8 : Int) * szI op)))) (32 : Nat)) =
                                                (0 : Int)
                                        else false then
                                    true
                                  else decide ¬mskI (mskI w (szI op)) (szI op) = mskI w (szI op) then
                                true
                              else false then
                            K (XV.bool false)
                          else
                            bif bif decide (op = (27 : Int)) then true else !decide (op = (27 : Int)) then
                              bif
                                  bif decide ((0 : Int) ≤ IntKind.wrap IntKind.u64 (IntKind.wrap IntKind.i64 (IntKind.wrap IntKind.i64 ((8 : Int) * szI op) - (1 : Int)))) then true
                                  else !bif decide (op = (27 : Int)) then true else decide (op = (29 : Int)) then
                                bif bif bif decide (op = (27 : Int)) then true else decide (op = (29 : Int)) then bif decide (op = (27 : Int)) then true else decide (op = (29 : Int)) else true then
                                  bif
                                      bif bif decide (op = (27 : Int)) then true else decide (op = (29 : Int)) then
                                        decide
                                          (Int.fdiv (mskI w (szI op))
                                              ((2 : Int) ^
                                                Nat.min (Int.toNat (IntKind.wrap IntKind.u64 (IntKind.wrap IntKind.i64 (IntKind.wrap IntKind.i64 ((8 : Int) * szI op) - (1 : Int))))) (32 : Nat)) =
                                            (1 : Int))
                                      else false then
                                    bif
                                        bif decide ((0 : Int) ≤ IntKind.wrap IntKind.u64 (IntKind.wrap IntKind.i64 (IntKind.wrap IntKind.i64 ((8 : Int) * szI op) - (1 : Int)))) then true
                                        else !decide (mskI (bif bypB a (szI op) true op a then extI op (mskI w (szI op)) else (0 : Int)) (szI op) = mskI w (szI op)) then
                                      bif
                                          bif decide ((0 : Int) ≤ IntKind.wrap IntKind.u64 (IntKind.wrap IntKind.i64 (IntKind.wrap IntKind.i64 ((8 : Int) * szI op) - (1 : Int)))) then true
                                          else !decide (mskI (bif bypB a (szI op) true op a then extI op (mskI w (szI op)) else (0 : Int)) (szI op) = mskI w (szI op)) then
                                        bif
                                            bif decide (mskI (bif bypB a (szI op) true op a then extI op (mskI w (szI op)) else (0 : Int)) (szI op) = mskI w (szI op)) then
                                              decide (mskI (bif bypB a (szI op) true op a then extI op (mskI w (szI op)) else (0 : Int)) (szI op) = mskI w (szI op))
                                            else true then
                                          K
                                            (XV.bool
                                              (bif decide (mskI (bif bypB a (szI op) true op a then extI op (mskI w (szI op)) else (0 : Int)) (szI op) = mskI w (szI op)) then
                                                decide
                                                  (Int.fdiv (bif bypB a (szI op) true op a then extI op (mskI w (szI op)) else (0 : Int))
                                                      ((2 : Int) ^
                                                        Nat.min (Int.toNat (IntKind.wrap IntKind.u64 (IntKind.wrap IntKind.i64 (IntKind.wrap IntKind.i64 ((8 : Int) * szI op) - (1 : Int)))))
                                                          (32 : Nat)) =
                                                    Int.fdiv (4294967295 : Int)
                                                      ((2 : Int) ^
                                                        Nat.min (Int.toNat (IntKind.wrap IntKind.u64 (IntKind.wrap IntKind.i64 (IntKind.wrap IntKind.i64 ((8 : Int) * szI op) - (1 : Int)))))
                                                          (32 : Nat)))
                                              else false))
                                        else False
                                      else False
                                    else False
                                  else K (XV.bool (decide ((bif bypB a (szI op) true op a then extI op (mskI w (szI op)) else (0 : Int)) = mskI w (szI op))))
                                else False
                              else False
                            else False
                        else False
                      else False
                    else False
                  else False
                else False
              else False
            else False
          else False
        else False
      else False
    else False
 else False) := by kernel_rfl
theorem mk26 (w a : Int) (ha : 0 ≤ a) (h0 : 0 ≤ w) (h1 : w ≤ 4294967295) : Pure Try.prog 5 (cons [.int .u32 w, .int .i64 26, .int .i64 a]) (con (.bool true)) := by
  refine pureX (u := 80) (k := 20) mix TQok ?_
  rw [r_masks]
  simp only [pk_or, pk_and, pk3, pk4, cond_true]
  have f4 : formI 26 = 4 := rfl
  have fs : szI 26 = 4 := rfl
  have b1 : bypB a 4 true 26 a = true := decide_eq_true ⟨by omega, by omega, rfl, rfl, rfl⟩
  have b2 : bypB a 4 false 26 a = false := decide_eq_false fun h => by simp at h
  have ha' : ¬ a < 0 := by omega
  have n1 : Nat.min (Int.toNat (IntKind.u64.wrap (IntKind.i64.wrap (8 * 4)))) 32 = 32 := by decide
  have n2 : Nat.min (Int.toNat (IntKind.u64.wrap (IntKind.i64.wrap (IntKind.i64.wrap (8 * 4) - 1)))) 32 = 31 := by decide
  have n3 : 0 ≤ IntKind.u64.wrap (IntKind.i64.wrap (8 * 4)) := by decide
  have n4 : 0 ≤ IntKind.u64.wrap (IntKind.i64.wrap (IntKind.i64.wrap (8 * 4) - 1)) := by decide
  have hx : extI 26 w = w := by simp [extI]
  simp only [f4, fs, b1, b2, ha', n1, n2, n3, n4, msk4, hx, h0, h1, Int.reduceLT, Int.reduceEq, decide_true, decide_false, cond_true, cond_false, allN_true, Nat.le_refl, Int.toNat_natCast, Nat.beq_refl, pk_and, pk_or, Bool.not_true, Bool.not_false, not_true_eq_false, not_false_eq_true, Bool.and_true, Bool.true_and, Bool.and_self, ge_iff_le, Int.le_refl, if_true, if_false, reduceCtorEq, eq_self, BEq.rfl]
theorem mk27 (w a : Int) (ha : 0 ≤ a) (h0 : 0 ≤ w) (h1 : w ≤ 4294967295) : Pure Try.prog 5 (cons [.int .u32 w, .int .i64 27, .int .i64 a]) (con (.bool true)) := by
  refine pureX (u := 80) (k := 20) mix TQok ?_
  rw [r_masks]
  simp only [pk_or, pk_and, pk3, pk4, cond_true]
  have f4 : formI 27 = 4 := rfl
  have fs : szI 27 = 2 := rfl
  have b1 : bypB a 2 true 27 a = true := decide_eq_true ⟨by omega, by omega, rfl, rfl, rfl⟩
  have b2 : bypB a 2 false 27 a = false := decide_eq_false fun h => by simp at h
  have ha' : ¬ a < 0 := by omega
  have n1 : Nat.min (Int.toNat (IntKind.u64.wrap (IntKind.i64.wrap (8 * 2)))) 32 = 16 := by decide
  have n2 : Nat.min (Int.toNat (IntKind.u64.wrap (IntKind.i64.wrap (IntKind.i64.wrap (8 * 2) - 1)))) 32 = 15 := by decide
  have n3 : 0 ≤ IntKind.u64.wrap (IntKind.i64.wrap (8 * 2)) := by decide
  have n4 : 0 ≤ IntKind.u64.wrap (IntKind.i64.wrap (IntKind.i64.wrap (8 * 2) - 1)) := by decide
  have m1 := msk2 (v := w) h0 h1
  have l0 : 0 ≤ w % 65536 := by omega
  have l1 : w % 65536 ≤ 4294967295 := by omega
  have m2 := msk2 (v := w % 65536) l0 l1
  rw [Int.emod_emod] at m2
  have k1 : Int.fdiv (w % 65536) (2 ^ 16) = 0 := by
    rw [show (2 : Int) ^ 16 = 65536 by decide, fdivE (by omega)]; omega
  by_cases g : w % 65536 ≥ 32768
  · have hx : extI 27 (w % 65536) = w % 65536 + 4294901760 := by
      unfold extI
      simp only [Int.emod_emod, if_true, if_false, show ¬ (29 : Int) = 27 by omega]
      exact if_pos g
    have m3 := msk2 (v := w % 65536 + 4294901760) (by omega) (by omega)
    rw [show (w % 65536 + 4294901760) % 65536 = w % 65536 by omega] at m3
    have k2 : Int.fdiv (w % 65536) (2 ^ 15) = 1 := by
      rw [show (2 : Int) ^ 15 = 32768 by decide, fdivE (by omega)]; omega
    have k3 : Int.fdiv (w % 65536 + 4294901760) (2 ^ 15) = Int.fdiv 4294967295 (2 ^ 15) := by
      rw [show (2 : Int) ^ 15 = 32768 by decide, fdivE (by omega), fdivE (by omega)]; omega
    simp only [f4, fs, b1, b2, ha', n1, n2, n3, n4, m1, m2, m3, k1, k2, k3, hx, l0, l1, Int.reduceLT, Int.reduceEq, decide_true, decide_false, cond_true, cond_false, allN_true, Nat.le_refl, Int.toNat_natCast, Nat.beq_refl, pk_and, pk_or, Bool.not_true, Bool.not_false, not_true_eq_false, not_false_eq_true, Bool.and_true, Bool.true_and, Bool.and_self, ge_iff_le, Int.le_refl, if_true, if_false, reduceCtorEq, eq_self, BEq.rfl]
  · have hx : extI 27 (w % 65536) = w % 65536 := by
      unfold extI
      simp only [Int.emod_emod, if_true, if_false, show ¬ (29 : Int) = 27 by omega]
      exact if_neg g
    have k2 : ¬ Int.fdiv (w % 65536) (2 ^ 15) = 1 := by
      rw [show (2 : Int) ^ 15 = 32768 by decide, fdivE (by omega)]; omega
    simp only [f4, fs, b1, b2, ha', n1, n2, n3, n4, m1, m2, k1, k2, hx, l0, l1, Int.reduceLT, Int.reduceEq, decide_true, decide_false, cond_true, cond_false, allN_true, Nat.le_refl, Int.toNat_natCast, Nat.beq_refl, pk_and, pk_or, Bool.not_true, Bool.not_false, not_true_eq_false, not_false_eq_true, Bool.and_true, Bool.true_and, Bool.and_self, ge_iff_le, Int.le_refl, if_true, if_false, reduceCtorEq, eq_self, BEq.rfl]
theorem mk28 (w a : Int) (ha : 0 ≤ a) (h0 : 0 ≤ w) (h1 : w ≤ 4294967295) : Pure Try.prog 5 (cons [.int .u32 w, .int .i64 28, .int .i64 a]) (con (.bool true)) := by
  refine pureX (u := 80) (k := 20) mix TQok ?_
  rw [r_masks]
  simp only [pk_or, pk_and, pk3, pk4, cond_true]
  have f4 : formI 28 = 4 := rfl
  have fs : szI 28 = 2 := rfl
  have b1 : bypB a 2 true 28 a = true := decide_eq_true ⟨by omega, by omega, rfl, rfl, rfl⟩
  have b2 : bypB a 2 false 28 a = false := decide_eq_false fun h => by simp at h
  have ha' : ¬ a < 0 := by omega
  have n1 : Nat.min (Int.toNat (IntKind.u64.wrap (IntKind.i64.wrap (8 * 2)))) 32 = 16 := by decide
  have n2 : Nat.min (Int.toNat (IntKind.u64.wrap (IntKind.i64.wrap (IntKind.i64.wrap (8 * 2) - 1)))) 32 = 15 := by decide
  have n3 : 0 ≤ IntKind.u64.wrap (IntKind.i64.wrap (8 * 2)) := by decide
  have n4 : 0 ≤ IntKind.u64.wrap (IntKind.i64.wrap (IntKind.i64.wrap (8 * 2) - 1)) := by decide
  have m1 := msk2 (v := w) h0 h1
  have l0 : 0 ≤ w % 65536 := by omega
  have l1 : w % 65536 ≤ 4294967295 := by omega
  have m2 := msk2 (v := w % 65536) l0 l1
  rw [Int.emod_emod] at m2
  have k1 : Int.fdiv (w % 65536) (2 ^ 16) = 0 := by
    rw [show (2 : Int) ^ 16 = 65536 by decide, fdivE (by omega)]; omega
  have hx : extI 28 (w % 65536) = w % 65536 := by simp [extI]
  simp only [f4, fs, b1, b2, ha', n1, n2, n3, n4, m1, m2, k1, hx, l0, l1, Int.reduceLT, Int.reduceEq, decide_true, decide_false, cond_true, cond_false, allN_true, Nat.le_refl, Int.toNat_natCast, Nat.beq_refl, pk_and, pk_or, Bool.not_true, Bool.not_false, not_true_eq_false, not_false_eq_true, Bool.and_true, Bool.true_and, Bool.and_self, ge_iff_le, Int.le_refl, if_true, if_false, reduceCtorEq, eq_self, BEq.rfl]
theorem mk29 (w a : Int) (ha : 0 ≤ a) (h0 : 0 ≤ w) (h1 : w ≤ 4294967295) : Pure Try.prog 5 (cons [.int .u32 w, .int .i64 29, .int .i64 a]) (con (.bool true)) := by
  refine pureX (u := 80) (k := 20) mix TQok ?_
  rw [r_masks]
  simp only [pk_or, pk_and, pk3, pk4, cond_true]
  have f4 : formI 29 = 4 := rfl
  have fs : szI 29 = 1 := rfl
  have b1 : bypB a 1 true 29 a = true := decide_eq_true ⟨by omega, by omega, rfl, rfl, rfl⟩
  have b2 : bypB a 1 false 29 a = false := decide_eq_false fun h => by simp at h
  have ha' : ¬ a < 0 := by omega
  have n1 : Nat.min (Int.toNat (IntKind.u64.wrap (IntKind.i64.wrap (8 * 1)))) 32 = 8 := by decide
  have n2 : Nat.min (Int.toNat (IntKind.u64.wrap (IntKind.i64.wrap (IntKind.i64.wrap (8 * 1) - 1)))) 32 = 7 := by decide
  have n3 : 0 ≤ IntKind.u64.wrap (IntKind.i64.wrap (8 * 1)) := by decide
  have n4 : 0 ≤ IntKind.u64.wrap (IntKind.i64.wrap (IntKind.i64.wrap (8 * 1) - 1)) := by decide
  have m1 := msk1 (v := w) h0 h1
  have l0 : 0 ≤ w % 256 := by omega
  have l1 : w % 256 ≤ 4294967295 := by omega
  have m2 := msk1 (v := w % 256) l0 l1
  rw [Int.emod_emod] at m2
  have k1 : Int.fdiv (w % 256) (2 ^ 8) = 0 := by
    rw [show (2 : Int) ^ 8 = 256 by decide, fdivE (by omega)]; omega
  by_cases g : w % 256 ≥ 128
  · have hx : extI 29 (w % 256) = w % 256 + 4294967040 := by
      unfold extI
      simp only [Int.emod_emod, if_true, if_false, show ¬ (29 : Int) = 27 by omega]
      exact if_pos g
    have m3 := msk1 (v := w % 256 + 4294967040) (by omega) (by omega)
    rw [show (w % 256 + 4294967040) % 256 = w % 256 by omega] at m3
    have k2 : Int.fdiv (w % 256) (2 ^ 7) = 1 := by
      rw [show (2 : Int) ^ 7 = 128 by decide, fdivE (by omega)]; omega
    have k3 : Int.fdiv (w % 256 + 4294967040) (2 ^ 7) = Int.fdiv 4294967295 (2 ^ 7) := by
      rw [show (2 : Int) ^ 7 = 128 by decide, fdivE (by omega), fdivE (by omega)]; omega
    simp only [f4, fs, b1, b2, ha', n1, n2, n3, n4, m1, m2, m3, k1, k2, k3, hx, l0, l1, Int.reduceLT, Int.reduceEq, decide_true, decide_false, cond_true, cond_false, allN_true, Nat.le_refl, Int.toNat_natCast, Nat.beq_refl, pk_and, pk_or, Bool.not_true, Bool.not_false, not_true_eq_false, not_false_eq_true, Bool.and_true, Bool.true_and, Bool.and_self, ge_iff_le, Int.le_refl, if_true, if_false, reduceCtorEq, eq_self, BEq.rfl]
  · have hx : extI 29 (w % 256) = w % 256 := by
      unfold extI
      simp only [Int.emod_emod, if_true, if_false, show ¬ (29 : Int) = 27 by omega]
      exact if_neg g
    have k2 : ¬ Int.fdiv (w % 256) (2 ^ 7) = 1 := by
      rw [show (2 : Int) ^ 7 = 128 by decide, fdivE (by omega)]; omega
    simp only [f4, fs, b1, b2, ha', n1, n2, n3, n4, m1, m2, k1, k2, hx, l0, l1, Int.reduceLT, Int.reduceEq, decide_true, decide_false, cond_true, cond_false, allN_true, Nat.le_refl, Int.toNat_natCast, Nat.beq_refl, pk_and, pk_or, Bool.not_true, Bool.not_false, not_true_eq_false, not_false_eq_true, Bool.and_true, Bool.true_and, Bool.and_self, ge_iff_le, Int.le_refl, if_true, if_false, reduceCtorEq, eq_self, BEq.rfl]
theorem mk30 (w a : Int) (ha : 0 ≤ a) (h0 : 0 ≤ w) (h1 : w ≤ 4294967295) : Pure Try.prog 5 (cons [.int .u32 w, .int .i64 30, .int .i64 a]) (con (.bool true)) := by
  refine pureX (u := 80) (k := 20) mix TQok ?_
  rw [r_masks]
  simp only [pk_or, pk_and, pk3, pk4, cond_true]
  have f4 : formI 30 = 4 := rfl
  have fs : szI 30 = 1 := rfl
  have b1 : bypB a 1 true 30 a = true := decide_eq_true ⟨by omega, by omega, rfl, rfl, rfl⟩
  have b2 : bypB a 1 false 30 a = false := decide_eq_false fun h => by simp at h
  have ha' : ¬ a < 0 := by omega
  have n1 : Nat.min (Int.toNat (IntKind.u64.wrap (IntKind.i64.wrap (8 * 1)))) 32 = 8 := by decide
  have n2 : Nat.min (Int.toNat (IntKind.u64.wrap (IntKind.i64.wrap (IntKind.i64.wrap (8 * 1) - 1)))) 32 = 7 := by decide
  have n3 : 0 ≤ IntKind.u64.wrap (IntKind.i64.wrap (8 * 1)) := by decide
  have n4 : 0 ≤ IntKind.u64.wrap (IntKind.i64.wrap (IntKind.i64.wrap (8 * 1) - 1)) := by decide
  have m1 := msk1 (v := w) h0 h1
  have l0 : 0 ≤ w % 256 := by omega
  have l1 : w % 256 ≤ 4294967295 := by omega
  have m2 := msk1 (v := w % 256) l0 l1
  rw [Int.emod_emod] at m2
  have k1 : Int.fdiv (w % 256) (2 ^ 8) = 0 := by
    rw [show (2 : Int) ^ 8 = 256 by decide, fdivE (by omega)]; omega
  have hx : extI 30 (w % 256) = w % 256 := by simp [extI]
  simp only [f4, fs, b1, b2, ha', n1, n2, n3, n4, m1, m2, k1, hx, l0, l1, Int.reduceLT, Int.reduceEq, decide_true, decide_false, cond_true, cond_false, allN_true, Nat.le_refl, Int.toNat_natCast, Nat.beq_refl, pk_and, pk_or, Bool.not_true, Bool.not_false, not_true_eq_false, not_false_eq_true, Bool.and_true, Bool.true_and, Bool.and_self, ge_iff_le, Int.le_refl, if_true, if_false, reduceCtorEq, eq_self, BEq.rfl]
theorem masks_pure (w op a : Int) (h0 : 0 ≤ w) (h1 : w ≤ 4294967295) : Pure Try.prog 5 (cons [.int .u32 w, .int .i64 op, .int .i64 a]) (con (.bool true)) := by
  by_cases hf : formI op = 4
  · by_cases ha : 0 ≤ a
    · have ho := (form4 op).1 hf
      have ho2 : op = 26 ∨ op = 27 ∨ op = 28 ∨ op = 29 ∨ op = 30 := by omega
      rcases ho2 with rfl | rfl | rfl | rfl | rfl
      · exact mk26 w a ha h0 h1
      · exact mk27 w a ha h0 h1
      · exact mk28 w a ha h0 h1
      · exact mk29 w a ha h0 h1
      · exact mk30 w a ha h0 h1
    · refine pureX (u := 80) (k := 20) mix TQok ?_
      rw [r_masks]
      have ha' : a < 0 := by omega
      simp only [pk_or, pk_and, cond_true]
      simp only [hf, ha', decide_true, decide_false, cond_true, cond_false, allN_true, Nat.le_refl, Int.toNat_natCast, Nat.beq_refl, pk_and, pk_or, Bool.not_true, Bool.not_false, not_true_eq_false, not_false_eq_true, Bool.and_true, Bool.true_and, Bool.and_self, ge_iff_le, Int.le_refl, if_true, if_false, reduceCtorEq, eq_self, BEq.rfl]
  · refine pureX (u := 80) (k := 20) mix TQok ?_
    rw [r_masks]
    simp only [pk_or, pk_and, cond_true]
    simp only [hf, decide_true, decide_false, cond_true, cond_false, allN_true, Nat.le_refl, Int.toNat_natCast, Nat.beq_refl, pk_and, pk_or, Bool.not_true, Bool.not_false, not_true_eq_false, not_false_eq_true, Bool.and_true, Bool.true_and, Bool.and_self, ge_iff_le, Int.le_refl, if_true, if_false, reduceCtorEq, eq_self, BEq.rfl]
end Go.Proofs.Ytihhfmdihhmbdaa
namespace Go.Proofs.Ytihhfmdihhmbdaa.saqMasks
open Go.Ra Go.ChangeShapes Go.WideShapes Go.ChangeAt Go.RowKit
open Go.ChangeMaps (open_string shut_string)
theorem own : ownKnob Try.prog.godebug = none := by kernel_rfl
def Ts : List Ty := [.int .u32, .int .i64, .int .i64]
theorem law (xs : List AV) (h : Ty.hasL Ts xs) : Pure Try.prog 5 xs (.sc (.bool true)) := by
  have h0 := h
  simp only [Ts, Ty.hasL] at h0
  obtain ⟨w, _, rfl, hw, op, _, rfl, hop, a, _, rfl, ha, rfl⟩ := h0
  exact lawX h (masks_pure _ _ _ (has_u32 hw).1 (has_u32 hw).2)
set_option maxRecDepth 100000 in
theorem lifted (os : Os) (started : os.Started) (H : Type) (enc : TypeId × Value → H) :
    ReturnsInHanded {} Try.checked os 5 .any (Rows.saqMasksSpec.pre6 enc Try.prog Try.f5 Rows.saqMasksRow.domain false) (Rows.saqMasksSpec.post enc Try.prog Try.f5 false true false false) := by
  refine returnsInHanded_of_change_sized (C := Try.checked) own started (by kernel_rfl) Try.func5
    (ChangeSpec.witness6 (enc := enc) (C := Try.checked) false ⟨#[], #[.int .u32 0, .int .i64 0, .int .i64 0], []⟩ 8 (by kernel_rfl) (by kernel_rfl) (by kernel_rfl) (by kernel_rfl)) ?_
  intro W base args ds gs before hval hW hcnd hsz _
  refine law_post (s := Rows.saqMasksSpec) (n := 60) (Ts := Ts) (ts := [24, 3, 3]) (tb := 4) (by kernel_rfl) rfl rfl Try.underlying4 rfl (by kernel_rfl) (by kernel_rfl) (fun ds hds => ?_) law W base args ds gs before hval hW hsz
  match ds, hds with
  | [d1, d2, d3], _ => exact ⟨rfl, rfl, rfl⟩
theorem over : Rows.saqMasksRow.holds Try.pinned (OpenSpec.ofChange Rows.saqMasksSpec) :=
  OpenClaim.holds_of_wide 5 Try.f5 rfl rfl rfl rfl rfl rfl rfl ⟨rfl, rfl, rfl, rfl, rfl⟩ rfl rfl rfl rfl rfl (by kernel_rfl) Try.func5 (by kernel_rfl)
    (of_decide_eq_true (by kernel_rfl)) (by unfold Func.isWrapper; first | (rw [if_pos (by decide +kernel)]; kernel_rfl) | (rw [if_neg (by decide +kernel)]; exact ⟨rfl, rfl⟩))
    (fun os started H enc _ => lifted os started H enc)
theorem proved : Rows.SaqMasksSaid := over
end Go.Proofs.Ytihhfmdihhmbdaa.saqMasks
namespace Go.Proofs.Ytihhfmdihhmbdaa
/-- The row, under a short name, for the claim. -/
theorem saqMasks_holds : Rows.SaqMasksSaid := saqMasks.proved
end Go.Proofs.Ytihhfmdihhmbdaa
#print axioms Go.Proofs.Ytihhfmdihhmbdaa.saqMasks_holds
