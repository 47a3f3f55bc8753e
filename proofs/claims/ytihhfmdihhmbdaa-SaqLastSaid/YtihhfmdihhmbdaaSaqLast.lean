/- The entry that a load meets is the last that has a byte of it, and it meets none just if memory has all of its bytes behind all stores. -/
import Derived.Test.YtihhfmdihhmbdaaRows
import Derived.Test.YtihhfmdihhmbdaaSq2
import Derived.WalkKit
import Derived.ProofKit
import Derived.OpenShut
import Derived.ShutString
import Derived.ChangeOld
import Derived.Below
import Derived.SizedLaws
namespace Go.Proofs.Ytihhfmdihhmbdaa
open Go.Ra
set_option linter.unusedVariables false
set_option linter.unusedSimpArgs false
def sL (m : AV) (a s : Int) (i W : Nat) : XSt := ⟨[(0, rL m), (1, .int .i64 a), (2, .int .i64 s), (6, .bool false), (8, .int .i64 ((W : Int) - 1)), (9, .int .i64 i)], [], 0⟩
def sK (m : AV) (a s : Int) (i : Nat) (c : Int) (k : Nat) : XSt := ⟨[(0, rL m), (1, .int .i64 a), (2, .int .i64 s), (6, .bool false), (8, .int .i64 c), (9, .int .i64 i), (10, .int .i64 k)], [], 0⟩
theorem r_last0 (m : AV) (a s : Int) (r : AV) : (goS Try.prog TQ [(.tmp 6)] r (.run c_law17_SaqLast) [] ⟨envX 0 [rL m, .int .i64 a, .int .i64 s], [], 0⟩) =
    (bif bif decide ((↑(avN m) : Int) > (60 : Int)) then true else !decide ((↑(avN m) : Int) > (60 : Int)) then
  bif bif bif decide ((↑(avN m) : Int) > (60 : Int)) then true else decide (a < (0 : Int)) then true else !bif decide ((↑(avN m) : Int) > (60 : Int)) then true else decide (a < (0 : Int)) then
    bif
        bif bif bif decide ((↑(avN m) : Int) > (60 : Int)) then true else decide (a < (0 : Int)) then true else decide (a > (1000 : Int)) then true
        else !bif bif decide ((↑(avN m) : Int) > (60 : Int)) then true else decide (a < (0 : Int)) then true else decide (a > (1000 : Int)) then
      bif
          bif bif bif bif decide ((↑(avN m) : Int) > (60 : Int)) then true else decide (a < (0 : Int)) then true else decide (a > (1000 : Int)) then true else decide (s < (1 : Int)) then true
          else !bif bif bif decide ((↑(avN m) : Int) > (60 : Int)) then true else decide (a < (0 : Int)) then true else decide (a > (1000 : Int)) then true else decide (s < (1 : Int)) then
        bif
            bif bif bif bif decide ((↑(avN m) : Int) > (60 : Int)) then true else decide (a < (0 : Int)) then true else decide (a > (1000 : Int)) then true else decide (s < (1 : Int)) then true
            else decide (s > (8 : Int)) then
          con (XV.bool true) = r
        else
          LoopAt (Ok Try.prog (Tab.q TQ)) c_law17_SaqLast_l2
            (XSt.mk
              [((9 : Nat), XV.int IntKind.i64 (0 : Int)), ((8 : Nat), XV.int IntKind.i64 (-1 : Int)), ((6 : Nat), XV.bool false), ((0 : Nat), XV.row false (5 : Nat) (avN m) (o_el tEn m)),
                ((1 : Nat), XV.int IntKind.i64 a), ((2 : Nat), XV.int IntKind.i64 s)]
              [] (0 : Nat))
            [Frm.blk (0 : Nat), Frm.seq c_law17_SaqLast_p2] (finR [AR.tmp (6 : Nat)] r)
      else False
    else False
  else False
 else False) := by kernel_rfl
theorem r_last2 (m : AV) (a s : Int) (i W : Nat) (r : AV) (A : XSt → Prop) : (goS Try.prog TQ [(.tmp 6)] r (.run c_law17_SaqLast_l2) [.lp c_law17_SaqLast_l2 A, .blk 0, .seq c_law17_SaqLast_p2] (sL m a s i W)) =
    (bif decide ((↑i : Int) < (↑(avN m) : Int)) then
  bif decide ((↑i : Int) < (↑(avN m) : Int)) then
    bif bif decide ((↑i : Int) < (↑(avN m) : Int)) then true else !!decide (avI (avAt (avAt m (Int.toNat (↑i : Int))) (0 : Nat)) < (0 : Int)) then
      bif bif decide (avI (avAt (avAt m (Int.toNat (↑i : Int))) (0 : Nat)) < (0 : Int)) then true else !decide (avI (avAt (avAt m (Int.toNat (↑i : Int))) (0 : Nat)) < (0 : Int)) then
        bif
            bif decide ((↑i : Int) < (↑(avN m) : Int)) then true
            else !!bif decide (avI (avAt (avAt m (Int.toNat (↑i : Int))) (0 : Nat)) < (0 : Int)) then true else decide (avI (avAt (avAt m (Int.toNat (↑i : Int))) (0 : Nat)) > (1000 : Int)) then
          bif
              bif bif decide (avI (avAt (avAt m (Int.toNat (↑i : Int))) (0 : Nat)) < (0 : Int)) then true else decide (avI (avAt (avAt m (Int.toNat (↑i : Int))) (0 : Nat)) > (1000 : Int)) then true
              else !bif decide (avI (avAt (avAt m (Int.toNat (↑i : Int))) (0 : Nat)) < (0 : Int)) then true else decide (avI (avAt (avAt m (Int.toNat (↑i : Int))) (0 : Nat)) > (1000 : Int)) then
            bif
                bif decide ((↑i : Int) < (↑(avN m) : Int)) then true
                else
                  !!bif bif decide (avI (avAt (avAt m (Int.toNat (↑i : Int))) (0 : Nat)) < (0 : Int)) then true else decide (avI (avAt (avAt m (Int.toNat (↑i : Int))) (0 : Nat)) > (1000 : Int)) then
                        true
                      else decide (avI (avAt (avAt m (Int.toNat (↑i : Int))) ((0 : Nat) + (1 : Nat))) < (0 : Int)) then
              bif
                  bif
                      bif bif decide (avI (avAt (avAt m (Int.toNat (↑i : Int))) (0 : Nat)) < (0 : Int)) then true else decide (avI (avAt (avAt m (Int.toNat (↑i : Int))) (0 : Nat)) > (1000 : Int)) then
                        true
                      else decide (avI (avAt (avAt m (Int.toNat (↑i : Int))) ((0 : Nat) + (1 : Nat))) < (0 : Int)) then
                    true
                  else
                    !bif bif decide (avI (avAt (avAt m (Int.toNat (↑i : Int))) (0 : Nat)) < (0 : Int)) then true else decide (avI (avAt (avAt m (Int.toNat (↑i : Int))) (0 : Nat)) > (1000 : Int)) then
                        true
                      else decide (avI (avAt (avAt m (Int.toNat (↑i : Int))) ((0 : Nat) + (1 : Nat))) < (0 : Int)) then
                bif
                    bif
                        bif
                            bif decide (avI (avAt (avAt m (Int.toNat (↑i : Int))) (0 : Nat)) < (0 : Int)) then true
                            else decide (avI (avAt (avAt m (Int.toNat (↑i : Int))) (0 : Nat)) > (1000 : Int)) then
                          true
                        else decide (avI (avAt (avAt m (Int.toNat (↑i : Int))) ((0 : Nat) + (1 : Nat))) < (0 : Int)) then
                      true
                    else decide (avI (avAt (avAt m (Int.toNat (↑i : Int))) ((0 : Nat) + (1 : Nat))) > (8 : Int)) then
                  con (XV.bool true) = r
                else
                  LoopAt (Ok Try.prog (Tab.q TQ)) c_law17_SaqLast_l1
                    (XSt.mk
                      [((10 : Nat), XV.int IntKind.i64 (0 : Int)), ((0 : Nat), XV.row false (5 : Nat) (avN m) (o_el tEn m)), ((1 : Nat), XV.int IntKind.i64 a), ((2 : Nat), XV.int IntKind.i64 s),
                        ((6 : Nat), XV.bool false), ((8 : Nat), XV.int IntKind.i64 ((↑W : Int) - (1 : Int))), ((9 : Nat), XV.int IntKind.i64 (↑i : Int))]
                      [] (0 : Nat))
                    [Frm.blk (2 : Nat), Frm.blk (1 : Nat), Frm.seq c_law17_SaqLast_p1, Frm.lp c_law17_SaqLast_l2 A, Frm.blk (0 : Nat), Frm.seq c_law17_SaqLast_p2] (finR [AR.tmp (6 : Nat)] r)
              else False
            else False
          else False
        else False
      else False
    else False
  else False
 else
   bif decide (avN m ≤ (1000000 : Nat)) then
     bif allN (fun (i : Nat) => true) (avN m) then
       bif i64B a then
         bif i64B s then
           bif allN (fun (i : Nat) => i64B (avI (avAt (avAt m i) (0 : Nat))) && i64B (avI (avAt (avAt m i) ((0 : Nat) + (1 : Nat))))) (avN m) then
             bif
                 bif decide ((0 : Int) ≤ (↑W : Int) - (1 : Int)) then true
                 else !bif decide ((0 : Nat) < lstO a s (avN m) (o_el tEn m)) == decide ((↑W : Int) - (1 : Int) ≥ (0 : Int)) then !!decide ((0 : Nat) < lstO a s (avN m) (o_el tEn m)) else false then
               bif
                   bif decide ((↑W : Int) - (1 : Int) < (↑(avN m) : Int)) then true
                   else !bif decide ((0 : Nat) < lstO a s (avN m) (o_el tEn m)) == decide ((↑W : Int) - (1 : Int) ≥ (0 : Int)) then !!decide ((0 : Nat) < lstO a s (avN m) (o_el tEn m)) else false then
                 bif
                     bif decide ((0 : Nat) < lstO a s (avN m) (o_el tEn m)) == decide ((↑W : Int) - (1 : Int) ≥ (0 : Int)) then true
                     else !decide ((0 : Nat) < lstO a s (avN m) (o_el tEn m)) == decide ((↑W : Int) - (1 : Int) ≥ (0 : Int)) then
                   bif
                       bif
                           bif !decide ((0 : Nat) < lstO a s (avN m) (o_el tEn m)) then true
                           else
                             bif decide ((0 : Nat) < lstO a s (avN m) (o_el tEn m)) == decide ((↑W : Int) - (1 : Int) ≥ (0 : Int)) then !!decide ((0 : Nat) < lstO a s (avN m) (o_el tEn m))
                             else false then
                         true
                       else !decide ((0 : Nat) < lstO a s (avN m) (o_el tEn m)) == decide ((↑W : Int) - (1 : Int) ≥ (0 : Int)) then
                     bif
                         bif decide ((0 : Nat) < lstO a s (avN m) (o_el tEn m)) == decide ((↑W : Int) - (1 : Int) ≥ (0 : Int)) then
                           decide ((0 : Nat) < lstO a s (avN m) (o_el tEn m)) == decide ((↑W : Int) - (1 : Int) ≥ (0 : Int))
                         else true then
                       con
                           (XV.bool
                             (bif decide ((0 : Nat) < lstO a s (avN m) (o_el tEn m)) == decide ((↑W : Int) - (1 : Int) ≥ (0 : Int)) then
                               bif !decide ((0 : Nat) < lstO a s (avN m) (o_el tEn m)) then true
                               else
                                 decide (o_enI (0 : Nat) (lstO a s (avN m) (o_el tEn m)) (o_el tEn m) = avI (avAt (avAt m (Int.toNat ((↑W : Int) - (1 : Int)))) (0 : Nat))) &&
                                   (decide (o_enI (1 : Nat) (lstO a s (avN m) (o_el tEn m)) (o_el tEn m) = avI (avAt (avAt m (Int.toNat ((↑W : Int) - (1 : Int)))) ((0 : Nat) + (1 : Nat)))) &&
                                     (decide
                                         (o_enI (2 : Nat) (lstO a s (avN m) (o_el tEn m)) (o_el tEn m) = avI (avAt (avAt m (Int.toNat ((↑W : Int) - (1 : Int)))) ((0 : Nat) + (1 : Nat) + (1 : Nat)))) &&
                                       (o_enB (3 : Nat) (lstO a s (avN m) (o_el tEn m)) (o_el tEn m) ==
                                           avB (avAt (avAt m (Int.toNat ((↑W : Int) - (1 : Int)))) ((0 : Nat) + (1 : Nat) + (1 : Nat) + (1 : Nat))) &&
                                         (decide
                                             (o_enI (4 : Nat) (lstO a s (avN m) (o_el tEn m)) (o_el tEn m) =
                                               avI (avAt (avAt m (Int.toNat ((↑W : Int) - (1 : Int)))) ((0 : Nat) + (1 : Nat) + (1 : Nat) + (1 : Nat) + (1 : Nat)))) &&
                                           true))))
                             else false)) =
                         r
                     else False
                   else False
                 else False
               else False
             else False
           else False
         else False
       else False
     else False
   else False) := by kernel_rfl
theorem r_last1 (m : AV) (a s : Int) (i : Nat) (c : Int) (k : Nat) (r : AV) (A B : XSt → Prop) : (goS Try.prog TQ [(.tmp 6)] r (.run c_law17_SaqLast_l1) [.lp c_law17_SaqLast_l1 B, .blk 2, .blk 1, .seq c_law17_SaqLast_p1, .lp c_law17_SaqLast_l2 A, .blk 0, .seq c_law17_SaqLast_p2] (sK m a s i c k)) =
    (bif decide ((↑k : Int) < s) then
  bif decide ((↑i : Int) < (↑(avN m) : Int)) then
    bif bif decide ((↑i : Int) < (↑(avN m) : Int)) then true else !decide (IntKind.wrap IntKind.i64 (a + (↑k : Int)) ≥ avI (avAt (avAt m (Int.toNat (↑i : Int))) (0 : Nat))) then
      bif bif decide ((↑i : Int) < (↑(avN m) : Int)) then true else !decide (IntKind.wrap IntKind.i64 (a + (↑k : Int)) ≥ avI (avAt (avAt m (Int.toNat (↑i : Int))) (0 : Nat))) then
        bif
            bif decide (IntKind.wrap IntKind.i64 (a + (↑k : Int)) ≥ avI (avAt (avAt m (Int.toNat (↑i : Int))) (0 : Nat))) then
              decide (IntKind.wrap IntKind.i64 (a + (↑k : Int)) ≥ avI (avAt (avAt m (Int.toNat (↑i : Int))) (0 : Nat)))
            else true then
          bif
              bif decide (IntKind.wrap IntKind.i64 (a + (↑k : Int)) ≥ avI (avAt (avAt m (Int.toNat (↑i : Int))) (0 : Nat))) then
                decide
                  (IntKind.wrap IntKind.i64 (a + (↑k : Int)) <
                    IntKind.wrap IntKind.i64 (avI (avAt (avAt m (Int.toNat (↑i : Int))) (0 : Nat)) + avI (avAt (avAt m (Int.toNat (↑i : Int))) ((0 : Nat) + (1 : Nat)))))
              else false then
            B
              (XSt.mk
                [((10 : Nat), XV.int IntKind.i64 (IntKind.wrap IntKind.i64 ((↑k : Int) + (1 : Int)))), ((8 : Nat), XV.int IntKind.i64 (↑i : Int)),
                  ((0 : Nat), XV.row false (5 : Nat) (avN m) (o_el tEn m)), ((1 : Nat), XV.int IntKind.i64 a), ((2 : Nat), XV.int IntKind.i64 s), ((6 : Nat), XV.bool false),
                  ((9 : Nat), XV.int IntKind.i64 (↑i : Int))]
                [] (0 : Nat))
          else
            B
              (XSt.mk
                [((10 : Nat), XV.int IntKind.i64 (IntKind.wrap IntKind.i64 ((↑k : Int) + (1 : Int)))), ((0 : Nat), XV.row false (5 : Nat) (avN m) (o_el tEn m)), ((1 : Nat), XV.int IntKind.i64 a),
                  ((2 : Nat), XV.int IntKind.i64 s), ((6 : Nat), XV.bool false), ((8 : Nat), XV.int IntKind.i64 c), ((9 : Nat), XV.int IntKind.i64 (↑i : Int))]
                [] (0 : Nat))
        else False
      else False
    else False
  else False
 else
   A
     (XSt.mk
       [((9 : Nat), XV.int IntKind.i64 (IntKind.wrap IntKind.i64 ((↑i : Int) + (1 : Int)))), ((0 : Nat), XV.row false (5 : Nat) (avN m) (o_el tEn m)), ((1 : Nat), XV.int IntKind.i64 a),
         ((2 : Nat), XV.int IntKind.i64 s), ((6 : Nat), XV.bool false), ((8 : Nat), XV.int IntKind.i64 c)]
       [] (0 : Nat))) := by kernel_rfl
/-- One more than the last place with a byte of some, where some bytes of the i-th are looked at. -/
def wK (m : AV) (a s : Int) (i k : Nat) : Int := bif decide (1 ≤ k ∧ a < avI (avAt (avAt m i) 0) + avI (avAt (avAt m i) 1) ∧ avI (avAt (avAt m i) 0) < a + k ∧ 1 ≤ avI (avAt (avAt m i) 1)) then (i : Int) else ((lstO a s i (o_el tEn m) : Nat) : Int) - 1
theorem lst_next (m : AV) {a s : Int} {i : Nat} (h1 : 1 ≤ s) (h2 : s ≤ 8) (k : Nat) (hk : (k : Int) = s) : ((lstO a s (i + 1) (o_el tEn m) : Nat) : Int) - 1 = wK m a s i k := by
  have e : lstO a s (i + 1) (o_el tEn m) = bif u_ov a s (o_el tEn m i) then i + 1 else lstO a s i (o_el tEn m) := rfl
  have e2 : u_ov a s (o_el tEn m i) = ovlB (avI (avAt (avAt m i) 0)) (avI (avAt (avAt m i) 1)) a s := rfl
  rw [e, e2]
  unfold wK ovlB
  generalize avI (avAt (avAt m i) 0) = A
  generalize avI (avAt (avAt m i) 1) = S
  have hd : decide (S ≥ 1 ∧ s ≥ 1 ∧ ((A ≤ a ∧ a - A < S) ∨ (a ≤ A ∧ A - a < s))) = decide (1 ≤ k ∧ a < A + S ∧ A < a + k ∧ 1 ≤ S) := by
    rw [decide_eq_decide]
    omega
  rw [hd]
  cases decide (1 ≤ k ∧ a < A + S ∧ A < a + k ∧ 1 ≤ S) <;> simp only [cond_true, cond_false] <;> omega
theorem last_pure (m : AV) (a s : Int) (hr : allN (fun i => i64B (avI (avAt (avAt m i) 0)) && i64B (avI (avAt (avAt m i) (0 + 1)))) (avN m) = true) :
    Pure Try.prog 3 (cons [rL m, .int .i64 a, .int .i64 s]) (con (.bool true)) := by
  refine pureS mix TQok t_law17_SaqLast (Nat.le_of_ble_eq_true rfl) ?_
  rw [r_last0]
  simp only [pk_or, cond_true]
  refine cnd2 (fun h => trivial) (fun h => ?_)
  simp only [Bool.cond_true_left, Bool.cond_false_right, Bool.cond_true_right, Bool.cond_false_left, Bool.or_eq_false_iff, Bool.or_eq_true, Bool.and_eq_true, Bool.and_eq_false_iff, decide_eq_false_iff_not, decide_eq_true_eq, Bool.not_eq_true', Bool.not_eq_false', Bool.not_not, Int.not_lt, Int.not_le, gt_iff_lt, ge_iff_le] at h
  obtain ⟨⟨⟨⟨h1, h2⟩, h3⟩, h4⟩, h5⟩ := h
  refine loopS mix TQok (fun i : Nat => sL m a s i (lstO a s i (o_el tEn m))) (fun i => i ≤ avN m) (fun i => avN m - i) 0 (Nat.zero_le _) (weakN ⟨le_is rfl, le_is rfl, le_is rfl, le_is rfl, le_is rfl, le_is rfl, trivial⟩ trivial (Nat.le_refl _)) ?_
  intro i hi
  rw [r_last2]
  simp only [pk_or, pk_and, pk3, pk4, cond_true]
  have ia : i64B a = true := i64B_iff.2 (by omega)
  have is' : i64B s = true := i64B_iff.2 (by omega)
  have w1 : IntKind.i64.wrap ((i : Int) + 1) = ((i + 1 : Nat) : Int) := wrap_i64 (by omega) (by omega)
  by_cases hl : (i : Int) < ((avN m : Nat) : Int)
  · simp only [hl, Int.toNat_natCast, decide_true, cond_true]
    refine cnd2 (fun h => trivial) (fun h => ?_)
    simp only [Bool.cond_true_left, Bool.cond_false_right, Bool.cond_true_right, Bool.cond_false_left, Bool.or_eq_false_iff, Bool.or_eq_true, Bool.and_eq_true, Bool.and_eq_false_iff, decide_eq_false_iff_not, decide_eq_true_eq, Bool.not_eq_true', Bool.not_eq_false', Bool.not_not, Int.not_lt, Int.not_le, gt_iff_lt, ge_iff_le, Nat.zero_add] at h
    obtain ⟨⟨⟨g1, g2⟩, g3⟩, g4⟩ := h
    refine loopS mix TQok (fun k : Nat => sK m a s i (wK m a s i k) k) (fun k => (k : Int) ≤ s) (fun k => s.toNat - k) 0 (by omega) (weakN ⟨le_is rfl, le_is rfl, le_is rfl, le_is rfl, le_is (conI ?_), le_is rfl, le_is rfl, trivial⟩ trivial (Nat.le_refl _)) ?_
    · unfold wK
      rw [decide_eq_false (by omega)]
      rfl
    intro k hk
    rw [r_last1]
    have w2 : IntKind.i64.wrap ((k : Int) + 1) = ((k + 1 : Nat) : Int) := wrap_i64 (by omega) (by omega)
    have w3 : IntKind.i64.wrap (a + (k : Int)) = a + (k : Int) := wrap_i64 (by omega) (by omega)
    have w4 : IntKind.i64.wrap (avI (avAt (avAt m i) 0) + avI (avAt (avAt m i) 1)) = avI (avAt (avAt m i) 0) + avI (avAt (avAt m i) 1) := wrap_i64 (by omega) (by omega)
    by_cases hks : (k : Int) < s
    · simp only [hks, hl, w2, w3, w4, Nat.zero_add, pk_or, pk_and, Int.toNat_natCast, decide_true, cond_true]
      have hnx : wK m a s i (k + 1) = bif (bif decide (a + (k : Int) ≥ avI (avAt (avAt m i) 0)) then decide (a + (k : Int) < avI (avAt (avAt m i) 0) + avI (avAt (avAt m i) 1)) else false) then (i : Int) else wK m a s i k := by
        unfold wK
        generalize avI (avAt (avAt m i) 0) = A at *
        generalize avI (avAt (avAt m i) 1) = S at *
        by_cases c : A ≤ a + (k : Int) ∧ a + (k : Int) < A + S
        · have e1 : decide (a + (k : Int) ≥ A) = true := decide_eq_true c.1
          have e2 : decide (a + (k : Int) < A + S) = true := decide_eq_true c.2
          rw [e1, e2, decide_eq_true (by omega)]
          rfl
        · have e3 : (bif decide (a + (k : Int) ≥ A) then decide (a + (k : Int) < A + S) else false) = false := by
            rw [Bool.cond_false_right, Bool.and_eq_false_iff, decide_eq_false_iff_not, decide_eq_false_iff_not]
            omega
          rw [e3, cond_false]
          have e4 : decide (1 ≤ k + 1 ∧ a < A + S ∧ A < a + ((k + 1 : Nat) : Int) ∧ 1 ≤ S) = decide (1 ≤ k ∧ a < A + S ∧ A < a + (k : Int) ∧ 1 ≤ S) := by
            rw [decide_eq_decide]
            omega
          rw [e4]
      refine cnd2 (fun h => ?_) (fun h => ?_)
      · rw [h, cond_true] at hnx
        exact ⟨k + 1, by omega, weakN ⟨le_is rfl, le_is rfl, le_is rfl, le_is rfl, le_is (conI hnx.symm), le_is rfl, le_is rfl, trivial⟩ trivial (Nat.le_refl _), by omega⟩
      · rw [h, cond_false] at hnx
        exact ⟨k + 1, by omega, weakN ⟨le_is rfl, le_is rfl, le_is rfl, le_is rfl, le_is (conI hnx.symm), le_is rfl, le_is rfl, trivial⟩ trivial (Nat.le_refl _), by omega⟩
    · rw [decide_eq_false hks, cond_false, w1]
      exact ⟨i + 1, by omega, weakN ⟨le_is rfl, le_is rfl, le_is rfl, le_is rfl, le_is (conI (lst_next m (by omega) (by omega) k (by omega)).symm), le_is rfl, trivial⟩ trivial (Nat.le_refl _), by omega⟩
  · have hin : i = avN m := by omega
    subst hin
    have c2 : avN m ≤ 1000000 := by omega
    simp only [hl, c2, hr, ia, is', decide_true, decide_false, cond_true, cond_false, allN_true, Nat.le_refl, Int.toNat_natCast, Nat.beq_refl, pk_and, pk_or, Bool.not_true, Bool.not_false, not_true_eq_false, not_false_eq_true, Bool.and_true, Bool.true_and, Bool.and_self, ge_iff_le, Int.le_refl, if_true, if_false, reduceCtorEq, eq_self, BEq.rfl]
    have hL := (lstI_spec (fun i => u_ov a s (o_el tEn m i)) (avN m)).1
    have hL' : lstO a s (avN m) (o_el tEn m) ≤ avN m := hL
    generalize hLL : lstO a s (avN m) (o_el tEn m) = L at *
    by_cases h0 : 0 < L
    · have d1 : 0 ≤ (L : Int) - 1 := by omega
      have d2 : (L : Int) - 1 < ((avN m : Nat) : Int) := by omega
      have d3 : Int.toNat ((L : Int) - 1) = L - 1 := by omega
      have e0 : o_enI 0 L (o_el tEn m) = avI (avAt (avAt m (L - 1)) 0) := by simp only [o_enI, h0, decide_true, cond_true]; rfl
      have e1 : o_enI 1 L (o_el tEn m) = avI (avAt (avAt m (L - 1)) 1) := by simp only [o_enI, h0, decide_true, cond_true]; rfl
      have e2 : o_enI 2 L (o_el tEn m) = avI (avAt (avAt m (L - 1)) 2) := by simp only [o_enI, h0, decide_true, cond_true]; rfl
      have e3 : o_enB 3 L (o_el tEn m) = avB (avAt (avAt m (L - 1)) 3) := by simp only [o_enB, h0, decide_true, cond_true]; rfl
      have e4 : o_enI 4 L (o_el tEn m) = avI (avAt (avAt m (L - 1)) 4) := by simp only [o_enI, h0, decide_true, cond_true]; rfl
      simp only [h0, d1, d2, d3, e0, e1, e2, e3, e4, Nat.zero_add, Nat.reduceAdd, beq_self_eq_true, decide_true, decide_false, cond_true, cond_false, allN_true, Nat.le_refl, Int.toNat_natCast, Nat.beq_refl, pk_and, pk_or, Bool.not_true, Bool.not_false, not_true_eq_false, not_false_eq_true, Bool.and_true, Bool.true_and, Bool.and_self, ge_iff_le, Int.le_refl, if_true, if_false, reduceCtorEq, eq_self, BEq.rfl]
    · have d1 : ¬ 0 ≤ (L : Int) - 1 := by omega
      have d2 : (L : Int) - 1 < ((avN m : Nat) : Int) := by omega
      simp only [h0, d1, d2, beq_self_eq_true, decide_true, decide_false, cond_true, cond_false, allN_true, Nat.le_refl, Int.toNat_natCast, Nat.beq_refl, pk_and, pk_or, Bool.not_true, Bool.not_false, not_true_eq_false, not_false_eq_true, Bool.and_true, Bool.true_and, Bool.and_self, ge_iff_le, Int.le_refl, if_true, if_false, reduceCtorEq, eq_self, BEq.rfl]
end Go.Proofs.Ytihhfmdihhmbdaa
namespace Go.Proofs.Ytihhfmdihhmbdaa.saqLast
open Go.Ra Go.ChangeShapes Go.WideShapes Go.ChangeAt Go.RowKit
open Go.ChangeMaps (open_string shut_string)
theorem own : ownKnob Try.prog.godebug = none := by kernel_rfl
def Ts : List Ty := [.slice 5 32 tEn, .int .i64, .int .i64]
theorem law (xs : List AV) (h : Ty.hasL Ts xs) : Pure Try.prog 3 xs (.sc (.bool true)) := by
  have h0 := h
  simp only [Ts, Ty.hasL] at h0
  obtain ⟨m, _, rfl, hm, a, _, rfl, ha, s, _, rfl, hs, rfl⟩ := h0
  have hr : allN (fun i => i64B (avI (avAt (avAt m i) 0)) && i64B (avI (avAt (avAt m i) (0 + 1)))) (avN m) = true := by
    rw [allN_iff]
    intro i hi
    have hv := has_at hm hi
    generalize avAt m i = v at *
    simp only [tEn, Ty.has, Ty.hasL] at hv
    obtain ⟨_, rfl, a, _, rfl, ⟨x, rfl, hx⟩, b, _, rfl, ⟨y, rfl, hy⟩, _⟩ := hv
    rw [Bool.and_eq_true]
    exact ⟨i64B_iff.2 (has_i64 ⟨x, rfl, hx⟩), i64B_iff.2 (has_i64 ⟨y, rfl, hy⟩)⟩
  exact lawX h (last_pure m _ _ hr)
set_option maxRecDepth 100000 in
theorem lifted (os : Os) (started : os.Started) (H : Type) (enc : TypeId × Value → H) :
    ReturnsInHanded {} Try.checked os 3 .any (Rows.saqLastSpec.pre6 enc Try.prog Try.f3 Rows.saqLastRow.domain false) (Rows.saqLastSpec.post enc Try.prog Try.f3 false true false false) := by
  refine returnsInHanded_of_change_sized (C := Try.checked) own started (by kernel_rfl) Try.func3
    (ChangeSpec.witness6 (enc := enc) (C := Try.checked) false ⟨#[], #[.slice none 0 0, .int .i64 0, .int .i64 0], []⟩ 8 (by kernel_rfl) (by kernel_rfl) (by kernel_rfl) (by kernel_rfl)) ?_
  intro W base args ds gs before hval hW hcnd hsz _
  refine law_post (s := Rows.saqLastSpec) (n := 60) (Ts := Ts) (ts := [22, 3, 3]) (tb := 4) (by kernel_rfl) rfl rfl Try.underlying4 rfl (by kernel_rfl) (by kernel_rfl) (fun ds hds => ?_) law W base args ds gs before hval hW hsz
  match ds, hds with
  | [d1, d2, d3], _ => exact ⟨rfl, rfl, rfl⟩
theorem over : Rows.saqLastRow.holds Try.pinned (OpenSpec.ofChange Rows.saqLastSpec) :=
  OpenClaim.holds_of_wide 3 Try.f3 rfl rfl rfl rfl rfl rfl rfl ⟨rfl, rfl, rfl, rfl, rfl⟩ rfl rfl rfl rfl rfl (by kernel_rfl) Try.func3 (by kernel_rfl)
    (of_decide_eq_true (by kernel_rfl)) (by unfold Func.isWrapper; first | (rw [if_pos (by decide +kernel)]; kernel_rfl) | (rw [if_neg (by decide +kernel)]; exact ⟨rfl, rfl⟩))
    (fun os started H enc _ => lifted os started H enc)
theorem proved : Rows.SaqLastSaid := over
end Go.Proofs.Ytihhfmdihhmbdaa.saqLast
namespace Go.Proofs.Ytihhfmdihhmbdaa
/-- The row, under a short name, for the claim. -/
theorem saqLast_holds : Rows.SaqLastSaid := saqLast.proved
end Go.Proofs.Ytihhfmdihhmbdaa
#print axioms Go.Proofs.Ytihhfmdihhmbdaa.saqLast_holds
