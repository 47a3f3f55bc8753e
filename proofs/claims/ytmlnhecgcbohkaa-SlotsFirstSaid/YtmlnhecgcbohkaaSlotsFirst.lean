/- The first place of a tag is filled that is not yet, one that is full stays, and no more are reserved than may be. -/
import Derived.Test.YtmlnhecgcbohkaaRows
import Derived.Test.YtmlnhecgcbohkaaS4
import Derived.Test.YtmlnhecgcbohkaaRaZg
import Derived.WalkKit
import Derived.ProofKit
import Derived.OpenShut
import Derived.ShutString
import Derived.ChangeOld
import Derived.Below
import Derived.SizedLaws
namespace Go.Proofs.Ytmlnhecgcbohkaa
open Go.Ra
set_option linter.unusedVariables false
set_option linter.unusedSimpArgs false
def TSf : Tab := mkT qq (cl_law16 ++ cl_slots ++ cl_slices ++ cl_ref15) [(25, sameS 3 kSl u_eqSl), (21, fillSp), (22, fillSp), (19, resSp), (20, resSp), (23, popSp), (24, popSp)] (gl_slices ++ gl_ref15)
def o_sl0 (_ : Nat) : XV := .agg 3 [.int .i64 7, .bool false, .int .u32 0]
def o_sl2 (w : Int) (j i : Nat) : XV := .agg 3 [.int .i64 7, .bool (decide (i < j)), .int .u32 (bif decide (i < j) then IntKind.u32.wrap (w + IntKind.u32.wrap (i : Int)) else 0)]
abbrev sF1 (n many w v : Int) (d i : Nat) : XSt := ⟨[(0, .int .i64 n), (1, .int .i64 many), (2, .int .u32 w), (3, .int .u32 v), (10, .row false 3 d o_sl0), (11, .int .i64 d), (12, .int .i64 i)], [], 0⟩
abbrev sF2 (w v : Int) (d j : Nat) : XSt := ⟨[(2, .int .u32 w), (3, .int .u32 v), (10, .row false 3 d (o_sl2 w j)), (11, .int .i64 d), (15, .int .i64 j)], [], 0⟩
theorem TSfok : TabOk Try.prog TSf := mkT_ok (((clok_law16.app clok_slots).app clok_slices).app clok_ref15) ⟨sp_law16_same, sp_fill, sp_rfill, sp_res, sp_rres, sp_pop, sp_rpop, trivial⟩ (glok_slices.app glok_ref15)
theorem r_first1 (n many w v : Int) (r : AV) : (goS Try.prog TSf [(.tmp 8)] r (.run c_law16_SlotsFirst) [] ⟨envX 0 [.int .i64 n, .int .i64 many, .int .u32 w, .int .u32 v], [], 0⟩) =
    (bif bif decide (n < (1 : Int)) then true else !decide (n < (1 : Int)) then
  bif bif bif decide (n < (1 : Int)) then true else decide (n > (20 : Int)) then true else !bif decide (n < (1 : Int)) then true else decide (n > (20 : Int)) then
    bif
        bif bif bif decide (n < (1 : Int)) then true else decide (n > (20 : Int)) then true else decide (many < (0 : Int)) then true
        else !bif bif decide (n < (1 : Int)) then true else decide (n > (20 : Int)) then true else decide (many < (0 : Int)) then
      bif bif bif bif decide (n < (1 : Int)) then true else decide (n > (20 : Int)) then true else decide (many < (0 : Int)) then true else decide (many > (30 : Int)) then con (XV.bool true) = r
      else
        LoopAt (Ok Try.prog (Tab.q TSf)) c_law16_SlotsFirst_l1
          (XSt.mk
            [((12 : Nat), XV.int IntKind.i64 (0 : Int)), ((11 : Nat), XV.int IntKind.i64 (0 : Int)), ((10 : Nat), XV.row true (0 : Nat) (0 : Nat) fun (x : Nat) => XV.unk), ((8 : Nat), XV.bool false),
              ((0 : Nat), XV.int IntKind.i64 n), ((1 : Nat), XV.int IntKind.i64 many), ((2 : Nat), XV.int IntKind.u32 w), ((3 : Nat), XV.int IntKind.u32 v)]
            [] (0 : Nat))
          [Frm.blk (0 : Nat), Frm.seq c_law16_SlotsFirst_p2] (finR [AR.tmp (8 : Nat)] r)
    else False
  else False
 else False) := by kernel_rfl
theorem r_first2 (n many w v : Int) (d i : Nat) (r : AV) (A : XSt → Prop) : (goS Try.prog TSf [(.tmp 8)] r (.run c_law16_SlotsFirst_l1) [.lp c_law16_SlotsFirst_l1 A, .blk 0, .seq c_law16_SlotsFirst_p2] (sF1 n many w v d i)) =
    (bif decide ((↑i : Int) < many) then
  bif decide (d ≤ (1000000 : Nat)) then
    bif allN (fun (i : Nat) => true) d then
      bif !(!decide ((↑d : Int) ≥ n)) == decide ((↑d : Int) < n) then con (XV.bool false) = r
      else
        bif !decide ((↑d : Int) ≥ n) then
          A
            (XSt.mk
              [((12 : Nat), XV.int IntKind.i64 (IntKind.wrap IntKind.i64 ((↑i : Int) + (1 : Int)))),
                ((10 : Nat), XV.row false (3 : Nat) (bif decide ((↑d : Int) ≥ n) then d else d + (1 : Nat)) (o_res d o_sl0 (7 : Int))),
                ((11 : Nat), XV.int IntKind.i64 (IntKind.wrap IntKind.i64 ((↑d : Int) + (1 : Int)))), ((0 : Nat), XV.int IntKind.i64 n), ((1 : Nat), XV.int IntKind.i64 many),
                ((2 : Nat), XV.int IntKind.u32 w), ((3 : Nat), XV.int IntKind.u32 v)]
              [] (0 : Nat))
        else
          A
            (XSt.mk
              [((12 : Nat), XV.int IntKind.i64 (IntKind.wrap IntKind.i64 ((↑i : Int) + (1 : Int)))),
                ((10 : Nat), XV.row false (3 : Nat) (bif decide ((↑d : Int) ≥ n) then d else d + (1 : Nat)) (o_res d o_sl0 (7 : Int))), ((0 : Nat), XV.int IntKind.i64 n),
                ((1 : Nat), XV.int IntKind.i64 many), ((2 : Nat), XV.int IntKind.u32 w), ((3 : Nat), XV.int IntKind.u32 v), ((11 : Nat), XV.int IntKind.i64 (↑d : Int))]
              [] (0 : Nat))
    else False
  else False
 else
   LoopAt (Ok Try.prog (Tab.q TSf)) c_law16_SlotsFirst_l2
     (XSt.mk
       [((15 : Nat), XV.int IntKind.i64 (0 : Int)), ((2 : Nat), XV.int IntKind.u32 w), ((3 : Nat), XV.int IntKind.u32 v), ((10 : Nat), XV.row false (3 : Nat) d o_sl0),
         ((11 : Nat), XV.int IntKind.i64 (↑d : Int))]
       [] (0 : Nat))
     [Frm.blk (2 : Nat), Frm.seq c_law16_SlotsFirst_p1] (finR [AR.tmp (8 : Nat)] r)) := by kernel_rfl
theorem r_first3 (w v : Int) (d j : Nat) (r : AV) (A : XSt → Prop) : (goS Try.prog TSf [(.tmp 8)] r (.run c_law16_SlotsFirst_l2) [.lp c_law16_SlotsFirst_l2 A, .blk 2, .seq c_law16_SlotsFirst_p1] (sF2 w v d j)) =
    (bif decide ((↑j : Int) < (↑d : Int)) then
  bif decide (d ≤ (1000000 : Nat)) then
    bif allN (fun (i : Nat) => true) d then
      bif bif !decide (fstOpen (7 : Int) d (o_sl2 w j) < d) then true else !!decide (fstOpen (7 : Int) d (o_sl2 w j) < d) then
        bif bif decide ((↑j : Int) < (↑d : Int)) then true else !!bif !decide (fstOpen (7 : Int) d (o_sl2 w j) < d) then true else decide ¬(↑d : Int) = (↑d : Int) then
          bif
              bif bif !decide (fstOpen (7 : Int) d (o_sl2 w j) < d) then true else decide ¬(↑d : Int) = (↑d : Int) then true
              else !bif !decide (fstOpen (7 : Int) d (o_sl2 w j) < d) then true else decide ¬(↑d : Int) = (↑d : Int) then
            bif
                bif decide ((↑j : Int) < (↑d : Int)) then true
                else
                  !!bif bif !decide (fstOpen (7 : Int) d (o_sl2 w j) < d) then true else decide ¬(↑d : Int) = (↑d : Int) then true
                      else !bif Nat.beq j (fstOpen (7 : Int) d (o_sl2 w j)) then true else decide (j < j) then
              bif
                  bif
                      bif bif !decide (fstOpen (7 : Int) d (o_sl2 w j) < d) then true else decide ¬(↑d : Int) = (↑d : Int) then true
                      else !bif Nat.beq j (fstOpen (7 : Int) d (o_sl2 w j)) then true else decide (j < j) then
                    true
                  else
                    !bif bif !decide (fstOpen (7 : Int) d (o_sl2 w j) < d) then true else decide ¬(↑d : Int) = (↑d : Int) then true
                      else !bif Nat.beq j (fstOpen (7 : Int) d (o_sl2 w j)) then true else decide (j < j) then
                bif
                    bif decide ((0 : Int) ≤ IntKind.wrap IntKind.i64 ((↑j : Int) + (1 : Int))) then true
                    else
                      !bif
                            !bif
                                  bif bif !decide (fstOpen (7 : Int) d (o_sl2 w j) < d) then true else decide ¬(↑d : Int) = (↑d : Int) then true
                                  else !bif Nat.beq j (fstOpen (7 : Int) d (o_sl2 w j)) then true else decide (j < j) then
                                true
                              else
                                decide
                                  ¬(bif Nat.beq j (fstOpen (7 : Int) d (o_sl2 w j)) then IntKind.wrap IntKind.u32 (w + IntKind.wrap IntKind.u32 (↑j : Int))
                                      else bif decide (j < j) then IntKind.wrap IntKind.u32 (w + IntKind.wrap IntKind.u32 (↑j : Int)) else (0 : Int)) =
                                      IntKind.wrap IntKind.u32 (w + IntKind.wrap IntKind.u32 (↑j : Int)) then
                          decide (IntKind.wrap IntKind.i64 ((↑j : Int) + (1 : Int)) < (↑d : Int))
                        else false then
                  bif
                      bif decide (IntKind.wrap IntKind.i64 ((↑j : Int) + (1 : Int)) < (↑d : Int)) then true
                      else
                        !bif
                              !bif
                                    bif bif !decide (fstOpen (7 : Int) d (o_sl2 w j) < d) then true else decide ¬(↑d : Int) = (↑d : Int) then true
                                    else !bif Nat.beq j (fstOpen (7 : Int) d (o_sl2 w j)) then true else decide (j < j) then
                                  true
                                else
                                  decide
                                    ¬(bif Nat.beq j (fstOpen (7 : Int) d (o_sl2 w j)) then IntKind.wrap IntKind.u32 (w + IntKind.wrap IntKind.u32 (↑j : Int))
                                        else bif decide (j < j) then IntKind.wrap IntKind.u32 (w + IntKind.wrap IntKind.u32 (↑j : Int)) else (0 : Int)) =
                                        IntKind.wrap IntKind.u32 (w + IntKind.wrap IntKind.u32 (↑j : Int)) then
                            decide (IntKind.wrap IntKind.i64 ((↑j : Int) + (1 : Int)) < (↑d : Int))
                          else false then
                    bif
                        bif
                            !bif
                                  bif bif !decide (fstOpen (7 : Int) d (o_sl2 w j) < d) then true else decide ¬(↑d : Int) = (↑d : Int) then true
                                  else !bif Nat.beq j (fstOpen (7 : Int) d (o_sl2 w j)) then true else decide (j < j) then
                                true
                              else
                                decide
                                  ¬(bif Nat.beq j (fstOpen (7 : Int) d (o_sl2 w j)) then IntKind.wrap IntKind.u32 (w + IntKind.wrap IntKind.u32 (↑j : Int))
                                      else bif decide (j < j) then IntKind.wrap IntKind.u32 (w + IntKind.wrap IntKind.u32 (↑j : Int)) else (0 : Int)) =
                                      IntKind.wrap IntKind.u32 (w + IntKind.wrap IntKind.u32 (↑j : Int)) then
                          true
                        else
                          !!bif
                                  bif bif !decide (fstOpen (7 : Int) d (o_sl2 w j) < d) then true else decide ¬(↑d : Int) = (↑d : Int) then true
                                  else !bif Nat.beq j (fstOpen (7 : Int) d (o_sl2 w j)) then true else decide (j < j) then
                                true
                              else
                                decide
                                  ¬(bif Nat.beq j (fstOpen (7 : Int) d (o_sl2 w j)) then IntKind.wrap IntKind.u32 (w + IntKind.wrap IntKind.u32 (↑j : Int))
                                      else bif decide (j < j) then IntKind.wrap IntKind.u32 (w + IntKind.wrap IntKind.u32 (↑j : Int)) else (0 : Int)) =
                                      IntKind.wrap IntKind.u32 (w + IntKind.wrap IntKind.u32 (↑j : Int)) then
                      bif
                          bif
                              bif decide (IntKind.wrap IntKind.i64 ((↑j : Int) + (1 : Int)) < (↑d : Int)) then
                                bif
                                    !bif
                                          bif bif !decide (fstOpen (7 : Int) d (o_sl2 w j) < d) then true else decide ¬(↑d : Int) = (↑d : Int) then true
                                          else !bif Nat.beq j (fstOpen (7 : Int) d (o_sl2 w j)) then true else decide (j < j) then
                                        true
                                      else
                                        decide
                                          ¬(bif Nat.beq j (fstOpen (7 : Int) d (o_sl2 w j)) then IntKind.wrap IntKind.u32 (w + IntKind.wrap IntKind.u32 (↑j : Int))
                                              else bif decide (j < j) then IntKind.wrap IntKind.u32 (w + IntKind.wrap IntKind.u32 (↑j : Int)) else (0 : Int)) =
                                              IntKind.wrap IntKind.u32 (w + IntKind.wrap IntKind.u32 (↑j : Int)) then
                                  decide (IntKind.wrap IntKind.i64 ((↑j : Int) + (1 : Int)) < (↑d : Int))
                                else false
                              else true then
                            true
                          else
                            !!bif
                                    bif bif !decide (fstOpen (7 : Int) d (o_sl2 w j) < d) then true else decide ¬(↑d : Int) = (↑d : Int) then true
                                    else !bif Nat.beq j (fstOpen (7 : Int) d (o_sl2 w j)) then true else decide (j < j) then
                                  true
                                else
                                  decide
                                    ¬(bif Nat.beq j (fstOpen (7 : Int) d (o_sl2 w j)) then IntKind.wrap IntKind.u32 (w + IntKind.wrap IntKind.u32 (↑j : Int))
                                        else bif decide (j < j) then IntKind.wrap IntKind.u32 (w + IntKind.wrap IntKind.u32 (↑j : Int)) else (0 : Int)) =
                                        IntKind.wrap IntKind.u32 (w + IntKind.wrap IntKind.u32 (↑j : Int)) then
                        bif
                            bif
                                bif
                                    bif bif !decide (fstOpen (7 : Int) d (o_sl2 w j) < d) then true else decide ¬(↑d : Int) = (↑d : Int) then true
                                    else !bif Nat.beq j (fstOpen (7 : Int) d (o_sl2 w j)) then true else decide (j < j) then
                                  true
                                else
                                  decide
                                    ¬(bif Nat.beq j (fstOpen (7 : Int) d (o_sl2 w j)) then IntKind.wrap IntKind.u32 (w + IntKind.wrap IntKind.u32 (↑j : Int))
                                        else bif decide (j < j) then IntKind.wrap IntKind.u32 (w + IntKind.wrap IntKind.u32 (↑j : Int)) else (0 : Int)) =
                                        IntKind.wrap IntKind.u32 (w + IntKind.wrap IntKind.u32 (↑j : Int)) then
                              true
                            else
                              !bif
                                    bif bif !decide (fstOpen (7 : Int) d (o_sl2 w j) < d) then true else decide ¬(↑d : Int) = (↑d : Int) then true
                                    else !bif Nat.beq j (fstOpen (7 : Int) d (o_sl2 w j)) then true else decide (j < j) then
                                  true
                                else
                                  decide
                                    ¬(bif Nat.beq j (fstOpen (7 : Int) d (o_sl2 w j)) then IntKind.wrap IntKind.u32 (w + IntKind.wrap IntKind.u32 (↑j : Int))
                                        else bif decide (j < j) then IntKind.wrap IntKind.u32 (w + IntKind.wrap IntKind.u32 (↑j : Int)) else (0 : Int)) =
                                        IntKind.wrap IntKind.u32 (w + IntKind.wrap IntKind.u32 (↑j : Int)) then
                          bif
                              bif
                                  bif
                                      bif bif !decide (fstOpen (7 : Int) d (o_sl2 w j) < d) then true else decide ¬(↑d : Int) = (↑d : Int) then true
                                      else !bif Nat.beq j (fstOpen (7 : Int) d (o_sl2 w j)) then true else decide (j < j) then
                                    true
                                  else
                                    decide
                                      ¬(bif Nat.beq j (fstOpen (7 : Int) d (o_sl2 w j)) then IntKind.wrap IntKind.u32 (w + IntKind.wrap IntKind.u32 (↑j : Int))
                                          else bif decide (j < j) then IntKind.wrap IntKind.u32 (w + IntKind.wrap IntKind.u32 (↑j : Int)) else (0 : Int)) =
                                          IntKind.wrap IntKind.u32 (w + IntKind.wrap IntKind.u32 (↑j : Int)) then
                                true
                              else
                                bif decide (IntKind.wrap IntKind.i64 ((↑j : Int) + (1 : Int)) < (↑d : Int)) then
                                  bif Nat.beq (Int.toNat (IntKind.wrap IntKind.i64 ((↑j : Int) + (1 : Int)))) (fstOpen (7 : Int) d (o_sl2 w j)) then true
                                  else decide (Int.toNat (IntKind.wrap IntKind.i64 ((↑j : Int) + (1 : Int))) < j)
                                else false then
                            con (XV.bool false) = r
                          else
                            A
                              (XSt.mk
                                [((15 : Nat), XV.int IntKind.i64 (IntKind.wrap IntKind.i64 ((↑j : Int) + (1 : Int)))),
                                  ((10 : Nat), XV.row false (3 : Nat) d (o_fill (fstOpen (7 : Int) d (o_sl2 w j)) (o_sl2 w j) (IntKind.wrap IntKind.u32 (w + IntKind.wrap IntKind.u32 (↑j : Int))))),
                                  ((2 : Nat), XV.int IntKind.u32 w), ((3 : Nat), XV.int IntKind.u32 v), ((11 : Nat), XV.int IntKind.i64 (↑d : Int))]
                                [] (0 : Nat))
                        else False
                      else False
                    else False
                  else False
                else False
              else False
            else False
          else False
        else False
      else False
    else False
  else False
 else
   bif decide (d ≤ (1000000 : Nat)) then
     bif allN (fun (i : Nat) => true) d then
       bif decide (d ≤ (1000000 : Nat)) then
         bif allN (fun (i : Nat) => true) d then
           bif bif !decide (fstOpen (7 : Int) d (o_sl2 w j) < d) then !decide (fstOpen (7 : Int) d (o_sl2 w j) < d) else true then
             bif bif decide (d ≤ (4611686018427387904 : Nat)) then true else !bif !decide (fstOpen (7 : Int) d (o_sl2 w j) < d) then !decide (fstOpen (8 : Int) d (o_sl2 w j) < d) else false then
               bif bif allN (fun (i : Nat) => true) d then true else !bif !decide (fstOpen (7 : Int) d (o_sl2 w j) < d) then !decide (fstOpen (8 : Int) d (o_sl2 w j) < d) else false then
                 bif bif allN (fun (i : Nat) => true) d then true else !bif !decide (fstOpen (7 : Int) d (o_sl2 w j) < d) then !decide (fstOpen (8 : Int) d (o_sl2 w j) < d) else false then
                   bif
                       bif bif !decide (fstOpen (7 : Int) d (o_sl2 w j) < d) then !decide (fstOpen (8 : Int) d (o_sl2 w j) < d) else false then
                         bif !decide (fstOpen (7 : Int) d (o_sl2 w j) < d) then !decide (fstOpen (8 : Int) d (o_sl2 w j) < d) else false
                       else true then
                     con
                         (XV.bool
                           (bif bif !decide (fstOpen (7 : Int) d (o_sl2 w j) < d) then !decide (fstOpen (8 : Int) d (o_sl2 w j) < d) else false then
                             eqRow u_eqSl d d (o_fill (fstOpen (7 : Int) d (o_sl2 w j)) (o_sl2 w j) v) (o_sl2 w j)
                           else false)) =
                       r
                   else False
                 else False
               else False
             else False
           else False
         else False
       else False
     else False
   else False) := by kernel_rfl
theorem open_sl2 (w : Int) (j d : Nat) (hj : j ≤ d) : fstOpen 7 d (o_sl2 w j) = j := by
  have hlow : ∀ k, k < j → u_open 7 (o_sl2 w j k) = false := fun k hk => by simp [u_open, o_sl2, fld, nth, asN, asB, hk]
  by_cases h : j < d
  · exact fstI_is h (by simp [u_open, o_sl2, fld, nth, asN, asB]) hlow
  · have : j = d := by omega
    subst this
    exact fstI_none hlow
theorem open_sl2' (w : Int) (j d : Nat) : fstOpen 8 d (o_sl2 w j) = d := fstI_none fun k hk => by simp [u_open, o_sl2, fld, nth, asN, asB]
theorem first_pure (n many w v : Int) : Pure Try.prog 7 (cons [.int .i64 n, .int .i64 many, .int .u32 w, .int .u32 v]) (con (.bool true)) := by
  refine pureS mix TSfok t_law16_SlotsFirst (Nat.le_of_ble_eq_true rfl) ?_
  rw [r_first1]
  simp only [pk_or, cond_true]
  refine cnd2 (fun h => trivial) (fun h => ?_)
  simp only [Bool.cond_true_left, Bool.cond_false_right, Bool.cond_true_right, Bool.cond_false_left, Bool.or_eq_false_iff, Bool.or_eq_true, Bool.and_eq_true, Bool.and_eq_false_iff, decide_eq_false_iff_not, decide_eq_true_eq, Bool.not_eq_true', Bool.not_eq_false', Bool.not_not, Int.not_lt, Int.not_le, gt_iff_lt, ge_iff_le] at h
  obtain ⟨⟨⟨h1, h2⟩, h3⟩, h4⟩ := h
  refine loopS mix TSfok (fun i : Nat => sF1 n many w v (min i n.toNat) i) (fun i => (i : Int) ≤ many) (fun i => many.toNat - i) 0 h3 (weakN ⟨le_is rfl, le_is rfl, le_is rfl, le_is rfl, le_row (by omega) (.inr rfl) (fun i hi => by omega), le_is (conI (by omega)), le_is rfl, trivial⟩ trivial (Nat.le_refl _)) ?_
  intro i hi
  rw [r_first2]
  have hd : min i n.toNat ≤ 20 := by omega
  have hd' : min i n.toNat ≤ i ∧ (min i n.toNat = n.toNat ∨ min i n.toNat = i ∧ i < n.toNat) := by omega
  have hd2 : min (i + 1) n.toNat = if min i n.toNat = n.toNat then min i n.toNat else min i n.toNat + 1 := by split <;> omega
  generalize min i n.toNat = d at *
  have h5 : d ≤ 1000000 := by omega
  by_cases hlt : (i : Int) < many
  · by_cases hdn : (d : Int) ≥ n
    · have h6 : ¬ (d : Int) < n := by omega
      rw [if_pos (by omega)] at hd2
      simp only [hlt, h5, hdn, h6, decide_true, decide_false, cond_true, cond_false, allN_true, Nat.le_refl, Int.toNat_natCast, Nat.beq_refl, pk_and, pk_or, Bool.not_true, Bool.not_false, not_true_eq_false, not_false_eq_true, Bool.and_true, Bool.true_and, Bool.and_self, ge_iff_le, Int.le_refl, if_true, if_false, reduceCtorEq, eq_self, BEq.rfl]
      refine ⟨i + 1, by omega, weakN ⟨le_is rfl, le_is rfl, le_is rfl, le_is rfl, le_row hd2.symm (.inl rfl) (fun k hk => ?_), le_is (conI (by rw [hd2])), le_is (conI ?_), trivial⟩ trivial (Nat.le_refl _), by omega⟩
      · simp only [o_res, show k < d from hk, decide_true, decide_false, cond_true, cond_false, allN_true, Nat.le_refl, Int.toNat_natCast, Nat.beq_refl, pk_and, pk_or, Bool.not_true, Bool.not_false, not_true_eq_false, not_false_eq_true, Bool.and_true, Bool.true_and, Bool.and_self, ge_iff_le, Int.le_refl, if_true, if_false, reduceCtorEq, eq_self, BEq.rfl]; rfl
      · rw [wrap_i64 (by omega) (by omega)]; rfl
    · have h6 : (d : Int) < n := by omega
      rw [if_neg (by omega)] at hd2
      simp only [hlt, h5, hdn, h6, decide_true, decide_false, cond_true, cond_false, allN_true, Nat.le_refl, Int.toNat_natCast, Nat.beq_refl, pk_and, pk_or, Bool.not_true, Bool.not_false, not_true_eq_false, not_false_eq_true, Bool.and_true, Bool.true_and, Bool.and_self, ge_iff_le, Int.le_refl, if_true, if_false, reduceCtorEq, eq_self, BEq.rfl]
      refine ⟨i + 1, by omega, weakN ⟨le_is rfl, le_is rfl, le_is rfl, le_is rfl, le_row hd2.symm (.inl rfl) (fun k hk => ?_), le_is (conI ?_), le_is (conI ?_), trivial⟩ trivial (Nat.le_refl _), by omega⟩
      · by_cases hkd : k < d
        · simp only [o_res, hkd, decide_true, decide_false, cond_true, cond_false, allN_true, Nat.le_refl, Int.toNat_natCast, Nat.beq_refl, pk_and, pk_or, Bool.not_true, Bool.not_false, not_true_eq_false, not_false_eq_true, Bool.and_true, Bool.true_and, Bool.and_self, ge_iff_le, Int.le_refl, if_true, if_false, reduceCtorEq, eq_self, BEq.rfl]; rfl
        · simp only [o_res, hkd, decide_true, decide_false, cond_true, cond_false, allN_true, Nat.le_refl, Int.toNat_natCast, Nat.beq_refl, pk_and, pk_or, Bool.not_true, Bool.not_false, not_true_eq_false, not_false_eq_true, Bool.and_true, Bool.true_and, Bool.and_self, ge_iff_le, Int.le_refl, if_true, if_false, reduceCtorEq, eq_self, BEq.rfl]; rfl
      · rw [wrap_i64 (by omega) (by omega), hd2]; rfl
      · rw [wrap_i64 (by omega) (by omega)]; rfl
  · simp only [hlt, decide_true, decide_false, cond_true, cond_false, allN_true, Nat.le_refl, Int.toNat_natCast, Nat.beq_refl, pk_and, pk_or, Bool.not_true, Bool.not_false, not_true_eq_false, not_false_eq_true, Bool.and_true, Bool.true_and, Bool.and_self, ge_iff_le, Int.le_refl, if_true, if_false, reduceCtorEq, eq_self, BEq.rfl]
    refine loopS mix TSfok (fun j : Nat => sF2 w v d j) (fun j => j ≤ d) (fun j => d - j) 0 (Nat.zero_le _) (weakN ⟨le_is rfl, le_is rfl, le_is (con_row fun k hk => rfl), le_is rfl, le_is rfl, trivial⟩ trivial (Nat.le_refl _)) ?_
    intro j hj
    rw [r_first3]
    have h7 := open_sl2 w j d hj
    have h8 := open_sl2' w j d
    by_cases hjd : j < d
    · have h9 : (j : Int) < d := by omega
      have h10 : IntKind.i64.wrap ((j : Int) + 1) = (j : Int) + 1 := wrap_i64 (by omega) (by omega)
      have h11 : ((j : Int) + 1).toNat = j + 1 := by omega
      have h12 : Nat.beq (j + 1) j = false := beq_ne (by omega)
      have h13 : ¬ j + 1 < j := by omega
      have h14 : (0 : Int) ≤ (j : Int) + 1 := by omega
      simp only [hjd, h5, h7, h9, h10, h11, h12, h13, h14, pk_or, Nat.lt_irrefl, decide_true, decide_false, cond_true, cond_false, allN_true, Nat.le_refl, Int.toNat_natCast, Nat.beq_refl, pk_and, pk_or, Bool.not_true, Bool.not_false, not_true_eq_false, not_false_eq_true, Bool.and_true, Bool.true_and, Bool.and_self, ge_iff_le, Int.le_refl, if_true, if_false, reduceCtorEq, eq_self, BEq.rfl]
      have h15 : (bif decide ((j : Int) + 1 < d) then false else false) = false := by cases decide ((j : Int) + 1 < d) <;> rfl
      simp only [h15, cond_false]
      refine ⟨j + 1, by omega, weakN ⟨le_is rfl, le_is rfl, le_is (con_row fun k hk => ?_), le_is rfl, le_is (conI (by omega)), trivial⟩ trivial (Nat.le_refl _), by omega⟩
      by_cases hkj : k = j
      · subst hkj
        simp only [o_fill, o_sl2, fld, nth, asN, asB, Nat.lt_succ_self, decide_true, decide_false, cond_true, cond_false, allN_true, Nat.le_refl, Int.toNat_natCast, Nat.beq_refl, pk_and, pk_or, Bool.not_true, Bool.not_false, not_true_eq_false, not_false_eq_true, Bool.and_true, Bool.true_and, Bool.and_self, ge_iff_le, Int.le_refl, if_true, if_false, reduceCtorEq, eq_self, BEq.rfl]
      · by_cases hkj2 : k < j
        · simp only [o_fill, o_sl2, fld, nth, asN, asB, hkj2, show k < j + 1 by omega, beq_ne hkj, decide_true, decide_false, cond_true, cond_false, allN_true, Nat.le_refl, Int.toNat_natCast, Nat.beq_refl, pk_and, pk_or, Bool.not_true, Bool.not_false, not_true_eq_false, not_false_eq_true, Bool.and_true, Bool.true_and, Bool.and_self, ge_iff_le, Int.le_refl, if_true, if_false, reduceCtorEq, eq_self, BEq.rfl]
        · simp only [o_fill, o_sl2, fld, nth, asN, asB, hkj2, show ¬ k < j + 1 by omega, beq_ne hkj, decide_true, decide_false, cond_true, cond_false, allN_true, Nat.le_refl, Int.toNat_natCast, Nat.beq_refl, pk_and, pk_or, Bool.not_true, Bool.not_false, not_true_eq_false, not_false_eq_true, Bool.and_true, Bool.true_and, Bool.and_self, ge_iff_le, Int.le_refl, if_true, if_false, reduceCtorEq, eq_self, BEq.rfl]
    · have h9 : ¬ (j : Int) < d := by omega
      have h10 : j = d := by omega
      simp only [hjd, h5, h7, h8, h9, Nat.lt_irrefl, decide_true, decide_false, cond_true, cond_false, allN_true, Nat.le_refl, Int.toNat_natCast, Nat.beq_refl, pk_and, pk_or, Bool.not_true, Bool.not_false, not_true_eq_false, not_false_eq_true, Bool.and_true, Bool.true_and, Bool.and_self, ge_iff_le, Int.le_refl, if_true, if_false, reduceCtorEq, eq_self, BEq.rfl]
      have h15 : d ≤ 4611686018427387904 := by omega
      simp only [h15, decide_true, decide_false, cond_true, cond_false, allN_true, Nat.le_refl, Int.toNat_natCast, Nat.beq_refl, pk_and, pk_or, Bool.not_true, Bool.not_false, not_true_eq_false, not_false_eq_true, Bool.and_true, Bool.true_and, Bool.and_self, ge_iff_le, Int.le_refl, if_true, if_false, reduceCtorEq, eq_self, BEq.rfl]
      have h16 : eqRow u_eqSl d d (o_fill j (o_sl2 w j) v) (o_sl2 w j) = true := by
        refine eqR_self fun k hk => ?_
        have : ¬ k = j := by omega
        simp only [o_fill, o_sl2, fld, nth, asN, asB, beq_ne this, u_eqSl, decide_true, decide_false, cond_true, cond_false, allN_true, Nat.le_refl, Int.toNat_natCast, Nat.beq_refl, pk_and, pk_or, Bool.not_true, Bool.not_false, not_true_eq_false, not_false_eq_true, Bool.and_true, Bool.true_and, Bool.and_self, ge_iff_le, Int.le_refl, if_true, if_false, reduceCtorEq, eq_self, BEq.rfl, decide_eq_true_eq]
      rw [h16]
end Go.Proofs.Ytmlnhecgcbohkaa
namespace Go.Proofs.Ytmlnhecgcbohkaa.slotsFirst
open Go.Ra Go.ChangeShapes Go.WideShapes Go.ChangeAt Go.RowKit
open Go.ChangeMaps (open_string shut_string)
theorem own : ownKnob Try.prog.godebug = none := by kernel_rfl
def Ts : List Ty := [.int .i64, .int .i64, .int .u32, .int .u32]
theorem law (xs : List AV) (h : Ty.hasL Ts xs) : Pure Try.prog 7 xs (.sc (.bool true)) := by
  have h0 := h
  simp only [Ts, Ty.hasL] at h0
  obtain ⟨a, r, rfl, ha, n, s, rfl, _, t, u, rfl, _, w, v, rfl, _, rfl⟩ := h0
  exact lawX h (first_pure _ _ _ _)
set_option maxRecDepth 100000 in
theorem lifted (os : Os) (started : os.Started) (H : Type) (enc : TypeId × Value → H) :
    ReturnsInHanded {} Try.checked os 7 .any (Rows.slotsFirstSpec.pre6 enc Try.prog Try.f7 Rows.slotsFirstRow.domain false) (Rows.slotsFirstSpec.post enc Try.prog Try.f7 false true false false) := by
  refine returnsInHanded_of_change_sized (C := Try.checked) own started (by kernel_rfl) Try.func7
    (ChangeSpec.witness6 (enc := enc) (C := Try.checked) false ⟨#[], #[.int .i64 0, .int .i64 0, .int .u32 0, .int .u32 0], []⟩ 8 (by kernel_rfl) (by kernel_rfl) (by kernel_rfl) (by kernel_rfl)) ?_
  intro W base args ds gs before hval hW hcnd hsz _
  refine law_post (s := Rows.slotsFirstSpec) (n := 60) (Ts := Ts) (ts := [3, 3, 31, 31]) (tb := 4) (by kernel_rfl) rfl rfl Try.underlying4 rfl (by kernel_rfl) (by kernel_rfl) (fun ds hds => ?_) law W base args ds gs before hval hW hsz
  match ds, hds with
  | [d1, d2, d3, d4], _ => exact ⟨rfl, rfl, rfl⟩
theorem over : Rows.slotsFirstRow.holds Try.pinned (OpenSpec.ofChange Rows.slotsFirstSpec) :=
  OpenClaim.holds_of_wide 7 Try.f7 rfl rfl rfl rfl rfl rfl rfl ⟨rfl, rfl, rfl, rfl, rfl⟩ rfl rfl rfl rfl rfl (by kernel_rfl) Try.func7 (by kernel_rfl)
    (of_decide_eq_true (by kernel_rfl)) (by unfold Func.isWrapper; first | (rw [if_pos (by decide +kernel)]; kernel_rfl) | (rw [if_neg (by decide +kernel)]; exact ⟨rfl, rfl⟩))
    (fun os started H enc _ => lifted os started H enc)
theorem proved : Rows.SlotsFirstSaid := over
end Go.Proofs.Ytmlnhecgcbohkaa.slotsFirst
namespace Go.Proofs.Ytmlnhecgcbohkaa
/-- The row, under a short name, for the claim. -/
theorem slotsFirst_holds : Rows.SlotsFirstSaid := slotsFirst.proved
end Go.Proofs.Ytmlnhecgcbohkaa
#print axioms Go.Proofs.Ytmlnhecgcbohkaa.slotsFirst_holds
