/- What was written is read again, and nothing else turned. -/
import Derived.Test.YtihhfmdihhmbdaaRows
import Derived.Test.YtihhfmdihhmbdaaBy4
import Derived.Test.YtihhfmdihhmbdaaKlaw5
import Derived.WalkKit
import Derived.ProofKit
import Derived.OpenShut
import Derived.ShutString
import Derived.ChangeOld
import Derived.Below
import Derived.SizedLaws
namespace Go.Proofs.Ytihhfmdihhmbdaa
open Go.Ra
set_option linter.unusedVariables false
set_option linter.unusedSimpArgs false
def TBb : Tab := mkT qq (cl_law5 ++ cl_bytes ++ cl_ref1 ++ cl_slices) [(32, stoSp), (31, loadSp), (27, mskSp)] gl_slices
def tU8 : Ty := .int .u8
def sBk0 (op : Int) (m : AV) (v : Int) (A i : Nat) : XSt := ⟨[(14, .int .i64 i), (13, .row false 1 (avN m) (o_sto true (o_el tU8 m) A 4 v)), (12, .int .i64 A), (11, .int .i64 op), (10, .int .i64 4), (8, .bool false), (0, .row false 1 (avN m) (o_el tU8 m)), (3, .int .u32 v)], [], 0⟩
def sBk1 (op : Int) (m : AV) (v : Int) (A i : Nat) : XSt := ⟨[(14, .int .i64 i), (13, .row false 1 (avN m) (o_sto true (o_el tU8 m) A 2 v)), (12, .int .i64 A), (11, .int .i64 op), (10, .int .i64 2), (8, .bool false), (0, .row false 1 (avN m) (o_el tU8 m)), (3, .int .u32 v)], [], 0⟩
def sBk2 (op : Int) (m : AV) (v : Int) (A i : Nat) : XSt := ⟨[(14, .int .i64 i), (13, .row false 1 (avN m) (o_sto true (o_el tU8 m) A 2 v)), (12, .int .i64 A), (11, .int .i64 op), (10, .int .i64 2), (8, .bool false), (0, .row false 1 (avN m) (o_el tU8 m)), (3, .int .u32 v)], [], 0⟩
def sBk3 (op : Int) (m : AV) (v : Int) (A i : Nat) : XSt := ⟨[(14, .int .i64 i), (13, .row false 1 (avN m) (o_sto true (o_el tU8 m) A 1 v)), (12, .int .i64 A), (11, .int .i64 op), (10, .int .i64 1), (8, .bool false), (0, .row false 1 (avN m) (o_el tU8 m)), (3, .int .u32 v)], [], 0⟩
def sBk4 (op : Int) (m : AV) (v : Int) (A i : Nat) : XSt := ⟨[(14, .int .i64 i), (13, .row false 1 (avN m) (o_sto true (o_el tU8 m) A 1 v)), (12, .int .i64 A), (11, .int .i64 op), (10, .int .i64 1), (8, .bool false), (0, .row false 1 (avN m) (o_el tU8 m)), (3, .int .u32 v)], [], 0⟩
theorem TBbok : TabOk Try.prog TBb := mkT_ok (((clok_law5.app clok_bytes).app clok_ref1).app clok_slices) ⟨sp_sto, sp_load, sp_mask, trivial⟩ glok_slices
theorem r_bk00 (m : AV) (a v : Int) (r : AV) : (goS Try.prog TBb [(.tmp 8)] r (.run c_law5_BytesBack) [] ⟨envX 0 [.row false 1 (avN m) (o_el tU8 m), .int .i64 0, .int .i64 a, .int .u32 v], [], 0⟩) =
    (bif bif decide ((↑(avN m) : Int) > (200 : Int)) then true else !decide ((↑(avN m) : Int) > (200 : Int)) then
  bif bif bif decide ((↑(avN m) : Int) > (200 : Int)) then true else false then true else !bif decide ((↑(avN m) : Int) > (200 : Int)) then true else false then
    bif
        bif bif bif decide ((↑(avN m) : Int) > (200 : Int)) then true else false then true else false then true
        else !bif bif decide ((↑(avN m) : Int) > (200 : Int)) then true else false then true else false then
      bif bif bif bif decide ((↑(avN m) : Int) > (200 : Int)) then true else false then true else false then true else decide (a < (0 : Int)) then con (XV.bool true) = r
      else
        bif decide ((↑(avN m) : Int) < (4 : Int)) then con (XV.bool true) = r
        else
          bif !decide (IntKind.wrap IntKind.i64 (Int.tdiv (↑(avN m) : Int) (4 : Int)) = (0 : Int)) then
            bif decide (avN m ≤ (1099511627776 : Nat)) then
              bif allN (fun (i : Nat) => true) (avN m) then
                bif decide ¬(↑(avN m) : Int) = (↑(avN m) : Int) then con (XV.bool false) = r
                else
                  LoopAt (Ok Try.prog (Tab.q TBb)) c_law5_BytesBack_l1
                    (XSt.mk
                      [((14 : Nat), XV.int IntKind.i64 (0 : Int)),
                        ((13 : Nat),
                          XV.row false (1 : Nat) (avN m)
                            (o_sto (okW (avN m) (IntKind.wrap IntKind.i64 (Int.tmod a (IntKind.wrap IntKind.i64 (Int.tdiv (↑(avN m) : Int) (4 : Int))) * (4 : Int))) (4 : Int)) (o_el tU8 m)
                              (Int.toNat (IntKind.wrap IntKind.i64 (Int.tmod a (IntKind.wrap IntKind.i64 (Int.tdiv (↑(avN m) : Int) (4 : Int))) * (4 : Int)))) (4 : Nat) v)),
                        ((12 : Nat), XV.int IntKind.i64 (IntKind.wrap IntKind.i64 (Int.tmod a (IntKind.wrap IntKind.i64 (Int.tdiv (↑(avN m) : Int) (4 : Int))) * (4 : Int)))),
                        ((11 : Nat), XV.int IntKind.i64 (26 : Int)), ((10 : Nat), XV.int IntKind.i64 (4 : Int)), ((8 : Nat), XV.bool false), ((0 : Nat), XV.row false (1 : Nat) (avN m) (o_el tU8 m)),
                        ((3 : Nat), XV.int IntKind.u32 v)]
                      [] (0 : Nat))
                    [Frm.blk (0 : Nat), Frm.seq c_law5_BytesBack_p1] (finR [AR.tmp (8 : Nat)] r)
              else False
            else False
          else False
    else False
  else False
 else False) := by kernel_rfl
theorem r_bk01 (m : AV) (a v : Int) (r : AV) : (goS Try.prog TBb [(.tmp 8)] r (.run c_law5_BytesBack) [] ⟨envX 0 [.row false 1 (avN m) (o_el tU8 m), .int .i64 1, .int .i64 a, .int .u32 v], [], 0⟩) =
    (bif bif decide ((↑(avN m) : Int) > (200 : Int)) then true else !decide ((↑(avN m) : Int) > (200 : Int)) then
  bif bif bif decide ((↑(avN m) : Int) > (200 : Int)) then true else false then true else !bif decide ((↑(avN m) : Int) > (200 : Int)) then true else false then
    bif
        bif bif bif decide ((↑(avN m) : Int) > (200 : Int)) then true else false then true else false then true
        else !bif bif decide ((↑(avN m) : Int) > (200 : Int)) then true else false then true else false then
      bif bif bif bif decide ((↑(avN m) : Int) > (200 : Int)) then true else false then true else false then true else decide (a < (0 : Int)) then con (XV.bool true) = r
      else
        bif decide ((↑(avN m) : Int) < (2 : Int)) then con (XV.bool true) = r
        else
          bif !decide (IntKind.wrap IntKind.i64 (Int.tdiv (↑(avN m) : Int) (2 : Int)) = (0 : Int)) then
            bif decide (avN m ≤ (1099511627776 : Nat)) then
              bif allN (fun (i : Nat) => true) (avN m) then
                bif decide ¬(↑(avN m) : Int) = (↑(avN m) : Int) then con (XV.bool false) = r
                else
                  LoopAt (Ok Try.prog (Tab.q TBb)) c_law5_BytesBack_l1
                    (XSt.mk
                      [((14 : Nat), XV.int IntKind.i64 (0 : Int)),
                        ((13 : Nat),
                          XV.row false (1 : Nat) (avN m)
                            (o_sto (okW (avN m) (IntKind.wrap IntKind.i64 (Int.tmod a (IntKind.wrap IntKind.i64 (Int.tdiv (↑(avN m) : Int) (2 : Int))) * (2 : Int))) (2 : Int)) (o_el tU8 m)
                              (Int.toNat (IntKind.wrap IntKind.i64 (Int.tmod a (IntKind.wrap IntKind.i64 (Int.tdiv (↑(avN m) : Int) (2 : Int))) * (2 : Int)))) (2 : Nat) v)),
                        ((12 : Nat), XV.int IntKind.i64 (IntKind.wrap IntKind.i64 (Int.tmod a (IntKind.wrap IntKind.i64 (Int.tdiv (↑(avN m) : Int) (2 : Int))) * (2 : Int)))),
                        ((11 : Nat), XV.int IntKind.i64 (27 : Int)), ((10 : Nat), XV.int IntKind.i64 (2 : Int)), ((8 : Nat), XV.bool false), ((0 : Nat), XV.row false (1 : Nat) (avN m) (o_el tU8 m)),
                        ((3 : Nat), XV.int IntKind.u32 v)]
                      [] (0 : Nat))
                    [Frm.blk (0 : Nat), Frm.seq c_law5_BytesBack_p1] (finR [AR.tmp (8 : Nat)] r)
              else False
            else False
          else False
    else False
  else False
 else False) := by kernel_rfl
theorem r_bk02 (m : AV) (a v : Int) (r : AV) : (goS Try.prog TBb [(.tmp 8)] r (.run c_law5_BytesBack) [] ⟨envX 0 [.row false 1 (avN m) (o_el tU8 m), .int .i64 2, .int .i64 a, .int .u32 v], [], 0⟩) =
    (bif bif decide ((↑(avN m) : Int) > (200 : Int)) then true else !decide ((↑(avN m) : Int) > (200 : Int)) then
  bif bif bif decide ((↑(avN m) : Int) > (200 : Int)) then true else false then true else !bif decide ((↑(avN m) : Int) > (200 : Int)) then true else false then
    bif
        bif bif bif decide ((↑(avN m) : Int) > (200 : Int)) then true else false then true else false then true
        else !bif bif decide ((↑(avN m) : Int) > (200 : Int)) then true else false then true else false then
      bif bif bif bif decide ((↑(avN m) : Int) > (200 : Int)) then true else false then true else false then true else decide (a < (0 : Int)) then con (XV.bool true) = r
      else
        bif decide ((↑(avN m) : Int) < (2 : Int)) then con (XV.bool true) = r
        else
          bif !decide (IntKind.wrap IntKind.i64 (Int.tdiv (↑(avN m) : Int) (2 : Int)) = (0 : Int)) then
            bif decide (avN m ≤ (1099511627776 : Nat)) then
              bif allN (fun (i : Nat) => true) (avN m) then
                bif decide ¬(↑(avN m) : Int) = (↑(avN m) : Int) then con (XV.bool false) = r
                else
                  LoopAt (Ok Try.prog (Tab.q TBb)) c_law5_BytesBack_l1
                    (XSt.mk
                      [((14 : Nat), XV.int IntKind.i64 (0 : Int)),
                        ((13 : Nat),
                          XV.row false (1 : Nat) (avN m)
                            (o_sto (okW (avN m) (IntKind.wrap IntKind.i64 (Int.tmod a (IntKind.wrap IntKind.i64 (Int.tdiv (↑(avN m) : Int) (2 : Int))) * (2 : Int))) (2 : Int)) (o_el tU8 m)
                              (Int.toNat (IntKind.wrap IntKind.i64 (Int.tmod a (IntKind.wrap IntKind.i64 (Int.tdiv (↑(avN m) : Int) (2 : Int))) * (2 : Int)))) (2 : Nat) v)),
                        ((12 : Nat), XV.int IntKind.i64 (IntKind.wrap IntKind.i64 (Int.tmod a (IntKind.wrap IntKind.i64 (Int.tdiv (↑(avN m) : Int) (2 : Int))) * (2 : Int)))),
                        ((11 : Nat), XV.int IntKind.i64 (28 : Int)), ((10 : Nat), XV.int IntKind.i64 (2 : Int)), ((8 : Nat), XV.bool false), ((0 : Nat), XV.row false (1 : Nat) (avN m) (o_el tU8 m)),
                        ((3 : Nat), XV.int IntKind.u32 v)]
                      [] (0 : Nat))
                    [Frm.blk (0 : Nat), Frm.seq c_law5_BytesBack_p1] (finR [AR.tmp (8 : Nat)] r)
              else False
            else False
          else False
    else False
  else False
 else False) := by kernel_rfl
theorem r_bk03 (m : AV) (a v : Int) (r : AV) : (goS Try.prog TBb [(.tmp 8)] r (.run c_law5_BytesBack) [] ⟨envX 0 [.row false 1 (avN m) (o_el tU8 m), .int .i64 3, .int .i64 a, .int .u32 v], [], 0⟩) =
    (bif bif decide ((↑(avN m) : Int) > (200 : Int)) then true else !decide ((↑(avN m) : Int) > (200 : Int)) then
  bif bif bif decide ((↑(avN m) : Int) > (200 : Int)) then true else false then true else !bif decide ((↑(avN m) : Int) > (200 : Int)) then true else false then
    bif
        bif bif bif decide ((↑(avN m) : Int) > (200 : Int)) then true else false then true else false then true
        else !bif bif decide ((↑(avN m) : Int) > (200 : Int)) then true else false then true else false then
      bif bif bif bif decide ((↑(avN m) : Int) > (200 : Int)) then true else false then true else false then true else decide (a < (0 : Int)) then con (XV.bool true) = r
      else
        bif decide ((↑(avN m) : Int) < (1 : Int)) then con (XV.bool true) = r
        else
          bif !decide (IntKind.wrap IntKind.i64 (Int.tdiv (↑(avN m) : Int) (1 : Int)) = (0 : Int)) then
            bif decide (avN m ≤ (1099511627776 : Nat)) then
              bif allN (fun (i : Nat) => true) (avN m) then
                bif decide ¬(↑(avN m) : Int) = (↑(avN m) : Int) then con (XV.bool false) = r
                else
                  LoopAt (Ok Try.prog (Tab.q TBb)) c_law5_BytesBack_l1
                    (XSt.mk
                      [((14 : Nat), XV.int IntKind.i64 (0 : Int)),
                        ((13 : Nat),
                          XV.row false (1 : Nat) (avN m)
                            (o_sto (okW (avN m) (IntKind.wrap IntKind.i64 (Int.tmod a (IntKind.wrap IntKind.i64 (Int.tdiv (↑(avN m) : Int) (1 : Int))) * (1 : Int))) (1 : Int)) (o_el tU8 m)
                              (Int.toNat (IntKind.wrap IntKind.i64 (Int.tmod a (IntKind.wrap IntKind.i64 (Int.tdiv (↑(avN m) : Int) (1 : Int))) * (1 : Int)))) (1 : Nat) v)),
                        ((12 : Nat), XV.int IntKind.i64 (IntKind.wrap IntKind.i64 (Int.tmod a (IntKind.wrap IntKind.i64 (Int.tdiv (↑(avN m) : Int) (1 : Int))) * (1 : Int)))),
                        ((11 : Nat), XV.int IntKind.i64 (29 : Int)), ((10 : Nat), XV.int IntKind.i64 (1 : Int)), ((8 : Nat), XV.bool false), ((0 : Nat), XV.row false (1 : Nat) (avN m) (o_el tU8 m)),
                        ((3 : Nat), XV.int IntKind.u32 v)]
                      [] (0 : Nat))
                    [Frm.blk (0 : Nat), Frm.seq c_law5_BytesBack_p1] (finR [AR.tmp (8 : Nat)] r)
              else False
            else False
          else False
    else False
  else False
 else False) := by kernel_rfl
theorem r_bk04 (m : AV) (a v : Int) (r : AV) : (goS Try.prog TBb [(.tmp 8)] r (.run c_law5_BytesBack) [] ⟨envX 0 [.row false 1 (avN m) (o_el tU8 m), .int .i64 4, .int .i64 a, .int .u32 v], [], 0⟩) =
    (bif bif decide ((↑(avN m) : Int) > (200 : Int)) then true else !decide ((↑(avN m) : Int) > (200 : Int)) then
  bif bif bif decide ((↑(avN m) : Int) > (200 : Int)) then true else false then true else !bif decide ((↑(avN m) : Int) > (200 : Int)) then true else false then
    bif
        bif bif bif decide ((↑(avN m) : Int) > (200 : Int)) then true else false then true else false then true
        else !bif bif decide ((↑(avN m) : Int) > (200 : Int)) then true else false then true else false then
      bif bif bif bif decide ((↑(avN m) : Int) > (200 : Int)) then true else false then true else false then true else decide (a < (0 : Int)) then con (XV.bool true) = r
      else
        bif decide ((↑(avN m) : Int) < (1 : Int)) then con (XV.bool true) = r
        else
          bif !decide (IntKind.wrap IntKind.i64 (Int.tdiv (↑(avN m) : Int) (1 : Int)) = (0 : Int)) then
            bif decide (avN m ≤ (1099511627776 : Nat)) then
              bif allN (fun (i : Nat) => true) (avN m) then
                bif decide ¬(↑(avN m) : Int) = (↑(avN m) : Int) then con (XV.bool false) = r
                else
                  LoopAt (Ok Try.prog (Tab.q TBb)) c_law5_BytesBack_l1
                    (XSt.mk
                      [((14 : Nat), XV.int IntKind.i64 (0 : Int)),
                        ((13 : Nat),
                          XV.row false (1 : Nat) (avN m)
                            (o_sto (okW (avN m) (IntKind.wrap IntKind.i64 (Int.tmod a (IntKind.wrap IntKind.i64 (Int.tdiv (↑(avN m) : Int) (1 : Int))) * (1 : Int))) (1 : Int)) (o_el tU8 m)
                              (Int.toNat (IntKind.wrap IntKind.i64 (Int.tmod a (IntKind.wrap IntKind.i64 (Int.tdiv (↑(avN m) : Int) (1 : Int))) * (1 : Int)))) (1 : Nat) v)),
                        ((12 : Nat), XV.int IntKind.i64 (IntKind.wrap IntKind.i64 (Int.tmod a (IntKind.wrap IntKind.i64 (Int.tdiv (↑(avN m) : Int) (1 : Int))) * (1 : Int)))),
                        ((11 : Nat), XV.int IntKind.i64 (30 : Int)), ((10 : Nat), XV.int IntKind.i64 (1 : Int)), ((8 : Nat), XV.bool false), ((0 : Nat), XV.row false (1 : Nat) (avN m) (o_el tU8 m)),
                        ((3 : Nat), XV.int IntKind.u32 v)]
                      [] (0 : Nat))
                    [Frm.blk (0 : Nat), Frm.seq c_law5_BytesBack_p1] (finR [AR.tmp (8 : Nat)] r)
              else False
            else False
          else False
    else False
  else False
 else False) := by kernel_rfl
theorem r_bk0x (m : AV) (w a v : Int) (r : AV) : (goS Try.prog TBb [(.tmp 8)] r (.run c_law5_BytesBack) [] ⟨envX 0 [.row false 1 (avN m) (o_el tU8 m), .int .i64 w, .int .i64 a, .int .u32 v], [], 0⟩) =
    (bif bif decide ((↑(avN m) : Int) > (200 : Int)) then true else !decide ((↑(avN m) : Int) > (200 : Int)) then
  bif bif bif decide ((↑(avN m) : Int) > (200 : Int)) then true else decide (w < (0 : Int)) then true else !bif decide ((↑(avN m) : Int) > (200 : Int)) then true else decide (w < (0 : Int)) then
    bif
        bif bif bif decide ((↑(avN m) : Int) > (200 : Int)) then true else decide (w < (0 : Int)) then true else decide (w > (4 : Int)) then true
        else !bif bif decide ((↑(avN m) : Int) > (200 : Int)) then true else decide (w < (0 : Int)) then true else decide (w > (4 : Int)) then
      bif bif bif bif decide ((↑(avN m) : Int) > (200 : Int)) then true else decide (w < (0 : Int)) then true else decide (w > (4 : Int)) then true else decide (a < (0 : Int)) then
        con (XV.bool true) = r
      else
        bif decide ((0 : Int) ≤ w) then
          bif decide (w < (5 : Int)) then
            bif decide ((0 : Int) ≤ w) then
              bif decide (w < (5 : Int)) then
                bif
                    decide
                      ((↑(avN m) : Int) <
                        bif Nat.beq (Int.toNat w) (0 : Nat) then (4 : Int)
                        else
                          bif Nat.beq (Int.toNat w - (1 : Nat)) (0 : Nat) then (2 : Int)
                          else
                            bif Nat.beq (Int.toNat w - (1 : Nat) - (1 : Nat)) (0 : Nat) then (2 : Int)
                            else bif Nat.beq (Int.toNat w - (1 : Nat) - (1 : Nat) - (1 : Nat)) (0 : Nat) then (1 : Int) else (1 : Int)) then
                  con (XV.bool true) = r
                else
                  bif
                      !decide
                          ((bif Nat.beq (Int.toNat w) (0 : Nat) then (4 : Int)
                            else
                              bif Nat.beq (Int.toNat w - (1 : Nat)) (0 : Nat) then (2 : Int)
                              else
                                bif Nat.beq (Int.toNat w - (1 : Nat) - (1 : Nat)) (0 : Nat) then (2 : Int)
                                else bif Nat.beq (Int.toNat w - (1 : Nat) - (1 : Nat) - (1 : Nat)) (0 : Nat) then (1 : Int) else (1 : Int)) =
                            (0 : Int)) then
                    bif
                        !decide
                            (IntKind.wrap IntKind.i64
                                (Int.tdiv (↑(avN m) : Int)
                                  (bif Nat.beq (Int.toNat w) (0 : Nat) then (4 : Int)
                                  else
                                    bif Nat.beq (Int.toNat w - (1 : Nat)) (0 : Nat) then (2 : Int)
                                    else
                                      bif Nat.beq (Int.toNat w - (1 : Nat) - (1 : Nat)) (0 : Nat) then (2 : Int)
                                      else bif Nat.beq (Int.toNat w - (1 : Nat) - (1 : Nat) - (1 : Nat)) (0 : Nat) then (1 : Int) else (1 : Int))) =
                              (0 : Int)) then
                      bif decide (avN m ≤ (1099511627776 : Nat)) then
                        bif allN (fun (i : Nat) => true) (avN m) then
                          bif decide ¬(↑(avN m) : Int) = (↑(avN m) : Int) then con (XV.bool false) = r
                          else
                            LoopAt (Ok Try.prog (Tab.q TBb)) c_law5_BytesBack_l1
                              (XSt.mk
                                [((14 : Nat), XV.int IntKind.i64 (0 : Int)),
                                  ((13 : Nat),
                                    XV.row false (1 : Nat) (avN m)
                                      (o_sto
                                        (okW (avN m)
                                          (IntKind.wrap IntKind.i64
                                            (Int.tmod a
                                                (IntKind.wrap IntKind.i64
                                                  (Int.tdiv (↑(avN m) : Int)
                                                    (bif Nat.beq (Int.toNat w) (0 : Nat) then (4 : Int)
                                                    else
                                                      bif Nat.beq (Int.toNat w - (1 : Nat)) (0 : Nat) then (2 : Int)
                                                      else
                                                        bif Nat.beq (Int.toNat w - (1 : Nat) - (1 : Nat)) (0 : Nat) then (2 : Int)
                                                        else bif Nat.beq (Int.toNat w - (1 : Nat) - (1 : Nat) - (1 : Nat)) (0 : Nat) then (1 : Int) else (1 : Int)))) *
                                              bif Nat.beq (Int.toNat w) (0 : Nat) then (4 : Int)
                                              else
                                                bif Nat.beq (Int.toNat w - (1 : Nat)) (0 : Nat) then (2 : Int)
                                                else
                                                  bif Nat.beq (Int.toNat w - (1 : Nat) - (1 : Nat)) (0 : Nat) then (2 : Int)
                                                  else bif Nat.beq (Int.toNat w - (1 : Nat) - (1 : Nat) - (1 : Nat)) (0 : Nat) then (1 : Int) else (1 : Int)))
                                          (bif Nat.beq (Int.toNat w) (0 : Nat) then (4 : Int)
                                          else
                                            bif Nat.beq (Int.toNat w - (1 : Nat)) (0 : Nat) then (2 : Int)
                                            else
                                              bif Nat.beq (Int.toNat w - (1 : Nat) - (1 : Nat)) (0 : Nat) then (2 : Int)
                                              else bif Nat.beq (Int.toNat w - (1 : Nat) - (1 : Nat) - (1 : Nat)) (0 : Nat) then (1 : Int) else (1 : Int)))
                                        (o_el tU8 m)
                                        (Int.toNat
                                          (IntKind.wrap IntKind.i64
                                            (Int.tmod a
                                                (IntKind.wrap IntKind.i64
                                                  (Int.tdiv (↑(avN m) : Int)
                                                    (bif Nat.beq (Int.toNat w) (0 : Nat) then (4 : Int)
                                                    else
                                                      bif Nat.beq (Int.toNat w - (1 : Nat)) (0 : Nat) then (2 : Int)
                                                      else
                                                        bif Nat.beq (Int.toNat w - (1 : Nat) - (1 : Nat)) (0 : Nat) then (2 : Int)
                                                        else bif Nat.beq (Int.toNat w - (1 : Nat) - (1 : Nat) - (1 : Nat)) (0 : Nat) then (1 : Int) else (1 : Int)))) *
                                              bif Nat.beq (Int.toNat w) (0 : Nat) then (4 : Int)
                                              else
                                                bif Nat.beq (Int.toNat w - (1 : Nat)) (0 : Nat) then (2 : Int)
                                                else
                                                  bif Nat.beq (Int.toNat w - (1 : Nat) - (1 : Nat)) (0 : Nat) then (2 : Int)
                                                  else bif Nat.beq (Int.toNat w - (1 : Nat) - (1 : Nat) - (1 : Nat)) (0 : Nat) then (1 : Int) else (1 : Int))))
                                        (Int.toNat
                                          (bif Nat.beq (Int.toNat w) (0 : Nat) then (4 : Int)
                                          else
                                            bif Nat.beq (Int.toNat w - (1 : Nat)) (0 : Nat) then (2 : Int)
                                            else
                                              bif Nat.beq (Int.toNat w - (1 : Nat) - (1 : Nat)) (0 : Nat) then (2 : Int)
                                              else bif Nat.beq (Int.toNat w - (1 : Nat) - (1 : Nat) - (1 : Nat)) (0 : Nat) then (1 : Int) else (1 : Int)))
                                        v)),
                                  ((12 : Nat),
                                    XV.int IntKind.i64
                                      (IntKind.wrap IntKind.i64
                                        (Int.tmod a
                                            (IntKind.wrap IntKind.i64
                                              (Int.tdiv (↑(avN m) : Int)
                                                (bif Nat.beq (Int.toNat w) (0 : Nat) then (4 : Int)
                                                else
                                                  bif Nat.beq (Int.toNat w - (1 : Nat)) (0 : Nat) then (2 : Int)
                                                  else
                                                    bif Nat.beq (Int.toNat w - (1 : Nat) - (1 : Nat)) (0 : Nat) then (2 : Int)
                                                    else bif Nat.beq (Int.toNat w - (1 : Nat) - (1 : Nat) - (1 : Nat)) (0 : Nat) then (1 : Int) else (1 : Int)))) *
                                          bif Nat.beq (Int.toNat w) (0 : Nat) then (4 : Int)
                                          else
                                            bif Nat.beq (Int.toNat w - (1 : Nat)) (0 : Nat) then (2 : Int)
                                            else
                                              bif Nat.beq (Int.toNat w - (1 : Nat) - (1 : Nat)) (0 : Nat) then (2 : Int)
                                              else bif Nat.beq (Int.toNat w - (1 : Nat) - (1 : Nat) - (1 : Nat)) (0 : Nat) then (1 : Int) else (1 : Int)))),
                                  ((11 : Nat),
                                    XV.int IntKind.i64
                                      (bif Nat.beq (Int.toNat w) (0 : Nat) then (26 : Int)
                                      else
                                        bif Nat.beq (Int.toNat w - (1 : Nat)) (0 : Nat) then (27 : Int)
                                        else
                                          bif Nat.beq (Int.toNat w - (1 : Nat) - (1 : Nat)) (0 : Nat) then (28 : Int)
                                          else bif Nat.beq (Int.toNat w - (1 : Nat) - (1 : Nat) - (1 : Nat)) (0 : Nat) then (29 : Int) else (30 : Int))),
                                  ((10 : Nat),
                                    XV.int IntKind.i64
                                      (bif Nat.beq (Int.toNat w) (0 : Nat) then (4 : Int)
                                      else
                                        bif Nat.beq (Int.toNat w - (1 : Nat)) (0 : Nat) then (2 : Int)
                                        else
                                          bif Nat.beq (Int.toNat w - (1 : Nat) - (1 : Nat)) (0 : Nat) then (2 : Int)
                                          else bif Nat.beq (Int.toNat w - (1 : Nat) - (1 : Nat) - (1 : Nat)) (0 : Nat) then (1 : Int) else (1 : Int))),
                                  ((8 : Nat), XV.bool false), ((0 : Nat), XV.row false (1 : Nat) (avN m) (o_el tU8 m)), ((3 : Nat), XV.int IntKind.u32 v)]
                                [] (0 : Nat))
                              [Frm.blk (0 : Nat), Frm.seq c_law5_BytesBack_p1] (finR [AR.tmp (8 : Nat)] r)
                        else False
                      else False
                    else False
                  else False
              else False
            else False
          else False
        else False
    else False
  else False
 else False) := by kernel_rfl
theorem r_bkl0 (m : AV) (v : Int) (A i : Nat) (r : AV) (P : XSt → Prop) : (goS Try.prog TBb [(.tmp 8)] r (.run c_law5_BytesBack_l1) [.lp c_law5_BytesBack_l1 P, .blk 0, .seq c_law5_BytesBack_p1] (sBk0 26 m v A i)) =
    (bif decide ((↑i : Int) < (↑(avN m) : Int)) then
  bif decide ((↑i : Int) < (↑(avN m) : Int)) then
    bif bif decide ((↑i : Int) ≥ (↑A : Int)) then decide ((↑i : Int) ≥ (↑A : Int)) else true then
      bif bif decide ((↑i : Int) ≥ (↑A : Int)) then decide ((↑i : Int) < IntKind.wrap IntKind.i64 ((↑A : Int) + (4 : Int))) else false then
        bif decide ((0 : Int) ≤ IntKind.wrap IntKind.u64 (IntKind.wrap IntKind.i64 ((8 : Int) * IntKind.wrap IntKind.i64 ((↑i : Int) - (↑A : Int))))) then
          bif decide ((↑i : Int) < (↑(avN m) : Int)) then
            bif
                decide
                  ¬(bif decide (A ≤ i) && decide (i < A + (4 : Nat)) then v / (2 : Int) ^ ((8 : Nat) * (i - A)) % (256 : Int) else avI (avAt m (Int.toNat (↑i : Int)))) =
                      IntKind.wrap IntKind.u8
                        (Int.fdiv v
                          ((2 : Int) ^ Nat.min (Int.toNat (IntKind.wrap IntKind.u64 (IntKind.wrap IntKind.i64 ((8 : Int) * IntKind.wrap IntKind.i64 ((↑i : Int) - (↑A : Int)))))) (32 : Nat))) then
              con (XV.bool false) = r
            else
              P
                (XSt.mk
                  [((14 : Nat), XV.int IntKind.i64 (IntKind.wrap IntKind.i64 ((↑i : Int) + (1 : Int)))), ((13 : Nat), XV.row false (1 : Nat) (avN m) (o_sto true (o_el tU8 m) A (4 : Nat) v)),
                    ((12 : Nat), XV.int IntKind.i64 (↑A : Int)), ((11 : Nat), XV.int IntKind.i64 (26 : Int)), ((10 : Nat), XV.int IntKind.i64 (4 : Int)), ((8 : Nat), XV.bool false),
                    ((0 : Nat), XV.row false (1 : Nat) (avN m) (o_el tU8 m)), ((3 : Nat), XV.int IntKind.u32 v)]
                  [] (0 : Nat))
          else False
        else False
      else
        bif decide ((↑i : Int) < (↑(avN m) : Int)) then
          bif
              decide
                ¬(bif decide (A ≤ i) && decide (i < A + (4 : Nat)) then v / (2 : Int) ^ ((8 : Nat) * (i - A)) % (256 : Int) else avI (avAt m (Int.toNat (↑i : Int)))) =
                    avI (avAt m (Int.toNat (↑i : Int))) then
            con (XV.bool false) = r
          else
            P
              (XSt.mk
                [((14 : Nat), XV.int IntKind.i64 (IntKind.wrap IntKind.i64 ((↑i : Int) + (1 : Int)))), ((13 : Nat), XV.row false (1 : Nat) (avN m) (o_sto true (o_el tU8 m) A (4 : Nat) v)),
                  ((12 : Nat), XV.int IntKind.i64 (↑A : Int)), ((11 : Nat), XV.int IntKind.i64 (26 : Int)), ((10 : Nat), XV.int IntKind.i64 (4 : Int)), ((8 : Nat), XV.bool false),
                  ((0 : Nat), XV.row false (1 : Nat) (avN m) (o_el tU8 m)), ((3 : Nat), XV.int IntKind.u32 v)]
                [] (0 : Nat))
        else False
    else False
  else False
 else
   bif decide (avN m ≤ (1099511627776 : Nat)) then
     bif allN (fun (i : Nat) => true) (avN m) then
       bif rngB (avN m) (o_sto true (o_el tU8 m) A (4 : Nat) v) then
         bif decide (IntKind.wrap IntKind.u32 (↑A : Int) ≤ (4294967295 : Int)) then
           bif
               bif decide (mskI (loadI (avN m) (o_sto true (o_el tU8 m) A (4 : Nat) v) (26 : Int) (IntKind.wrap IntKind.u32 (↑A : Int))) (4 : Int) = mskI v (4 : Int)) then true
               else !decide (mskI (loadI (avN m) (o_sto true (o_el tU8 m) A (4 : Nat) v) (26 : Int) (IntKind.wrap IntKind.u32 (↑A : Int))) (4 : Int) = mskI v (4 : Int)) then
             bif
                 bif bif decide (mskI (loadI (avN m) (o_sto true (o_el tU8 m) A (4 : Nat) v) (26 : Int) (IntKind.wrap IntKind.u32 (↑A : Int))) (4 : Int) = mskI v (4 : Int)) then true else false then
                   true
                 else !bif decide (mskI (loadI (avN m) (o_sto true (o_el tU8 m) A (4 : Nat) v) (26 : Int) (IntKind.wrap IntKind.u32 (↑A : Int))) (4 : Int) = mskI v (4 : Int)) then true else false then
               bif
                   bif
                       bif
                           bif decide (mskI (loadI (avN m) (o_sto true (o_el tU8 m) A (4 : Nat) v) (26 : Int) (IntKind.wrap IntKind.u32 (↑A : Int))) (4 : Int) = mskI v (4 : Int)) then true
                           else false then
                         true
                       else false then
                     true
                   else
                     !bif decide (mskI (loadI (avN m) (o_sto true (o_el tU8 m) A (4 : Nat) v) (26 : Int) (IntKind.wrap IntKind.u32 (↑A : Int))) (4 : Int) = mskI v (4 : Int)) then true else false then
                 bif
                     bif decide (mskI (loadI (avN m) (o_sto true (o_el tU8 m) A (4 : Nat) v) (26 : Int) (IntKind.wrap IntKind.u32 (↑A : Int))) (4 : Int) = mskI v (4 : Int)) then true
                     else !decide (mskI (loadI (avN m) (o_sto true (o_el tU8 m) A (4 : Nat) v) (26 : Int) (IntKind.wrap IntKind.u32 (↑A : Int))) (4 : Int) = mskI v (4 : Int)) then
                   bif
                       bif
                           bif decide (mskI (loadI (avN m) (o_sto true (o_el tU8 m) A (4 : Nat) v) (26 : Int) (IntKind.wrap IntKind.u32 (↑A : Int))) (4 : Int) = mskI v (4 : Int)) then true
                           else false then
                         true
                       else !decide (mskI (loadI (avN m) (o_sto true (o_el tU8 m) A (4 : Nat) v) (26 : Int) (IntKind.wrap IntKind.u32 (↑A : Int))) (4 : Int) = mskI v (4 : Int)) then
                     bif
                         bif decide (mskI (loadI (avN m) (o_sto true (o_el tU8 m) A (4 : Nat) v) (26 : Int) (IntKind.wrap IntKind.u32 (↑A : Int))) (4 : Int) = mskI v (4 : Int)) then
                           decide (mskI (loadI (avN m) (o_sto true (o_el tU8 m) A (4 : Nat) v) (26 : Int) (IntKind.wrap IntKind.u32 (↑A : Int))) (4 : Int) = mskI v (4 : Int))
                         else true then
                       con
                           (XV.bool
                             (bif decide (mskI (loadI (avN m) (o_sto true (o_el tU8 m) A (4 : Nat) v) (26 : Int) (IntKind.wrap IntKind.u32 (↑A : Int))) (4 : Int) = mskI v (4 : Int)) then
                               decide (loadI (avN m) (o_sto true (o_el tU8 m) A (4 : Nat) v) (26 : Int) (IntKind.wrap IntKind.u32 (↑A : Int)) = mskI v (4 : Int))
                             else false)) =
                         r
                     else False
                   else False
                 else False
               else False
             else False
           else False
         else False
       else False
     else False
   else False) := by kernel_rfl
theorem r_bkl1 (m : AV) (v : Int) (A i : Nat) (r : AV) (P : XSt → Prop) : (goS Try.prog TBb [(.tmp 8)] r (.run c_law5_BytesBack_l1) [.lp c_law5_BytesBack_l1 P, .blk 0, .seq c_law5_BytesBack_p1] (sBk1 27 m v A i)) =
    (bif decide ((↑i : Int) < (↑(avN m) : Int)) then
  bif decide ((↑i : Int) < (↑(avN m) : Int)) then
    bif bif decide ((↑i : Int) ≥ (↑A : Int)) then decide ((↑i : Int) ≥ (↑A : Int)) else true then
      bif bif decide ((↑i : Int) ≥ (↑A : Int)) then decide ((↑i : Int) < IntKind.wrap IntKind.i64 ((↑A : Int) + (2 : Int))) else false then
        bif decide ((0 : Int) ≤ IntKind.wrap IntKind.u64 (IntKind.wrap IntKind.i64 ((8 : Int) * IntKind.wrap IntKind.i64 ((↑i : Int) - (↑A : Int))))) then
          bif decide ((↑i : Int) < (↑(avN m) : Int)) then
            bif
                decide
                  ¬(bif decide (A ≤ i) && decide (i < A + (2 : Nat)) then v / (2 : Int) ^ ((8 : Nat) * (i - A)) % (256 : Int) else avI (avAt m (Int.toNat (↑i : Int)))) =
                      IntKind.wrap IntKind.u8
                        (Int.fdiv v
                          ((2 : Int) ^ Nat.min (Int.toNat (IntKind.wrap IntKind.u64 (IntKind.wrap IntKind.i64 ((8 : Int) * IntKind.wrap IntKind.i64 ((↑i : Int) - (↑A : Int)))))) (32 : Nat))) then
              con (XV.bool false) = r
            else
              P
                (XSt.mk
                  [((14 : Nat), XV.int IntKind.i64 (IntKind.wrap IntKind.i64 ((↑i : Int) + (1 : Int)))), ((13 : Nat), XV.row false (1 : Nat) (avN m) (o_sto true (o_el tU8 m) A (2 : Nat) v)),
                    ((12 : Nat), XV.int IntKind.i64 (↑A : Int)), ((11 : Nat), XV.int IntKind.i64 (27 : Int)), ((10 : Nat), XV.int IntKind.i64 (2 : Int)), ((8 : Nat), XV.bool false),
                    ((0 : Nat), XV.row false (1 : Nat) (avN m) (o_el tU8 m)), ((3 : Nat), XV.int IntKind.u32 v)]
                  [] (0 : Nat))
          else False
        else False
      else
        bif decide ((↑i : Int) < (↑(avN m) : Int)) then
          bif
              decide
                ¬(bif decide (A ≤ i) && decide (i < A + (2 : Nat)) then v / (2 : Int) ^ ((8 : Nat) * (i - A)) % (256 : Int) else avI (avAt m (Int.toNat (↑i : Int)))) =
                    avI (avAt m (Int.toNat (↑i : Int))) then
            con (XV.bool false) = r
          else
            P
              (XSt.mk
                [((14 : Nat), XV.int IntKind.i64 (IntKind.wrap IntKind.i64 ((↑i : Int) + (1 : Int)))), ((13 : Nat), XV.row false (1 : Nat) (avN m) (o_sto true (o_el tU8 m) A (2 : Nat) v)),
                  ((12 : Nat), XV.int IntKind.i64 (↑A : Int)), ((11 : Nat), XV.int IntKind.i64 (27 : Int)), ((10 : Nat), XV.int IntKind.i64 (2 : Int)), ((8 : Nat), XV.bool false),
                  ((0 : Nat), XV.row false (1 : Nat) (avN m) (o_el tU8 m)), ((3 : Nat), XV.int IntKind.u32 v)]
                [] (0 : Nat))
        else False
    else False
  else False
 else
   bif decide (avN m ≤ (1099511627776 : Nat)) then
     bif allN (fun (i : Nat) => true) (avN m) then
       bif rngB (avN m) (o_sto true (o_el tU8 m) A (2 : Nat) v) then
         bif decide (IntKind.wrap IntKind.u32 (↑A : Int) ≤ (4294967295 : Int)) then
           bif
               bif decide (mskI (loadI (avN m) (o_sto true (o_el tU8 m) A (2 : Nat) v) (27 : Int) (IntKind.wrap IntKind.u32 (↑A : Int))) (2 : Int) = mskI v (2 : Int)) then true
               else !decide (mskI (loadI (avN m) (o_sto true (o_el tU8 m) A (2 : Nat) v) (27 : Int) (IntKind.wrap IntKind.u32 (↑A : Int))) (2 : Int) = mskI v (2 : Int)) then
             bif
                 bif
                     bif decide (bitsI BinOp.and IntKind.u32 (Int.fdiv (mskI v (2 : Int)) (32768 : Int)) (1 : Int) = (1 : Int)) then
                       bif decide (mskI (loadI (avN m) (o_sto true (o_el tU8 m) A (2 : Nat) v) (27 : Int) (IntKind.wrap IntKind.u32 (↑A : Int))) (2 : Int) = mskI v (2 : Int)) then
                         decide (bitsI BinOp.and IntKind.u32 (Int.fdiv (mskI v (2 : Int)) (32768 : Int)) (1 : Int) = (1 : Int))
                       else false
                     else true then
                   true
                 else !decide (mskI (loadI (avN m) (o_sto true (o_el tU8 m) A (2 : Nat) v) (27 : Int) (IntKind.wrap IntKind.u32 (↑A : Int))) (2 : Int) = mskI v (2 : Int)) then
               bif
                   bif
                       bif decide (mskI (loadI (avN m) (o_sto true (o_el tU8 m) A (2 : Nat) v) (27 : Int) (IntKind.wrap IntKind.u32 (↑A : Int))) (2 : Int) = mskI v (2 : Int)) then
                         !bif decide (bitsI BinOp.and IntKind.u32 (Int.fdiv (mskI v (2 : Int)) (32768 : Int)) (1 : Int) = (1 : Int)) then
                             decide
                               (IntKind.wrap IntKind.i64 (loadI (avN m) (o_sto true (o_el tU8 m) A (2 : Nat) v) (27 : Int) (IntKind.wrap IntKind.u32 (↑A : Int))) =
                                 IntKind.wrap IntKind.i64 (IntKind.wrap IntKind.i64 (IntKind.wrap IntKind.i64 (mskI v (2 : Int)) + (4294967296 : Int)) - (65536 : Int)))
                           else false
                       else false then
                     true
                   else
                     !bif decide (mskI (loadI (avN m) (o_sto true (o_el tU8 m) A (2 : Nat) v) (27 : Int) (IntKind.wrap IntKind.u32 (↑A : Int))) (2 : Int) = mskI v (2 : Int)) then
                         !bif decide (bitsI BinOp.and IntKind.u32 (Int.fdiv (mskI v (2 : Int)) (32768 : Int)) (1 : Int) = (1 : Int)) then
                             decide
                               (IntKind.wrap IntKind.i64 (loadI (avN m) (o_sto true (o_el tU8 m) A (2 : Nat) v) (27 : Int) (IntKind.wrap IntKind.u32 (↑A : Int))) =
                                 IntKind.wrap IntKind.i64 (IntKind.wrap IntKind.i64 (IntKind.wrap IntKind.i64 (mskI v (2 : Int)) + (4294967296 : Int)) - (65536 : Int)))
                           else false
                       else false then
                 bif
                     bif
                         bif !decide (bitsI BinOp.and IntKind.u32 (Int.fdiv (mskI v (2 : Int)) (32768 : Int)) (1 : Int) = (1 : Int)) then
                           bif
                               bif decide (mskI (loadI (avN m) (o_sto true (o_el tU8 m) A (2 : Nat) v) (27 : Int) (IntKind.wrap IntKind.u32 (↑A : Int))) (2 : Int) = mskI v (2 : Int)) then
                                 !bif decide (bitsI BinOp.and IntKind.u32 (Int.fdiv (mskI v (2 : Int)) (32768 : Int)) (1 : Int) = (1 : Int)) then
                                     decide
                                       (IntKind.wrap IntKind.i64 (loadI (avN m) (o_sto true (o_el tU8 m) A (2 : Nat) v) (27 : Int) (IntKind.wrap IntKind.u32 (↑A : Int))) =
                                         IntKind.wrap IntKind.i64 (IntKind.wrap IntKind.i64 (IntKind.wrap IntKind.i64 (mskI v (2 : Int)) + (4294967296 : Int)) - (65536 : Int)))
                                   else false
                               else false then
                             !decide (bitsI BinOp.and IntKind.u32 (Int.fdiv (mskI v (2 : Int)) (32768 : Int)) (1 : Int) = (1 : Int))
                           else false
                         else true then
                       true
                     else
                       !bif decide (mskI (loadI (avN m) (o_sto true (o_el tU8 m) A (2 : Nat) v) (27 : Int) (IntKind.wrap IntKind.u32 (↑A : Int))) (2 : Int) = mskI v (2 : Int)) then
                           !bif decide (bitsI BinOp.and IntKind.u32 (Int.fdiv (mskI v (2 : Int)) (32768 : Int)) (1 : Int) = (1 : Int)) then
                               decide
                                 (IntKind.wrap IntKind.i64 (loadI (avN m) (o_sto true (o_el tU8 m) A (2 : Nat) v) (27 : Int) (IntKind.wrap IntKind.u32 (↑A : Int))) =
                                   IntKind.wrap IntKind.i64 (IntKind.wrap IntKind.i64 (IntKind.wrap IntKind.i64 (mskI v (2 : Int)) + (4294967296 : Int)) - (65536 : Int)))
                             else false
                         else false then
                   bif
                       bif decide (mskI (loadI (avN m) (o_sto true (o_el tU8 m) A (2 : Nat) v) (27 : Int) (IntKind.wrap IntKind.u32 (↑A : Int))) (2 : Int) = mskI v (2 : Int)) then true
                       else !decide (mskI (loadI (avN m) (o_sto true (o_el tU8 m) A (2 : Nat) v) (27 : Int) (IntKind.wrap IntKind.u32 (↑A : Int))) (2 : Int) = mskI v (2 : Int)) then
                     bif
                         bif
                             bif
                                 bif decide (bitsI BinOp.and IntKind.u32 (Int.fdiv (mskI v (2 : Int)) (32768 : Int)) (1 : Int) = (1 : Int)) then
                                   decide
                                     (IntKind.wrap IntKind.i64 (loadI (avN m) (o_sto true (o_el tU8 m) A (2 : Nat) v) (27 : Int) (IntKind.wrap IntKind.u32 (↑A : Int))) =
                                       IntKind.wrap IntKind.i64 (IntKind.wrap IntKind.i64 (IntKind.wrap IntKind.i64 (mskI v (2 : Int)) + (4294967296 : Int)) - (65536 : Int)))
                                 else false then
                               true
                             else
                               bif decide (mskI (loadI (avN m) (o_sto true (o_el tU8 m) A (2 : Nat) v) (27 : Int) (IntKind.wrap IntKind.u32 (↑A : Int))) (2 : Int) = mskI v (2 : Int)) then
                                 !bif decide (bitsI BinOp.and IntKind.u32 (Int.fdiv (mskI v (2 : Int)) (32768 : Int)) (1 : Int) = (1 : Int)) then
                                     decide
                                       (IntKind.wrap IntKind.i64 (loadI (avN m) (o_sto true (o_el tU8 m) A (2 : Nat) v) (27 : Int) (IntKind.wrap IntKind.u32 (↑A : Int))) =
                                         IntKind.wrap IntKind.i64 (IntKind.wrap IntKind.i64 (IntKind.wrap IntKind.i64 (mskI v (2 : Int)) + (4294967296 : Int)) - (65536 : Int)))
                                   else false
                               else false then
                           true
                         else !decide (mskI (loadI (avN m) (o_sto true (o_el tU8 m) A (2 : Nat) v) (27 : Int) (IntKind.wrap IntKind.u32 (↑A : Int))) (2 : Int) = mskI v (2 : Int)) then
                       bif
                           bif decide (mskI (loadI (avN m) (o_sto true (o_el tU8 m) A (2 : Nat) v) (27 : Int) (IntKind.wrap IntKind.u32 (↑A : Int))) (2 : Int) = mskI v (2 : Int)) then
                             decide (mskI (loadI (avN m) (o_sto true (o_el tU8 m) A (2 : Nat) v) (27 : Int) (IntKind.wrap IntKind.u32 (↑A : Int))) (2 : Int) = mskI v (2 : Int))
                           else true then
                         con
                             (XV.bool
                               (bif decide (mskI (loadI (avN m) (o_sto true (o_el tU8 m) A (2 : Nat) v) (27 : Int) (IntKind.wrap IntKind.u32 (↑A : Int))) (2 : Int) = mskI v (2 : Int)) then
                                 bif
                                     bif decide (bitsI BinOp.and IntKind.u32 (Int.fdiv (mskI v (2 : Int)) (32768 : Int)) (1 : Int) = (1 : Int)) then
                                       decide
                                         (IntKind.wrap IntKind.i64 (loadI (avN m) (o_sto true (o_el tU8 m) A (2 : Nat) v) (27 : Int) (IntKind.wrap IntKind.u32 (↑A : Int))) =
                                           IntKind.wrap IntKind.i64 (IntKind.wrap IntKind.i64 (IntKind.wrap IntKind.i64 (mskI v (2 : Int)) + (4294967296 : Int)) - (65536 : Int)))
                                     else false then
                                   true
                                 else
                                   bif !decide (bitsI BinOp.and IntKind.u32 (Int.fdiv (mskI v (2 : Int)) (32768 : Int)) (1 : Int) = (1 : Int)) then
                                     decide (loadI (avN m) (o_sto true (o_el tU8 m) A (2 : Nat) v) (27 : Int) (IntKind.wrap IntKind.u32 (↑A : Int)) = mskI v (2 : Int))
                                   else false
                               else false)) =
                           r
                       else False
                     else False
                   else False
                 else False
               else False
             else False
           else False
         else False
       else False
     else False
   else False) := by kernel_rfl
theorem r_bkl2 (m : AV) (v : Int) (A i : Nat) (r : AV) (P : XSt → Prop) : (goS Try.prog TBb [(.tmp 8)] r (.run c_law5_BytesBack_l1) [.lp c_law5_BytesBack_l1 P, .blk 0, .seq c_law5_BytesBack_p1] (sBk2 28 m v A i)) =
    (bif decide ((↑i : Int) < (↑(avN m) : Int)) then
  bif decide ((↑i : Int) < (↑(avN m) : Int)) then
    bif bif decide ((↑i : Int) ≥ (↑A : Int)) then decide ((↑i : Int) ≥ (↑A : Int)) else true then
      bif bif decide ((↑i : Int) ≥ (↑A : Int)) then decide ((↑i : Int) < IntKind.wrap IntKind.i64 ((↑A : Int) + (2 : Int))) else false then
        bif decide ((0 : Int) ≤ IntKind.wrap IntKind.u64 (IntKind.wrap IntKind.i64 ((8 : Int) * IntKind.wrap IntKind.i64 ((↑i : Int) - (↑A : Int))))) then
          bif decide ((↑i : Int) < (↑(avN m) : Int)) then
            bif
                decide
                  ¬(bif decide (A ≤ i) && decide (i < A + (2 : Nat)) then v / (2 : Int) ^ ((8 : Nat) * (i - A)) % (256 : Int) else avI (avAt m (Int.toNat (↑i : Int)))) =
                      IntKind.wrap IntKind.u8
                        (Int.fdiv v
                          ((2 : Int) ^ Nat.min (Int.toNat (IntKind.wrap IntKind.u64 (IntKind.wrap IntKind.i64 ((8 : Int) * IntKind.wrap IntKind.i64 ((↑i : Int) - (↑A : Int)))))) (32 : Nat))) then
              con (XV.bool false) = r
            else
              P
                (XSt.mk
                  [((14 : Nat), XV.int IntKind.i64 (IntKind.wrap IntKind.i64 ((↑i : Int) + (1 : Int)))), ((13 : Nat), XV.row false (1 : Nat) (avN m) (o_sto true (o_el tU8 m) A (2 : Nat) v)),
                    ((12 : Nat), XV.int IntKind.i64 (↑A : Int)), ((11 : Nat), XV.int IntKind.i64 (28 : Int)), ((10 : Nat), XV.int IntKind.i64 (2 : Int)), ((8 : Nat), XV.bool false),
                    ((0 : Nat), XV.row false (1 : Nat) (avN m) (o_el tU8 m)), ((3 : Nat), XV.int IntKind.u32 v)]
                  [] (0 : Nat))
          else False
        else False
      else
        bif decide ((↑i : Int) < (↑(avN m) : Int)) then
          bif
              decide
                ¬(bif decide (A ≤ i) && decide (i < A + (2 : Nat)) then v / (2 : Int) ^ ((8 : Nat) * (i - A)) % (256 : Int) else avI (avAt m (Int.toNat (↑i : Int)))) =
                    avI (avAt m (Int.toNat (↑i : Int))) then
            con (XV.bool false) = r
          else
            P
              (XSt.mk
                [((14 : Nat), XV.int IntKind.i64 (IntKind.wrap IntKind.i64 ((↑i : Int) + (1 : Int)))), ((13 : Nat), XV.row false (1 : Nat) (avN m) (o_sto true (o_el tU8 m) A (2 : Nat) v)),
                  ((12 : Nat), XV.int IntKind.i64 (↑A : Int)), ((11 : Nat), XV.int IntKind.i64 (28 : Int)), ((10 : Nat), XV.int IntKind.i64 (2 : Int)), ((8 : Nat), XV.bool false),
                  ((0 : Nat), XV.row false (1 : Nat) (avN m) (o_el tU8 m)), ((3 : Nat), XV.int IntKind.u32 v)]
                [] (0 : Nat))
        else False
    else False
  else False
 else
   bif decide (avN m ≤ (1099511627776 : Nat)) then
     bif allN (fun (i : Nat) => true) (avN m) then
       bif rngB (avN m) (o_sto true (o_el tU8 m) A (2 : Nat) v) then
         bif decide (IntKind.wrap IntKind.u32 (↑A : Int) ≤ (4294967295 : Int)) then
           bif
               bif decide (mskI (loadI (avN m) (o_sto true (o_el tU8 m) A (2 : Nat) v) (28 : Int) (IntKind.wrap IntKind.u32 (↑A : Int))) (2 : Int) = mskI v (2 : Int)) then true
               else !decide (mskI (loadI (avN m) (o_sto true (o_el tU8 m) A (2 : Nat) v) (28 : Int) (IntKind.wrap IntKind.u32 (↑A : Int))) (2 : Int) = mskI v (2 : Int)) then
             bif
                 bif bif decide (mskI (loadI (avN m) (o_sto true (o_el tU8 m) A (2 : Nat) v) (28 : Int) (IntKind.wrap IntKind.u32 (↑A : Int))) (2 : Int) = mskI v (2 : Int)) then true else false then
                   true
                 else !bif decide (mskI (loadI (avN m) (o_sto true (o_el tU8 m) A (2 : Nat) v) (28 : Int) (IntKind.wrap IntKind.u32 (↑A : Int))) (2 : Int) = mskI v (2 : Int)) then true else false then
               bif
                   bif
                       bif
                           bif decide (mskI (loadI (avN m) (o_sto true (o_el tU8 m) A (2 : Nat) v) (28 : Int) (IntKind.wrap IntKind.u32 (↑A : Int))) (2 : Int) = mskI v (2 : Int)) then true
                           else false then
                         true
                       else false then
                     true
                   else
                     !bif decide (mskI (loadI (avN m) (o_sto true (o_el tU8 m) A (2 : Nat) v) (28 : Int) (IntKind.wrap IntKind.u32 (↑A : Int))) (2 : Int) = mskI v (2 : Int)) then true else false then
                 bif
                     bif decide (mskI (loadI (avN m) (o_sto true (o_el tU8 m) A (2 : Nat) v) (28 : Int) (IntKind.wrap IntKind.u32 (↑A : Int))) (2 : Int) = mskI v (2 : Int)) then true
                     else !decide (mskI (loadI (avN m) (o_sto true (o_el tU8 m) A (2 : Nat) v) (28 : Int) (IntKind.wrap IntKind.u32 (↑A : Int))) (2 : Int) = mskI v (2 : Int)) then
                   bif
                       bif
                           bif decide (mskI (loadI (avN m) (o_sto true (o_el tU8 m) A (2 : Nat) v) (28 : Int) (IntKind.wrap IntKind.u32 (↑A : Int))) (2 : Int) = mskI v (2 : Int)) then true
                           else false then
                         true
                       else !decide (mskI (loadI (avN m) (o_sto true (o_el tU8 m) A (2 : Nat) v) (28 : Int) (IntKind.wrap IntKind.u32 (↑A : Int))) (2 : Int) = mskI v (2 : Int)) then
                     bif
                         bif decide (mskI (loadI (avN m) (o_sto true (o_el tU8 m) A (2 : Nat) v) (28 : Int) (IntKind.wrap IntKind.u32 (↑A : Int))) (2 : Int) = mskI v (2 : Int)) then
                           decide (mskI (loadI (avN m) (o_sto true (o_el tU8 m) A (2 : Nat) v) (28 : Int) (IntKind.wrap IntKind.u32 (↑A : Int))) (2 : Int) = mskI v (2 : Int))
                         else true then
                       con
                           (XV.bool
                             (bif decide (mskI (loadI (avN m) (o_sto true (o_el tU8 m) A (2 : Nat) v) (28 : Int) (IntKind.wrap IntKind.u32 (↑A : Int))) (2 : Int) = mskI v (2 : Int)) then
                               decide (loadI (avN m) (o_sto true (o_el tU8 m) A (2 : Nat) v) (28 : Int) (IntKind.wrap IntKind.u32 (↑A : Int)) = mskI v (2 : Int))
                             else false)) =
                         r
                     else False
                   else False
                 else False
               else False
             else False
           else False
         else False
       else False
     else False
   else False) := by kernel_rfl
theorem r_bkl3 (m : AV) (v : Int) (A i : Nat) (r : AV) (P : XSt → Prop) : (goS Try.prog TBb [(.tmp 8)] r (.run c_law5_BytesBack_l1) [.lp c_law5_BytesBack_l1 P, .blk 0, .seq c_law5_BytesBack_p1] (sBk3 29 m v A i)) =
    (bif decide ((↑i : Int) < (↑(avN m) : Int)) then
  bif decide ((↑i : Int) < (↑(avN m) : Int)) then
    bif bif decide ((↑i : Int) ≥ (↑A : Int)) then decide ((↑i : Int) ≥ (↑A : Int)) else true then
      bif bif decide ((↑i : Int) ≥ (↑A : Int)) then decide ((↑i : Int) < IntKind.wrap IntKind.i64 ((↑A : Int) + (1 : Int))) else false then
        bif decide ((0 : Int) ≤ IntKind.wrap IntKind.u64 (IntKind.wrap IntKind.i64 ((8 : Int) * IntKind.wrap IntKind.i64 ((↑i : Int) - (↑A : Int))))) then
          bif decide ((↑i : Int) < (↑(avN m) : Int)) then
            bif
                decide
                  ¬(bif decide (A ≤ i) && decide (i < A + (1 : Nat)) then v / (2 : Int) ^ ((8 : Nat) * (i - A)) % (256 : Int) else avI (avAt m (Int.toNat (↑i : Int)))) =
                      IntKind.wrap IntKind.u8
                        (Int.fdiv v
                          ((2 : Int) ^ Nat.min (Int.toNat (IntKind.wrap IntKind.u64 (IntKind.wrap IntKind.i64 ((8 : Int) * IntKind.wrap IntKind.i64 ((↑i : Int) - (↑A : Int)))))) (32 : Nat))) then
              con (XV.bool false) = r
            else
              P
                (XSt.mk
                  [((14 : Nat), XV.int IntKind.i64 (IntKind.wrap IntKind.i64 ((↑i : Int) + (1 : Int)))), ((13 : Nat), XV.row false (1 : Nat) (avN m) (o_sto true (o_el tU8 m) A (1 : Nat) v)),
                    ((12 : Nat), XV.int IntKind.i64 (↑A : Int)), ((11 : Nat), XV.int IntKind.i64 (29 : Int)), ((10 : Nat), XV.int IntKind.i64 (1 : Int)), ((8 : Nat), XV.bool false),
                    ((0 : Nat), XV.row false (1 : Nat) (avN m) (o_el tU8 m)), ((3 : Nat), XV.int IntKind.u32 v)]
                  [] (0 : Nat))
          else False
        else False
      else
        bif decide ((↑i : Int) < (↑(avN m) : Int)) then
          bif
              decide
                ¬(bif decide (A ≤ i) && decide (i < A + (1 : Nat)) then v / (2 : Int) ^ ((8 : Nat) * (i - A)) % (256 : Int) else avI (avAt m (Int.toNat (↑i : Int)))) =
                    avI (avAt m (Int.toNat (↑i : Int))) then
            con (XV.bool false) = r
          else
            P
              (XSt.mk
                [((14 : Nat), XV.int IntKind.i64 (IntKind.wrap IntKind.i64 ((↑i : Int) + (1 : Int)))), ((13 : Nat), XV.row false (1 : Nat) (avN m) (o_sto true (o_el tU8 m) A (1 : Nat) v)),
                  ((12 : Nat), XV.int IntKind.i64 (↑A : Int)), ((11 : Nat), XV.int IntKind.i64 (29 : Int)), ((10 : Nat), XV.int IntKind.i64 (1 : Int)), ((8 : Nat), XV.bool false),
                  ((0 : Nat), XV.row false (1 : Nat) (avN m) (o_el tU8 m)), ((3 : Nat), XV.int IntKind.u32 v)]
                [] (0 : Nat))
        else False
    else False
  else False
 else
   bif decide (avN m ≤ (1099511627776 : Nat)) then
     bif allN (fun (i : Nat) => true) (avN m) then
       bif rngB (avN m) (o_sto true (o_el tU8 m) A (1 : Nat) v) then
         bif decide (IntKind.wrap IntKind.u32 (↑A : Int) ≤ (4294967295 : Int)) then
           bif
               bif decide (mskI (loadI (avN m) (o_sto true (o_el tU8 m) A (1 : Nat) v) (29 : Int) (IntKind.wrap IntKind.u32 (↑A : Int))) (1 : Int) = mskI v (1 : Int)) then true
               else !decide (mskI (loadI (avN m) (o_sto true (o_el tU8 m) A (1 : Nat) v) (29 : Int) (IntKind.wrap IntKind.u32 (↑A : Int))) (1 : Int) = mskI v (1 : Int)) then
             bif
                 bif
                     bif decide (bitsI BinOp.and IntKind.u32 (Int.fdiv (mskI v (1 : Int)) (128 : Int)) (1 : Int) = (1 : Int)) then
                       bif decide (mskI (loadI (avN m) (o_sto true (o_el tU8 m) A (1 : Nat) v) (29 : Int) (IntKind.wrap IntKind.u32 (↑A : Int))) (1 : Int) = mskI v (1 : Int)) then
                         decide (bitsI BinOp.and IntKind.u32 (Int.fdiv (mskI v (1 : Int)) (128 : Int)) (1 : Int) = (1 : Int))
                       else false
                     else true then
                   true
                 else !decide (mskI (loadI (avN m) (o_sto true (o_el tU8 m) A (1 : Nat) v) (29 : Int) (IntKind.wrap IntKind.u32 (↑A : Int))) (1 : Int) = mskI v (1 : Int)) then
               bif
                   bif
                       bif decide (mskI (loadI (avN m) (o_sto true (o_el tU8 m) A (1 : Nat) v) (29 : Int) (IntKind.wrap IntKind.u32 (↑A : Int))) (1 : Int) = mskI v (1 : Int)) then
                         !bif decide (bitsI BinOp.and IntKind.u32 (Int.fdiv (mskI v (1 : Int)) (128 : Int)) (1 : Int) = (1 : Int)) then
                             decide
                               (IntKind.wrap IntKind.i64 (loadI (avN m) (o_sto true (o_el tU8 m) A (1 : Nat) v) (29 : Int) (IntKind.wrap IntKind.u32 (↑A : Int))) =
                                 IntKind.wrap IntKind.i64 (IntKind.wrap IntKind.i64 (IntKind.wrap IntKind.i64 (mskI v (1 : Int)) + (4294967296 : Int)) - (256 : Int)))
                           else false
                       else false then
                     true
                   else
                     !bif decide (mskI (loadI (avN m) (o_sto true (o_el tU8 m) A (1 : Nat) v) (29 : Int) (IntKind.wrap IntKind.u32 (↑A : Int))) (1 : Int) = mskI v (1 : Int)) then
                         !bif decide (bitsI BinOp.and IntKind.u32 (Int.fdiv (mskI v (1 : Int)) (128 : Int)) (1 : Int) = (1 : Int)) then
                             decide
                               (IntKind.wrap IntKind.i64 (loadI (avN m) (o_sto true (o_el tU8 m) A (1 : Nat) v) (29 : Int) (IntKind.wrap IntKind.u32 (↑A : Int))) =
                                 IntKind.wrap IntKind.i64 (IntKind.wrap IntKind.i64 (IntKind.wrap IntKind.i64 (mskI v (1 : Int)) + (4294967296 : Int)) - (256 : Int)))
                           else false
                       else false then
                 bif
                     bif
                         bif !decide (bitsI BinOp.and IntKind.u32 (Int.fdiv (mskI v (1 : Int)) (128 : Int)) (1 : Int) = (1 : Int)) then
                           bif
                               bif decide (mskI (loadI (avN m) (o_sto true (o_el tU8 m) A (1 : Nat) v) (29 : Int) (IntKind.wrap IntKind.u32 (↑A : Int))) (1 : Int) = mskI v (1 : Int)) then
                                 !bif decide (bitsI BinOp.and IntKind.u32 (Int.fdiv (mskI v (1 : Int)) (128 : Int)) (1 : Int) = (1 : Int)) then
                                     decide
                                       (IntKind.wrap IntKind.i64 (loadI (avN m) (o_sto true (o_el tU8 m) A (1 : Nat) v) (29 : Int) (IntKind.wrap IntKind.u32 (↑A : Int))) =
                                         IntKind.wrap IntKind.i64 (IntKind.wrap IntKind.i64 (IntKind.wrap IntKind.i64 (mskI v (1 : Int)) + (4294967296 : Int)) - (256 : Int)))
                                   else false
                               else false then
                             !decide (bitsI BinOp.and IntKind.u32 (Int.fdiv (mskI v (1 : Int)) (128 : Int)) (1 : Int) = (1 : Int))
                           else false
                         else true then
                       true
                     else
                       !bif decide (mskI (loadI (avN m) (o_sto true (o_el tU8 m) A (1 : Nat) v) (29 : Int) (IntKind.wrap IntKind.u32 (↑A : Int))) (1 : Int) = mskI v (1 : Int)) then
                           !bif decide (bitsI BinOp.and IntKind.u32 (Int.fdiv (mskI v (1 : Int)) (128 : Int)) (1 : Int) = (1 : Int)) then
                               decide
                                 (IntKind.wrap IntKind.i64 (loadI (avN m) (o_sto true (o_el tU8 m) A (1 : Nat) v) (29 : Int) (IntKind.wrap IntKind.u32 (↑A : Int))) =
                                   IntKind.wrap IntKind.i64 (IntKind.wrap IntKind.i64 (IntKind.wrap IntKind.i64 (mskI v (1 : Int)) + (4294967296 : Int)) - (256 : Int)))
                             else false
                         else false then
                   bif
                       bif decide (mskI (loadI (avN m) (o_sto true (o_el tU8 m) A (1 : Nat) v) (29 : Int) (IntKind.wrap IntKind.u32 (↑A : Int))) (1 : Int) = mskI v (1 : Int)) then true
                       else !decide (mskI (loadI (avN m) (o_sto true (o_el tU8 m) A (1 : Nat) v) (29 : Int) (IntKind.wrap IntKind.u32 (↑A : Int))) (1 : Int) = mskI v (1 : Int)) then
                     bif
                         bif
                             bif
                                 bif decide (bitsI BinOp.and IntKind.u32 (Int.fdiv (mskI v (1 : Int)) (128 : Int)) (1 : Int) = (1 : Int)) then
                                   decide
                                     (IntKind.wrap IntKind.i64 (loadI (avN m) (o_sto true (o_el tU8 m) A (1 : Nat) v) (29 : Int) (IntKind.wrap IntKind.u32 (↑A : Int))) =
                                       IntKind.wrap IntKind.i64 (IntKind.wrap IntKind.i64 (IntKind.wrap IntKind.i64 (mskI v (1 : Int)) + (4294967296 : Int)) - (256 : Int)))
                                 else false then
                               true
                             else
                               bif decide (mskI (loadI (avN m) (o_sto true (o_el tU8 m) A (1 : Nat) v) (29 : Int) (IntKind.wrap IntKind.u32 (↑A : Int))) (1 : Int) = mskI v (1 : Int)) then
                                 !bif decide (bitsI BinOp.and IntKind.u32 (Int.fdiv (mskI v (1 : Int)) (128 : Int)) (1 : Int) = (1 : Int)) then
                                     decide
                                       (IntKind.wrap IntKind.i64 (loadI (avN m) (o_sto true (o_el tU8 m) A (1 : Nat) v) (29 : Int) (IntKind.wrap IntKind.u32 (↑A : Int))) =
                                         IntKind.wrap IntKind.i64 (IntKind.wrap IntKind.i64 (IntKind.wrap IntKind.i64 (mskI v (1 : Int)) + (4294967296 : Int)) - (256 : Int)))
                                   else false
                               else false then
                           true
                         else !decide (mskI (loadI (avN m) (o_sto true (o_el tU8 m) A (1 : Nat) v) (29 : Int) (IntKind.wrap IntKind.u32 (↑A : Int))) (1 : Int) = mskI v (1 : Int)) then
                       bif
                           bif decide (mskI (loadI (avN m) (o_sto true (o_el tU8 m) A (1 : Nat) v) (29 : Int) (IntKind.wrap IntKind.u32 (↑A : Int))) (1 : Int) = mskI v (1 : Int)) then
                             decide (mskI (loadI (avN m) (o_sto true (o_el tU8 m) A (1 : Nat) v) (29 : Int) (IntKind.wrap IntKind.u32 (↑A : Int))) (1 : Int) = mskI v (1 : Int))
                           else true then
                         con
                             (XV.bool
                               (bif decide (mskI (loadI (avN m) (o_sto true (o_el tU8 m) A (1 : Nat) v) (29 : Int) (IntKind.wrap IntKind.u32 (↑A : Int))) (1 : Int) = mskI v (1 : Int)) then
                                 bif
                                     bif decide (bitsI BinOp.and IntKind.u32 (Int.fdiv (mskI v (1 : Int)) (128 : Int)) (1 : Int) = (1 : Int)) then
                                       decide
                                         (IntKind.wrap IntKind.i64 (loadI (avN m) (o_sto true (o_el tU8 m) A (1 : Nat) v) (29 : Int) (IntKind.wrap IntKind.u32 (↑A : Int))) =
                                           IntKind.wrap IntKind.i64 (IntKind.wrap IntKind.i64 (IntKind.wrap IntKind.i64 (mskI v (1 : Int)) + (4294967296 : Int)) - (256 : Int)))
                                     else false then
                                   true
                                 else
                                   bif !decide (bitsI BinOp.and IntKind.u32 (Int.fdiv (mskI v (1 : Int)) (128 : Int)) (1 : Int) = (1 : Int)) then
                                     decide (loadI (avN m) (o_sto true (o_el tU8 m) A (1 : Nat) v) (29 : Int) (IntKind.wrap IntKind.u32 (↑A : Int)) = mskI v (1 : Int))
                                   else false
                               else false)) =
                           r
                       else False
                     else False
                   else False
                 else False
               else False
             else False
           else False
         else False
       else False
     else False
   else False) := by kernel_rfl
theorem r_bkl4 (m : AV) (v : Int) (A i : Nat) (r : AV) (P : XSt → Prop) : (goS Try.prog TBb [(.tmp 8)] r (.run c_law5_BytesBack_l1) [.lp c_law5_BytesBack_l1 P, .blk 0, .seq c_law5_BytesBack_p1] (sBk4 30 m v A i)) =
    (bif decide ((↑i : Int) < (↑(avN m) : Int)) then
  bif decide ((↑i : Int) < (↑(avN m) : Int)) then
    bif bif decide ((↑i : Int) ≥ (↑A : Int)) then decide ((↑i : Int) ≥ (↑A : Int)) else true then
      bif bif decide ((↑i : Int) ≥ (↑A : Int)) then decide ((↑i : Int) < IntKind.wrap IntKind.i64 ((↑A : Int) + (1 : Int))) else false then
        bif decide ((0 : Int) ≤ IntKind.wrap IntKind.u64 (IntKind.wrap IntKind.i64 ((8 : Int) * IntKind.wrap IntKind.i64 ((↑i : Int) - (↑A : Int))))) then
          bif decide ((↑i : Int) < (↑(avN m) : Int)) then
            bif
                decide
                  ¬(bif decide (A ≤ i) && decide (i < A + (1 : Nat)) then v / (2 : Int) ^ ((8 : Nat) * (i - A)) % (256 : Int) else avI (avAt m (Int.toNat (↑i : Int)))) =
                      IntKind.wrap IntKind.u8
                        (Int.fdiv v
                          ((2 : Int) ^ Nat.min (Int.toNat (IntKind.wrap IntKind.u64 (IntKind.wrap IntKind.i64 ((8 : Int) * IntKind.wrap IntKind.i64 ((↑i : Int) - (↑A : Int)))))) (32 : Nat))) then
              con (XV.bool false) = r
            else
              P
                (XSt.mk
                  [((14 : Nat), XV.int IntKind.i64 (IntKind.wrap IntKind.i64 ((↑i : Int) + (1 : Int)))), ((13 : Nat), XV.row false (1 : Nat) (avN m) (o_sto true (o_el tU8 m) A (1 : Nat) v)),
                    ((12 : Nat), XV.int IntKind.i64 (↑A : Int)), ((11 : Nat), XV.int IntKind.i64 (30 : Int)), ((10 : Nat), XV.int IntKind.i64 (1 : Int)), ((8 : Nat), XV.bool false),
                    ((0 : Nat), XV.row false (1 : Nat) (avN m) (o_el tU8 m)), ((3 : Nat), XV.int IntKind.u32 v)]
                  [] (0 : Nat))
          else False
        else False
      else
        bif decide ((↑i : Int) < (↑(avN m) : Int)) then
          bif
              decide
                ¬(bif decide (A ≤ i) && decide (i < A + (1 : Nat)) then v / (2 : Int) ^ ((8 : Nat) * (i - A)) % (256 : Int) else avI (avAt m (Int.toNat (↑i : Int)))) =
                    avI (avAt m (Int.toNat (↑i : Int))) then
            con (XV.bool false) = r
          else
            P
              (XSt.mk
                [((14 : Nat), XV.int IntKind.i64 (IntKind.wrap IntKind.i64 ((↑i : Int) + (1 : Int)))), ((13 : Nat), XV.row false (1 : Nat) (avN m) (o_sto true (o_el tU8 m) A (1 : Nat) v)),
                  ((12 : Nat), XV.int IntKind.i64 (↑A : Int)), ((11 : Nat), XV.int IntKind.i64 (30 : Int)), ((10 : Nat), XV.int IntKind.i64 (1 : Int)), ((8 : Nat), XV.bool false),
                  ((0 : Nat), XV.row false (1 : Nat) (avN m) (o_el tU8 m)), ((3 : Nat), XV.int IntKind.u32 v)]
                [] (0 : Nat))
        else False
    else False
  else False
 else
   bif decide (avN m ≤ (1099511627776 : Nat)) then
     bif allN (fun (i : Nat) => true) (avN m) then
       bif rngB (avN m) (o_sto true (o_el tU8 m) A (1 : Nat) v) then
         bif decide (IntKind.wrap IntKind.u32 (↑A : Int) ≤ (4294967295 : Int)) then
           bif
               bif decide (mskI (loadI (avN m) (o_sto true (o_el tU8 m) A (1 : Nat) v) (30 : Int) (IntKind.wrap IntKind.u32 (↑A : Int))) (1 : Int) = mskI v (1 : Int)) then true
               else !decide (mskI (loadI (avN m) (o_sto true (o_el tU8 m) A (1 : Nat) v) (30 : Int) (IntKind.wrap IntKind.u32 (↑A : Int))) (1 : Int) = mskI v (1 : Int)) then
             bif
                 bif bif decide (mskI (loadI (avN m) (o_sto true (o_el tU8 m) A (1 : Nat) v) (30 : Int) (IntKind.wrap IntKind.u32 (↑A : Int))) (1 : Int) = mskI v (1 : Int)) then true else false then
                   true
                 else !bif decide (mskI (loadI (avN m) (o_sto true (o_el tU8 m) A (1 : Nat) v) (30 : Int) (IntKind.wrap IntKind.u32 (↑A : Int))) (1 : Int) = mskI v (1 : Int)) then true else false then
               bif
                   bif
                       bif
                           bif decide (mskI (loadI (avN m) (o_sto true (o_el tU8 m) A (1 : Nat) v) (30 : Int) (IntKind.wrap IntKind.u32 (↑A : Int))) (1 : Int) = mskI v (1 : Int)) then true
                           else false then
                         true
                       else false then
                     true
                   else
                     !bif decide (mskI (loadI (avN m) (o_sto true (o_el tU8 m) A (1 : Nat) v) (30 : Int) (IntKind.wrap IntKind.u32 (↑A : Int))) (1 : Int) = mskI v (1 : Int)) then true else false then
                 bif
                     bif decide (mskI (loadI (avN m) (o_sto true (o_el tU8 m) A (1 : Nat) v) (30 : Int) (IntKind.wrap IntKind.u32 (↑A : Int))) (1 : Int) = mskI v (1 : Int)) then true
                     else !decide (mskI (loadI (avN m) (o_sto true (o_el tU8 m) A (1 : Nat) v) (30 : Int) (IntKind.wrap IntKind.u32 (↑A : Int))) (1 : Int) = mskI v (1 : Int)) then
                   bif
                       bif
                           bif decide (mskI (loadI (avN m) (o_sto true (o_el tU8 m) A (1 : Nat) v) (30 : Int) (IntKind.wrap IntKind.u32 (↑A : Int))) (1 : Int) = mskI v (1 : Int)) then true
                           else false then
                         true
                       else !decide (mskI (loadI (avN m) (o_sto true (o_el tU8 m) A (1 : Nat) v) (30 : Int) (IntKind.wrap IntKind.u32 (↑A : Int))) (1 : Int) = mskI v (1 : Int)) then
                     bif
                         bif decide (mskI (loadI (avN m) (o_sto true (o_el tU8 m) A (1 : Nat) v) (30 : Int) (IntKind.wrap IntKind.u32 (↑A : Int))) (1 : Int) = mskI v (1 : Int)) then
                           decide (mskI (loadI (avN m) (o_sto true (o_el tU8 m) A (1 : Nat) v) (30 : Int) (IntKind.wrap IntKind.u32 (↑A : Int))) (1 : Int) = mskI v (1 : Int))
                         else true then
                       con
                           (XV.bool
                             (bif decide (mskI (loadI (avN m) (o_sto true (o_el tU8 m) A (1 : Nat) v) (30 : Int) (IntKind.wrap IntKind.u32 (↑A : Int))) (1 : Int) = mskI v (1 : Int)) then
                               decide (loadI (avN m) (o_sto true (o_el tU8 m) A (1 : Nat) v) (30 : Int) (IntKind.wrap IntKind.u32 (↑A : Int)) = mskI v (1 : Int))
                             else false)) =
                         r
                     else False
                   else False
                 else False
               else False
             else False
           else False
         else False
       else False
     else False
   else False) := by kernel_rfl
theorem wrd_sto1 {f : Nat → XV} {A : Nat} {v : Int} : wrd (o_sto true f A 1 v) A 1 = v % 256 := by
  simp only [wrd, sto_in (f := f) (a := A) (v := v) (show 0 < 1 by omega) rfl, asN]
  omega
theorem wrd_sto2 {f : Nat → XV} {A : Nat} {v : Int} : wrd (o_sto true f A 2 v) A 2 = v % 65536 := by
  simp only [wrd, sto_in (f := f) (a := A) (v := v) (show 0 < 2 by omega) rfl, sto_in (f := f) (a := A) (v := v) (show 1 < 2 by omega) rfl, asN]
  omega
theorem wrd_sto4 {f : Nat → XV} {A : Nat} {v : Int} (h0 : 0 ≤ v) (h1 : v ≤ 4294967295) : wrd (o_sto true f A 4 v) A 4 = v := by
  simp only [wrd, sto_in (f := f) (a := A) (v := v) (show 0 < 4 by omega) rfl, sto_in (f := f) (a := A) (v := v) (show 1 < 4 by omega) rfl, sto_in (f := f) (a := A) (v := v) (show 2 < 4 by omega) rfl, sto_in (f := f) (a := A) (v := v) (show 3 < 4 by omega) rfl, asN]
  omega
theorem and_low {x : Int} (k : Nat) (hk : k < 32) (h0 : 0 ≤ x) (h1 : x ≤ 4294967295) : bitsI .and .u32 x ((2 ^ k - 1 : Nat) : Int) = x % ((2 ^ k : Nat) : Int) := by
  obtain ⟨m, rfl⟩ := Int.eq_ofNat_of_zero_le h0
  have hp : 2 ^ k < 4294967296 := by
    have := Nat.pow_lt_pow_right (a := 2) (by omega) hk
    omega
  have hq : 0 < 2 ^ k := Nat.two_pow_pos k
  have h3 : m &&& (2 ^ k - 1) = m % 2 ^ k := Nat.and_two_pow_sub_one_eq_mod m k
  have h5 : m % 2 ^ k < 2 ^ k := Nat.mod_lt _ hq
  rw [← Int.natCast_emod]
  generalize 2 ^ k = d at *
  show IntKind.u32.wrap (((BitVec.ofInt 32 (m : Int)) &&& (BitVec.ofInt 32 ((d - 1 : Nat) : Int))).toNat : Int) = _
  have e1 : (BitVec.ofInt 32 (m : Int)).toNat = m := by rw [BitVec.toNat_ofInt]; omega
  have e2 : (BitVec.ofInt 32 ((d - 1 : Nat) : Int)).toNat = d - 1 := by rw [BitVec.toNat_ofInt]; omega
  rw [BitVec.toNat_and, e1, e2, h3, wU32]
  omega
theorem msk1 {v : Int} (h0 : 0 ≤ v) (h1 : v ≤ 4294967295) : mskI v 1 = v % 256 := by
  unfold mskI; rw [if_pos rfl]; exact and_low 8 (by omega) h0 h1
theorem msk2 {v : Int} (h0 : 0 ≤ v) (h1 : v ≤ 4294967295) : mskI v 2 = v % 65536 := by
  unfold mskI; rw [if_neg (by omega), if_pos rfl]; exact and_low 16 (by omega) h0 h1
theorem msk4 {v : Int} : mskI v 4 = v := by
  unfold mskI; rw [if_neg (by omega), if_neg (by omega), if_pos rfl]
theorem bit1 {v : Int} (h0 : 0 ≤ v) (h1 : v ≤ 4294967295) : bitsI .and .u32 v 1 = v % 2 := and_low 1 (by omega) h0 h1
theorem chk_v {s a n : Int} (hs : s = 1 ∨ s = 2 ∨ s = 4) (h0 : 0 ≤ a) (h1 : a ≤ 4294967295) (hn : 0 ≤ n) (hn2 : n ≤ 1099511627776) : chkI s a n = if a % s = 0 then (if a + s ≤ n then 0 else 2) else 1 := by
  unfold chkI
  have h4 : IntKind.i64.wrap a = a := wrap_i64 (by omega) (by omega)
  have h5 : IntKind.i64.wrap (n - s) = n - s := wrap_i64 (by omega) (by omega)
  rw [h4, h5, Int.tmod_eq_emod_of_nonneg h0]
  by_cases h6 : a % s = 0
  · rw [if_neg (by rintro ⟨_, h⟩; exact h h6), if_pos h6]
    by_cases h7 : a + s ≤ n
    · rw [if_pos h7, if_neg (by rintro (⟨_, h | h⟩ | ⟨h, _⟩) <;> omega)]
    · rw [if_neg h7, if_pos (.inl ⟨by omega, by omega⟩)]
  · rw [if_pos ⟨by omega, h6⟩, if_neg h6]
theorem lod0 {n : Nat} {f : Nat → XV} {A : Nat} {v : Int} (hA : (A : Int) % 4 = 0) (hn : A + 4 ≤ n) (hn2 : n ≤ 200) (h0 : 0 ≤ v) (h1 : v ≤ 4294967295) : loadI n (o_sto true f A 4 v) 26 (IntKind.u32.wrap A) = v := by
  rw [wrap_u32 (x := (A : Int)) (by omega) (by omega)]
  have hs : szI 26 = 4 := by simp [szI]
  unfold loadI
  rw [hs, if_pos ⟨by omega, by omega, by rw [chk_v (by omega) (by omega) (by omega) (by omega) (by omega), if_pos hA, if_pos (by omega)]⟩]
  rw [show ((A : Int)).toNat = A from rfl, show (4 : Int).toNat = 4 from rfl, wrd_sto4 h0 h1]
  simp [extI]
theorem lod1 {n : Nat} {f : Nat → XV} {A : Nat} {v : Int} (hA : (A : Int) % 2 = 0) (hn : A + 2 ≤ n) (hn2 : n ≤ 200) (h0 : 0 ≤ v) (h1 : v ≤ 4294967295) : loadI n (o_sto true f A 2 v) 27 (IntKind.u32.wrap A) = (if v % 65536 ≥ 32768 then v % 65536 + 4294901760 else v % 65536) := by
  rw [wrap_u32 (x := (A : Int)) (by omega) (by omega)]
  have hs : szI 27 = 2 := by simp [szI]
  unfold loadI
  rw [hs, if_pos ⟨by omega, by omega, by rw [chk_v (by omega) (by omega) (by omega) (by omega) (by omega), if_pos hA, if_pos (by omega)]⟩]
  rw [show ((A : Int)).toNat = A from rfl, show (2 : Int).toNat = 2 from rfl, wrd_sto2]
  simp only [extI, if_true, if_false, show ¬ (29 : Int) = 27 by omega]; (have : v % 65536 % 65536 = v % 65536 := by omega); rw [this]
theorem lod2 {n : Nat} {f : Nat → XV} {A : Nat} {v : Int} (hA : (A : Int) % 2 = 0) (hn : A + 2 ≤ n) (hn2 : n ≤ 200) (h0 : 0 ≤ v) (h1 : v ≤ 4294967295) : loadI n (o_sto true f A 2 v) 28 (IntKind.u32.wrap A) = v % 65536 := by
  rw [wrap_u32 (x := (A : Int)) (by omega) (by omega)]
  have hs : szI 28 = 2 := by simp [szI]
  unfold loadI
  rw [hs, if_pos ⟨by omega, by omega, by rw [chk_v (by omega) (by omega) (by omega) (by omega) (by omega), if_pos hA, if_pos (by omega)]⟩]
  rw [show ((A : Int)).toNat = A from rfl, show (2 : Int).toNat = 2 from rfl, wrd_sto2]
  simp [extI]
theorem lod3 {n : Nat} {f : Nat → XV} {A : Nat} {v : Int} (hA : (A : Int) % 1 = 0) (hn : A + 1 ≤ n) (hn2 : n ≤ 200) (h0 : 0 ≤ v) (h1 : v ≤ 4294967295) : loadI n (o_sto true f A 1 v) 29 (IntKind.u32.wrap A) = (if v % 256 ≥ 128 then v % 256 + 4294967040 else v % 256) := by
  rw [wrap_u32 (x := (A : Int)) (by omega) (by omega)]
  have hs : szI 29 = 1 := by simp [szI]
  unfold loadI
  rw [hs, if_pos ⟨by omega, by omega, by rw [chk_v (by omega) (by omega) (by omega) (by omega) (by omega), if_pos hA, if_pos (by omega)]⟩]
  rw [show ((A : Int)).toNat = A from rfl, show (1 : Int).toNat = 1 from rfl, wrd_sto1]
  simp only [extI, if_true, if_false, show ¬ (29 : Int) = 27 by omega]; (have : v % 256 % 256 = v % 256 := by omega); rw [this]
theorem lod4 {n : Nat} {f : Nat → XV} {A : Nat} {v : Int} (hA : (A : Int) % 1 = 0) (hn : A + 1 ≤ n) (hn2 : n ≤ 200) (h0 : 0 ≤ v) (h1 : v ≤ 4294967295) : loadI n (o_sto true f A 1 v) 30 (IntKind.u32.wrap A) = v % 256 := by
  rw [wrap_u32 (x := (A : Int)) (by omega) (by omega)]
  have hs : szI 30 = 1 := by simp [szI]
  unfold loadI
  rw [hs, if_pos ⟨by omega, by omega, by rw [chk_v (by omega) (by omega) (by omega) (by omega) (by omega), if_pos hA, if_pos (by omega)]⟩]
  rw [show ((A : Int)).toNat = A from rfl, show (1 : Int).toNat = 1 from rfl, wrd_sto1]
  simp [extI]
theorem adr {n s : Nat} {a : Int} (ha : 0 ≤ a) (ha2 : a ≤ 9223372036854775807) (hs : 0 < s) (hn : s ≤ n) (hn2 : n ≤ 200) : ∃ A : Nat, IntKind.i64.wrap (Int.tmod a (IntKind.i64.wrap (Int.tdiv n s)) * s) = A ∧ (A : Int) % s = 0 ∧ A + s ≤ n := by
  obtain ⟨b, rfl⟩ := Int.eq_ofNat_of_zero_le ha
  have e1 : Int.tdiv (n : Int) s = ((n / s : Nat) : Int) := rfl
  have hd : n / s ≤ n := Nat.div_le_self n s
  have hp : 0 < n / s := Nat.div_pos hn hs
  rw [e1, wrap_i64 (x := ((n / s : Nat) : Int)) (by generalize n / s = q at *; omega) (by generalize n / s = q at *; omega)]
  have e2 : Int.tmod (b : Int) ((n / s : Nat) : Int) = ((b % (n / s) : Nat) : Int) := rfl
  have hm : b % (n / s) < n / s := Nat.mod_lt _ hp
  have h3 : (b % (n / s) + 1) * s ≤ n := Nat.le_trans (Nat.mul_le_mul_right s hm) (Nat.div_mul_le_self n s)
  rw [Nat.add_mul, Nat.one_mul] at h3
  refine ⟨b % (n / s) * s, ?_, ?_, h3⟩
  · rw [e2, ← Int.natCast_mul]
    generalize b % (n / s) * s = d at *
    exact wrap_i64 (by omega) (by omega)
  · rw [← Int.natCast_emod, Nat.mul_mod_left]; rfl
-- printed by genbk7.py
theorem byt_at {v : Int} {A i : Nat} (hA : A ≤ 200) (h : A ≤ i) (h2 : i < A + 4) : v / 2 ^ (8 * (i - A)) % 256 = IntKind.u8.wrap (Int.fdiv v (2 ^ Nat.min (Int.toNat (IntKind.u64.wrap (IntKind.i64.wrap (8 * IntKind.i64.wrap ((i : Int) - (A : Int)))))) 32)) := by
  rw [wrap_i64 (x := (i : Int) - (A : Int)) (by omega) (by omega), wrap_i64 (by omega) (by omega), wU64]
  have e : Nat.min (Int.toNat (8 * ((i : Int) - (A : Int)) % 18446744073709551616)) 32 = 8 * (i - A) := by
    have e2 : Int.toNat (8 * ((i : Int) - (A : Int)) % 18446744073709551616) = 8 * (i - A) := by omega
    rw [e2]
    exact Nat.min_eq_left (by omega)
  rw [e, wU8, fdivE (Int.pow_nonneg (by omega))]
theorem rng_sto {n : Nat} {f : Nat → XV} {A s : Nat} {v : Int} (hb : rngB n f = true) : rngB n (o_sto true f A s v) = true := by
  rw [rngB_iff] at hb ⊢
  intro i hi
  have := hb i hi
  by_cases h : A ≤ i ∧ i < A + s
  · rw [sto_in (j := i - A) (by omega) (by omega)]
    simp only [asN]
    omega
  · rw [sto_out (by omega)]
    exact this
theorem hd_of {n s : Nat} (hs : 0 < s) (h : s ≤ n) (h2 : n ≤ 200) : ¬ IntKind.i64.wrap (Int.tdiv (n : Int) (s : Int)) = 0 := by
  have e1 : Int.tdiv (n : Int) (s : Int) = ((n / s : Nat) : Int) := rfl
  have hd : n / s ≤ n := Nat.div_le_self n s
  have hp : 0 < n / s := Nat.div_pos h hs
  rw [e1, wrap_i64 (by omega) (by omega)]
  omega
theorem pk3 (p z : Bool) : (bif (bif p then (bif !z then p else false) else true) then true else !!z) = true := by cases p <;> cases z <;> rfl
theorem bk0 (m : AV) (a v : Int) (hb : rngB (avN m) (o_el tU8 m) = true) (ha2 : a ≤ 9223372036854775807) (h0 : 0 ≤ v) (h1 : v ≤ 4294967295) :
    Pure Try.prog 8 (cons [.row false 1 (avN m) (o_el tU8 m), .int .i64 0, .int .i64 a, .int .u32 v]) (con (.bool true)) := by
  refine pureS mix TBbok t_law5_BytesBack (Nat.le_of_ble_eq_true rfl) ?_
  rw [r_bk00]
  simp only [pk_or, pk_and, pk3, cond_true]
  by_cases hn : ((avN m : Nat) : Int) > 200
  · simp [hn]
  by_cases ha : a < 0
  · simp [hn, ha]
  by_cases hs : ((avN m : Nat) : Int) < 4
  · simp [hn, ha, hs]
  obtain ⟨A, hA, hA2, hA3⟩ := adr (n := avN m) (s := 4) (a := a) (by omega) ha2 (by omega) (by omega) (by omega)
  have hA' : IntKind.i64.wrap (Int.tmod a (IntKind.i64.wrap (Int.tdiv (avN m) 4)) * 4) = (A : Int) := hA
  have hA2' : (A : Int) % 4 = 0 := hA2
  have hd : ¬ IntKind.i64.wrap (Int.tdiv ((avN m : Nat) : Int) 4) = 0 := hd_of (s := 4) (by omega) (by omega) (by omega)
  have hok : okW (avN m) (A : Int) 4 = true := okW_iff.2 ⟨by omega, by omega, by omega, by rw [chk_v (by omega) (by omega) (by omega) (by omega) (by omega), if_pos hA2', if_pos (by omega)]⟩
  have hb6 : avN m ≤ 1099511627776 := by omega
  simp only [hn, ha, hs, hA', hd, hok, hb6, decide_true, decide_false, cond_true, cond_false, allN_true, Nat.le_refl, Int.toNat_natCast, Nat.beq_refl, pk_and, pk_or, Bool.not_true, Bool.not_false, not_true_eq_false, not_false_eq_true, Bool.and_true, Bool.true_and, Bool.and_self, ge_iff_le, Int.le_refl, if_true, if_false, reduceCtorEq, eq_self, BEq.rfl]
  refine loopS mix TBbok (fun i : Nat => sBk0 26 m v A i) (fun i => i ≤ avN m) (fun i => avN m - i) 0 (Nat.zero_le _) (weakN ⟨le_is rfl, le_is rfl, le_is rfl, le_is rfl, le_is rfl, le_is rfl, le_is rfl, le_is rfl, trivial⟩ trivial (Nat.le_refl _)) ?_
  intro i hi
  rw [r_bkl0]
  simp only [pk_or, pk_and, pk3, cond_true]
  have w1 : IntKind.i64.wrap ((i : Int) + 1) = ((i + 1 : Nat) : Int) := wrap_i64 (by omega) (by omega)
  by_cases hl : (i : Int) < ((avN m : Nat) : Int)
  · have w2 : IntKind.i64.wrap ((A : Int) + 4) = (A : Int) + 4 := wrap_i64 (by omega) (by omega)
    by_cases hin : (i : Int) ≥ (A : Int)
    · by_cases hin2 : (i : Int) < (A : Int) + 4
      · have g1 : A ≤ i := by omega
        have g2 : i < A + 4 := by omega
        have g3 : 0 ≤ IntKind.u64.wrap (IntKind.i64.wrap (8 * IntKind.i64.wrap ((i : Int) - (A : Int)))) := by rw [wU64]; omega
        have g4 := byt_at (v := v) (A := A) (i := i) (by omega) g1 (by omega)
        have hin' : (A : Int) ≤ (i : Int) := hin
        simp only [hl, hin', w2, hin2, g1, g2, g3, ← g4, w1, decide_true, decide_false, cond_true, cond_false, allN_true, Nat.le_refl, Int.toNat_natCast, Nat.beq_refl, pk_and, pk_or, Bool.not_true, Bool.not_false, not_true_eq_false, not_false_eq_true, Bool.and_true, Bool.true_and, Bool.and_self, ge_iff_le, Int.le_refl, if_true, if_false, reduceCtorEq, eq_self, BEq.rfl]
        exact ⟨i + 1, by omega, weakN ⟨le_is rfl, le_is rfl, le_is rfl, le_is rfl, le_is rfl, le_is rfl, le_is rfl, le_is rfl, trivial⟩ trivial (Nat.le_refl _), by omega⟩
      · have g2 : ¬ i < A + 4 := by omega
        have hin' : (A : Int) ≤ (i : Int) := hin
        simp only [hl, hin', w2, hin2, g2, w1, Bool.and_false, decide_true, decide_false, cond_true, cond_false, allN_true, Nat.le_refl, Int.toNat_natCast, Nat.beq_refl, pk_and, pk_or, Bool.not_true, Bool.not_false, not_true_eq_false, not_false_eq_true, Bool.and_true, Bool.true_and, Bool.and_self, ge_iff_le, Int.le_refl, if_true, if_false, reduceCtorEq, eq_self, BEq.rfl]
        exact ⟨i + 1, by omega, weakN ⟨le_is rfl, le_is rfl, le_is rfl, le_is rfl, le_is rfl, le_is rfl, le_is rfl, le_is rfl, trivial⟩ trivial (Nat.le_refl _), by omega⟩
    · have g1 : ¬ A ≤ i := by omega
      have hin' : ¬ (A : Int) ≤ (i : Int) := hin
      simp only [hl, hin', g1, w1, Bool.false_and, decide_true, decide_false, cond_true, cond_false, allN_true, Nat.le_refl, Int.toNat_natCast, Nat.beq_refl, pk_and, pk_or, Bool.not_true, Bool.not_false, not_true_eq_false, not_false_eq_true, Bool.and_true, Bool.true_and, Bool.and_self, ge_iff_le, Int.le_refl, if_true, if_false, reduceCtorEq, eq_self, BEq.rfl]
      exact ⟨i + 1, by omega, weakN ⟨le_is rfl, le_is rfl, le_is rfl, le_is rfl, le_is rfl, le_is rfl, le_is rfl, le_is rfl, trivial⟩ trivial (Nat.le_refl _), by omega⟩
  · have hA2' : (A : Int) % 4 = 0 := hA2
    have hlod := lod0 (n := avN m) (f := o_el tU8 m) (A := A) (v := v) hA2' hA3 (by omega) h0 h1
    have hrs := rng_sto (A := A) (s := 4) (v := v) hb
    have hA4 : IntKind.u32.wrap (A : Int) ≤ 4294967295 := by rw [wU32]; omega
    have hA5 : 0 ≤ IntKind.u32.wrap (A : Int) := by rw [wU32]; omega
    simp only [hl, hlod, hrs, hA4, hA5, hb6, msk4, decide_true, decide_false, cond_true, cond_false, allN_true, Nat.le_refl, Int.toNat_natCast, Nat.beq_refl, pk_and, pk_or, Bool.not_true, Bool.not_false, not_true_eq_false, not_false_eq_true, Bool.and_true, Bool.true_and, Bool.and_self, ge_iff_le, Int.le_refl, if_true, if_false, reduceCtorEq, eq_self, BEq.rfl]
theorem bk1 (m : AV) (a v : Int) (hb : rngB (avN m) (o_el tU8 m) = true) (ha2 : a ≤ 9223372036854775807) (h0 : 0 ≤ v) (h1 : v ≤ 4294967295) :
    Pure Try.prog 8 (cons [.row false 1 (avN m) (o_el tU8 m), .int .i64 1, .int .i64 a, .int .u32 v]) (con (.bool true)) := by
  refine pureS mix TBbok t_law5_BytesBack (Nat.le_of_ble_eq_true rfl) ?_
  rw [r_bk01]
  simp only [pk_or, pk_and, pk3, cond_true]
  by_cases hn : ((avN m : Nat) : Int) > 200
  · simp [hn]
  by_cases ha : a < 0
  · simp [hn, ha]
  by_cases hs : ((avN m : Nat) : Int) < 2
  · simp [hn, ha, hs]
  obtain ⟨A, hA, hA2, hA3⟩ := adr (n := avN m) (s := 2) (a := a) (by omega) ha2 (by omega) (by omega) (by omega)
  have hA' : IntKind.i64.wrap (Int.tmod a (IntKind.i64.wrap (Int.tdiv (avN m) 2)) * 2) = (A : Int) := hA
  have hA2' : (A : Int) % 2 = 0 := hA2
  have hd : ¬ IntKind.i64.wrap (Int.tdiv ((avN m : Nat) : Int) 2) = 0 := hd_of (s := 2) (by omega) (by omega) (by omega)
  have hok : okW (avN m) (A : Int) 2 = true := okW_iff.2 ⟨by omega, by omega, by omega, by rw [chk_v (by omega) (by omega) (by omega) (by omega) (by omega), if_pos hA2', if_pos (by omega)]⟩
  have hb6 : avN m ≤ 1099511627776 := by omega
  simp only [hn, ha, hs, hA', hd, hok, hb6, decide_true, decide_false, cond_true, cond_false, allN_true, Nat.le_refl, Int.toNat_natCast, Nat.beq_refl, pk_and, pk_or, Bool.not_true, Bool.not_false, not_true_eq_false, not_false_eq_true, Bool.and_true, Bool.true_and, Bool.and_self, ge_iff_le, Int.le_refl, if_true, if_false, reduceCtorEq, eq_self, BEq.rfl]
  refine loopS mix TBbok (fun i : Nat => sBk1 27 m v A i) (fun i => i ≤ avN m) (fun i => avN m - i) 0 (Nat.zero_le _) (weakN ⟨le_is rfl, le_is rfl, le_is rfl, le_is rfl, le_is rfl, le_is rfl, le_is rfl, le_is rfl, trivial⟩ trivial (Nat.le_refl _)) ?_
  intro i hi
  rw [r_bkl1]
  simp only [pk_or, pk_and, pk3, cond_true]
  have w1 : IntKind.i64.wrap ((i : Int) + 1) = ((i + 1 : Nat) : Int) := wrap_i64 (by omega) (by omega)
  by_cases hl : (i : Int) < ((avN m : Nat) : Int)
  · have w2 : IntKind.i64.wrap ((A : Int) + 2) = (A : Int) + 2 := wrap_i64 (by omega) (by omega)
    by_cases hin : (i : Int) ≥ (A : Int)
    · by_cases hin2 : (i : Int) < (A : Int) + 2
      · have g1 : A ≤ i := by omega
        have g2 : i < A + 2 := by omega
        have g3 : 0 ≤ IntKind.u64.wrap (IntKind.i64.wrap (8 * IntKind.i64.wrap ((i : Int) - (A : Int)))) := by rw [wU64]; omega
        have g4 := byt_at (v := v) (A := A) (i := i) (by omega) g1 (by omega)
        have hin' : (A : Int) ≤ (i : Int) := hin
        simp only [hl, hin', w2, hin2, g1, g2, g3, ← g4, w1, decide_true, decide_false, cond_true, cond_false, allN_true, Nat.le_refl, Int.toNat_natCast, Nat.beq_refl, pk_and, pk_or, Bool.not_true, Bool.not_false, not_true_eq_false, not_false_eq_true, Bool.and_true, Bool.true_and, Bool.and_self, ge_iff_le, Int.le_refl, if_true, if_false, reduceCtorEq, eq_self, BEq.rfl]
        exact ⟨i + 1, by omega, weakN ⟨le_is rfl, le_is rfl, le_is rfl, le_is rfl, le_is rfl, le_is rfl, le_is rfl, le_is rfl, trivial⟩ trivial (Nat.le_refl _), by omega⟩
      · have g2 : ¬ i < A + 2 := by omega
        have hin' : (A : Int) ≤ (i : Int) := hin
        simp only [hl, hin', w2, hin2, g2, w1, Bool.and_false, decide_true, decide_false, cond_true, cond_false, allN_true, Nat.le_refl, Int.toNat_natCast, Nat.beq_refl, pk_and, pk_or, Bool.not_true, Bool.not_false, not_true_eq_false, not_false_eq_true, Bool.and_true, Bool.true_and, Bool.and_self, ge_iff_le, Int.le_refl, if_true, if_false, reduceCtorEq, eq_self, BEq.rfl]
        exact ⟨i + 1, by omega, weakN ⟨le_is rfl, le_is rfl, le_is rfl, le_is rfl, le_is rfl, le_is rfl, le_is rfl, le_is rfl, trivial⟩ trivial (Nat.le_refl _), by omega⟩
    · have g1 : ¬ A ≤ i := by omega
      have hin' : ¬ (A : Int) ≤ (i : Int) := hin
      simp only [hl, hin', g1, w1, Bool.false_and, decide_true, decide_false, cond_true, cond_false, allN_true, Nat.le_refl, Int.toNat_natCast, Nat.beq_refl, pk_and, pk_or, Bool.not_true, Bool.not_false, not_true_eq_false, not_false_eq_true, Bool.and_true, Bool.true_and, Bool.and_self, ge_iff_le, Int.le_refl, if_true, if_false, reduceCtorEq, eq_self, BEq.rfl]
      exact ⟨i + 1, by omega, weakN ⟨le_is rfl, le_is rfl, le_is rfl, le_is rfl, le_is rfl, le_is rfl, le_is rfl, le_is rfl, trivial⟩ trivial (Nat.le_refl _), by omega⟩
  · have hA2' : (A : Int) % 2 = 0 := hA2
    have hlod := lod1 (n := avN m) (f := o_el tU8 m) (A := A) (v := v) hA2' hA3 (by omega) h0 h1
    have hrs := rng_sto (A := A) (s := 2) (v := v) hb
    have hA4 : IntKind.u32.wrap (A : Int) ≤ 4294967295 := by rw [wU32]; omega
    have hA5 : 0 ≤ IntKind.u32.wrap (A : Int) := by rw [wU32]; omega
    have m1 := msk2 (v := v) h0 h1
    by_cases g : v % 65536 ≥ 32768
    · rw [if_pos g] at hlod
      have m2 := msk2 (v := v % 65536 + 4294901760) (by omega) (by omega)
      rw [show (v % 65536 + 4294901760) % 65536 = v % 65536 by omega] at m2
      have b1 : bitsI .and .u32 (Int.fdiv (v % 65536) 32768) 1 = 1 := by
        rw [fdivE (by omega), bit1 (by omega) (by omega)]; omega
      have b2 : IntKind.i64.wrap (v % 65536 + 4294901760) = IntKind.i64.wrap (IntKind.i64.wrap (IntKind.i64.wrap (v % 65536) + 4294967296) - 65536) := by
        rw [wrap_i64 (x := v % 65536) (by omega) (by omega), wrap_i64 (x := v % 65536 + 4294967296) (by omega) (by omega)]
        congr 1
        omega
      simp only [hl, hlod, hrs, hA4, hA5, hb6, m1, m2, b1, b2, decide_true, decide_false, cond_true, cond_false, allN_true, Nat.le_refl, Int.toNat_natCast, Nat.beq_refl, pk_and, pk_or, Bool.not_true, Bool.not_false, not_true_eq_false, not_false_eq_true, Bool.and_true, Bool.true_and, Bool.and_self, ge_iff_le, Int.le_refl, if_true, if_false, reduceCtorEq, eq_self, BEq.rfl]
    · rw [if_neg g] at hlod
      have m2 := msk2 (v := v % 65536) (by omega) (by omega)
      rw [Int.emod_emod] at m2
      have b1 : ¬ bitsI .and .u32 (Int.fdiv (v % 65536) 32768) 1 = 1 := by
        rw [fdivE (by omega), bit1 (by omega) (by omega)]; omega
      simp only [hl, hlod, hrs, hA4, hA5, hb6, m1, m2, b1, decide_true, decide_false, cond_true, cond_false, allN_true, Nat.le_refl, Int.toNat_natCast, Nat.beq_refl, pk_and, pk_or, Bool.not_true, Bool.not_false, not_true_eq_false, not_false_eq_true, Bool.and_true, Bool.true_and, Bool.and_self, ge_iff_le, Int.le_refl, if_true, if_false, reduceCtorEq, eq_self, BEq.rfl]
theorem bk2 (m : AV) (a v : Int) (hb : rngB (avN m) (o_el tU8 m) = true) (ha2 : a ≤ 9223372036854775807) (h0 : 0 ≤ v) (h1 : v ≤ 4294967295) :
    Pure Try.prog 8 (cons [.row false 1 (avN m) (o_el tU8 m), .int .i64 2, .int .i64 a, .int .u32 v]) (con (.bool true)) := by
  refine pureS mix TBbok t_law5_BytesBack (Nat.le_of_ble_eq_true rfl) ?_
  rw [r_bk02]
  simp only [pk_or, pk_and, pk3, cond_true]
  by_cases hn : ((avN m : Nat) : Int) > 200
  · simp [hn]
  by_cases ha : a < 0
  · simp [hn, ha]
  by_cases hs : ((avN m : Nat) : Int) < 2
  · simp [hn, ha, hs]
  obtain ⟨A, hA, hA2, hA3⟩ := adr (n := avN m) (s := 2) (a := a) (by omega) ha2 (by omega) (by omega) (by omega)
  have hA' : IntKind.i64.wrap (Int.tmod a (IntKind.i64.wrap (Int.tdiv (avN m) 2)) * 2) = (A : Int) := hA
  have hA2' : (A : Int) % 2 = 0 := hA2
  have hd : ¬ IntKind.i64.wrap (Int.tdiv ((avN m : Nat) : Int) 2) = 0 := hd_of (s := 2) (by omega) (by omega) (by omega)
  have hok : okW (avN m) (A : Int) 2 = true := okW_iff.2 ⟨by omega, by omega, by omega, by rw [chk_v (by omega) (by omega) (by omega) (by omega) (by omega), if_pos hA2', if_pos (by omega)]⟩
  have hb6 : avN m ≤ 1099511627776 := by omega
  simp only [hn, ha, hs, hA', hd, hok, hb6, decide_true, decide_false, cond_true, cond_false, allN_true, Nat.le_refl, Int.toNat_natCast, Nat.beq_refl, pk_and, pk_or, Bool.not_true, Bool.not_false, not_true_eq_false, not_false_eq_true, Bool.and_true, Bool.true_and, Bool.and_self, ge_iff_le, Int.le_refl, if_true, if_false, reduceCtorEq, eq_self, BEq.rfl]
  refine loopS mix TBbok (fun i : Nat => sBk2 28 m v A i) (fun i => i ≤ avN m) (fun i => avN m - i) 0 (Nat.zero_le _) (weakN ⟨le_is rfl, le_is rfl, le_is rfl, le_is rfl, le_is rfl, le_is rfl, le_is rfl, le_is rfl, trivial⟩ trivial (Nat.le_refl _)) ?_
  intro i hi
  rw [r_bkl2]
  simp only [pk_or, pk_and, pk3, cond_true]
  have w1 : IntKind.i64.wrap ((i : Int) + 1) = ((i + 1 : Nat) : Int) := wrap_i64 (by omega) (by omega)
  by_cases hl : (i : Int) < ((avN m : Nat) : Int)
  · have w2 : IntKind.i64.wrap ((A : Int) + 2) = (A : Int) + 2 := wrap_i64 (by omega) (by omega)
    by_cases hin : (i : Int) ≥ (A : Int)
    · by_cases hin2 : (i : Int) < (A : Int) + 2
      · have g1 : A ≤ i := by omega
        have g2 : i < A + 2 := by omega
        have g3 : 0 ≤ IntKind.u64.wrap (IntKind.i64.wrap (8 * IntKind.i64.wrap ((i : Int) - (A : Int)))) := by rw [wU64]; omega
        have g4 := byt_at (v := v) (A := A) (i := i) (by omega) g1 (by omega)
        have hin' : (A : Int) ≤ (i : Int) := hin
        simp only [hl, hin', w2, hin2, g1, g2, g3, ← g4, w1, decide_true, decide_false, cond_true, cond_false, allN_true, Nat.le_refl, Int.toNat_natCast, Nat.beq_refl, pk_and, pk_or, Bool.not_true, Bool.not_false, not_true_eq_false, not_false_eq_true, Bool.and_true, Bool.true_and, Bool.and_self, ge_iff_le, Int.le_refl, if_true, if_false, reduceCtorEq, eq_self, BEq.rfl]
        exact ⟨i + 1, by omega, weakN ⟨le_is rfl, le_is rfl, le_is rfl, le_is rfl, le_is rfl, le_is rfl, le_is rfl, le_is rfl, trivial⟩ trivial (Nat.le_refl _), by omega⟩
      · have g2 : ¬ i < A + 2 := by omega
        have hin' : (A : Int) ≤ (i : Int) := hin
        simp only [hl, hin', w2, hin2, g2, w1, Bool.and_false, decide_true, decide_false, cond_true, cond_false, allN_true, Nat.le_refl, Int.toNat_natCast, Nat.beq_refl, pk_and, pk_or, Bool.not_true, Bool.not_false, not_true_eq_false, not_false_eq_true, Bool.and_true, Bool.true_and, Bool.and_self, ge_iff_le, Int.le_refl, if_true, if_false, reduceCtorEq, eq_self, BEq.rfl]
        exact ⟨i + 1, by omega, weakN ⟨le_is rfl, le_is rfl, le_is rfl, le_is rfl, le_is rfl, le_is rfl, le_is rfl, le_is rfl, trivial⟩ trivial (Nat.le_refl _), by omega⟩
    · have g1 : ¬ A ≤ i := by omega
      have hin' : ¬ (A : Int) ≤ (i : Int) := hin
      simp only [hl, hin', g1, w1, Bool.false_and, decide_true, decide_false, cond_true, cond_false, allN_true, Nat.le_refl, Int.toNat_natCast, Nat.beq_refl, pk_and, pk_or, Bool.not_true, Bool.not_false, not_true_eq_false, not_false_eq_true, Bool.and_true, Bool.true_and, Bool.and_self, ge_iff_le, Int.le_refl, if_true, if_false, reduceCtorEq, eq_self, BEq.rfl]
      exact ⟨i + 1, by omega, weakN ⟨le_is rfl, le_is rfl, le_is rfl, le_is rfl, le_is rfl, le_is rfl, le_is rfl, le_is rfl, trivial⟩ trivial (Nat.le_refl _), by omega⟩
  · have hA2' : (A : Int) % 2 = 0 := hA2
    have hlod := lod2 (n := avN m) (f := o_el tU8 m) (A := A) (v := v) hA2' hA3 (by omega) h0 h1
    have hrs := rng_sto (A := A) (s := 2) (v := v) hb
    have hA4 : IntKind.u32.wrap (A : Int) ≤ 4294967295 := by rw [wU32]; omega
    have hA5 : 0 ≤ IntKind.u32.wrap (A : Int) := by rw [wU32]; omega
    have m1 := msk2 (v := v) h0 h1
    have m2 := msk2 (v := v % 65536) (by omega) (by omega)
    rw [Int.emod_emod] at m2
    simp only [hl, hlod, hrs, hA4, hA5, hb6, m1, m2, decide_true, decide_false, cond_true, cond_false, allN_true, Nat.le_refl, Int.toNat_natCast, Nat.beq_refl, pk_and, pk_or, Bool.not_true, Bool.not_false, not_true_eq_false, not_false_eq_true, Bool.and_true, Bool.true_and, Bool.and_self, ge_iff_le, Int.le_refl, if_true, if_false, reduceCtorEq, eq_self, BEq.rfl]
theorem bk3 (m : AV) (a v : Int) (hb : rngB (avN m) (o_el tU8 m) = true) (ha2 : a ≤ 9223372036854775807) (h0 : 0 ≤ v) (h1 : v ≤ 4294967295) :
    Pure Try.prog 8 (cons [.row false 1 (avN m) (o_el tU8 m), .int .i64 3, .int .i64 a, .int .u32 v]) (con (.bool true)) := by
  refine pureS mix TBbok t_law5_BytesBack (Nat.le_of_ble_eq_true rfl) ?_
  rw [r_bk03]
  simp only [pk_or, pk_and, pk3, cond_true]
  by_cases hn : ((avN m : Nat) : Int) > 200
  · simp [hn]
  by_cases ha : a < 0
  · simp [hn, ha]
  by_cases hs : ((avN m : Nat) : Int) < 1
  · simp [hn, ha, hs]
  obtain ⟨A, hA, hA2, hA3⟩ := adr (n := avN m) (s := 1) (a := a) (by omega) ha2 (by omega) (by omega) (by omega)
  have hA' : IntKind.i64.wrap (Int.tmod a (IntKind.i64.wrap (Int.tdiv (avN m) 1)) * 1) = (A : Int) := hA
  have hA2' : (A : Int) % 1 = 0 := hA2
  have hd : ¬ IntKind.i64.wrap (Int.tdiv ((avN m : Nat) : Int) 1) = 0 := hd_of (s := 1) (by omega) (by omega) (by omega)
  have hok : okW (avN m) (A : Int) 1 = true := okW_iff.2 ⟨by omega, by omega, by omega, by rw [chk_v (by omega) (by omega) (by omega) (by omega) (by omega), if_pos hA2', if_pos (by omega)]⟩
  have hb6 : avN m ≤ 1099511627776 := by omega
  simp only [hn, ha, hs, hA', hd, hok, hb6, decide_true, decide_false, cond_true, cond_false, allN_true, Nat.le_refl, Int.toNat_natCast, Nat.beq_refl, pk_and, pk_or, Bool.not_true, Bool.not_false, not_true_eq_false, not_false_eq_true, Bool.and_true, Bool.true_and, Bool.and_self, ge_iff_le, Int.le_refl, if_true, if_false, reduceCtorEq, eq_self, BEq.rfl]
  refine loopS mix TBbok (fun i : Nat => sBk3 29 m v A i) (fun i => i ≤ avN m) (fun i => avN m - i) 0 (Nat.zero_le _) (weakN ⟨le_is rfl, le_is rfl, le_is rfl, le_is rfl, le_is rfl, le_is rfl, le_is rfl, le_is rfl, trivial⟩ trivial (Nat.le_refl _)) ?_
  intro i hi
  rw [r_bkl3]
  simp only [pk_or, pk_and, pk3, cond_true]
  have w1 : IntKind.i64.wrap ((i : Int) + 1) = ((i + 1 : Nat) : Int) := wrap_i64 (by omega) (by omega)
  by_cases hl : (i : Int) < ((avN m : Nat) : Int)
  · have w2 : IntKind.i64.wrap ((A : Int) + 1) = (A : Int) + 1 := wrap_i64 (by omega) (by omega)
    by_cases hin : (i : Int) ≥ (A : Int)
    · by_cases hin2 : (i : Int) < (A : Int) + 1
      · have g1 : A ≤ i := by omega
        have g2 : i < A + 1 := by omega
        have g3 : 0 ≤ IntKind.u64.wrap (IntKind.i64.wrap (8 * IntKind.i64.wrap ((i : Int) - (A : Int)))) := by rw [wU64]; omega
        have g4 := byt_at (v := v) (A := A) (i := i) (by omega) g1 (by omega)
        have hin' : (A : Int) ≤ (i : Int) := hin
        simp only [hl, hin', w2, hin2, g1, g2, g3, ← g4, w1, decide_true, decide_false, cond_true, cond_false, allN_true, Nat.le_refl, Int.toNat_natCast, Nat.beq_refl, pk_and, pk_or, Bool.not_true, Bool.not_false, not_true_eq_false, not_false_eq_true, Bool.and_true, Bool.true_and, Bool.and_self, ge_iff_le, Int.le_refl, if_true, if_false, reduceCtorEq, eq_self, BEq.rfl]
        exact ⟨i + 1, by omega, weakN ⟨le_is rfl, le_is rfl, le_is rfl, le_is rfl, le_is rfl, le_is rfl, le_is rfl, le_is rfl, trivial⟩ trivial (Nat.le_refl _), by omega⟩
      · have g2 : ¬ i < A + 1 := by omega
        have hin' : (A : Int) ≤ (i : Int) := hin
        simp only [hl, hin', w2, hin2, g2, w1, Bool.and_false, decide_true, decide_false, cond_true, cond_false, allN_true, Nat.le_refl, Int.toNat_natCast, Nat.beq_refl, pk_and, pk_or, Bool.not_true, Bool.not_false, not_true_eq_false, not_false_eq_true, Bool.and_true, Bool.true_and, Bool.and_self, ge_iff_le, Int.le_refl, if_true, if_false, reduceCtorEq, eq_self, BEq.rfl]
        exact ⟨i + 1, by omega, weakN ⟨le_is rfl, le_is rfl, le_is rfl, le_is rfl, le_is rfl, le_is rfl, le_is rfl, le_is rfl, trivial⟩ trivial (Nat.le_refl _), by omega⟩
    · have g1 : ¬ A ≤ i := by omega
      have hin' : ¬ (A : Int) ≤ (i : Int) := hin
      simp only [hl, hin', g1, w1, Bool.false_and, decide_true, decide_false, cond_true, cond_false, allN_true, Nat.le_refl, Int.toNat_natCast, Nat.beq_refl, pk_and, pk_or, Bool.not_true, Bool.not_false, not_true_eq_false, not_false_eq_true, Bool.and_true, Bool.true_and, Bool.and_self, ge_iff_le, Int.le_refl, if_true, if_false, reduceCtorEq, eq_self, BEq.rfl]
      exact ⟨i + 1, by omega, weakN ⟨le_is rfl, le_is rfl, le_is rfl, le_is rfl, le_is rfl, le_is rfl, le_is rfl, le_is rfl, trivial⟩ trivial (Nat.le_refl _), by omega⟩
  · have hA2' : (A : Int) % 1 = 0 := hA2
    have hlod := lod3 (n := avN m) (f := o_el tU8 m) (A := A) (v := v) hA2' hA3 (by omega) h0 h1
    have hrs := rng_sto (A := A) (s := 1) (v := v) hb
    have hA4 : IntKind.u32.wrap (A : Int) ≤ 4294967295 := by rw [wU32]; omega
    have hA5 : 0 ≤ IntKind.u32.wrap (A : Int) := by rw [wU32]; omega
    have m1 := msk1 (v := v) h0 h1
    by_cases g : v % 256 ≥ 128
    · rw [if_pos g] at hlod
      have m2 := msk1 (v := v % 256 + 4294967040) (by omega) (by omega)
      rw [show (v % 256 + 4294967040) % 256 = v % 256 by omega] at m2
      have b1 : bitsI .and .u32 (Int.fdiv (v % 256) 128) 1 = 1 := by
        rw [fdivE (by omega), bit1 (by omega) (by omega)]; omega
      have b2 : IntKind.i64.wrap (v % 256 + 4294967040) = IntKind.i64.wrap (IntKind.i64.wrap (IntKind.i64.wrap (v % 256) + 4294967296) - 256) := by
        rw [wrap_i64 (x := v % 256) (by omega) (by omega), wrap_i64 (x := v % 256 + 4294967296) (by omega) (by omega)]
        congr 1
        omega
      simp only [hl, hlod, hrs, hA4, hA5, hb6, m1, m2, b1, b2, decide_true, decide_false, cond_true, cond_false, allN_true, Nat.le_refl, Int.toNat_natCast, Nat.beq_refl, pk_and, pk_or, Bool.not_true, Bool.not_false, not_true_eq_false, not_false_eq_true, Bool.and_true, Bool.true_and, Bool.and_self, ge_iff_le, Int.le_refl, if_true, if_false, reduceCtorEq, eq_self, BEq.rfl]
    · rw [if_neg g] at hlod
      have m2 := msk1 (v := v % 256) (by omega) (by omega)
      rw [Int.emod_emod] at m2
      have b1 : ¬ bitsI .and .u32 (Int.fdiv (v % 256) 128) 1 = 1 := by
        rw [fdivE (by omega), bit1 (by omega) (by omega)]; omega
      simp only [hl, hlod, hrs, hA4, hA5, hb6, m1, m2, b1, decide_true, decide_false, cond_true, cond_false, allN_true, Nat.le_refl, Int.toNat_natCast, Nat.beq_refl, pk_and, pk_or, Bool.not_true, Bool.not_false, not_true_eq_false, not_false_eq_true, Bool.and_true, Bool.true_and, Bool.and_self, ge_iff_le, Int.le_refl, if_true, if_false, reduceCtorEq, eq_self, BEq.rfl]
theorem bk4 (m : AV) (a v : Int) (hb : rngB (avN m) (o_el tU8 m) = true) (ha2 : a ≤ 9223372036854775807) (h0 : 0 ≤ v) (h1 : v ≤ 4294967295) :
    Pure Try.prog 8 (cons [.row false 1 (avN m) (o_el tU8 m), .int .i64 4, .int .i64 a, .int .u32 v]) (con (.bool true)) := by
  refine pureS mix TBbok t_law5_BytesBack (Nat.le_of_ble_eq_true rfl) ?_
  rw [r_bk04]
  simp only [pk_or, pk_and, pk3, cond_true]
  by_cases hn : ((avN m : Nat) : Int) > 200
  · simp [hn]
  by_cases ha : a < 0
  · simp [hn, ha]
  by_cases hs : ((avN m : Nat) : Int) < 1
  · simp [hn, ha, hs]
  obtain ⟨A, hA, hA2, hA3⟩ := adr (n := avN m) (s := 1) (a := a) (by omega) ha2 (by omega) (by omega) (by omega)
  have hA' : IntKind.i64.wrap (Int.tmod a (IntKind.i64.wrap (Int.tdiv (avN m) 1)) * 1) = (A : Int) := hA
  have hA2' : (A : Int) % 1 = 0 := hA2
  have hd : ¬ IntKind.i64.wrap (Int.tdiv ((avN m : Nat) : Int) 1) = 0 := hd_of (s := 1) (by omega) (by omega) (by omega)
  have hok : okW (avN m) (A : Int) 1 = true := okW_iff.2 ⟨by omega, by omega, by omega, by rw [chk_v (by omega) (by omega) (by omega) (by omega) (by omega), if_pos hA2', if_pos (by omega)]⟩
  have hb6 : avN m ≤ 1099511627776 := by omega
  simp only [hn, ha, hs, hA', hd, hok, hb6, decide_true, decide_false, cond_true, cond_false, allN_true, Nat.le_refl, Int.toNat_natCast, Nat.beq_refl, pk_and, pk_or, Bool.not_true, Bool.not_false, not_true_eq_false, not_false_eq_true, Bool.and_true, Bool.true_and, Bool.and_self, ge_iff_le, Int.le_refl, if_true, if_false, reduceCtorEq, eq_self, BEq.rfl]
  refine loopS mix TBbok (fun i : Nat => sBk4 30 m v A i) (fun i => i ≤ avN m) (fun i => avN m - i) 0 (Nat.zero_le _) (weakN ⟨le_is rfl, le_is rfl, le_is rfl, le_is rfl, le_is rfl, le_is rfl, le_is rfl, le_is rfl, trivial⟩ trivial (Nat.le_refl _)) ?_
  intro i hi
  rw [r_bkl4]
  simp only [pk_or, pk_and, pk3, cond_true]
  have w1 : IntKind.i64.wrap ((i : Int) + 1) = ((i + 1 : Nat) : Int) := wrap_i64 (by omega) (by omega)
  by_cases hl : (i : Int) < ((avN m : Nat) : Int)
  · have w2 : IntKind.i64.wrap ((A : Int) + 1) = (A : Int) + 1 := wrap_i64 (by omega) (by omega)
    by_cases hin : (i : Int) ≥ (A : Int)
    · by_cases hin2 : (i : Int) < (A : Int) + 1
      · have g1 : A ≤ i := by omega
        have g2 : i < A + 1 := by omega
        have g3 : 0 ≤ IntKind.u64.wrap (IntKind.i64.wrap (8 * IntKind.i64.wrap ((i : Int) - (A : Int)))) := by rw [wU64]; omega
        have g4 := byt_at (v := v) (A := A) (i := i) (by omega) g1 (by omega)
        have hin' : (A : Int) ≤ (i : Int) := hin
        simp only [hl, hin', w2, hin2, g1, g2, g3, ← g4, w1, decide_true, decide_false, cond_true, cond_false, allN_true, Nat.le_refl, Int.toNat_natCast, Nat.beq_refl, pk_and, pk_or, Bool.not_true, Bool.not_false, not_true_eq_false, not_false_eq_true, Bool.and_true, Bool.true_and, Bool.and_self, ge_iff_le, Int.le_refl, if_true, if_false, reduceCtorEq, eq_self, BEq.rfl]
        exact ⟨i + 1, by omega, weakN ⟨le_is rfl, le_is rfl, le_is rfl, le_is rfl, le_is rfl, le_is rfl, le_is rfl, le_is rfl, trivial⟩ trivial (Nat.le_refl _), by omega⟩
      · have g2 : ¬ i < A + 1 := by omega
        have hin' : (A : Int) ≤ (i : Int) := hin
        simp only [hl, hin', w2, hin2, g2, w1, Bool.and_false, decide_true, decide_false, cond_true, cond_false, allN_true, Nat.le_refl, Int.toNat_natCast, Nat.beq_refl, pk_and, pk_or, Bool.not_true, Bool.not_false, not_true_eq_false, not_false_eq_true, Bool.and_true, Bool.true_and, Bool.and_self, ge_iff_le, Int.le_refl, if_true, if_false, reduceCtorEq, eq_self, BEq.rfl]
        exact ⟨i + 1, by omega, weakN ⟨le_is rfl, le_is rfl, le_is rfl, le_is rfl, le_is rfl, le_is rfl, le_is rfl, le_is rfl, trivial⟩ trivial (Nat.le_refl _), by omega⟩
    · have g1 : ¬ A ≤ i := by omega
      have hin' : ¬ (A : Int) ≤ (i : Int) := hin
      simp only [hl, hin', g1, w1, Bool.false_and, decide_true, decide_false, cond_true, cond_false, allN_true, Nat.le_refl, Int.toNat_natCast, Nat.beq_refl, pk_and, pk_or, Bool.not_true, Bool.not_false, not_true_eq_false, not_false_eq_true, Bool.and_true, Bool.true_and, Bool.and_self, ge_iff_le, Int.le_refl, if_true, if_false, reduceCtorEq, eq_self, BEq.rfl]
      exact ⟨i + 1, by omega, weakN ⟨le_is rfl, le_is rfl, le_is rfl, le_is rfl, le_is rfl, le_is rfl, le_is rfl, le_is rfl, trivial⟩ trivial (Nat.le_refl _), by omega⟩
  · have hA2' : (A : Int) % 1 = 0 := hA2
    have hlod := lod4 (n := avN m) (f := o_el tU8 m) (A := A) (v := v) hA2' hA3 (by omega) h0 h1
    have hrs := rng_sto (A := A) (s := 1) (v := v) hb
    have hA4 : IntKind.u32.wrap (A : Int) ≤ 4294967295 := by rw [wU32]; omega
    have hA5 : 0 ≤ IntKind.u32.wrap (A : Int) := by rw [wU32]; omega
    have m1 := msk1 (v := v) h0 h1
    have m2 := msk1 (v := v % 256) (by omega) (by omega)
    rw [Int.emod_emod] at m2
    simp only [hl, hlod, hrs, hA4, hA5, hb6, m1, m2, decide_true, decide_false, cond_true, cond_false, allN_true, Nat.le_refl, Int.toNat_natCast, Nat.beq_refl, pk_and, pk_or, Bool.not_true, Bool.not_false, not_true_eq_false, not_false_eq_true, Bool.and_true, Bool.true_and, Bool.and_self, ge_iff_le, Int.le_refl, if_true, if_false, reduceCtorEq, eq_self, BEq.rfl]
theorem back_pure (m : AV) (w a v : Int) (hb : rngB (avN m) (o_el tU8 m) = true) (ha2 : a ≤ 9223372036854775807) (h0 : 0 ≤ v) (h1 : v ≤ 4294967295) :
    Pure Try.prog 8 (cons [.row false 1 (avN m) (o_el tU8 m), .int .i64 w, .int .i64 a, .int .u32 v]) (con (.bool true)) := by
  by_cases a0 : w = 0
  · subst a0; exact bk0 m a v hb ha2 h0 h1
  by_cases a1 : w = 1
  · subst a1; exact bk1 m a v hb ha2 h0 h1
  by_cases a2 : w = 2
  · subst a2; exact bk2 m a v hb ha2 h0 h1
  by_cases a3 : w = 3
  · subst a3; exact bk3 m a v hb ha2 h0 h1
  by_cases a4 : w = 4
  · subst a4; exact bk4 m a v hb ha2 h0 h1
  refine pureS mix TBbok t_law5_BytesBack (Nat.le_of_ble_eq_true rfl) ?_
  rw [r_bk0x]
  simp only [pk_or, pk_and, pk3, cond_true]
  by_cases hn : ((avN m : Nat) : Int) > 200
  · simp only [hn, decide_true, decide_false, cond_true, cond_false, allN_true, Nat.le_refl, Int.toNat_natCast, Nat.beq_refl, pk_and, pk_or, Bool.not_true, Bool.not_false, not_true_eq_false, not_false_eq_true, Bool.and_true, Bool.true_and, Bool.and_self, ge_iff_le, Int.le_refl, if_true, if_false, reduceCtorEq, eq_self, BEq.rfl]
  by_cases g : w < 0
  · simp only [hn, g, decide_true, decide_false, cond_true, cond_false, allN_true, Nat.le_refl, Int.toNat_natCast, Nat.beq_refl, pk_and, pk_or, Bool.not_true, Bool.not_false, not_true_eq_false, not_false_eq_true, Bool.and_true, Bool.true_and, Bool.and_self, ge_iff_le, Int.le_refl, if_true, if_false, reduceCtorEq, eq_self, BEq.rfl]
  · have g2 : w > 4 := by omega
    simp only [hn, g, g2, decide_true, decide_false, cond_true, cond_false, allN_true, Nat.le_refl, Int.toNat_natCast, Nat.beq_refl, pk_and, pk_or, Bool.not_true, Bool.not_false, not_true_eq_false, not_false_eq_true, Bool.and_true, Bool.true_and, Bool.and_self, ge_iff_le, Int.le_refl, if_true, if_false, reduceCtorEq, eq_self, BEq.rfl]
end Go.Proofs.Ytihhfmdihhmbdaa
namespace Go.Proofs.Ytihhfmdihhmbdaa.bytesBack
open Go.Ra Go.ChangeShapes Go.WideShapes Go.ChangeAt Go.RowKit
open Go.ChangeMaps (open_string shut_string)
theorem own : ownKnob Try.prog.godebug = none := by kernel_rfl
def Ts : List Ty := [.slice 1 1 tU8, .int .i64, .int .i64, .int .u32]
theorem law (xs : List AV) (h : Ty.hasL Ts xs) : Pure Try.prog 8 xs (.sc (.bool true)) := by
  have h0 := h
  simp only [Ts, Ty.hasL] at h0
  obtain ⟨m, _, rfl, hm, w, _, rfl, hw, a, _, rfl, ha, v, _, rfl, hv, rfl⟩ := h0
  exact lawX h (back_pure m _ _ _ (rng_el hm rfl) (has_i64 ha).2 (has_u32 hv).1 (has_u32 hv).2)
set_option maxRecDepth 100000 in
theorem lifted (os : Os) (started : os.Started) (H : Type) (enc : TypeId × Value → H) :
    ReturnsInHanded {} Try.checked os 8 .any (Rows.bytesBackSpec.pre6 enc Try.prog Try.f8 Rows.bytesBackRow.domain false) (Rows.bytesBackSpec.post enc Try.prog Try.f8 false true false false) := by
  refine returnsInHanded_of_change_sized (C := Try.checked) own started (by kernel_rfl) Try.func8
    (ChangeSpec.witness6 (enc := enc) (C := Try.checked) false ⟨#[], #[.slice none 0 0, .int .i64 0, .int .i64 0, .int .u32 0], []⟩ 8 (by kernel_rfl) (by kernel_rfl) (by kernel_rfl) (by kernel_rfl)) ?_
  intro W base args ds gs before hval hW hcnd hsz _
  refine law_post (s := Rows.bytesBackSpec) (n := 60) (Ts := Ts) (ts := [30, 3, 3, 24]) (tb := 4) (by kernel_rfl) rfl rfl Try.underlying4 rfl (by kernel_rfl) (by kernel_rfl) (fun ds hds => ?_) law W base args ds gs before hval hW hsz
  match ds, hds with
  | [d1, d2, d3, d4], _ => exact ⟨rfl, rfl, rfl⟩
theorem over : Rows.bytesBackRow.holds Try.pinned (OpenSpec.ofChange Rows.bytesBackSpec) :=
  OpenClaim.holds_of_wide 8 Try.f8 rfl rfl rfl rfl rfl rfl rfl ⟨rfl, rfl, rfl, rfl, rfl⟩ rfl rfl rfl rfl rfl (by kernel_rfl) Try.func8 (by kernel_rfl)
    (of_decide_eq_true (by kernel_rfl)) (by unfold Func.isWrapper; first | (rw [if_pos (by decide +kernel)]; kernel_rfl) | (rw [if_neg (by decide +kernel)]; exact ⟨rfl, rfl⟩))
    (fun os started H enc _ => lifted os started H enc)
theorem proved : Rows.BytesBackSaid := over
end Go.Proofs.Ytihhfmdihhmbdaa.bytesBack
namespace Go.Proofs.Ytihhfmdihhmbdaa
/-- The row, under a short name, for the claim. -/
theorem bytesBack_holds : Rows.BytesBackSaid := bytesBack.proved
end Go.Proofs.Ytihhfmdihhmbdaa
#print axioms Go.Proofs.Ytihhfmdihhmbdaa.bytesBack_holds
