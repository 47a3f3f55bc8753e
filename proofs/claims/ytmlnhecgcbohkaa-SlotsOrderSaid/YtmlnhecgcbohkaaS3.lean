/- Filling a slot: both functions. -/
import Derived.Test.YtmlnhecgcbohkaaS2
namespace Go.Proofs.Ytmlnhecgcbohkaa
open Go.Ra
set_option linter.unusedVariables false
set_option linter.unusedSimpArgs false
def TS3 : Tab := mkT qq (cl_slots ++ cl_slices ++ cl_ref15) [(47, idxSp)] (gl_slices ++ gl_ref15)
theorem TS3ok : TabOk Try.prog TS3 := mkT_ok ((clok_slots.app clok_slices).app clok_ref15) ⟨sp_idx, trivial⟩ (glok_slices.app glok_ref15)
theorem r_fill1 (x : Bool) (n : Nat) (f : Nat → XV) (tag w : Int) (r : AV) : (goS Try.prog TS3 [(.tmp 6), (.tmp 7)] r (.run c_slots_Fill) [] ⟨envX 0 [.row x 3 n (fun i => mkS kSl (f i)), .int .i64 tag, .int .u32 w], [], 0⟩) =
    (bif decide (n * (16 : Nat) ≤ (140737488355328 : Nat)) then
  bif allN (fun (i : Nat) => true) n then
    bif decide (n ≤ n) then
      bif decide (n ≤ (4611686018427387904 : Nat)) then
        bif allN (fun (i : Nat) => true) n then
          bif
              decide
                ((bif decide (fstI (fun (i : Nat) => bif decide (asN (fld (0 : Nat) (f i)) = tag) then !asB (fld (1 : Nat) (f i)) else false) n < n) then
                    (↑(fstI (fun (i : Nat) => bif decide (asN (fld (0 : Nat) (f i)) = tag) then !asB (fld (1 : Nat) (f i)) else false) n) : Int)
                  else (-1 : Int)) <
                  (0 : Int)) then
            bif decide (n ≤ n) then
              con
                  (XV.tup
                    [XV.row false (3 : Nat) n fun (i : Nat) =>
                        XV.agg (3 : Nat) [XV.int IntKind.i64 (asN (fld (0 : Nat) (f i))), XV.bool (asB (fld (1 : Nat) (f i))), XV.int IntKind.u32 (asN (fld (2 : Nat) (f i)))],
                      XV.bool false]) =
                r
            else False
          else
            bif
                decide
                  ((0 : Int) ≤
                    bif decide (fstI (fun (i : Nat) => bif decide (asN (fld (0 : Nat) (f i)) = tag) then !asB (fld (1 : Nat) (f i)) else false) n < n) then
                      (↑(fstI (fun (i : Nat) => bif decide (asN (fld (0 : Nat) (f i)) = tag) then !asB (fld (1 : Nat) (f i)) else false) n) : Int)
                    else (-1 : Int)) then
              bif
                  decide
                    ((bif decide (fstI (fun (i : Nat) => bif decide (asN (fld (0 : Nat) (f i)) = tag) then !asB (fld (1 : Nat) (f i)) else false) n < n) then
                        (↑(fstI (fun (i : Nat) => bif decide (asN (fld (0 : Nat) (f i)) = tag) then !asB (fld (1 : Nat) (f i)) else false) n) : Int)
                      else (-1 : Int)) <
                      (↑n : Int)) then
                bif
                    Nat.beq
                      (pl
                        (Int.toNat
                            (bif decide (fstI (fun (i : Nat) => bif decide (asN (fld (0 : Nat) (f i)) = tag) then !asB (fld (1 : Nat) (f i)) else false) n < n) then
                              (↑(fstI (fun (i : Nat) => bif decide (asN (fld (0 : Nat) (f i)) = tag) then !asB (fld (1 : Nat) (f i)) else false) n) : Int)
                            else (-1 : Int)) *
                          (3 : Nat))
                        (1 : Nat))
                      (pl
                        (Int.toNat
                            (bif decide (fstI (fun (i : Nat) => bif decide (asN (fld (0 : Nat) (f i)) = tag) then !asB (fld (1 : Nat) (f i)) else false) n < n) then
                              (↑(fstI (fun (i : Nat) => bif decide (asN (fld (0 : Nat) (f i)) = tag) then !asB (fld (1 : Nat) (f i)) else false) n) : Int)
                            else (-1 : Int)) *
                          (3 : Nat))
                        (1 : Nat)) then
                  bif
                      decide
                        (Int.toNat
                            (bif decide (fstI (fun (i : Nat) => bif decide (asN (fld (0 : Nat) (f i)) = tag) then !asB (fld (1 : Nat) (f i)) else false) n < n) then
                              (↑(fstI (fun (i : Nat) => bif decide (asN (fld (0 : Nat) (f i)) = tag) then !asB (fld (1 : Nat) (f i)) else false) n) : Int)
                            else (-1 : Int)) <
                          n) then
                    bif
                        decide
                          (Int.toNat
                              (bif decide (fstI (fun (i : Nat) => bif decide (asN (fld (0 : Nat) (f i)) = tag) then !asB (fld (1 : Nat) (f i)) else false) n < n) then
                                (↑(fstI (fun (i : Nat) => bif decide (asN (fld (0 : Nat) (f i)) = tag) then !asB (fld (1 : Nat) (f i)) else false) n) : Int)
                              else (-1 : Int)) <
                            n) then
                      bif
                          decide
                            ((0 : Int) ≤
                              bif decide (fstI (fun (i : Nat) => bif decide (asN (fld (0 : Nat) (f i)) = tag) then !asB (fld (1 : Nat) (f i)) else false) n < n) then
                                (↑(fstI (fun (i : Nat) => bif decide (asN (fld (0 : Nat) (f i)) = tag) then !asB (fld (1 : Nat) (f i)) else false) n) : Int)
                              else (-1 : Int)) then
                        bif
                            decide
                              ((bif decide (fstI (fun (i : Nat) => bif decide (asN (fld (0 : Nat) (f i)) = tag) then !asB (fld (1 : Nat) (f i)) else false) n < n) then
                                  (↑(fstI (fun (i : Nat) => bif decide (asN (fld (0 : Nat) (f i)) = tag) then !asB (fld (1 : Nat) (f i)) else false) n) : Int)
                                else (-1 : Int)) <
                                (↑n : Int)) then
                          bif
                              Nat.beq
                                (pl
                                  (Int.toNat
                                      (bif decide (fstI (fun (i : Nat) => bif decide (asN (fld (0 : Nat) (f i)) = tag) then !asB (fld (1 : Nat) (f i)) else false) n < n) then
                                        (↑(fstI (fun (i : Nat) => bif decide (asN (fld (0 : Nat) (f i)) = tag) then !asB (fld (1 : Nat) (f i)) else false) n) : Int)
                                      else (-1 : Int)) *
                                    (3 : Nat))
                                  (2 : Nat))
                                (pl
                                  (Int.toNat
                                      (bif decide (fstI (fun (i : Nat) => bif decide (asN (fld (0 : Nat) (f i)) = tag) then !asB (fld (1 : Nat) (f i)) else false) n < n) then
                                        (↑(fstI (fun (i : Nat) => bif decide (asN (fld (0 : Nat) (f i)) = tag) then !asB (fld (1 : Nat) (f i)) else false) n) : Int)
                                      else (-1 : Int)) *
                                    (3 : Nat))
                                  (2 : Nat)) then
                            bif
                                decide
                                  (Int.toNat
                                      (bif decide (fstI (fun (i : Nat) => bif decide (asN (fld (0 : Nat) (f i)) = tag) then !asB (fld (1 : Nat) (f i)) else false) n < n) then
                                        (↑(fstI (fun (i : Nat) => bif decide (asN (fld (0 : Nat) (f i)) = tag) then !asB (fld (1 : Nat) (f i)) else false) n) : Int)
                                      else (-1 : Int)) <
                                    n) then
                              bif
                                  decide
                                    (Int.toNat
                                        (bif decide (fstI (fun (i : Nat) => bif decide (asN (fld (0 : Nat) (f i)) = tag) then !asB (fld (1 : Nat) (f i)) else false) n < n) then
                                          (↑(fstI (fun (i : Nat) => bif decide (asN (fld (0 : Nat) (f i)) = tag) then !asB (fld (1 : Nat) (f i)) else false) n) : Int)
                                        else (-1 : Int)) <
                                      n) then
                                bif decide (n ≤ n) then
                                  con
                                      (XV.tup
                                        [XV.row false (3 : Nat) n fun (i : Nat) =>
                                            XV.agg (3 : Nat)
                                              [XV.int IntKind.i64
                                                  (bif
                                                      Nat.beq i
                                                        (Int.toNat
                                                          (bif decide (fstI (fun (i : Nat) => bif decide (asN (fld (0 : Nat) (f i)) = tag) then !asB (fld (1 : Nat) (f i)) else false) n < n) then
                                                            (↑(fstI (fun (i : Nat) => bif decide (asN (fld (0 : Nat) (f i)) = tag) then !asB (fld (1 : Nat) (f i)) else false) n) : Int)
                                                          else (-1 : Int))) then
                                                    bif
                                                        Nat.beq
                                                          (Int.toNat
                                                            (bif decide (fstI (fun (i : Nat) => bif decide (asN (fld (0 : Nat) (f i)) = tag) then !asB (fld (1 : Nat) (f i)) else false) n < n) then
                                                              (↑(fstI (fun (i : Nat) => bif decide (asN (fld (0 : Nat) (f i)) = tag) then !asB (fld (1 : Nat) (f i)) else false) n) : Int)
                                                            else (-1 : Int)))
                                                          (Int.toNat
                                                            (bif decide (fstI (fun (i : Nat) => bif decide (asN (fld (0 : Nat) (f i)) = tag) then !asB (fld (1 : Nat) (f i)) else false) n < n) then
                                                              (↑(fstI (fun (i : Nat) => bif decide (asN (fld (0 : Nat) (f i)) = tag) then !asB (fld (1 : Nat) (f i)) else false) n) : Int)
                                                            else (-1 : Int))) then
                                                      asN
                                                        (fld (0 : Nat)
                                                          (f
                                                            (Int.toNat
                                                              (bif decide (fstI (fun (i : Nat) => bif decide (asN (fld (0 : Nat) (f i)) = tag) then !asB (fld (1 : Nat) (f i)) else false) n < n) then
                                                                (↑(fstI (fun (i : Nat) => bif decide (asN (fld (0 : Nat) (f i)) = tag) then !asB (fld (1 : Nat) (f i)) else false) n) : Int)
                                                              else (-1 : Int)))))
                                                    else
                                                      asN
                                                        (fld (0 : Nat)
                                                          (f
                                                            (Int.toNat
                                                              (bif decide (fstI (fun (i : Nat) => bif decide (asN (fld (0 : Nat) (f i)) = tag) then !asB (fld (1 : Nat) (f i)) else false) n < n) then
                                                                (↑(fstI (fun (i : Nat) => bif decide (asN (fld (0 : Nat) (f i)) = tag) then !asB (fld (1 : Nat) (f i)) else false) n) : Int)
                                                              else (-1 : Int)))))
                                                  else
                                                    bif
                                                        Nat.beq i
                                                          (Int.toNat
                                                            (bif decide (fstI (fun (i : Nat) => bif decide (asN (fld (0 : Nat) (f i)) = tag) then !asB (fld (1 : Nat) (f i)) else false) n < n) then
                                                              (↑(fstI (fun (i : Nat) => bif decide (asN (fld (0 : Nat) (f i)) = tag) then !asB (fld (1 : Nat) (f i)) else false) n) : Int)
                                                            else (-1 : Int))) then
                                                      asN
                                                        (fld (0 : Nat)
                                                          (f
                                                            (Int.toNat
                                                              (bif decide (fstI (fun (i : Nat) => bif decide (asN (fld (0 : Nat) (f i)) = tag) then !asB (fld (1 : Nat) (f i)) else false) n < n) then
                                                                (↑(fstI (fun (i : Nat) => bif decide (asN (fld (0 : Nat) (f i)) = tag) then !asB (fld (1 : Nat) (f i)) else false) n) : Int)
                                                              else (-1 : Int)))))
                                                    else asN (fld (0 : Nat) (f i))),
                                                XV.bool
                                                  (bif
                                                      Nat.beq i
                                                        (Int.toNat
                                                          (bif decide (fstI (fun (i : Nat) => bif decide (asN (fld (0 : Nat) (f i)) = tag) then !asB (fld (1 : Nat) (f i)) else false) n < n) then
                                                            (↑(fstI (fun (i : Nat) => bif decide (asN (fld (0 : Nat) (f i)) = tag) then !asB (fld (1 : Nat) (f i)) else false) n) : Int)
                                                          else (-1 : Int))) then
                                                    bif
                                                        Nat.beq
                                                          (Int.toNat
                                                            (bif decide (fstI (fun (i : Nat) => bif decide (asN (fld (0 : Nat) (f i)) = tag) then !asB (fld (1 : Nat) (f i)) else false) n < n) then
                                                              (↑(fstI (fun (i : Nat) => bif decide (asN (fld (0 : Nat) (f i)) = tag) then !asB (fld (1 : Nat) (f i)) else false) n) : Int)
                                                            else (-1 : Int)))
                                                          (Int.toNat
                                                            (bif decide (fstI (fun (i : Nat) => bif decide (asN (fld (0 : Nat) (f i)) = tag) then !asB (fld (1 : Nat) (f i)) else false) n < n) then
                                                              (↑(fstI (fun (i : Nat) => bif decide (asN (fld (0 : Nat) (f i)) = tag) then !asB (fld (1 : Nat) (f i)) else false) n) : Int)
                                                            else (-1 : Int))) then
                                                      true
                                                    else
                                                      asB
                                                        (fld (1 : Nat)
                                                          (f
                                                            (Int.toNat
                                                              (bif decide (fstI (fun (i : Nat) => bif decide (asN (fld (0 : Nat) (f i)) = tag) then !asB (fld (1 : Nat) (f i)) else false) n < n) then
                                                                (↑(fstI (fun (i : Nat) => bif decide (asN (fld (0 : Nat) (f i)) = tag) then !asB (fld (1 : Nat) (f i)) else false) n) : Int)
                                                              else (-1 : Int)))))
                                                  else
                                                    bif
                                                        Nat.beq i
                                                          (Int.toNat
                                                            (bif decide (fstI (fun (i : Nat) => bif decide (asN (fld (0 : Nat) (f i)) = tag) then !asB (fld (1 : Nat) (f i)) else false) n < n) then
                                                              (↑(fstI (fun (i : Nat) => bif decide (asN (fld (0 : Nat) (f i)) = tag) then !asB (fld (1 : Nat) (f i)) else false) n) : Int)
                                                            else (-1 : Int))) then
                                                      true
                                                    else asB (fld (1 : Nat) (f i))),
                                                XV.int IntKind.u32
                                                  (bif
                                                      Nat.beq i
                                                        (Int.toNat
                                                          (bif decide (fstI (fun (i : Nat) => bif decide (asN (fld (0 : Nat) (f i)) = tag) then !asB (fld (1 : Nat) (f i)) else false) n < n) then
                                                            (↑(fstI (fun (i : Nat) => bif decide (asN (fld (0 : Nat) (f i)) = tag) then !asB (fld (1 : Nat) (f i)) else false) n) : Int)
                                                          else (-1 : Int))) then
                                                    w
                                                  else
                                                    bif
                                                        Nat.beq i
                                                          (Int.toNat
                                                            (bif decide (fstI (fun (i : Nat) => bif decide (asN (fld (0 : Nat) (f i)) = tag) then !asB (fld (1 : Nat) (f i)) else false) n < n) then
                                                              (↑(fstI (fun (i : Nat) => bif decide (asN (fld (0 : Nat) (f i)) = tag) then !asB (fld (1 : Nat) (f i)) else false) n) : Int)
                                                            else (-1 : Int))) then
                                                      asN
                                                        (fld (2 : Nat)
                                                          (f
                                                            (Int.toNat
                                                              (bif decide (fstI (fun (i : Nat) => bif decide (asN (fld (0 : Nat) (f i)) = tag) then !asB (fld (1 : Nat) (f i)) else false) n < n) then
                                                                (↑(fstI (fun (i : Nat) => bif decide (asN (fld (0 : Nat) (f i)) = tag) then !asB (fld (1 : Nat) (f i)) else false) n) : Int)
                                                              else (-1 : Int)))))
                                                    else asN (fld (2 : Nat) (f i)))],
                                          XV.bool true]) =
                                    r
                                else False
                              else False
                            else False
                          else False
                        else False
                      else False
                    else False
                  else False
                else False
              else False
            else False
        else False
      else False
    else False
  else False
 else False) := by kernel_rfl
theorem r_rfill1 (x : Bool) (n : Nat) (f : Nat → XV) (tag w : Int) (r : AV) : (goS Try.prog TS3 [(.tmp 6), (.tmp 7)] r (.run c_ref15_Fill) [] ⟨envX 0 [.row x 3 n (fun i => mkS kSl (f i)), .int .i64 tag, .int .u32 w], [], 0⟩) =
    (bif decide (n * (16 : Nat) ≤ (140737488355328 : Nat)) then
  bif allN (fun (i : Nat) => true) n then
    LoopAt (Ok Try.prog (Tab.q TS3)) c_ref15_Fill_l1
      (XSt.mk
        [((8 : Nat), XV.int IntKind.i64 (0 : Int)), ((0 : Nat), XV.sl (0 : Nat) [] (0 : Nat) (0 : Nat) n (3 : Nat)), ((7 : Nat), XV.bool false),
          ((6 : Nat), XV.row true (0 : Nat) (0 : Nat) fun (x : Nat) => XV.unk), ((1 : Nat), XV.int IntKind.i64 tag), ((2 : Nat), XV.int IntKind.u32 w)]
        [((0 : Nat),
            some
              (XV.tab n (3 : Nat) fun (i : Nat) =>
                XV.agg (3 : Nat) [XV.int IntKind.i64 (asN (fld (0 : Nat) (f i))), XV.bool (asB (fld (1 : Nat) (f i))), XV.int IntKind.u32 (asN (fld (2 : Nat) (f i)))]))]
        (1 : Nat))
      [Frm.blk (0 : Nat), Frm.seq c_ref15_Fill_p1] (finR [AR.tmp (6 : Nat), AR.tmp (7 : Nat)] r)
  else False
 else False) := by kernel_rfl
theorem r_rfill2 (n : Nat) (f : Nat → XV) (tag w : Int) (r : AV) (A : XSt → Prop) (i : Nat) : (goS Try.prog TS3 [(.tmp 6), (.tmp 7)] r (.run c_ref15_Fill_l1) [.lp c_ref15_Fill_l1 A, .blk 0, .seq c_ref15_Fill_p1] ⟨[(0, .sl 0 [] 0 0 n 3), (1, .int .i64 tag), (2, .int .u32 w), (8, .int .i64 i)], [(0, some (.tab n 3 (fun i => mkS kSl (f i))))], 1⟩) =
    (bif decide ((↑i : Int) < (↑n : Int)) then
  bif decide ((↑i : Int) < (↑n : Int)) then
    bif Nat.beq (pl (i * (3 : Nat)) (0 : Nat)) (pl (i * (3 : Nat)) (0 : Nat)) then
      bif decide (i < n) then
        bif bif decide ((↑i : Int) < (↑n : Int)) then true else !decide (asN (fld (0 : Nat) (f i)) = tag) then
          bif bif Nat.beq (pl (i * (3 : Nat)) (1 : Nat)) (pl (i * (3 : Nat)) (1 : Nat)) then true else !decide (asN (fld (0 : Nat) (f i)) = tag) then
            bif bif decide (i < n) then true else !decide (asN (fld (0 : Nat) (f i)) = tag) then
              bif bif decide (asN (fld (0 : Nat) (f i)) = tag) then decide (asN (fld (0 : Nat) (f i)) = tag) else true then
                bif bif decide (asN (fld (0 : Nat) (f i)) = tag) then !asB (fld (1 : Nat) (f i)) else false then
                  bif decide ((↑i : Int) < (↑n : Int)) then
                    bif Nat.beq (pl (i * (3 : Nat)) (1 : Nat)) (pl (i * (3 : Nat)) (1 : Nat)) then
                      bif decide (i < n) then
                        bif decide (i < n) then
                          bif decide ((↑i : Int) < (↑n : Int)) then
                            bif Nat.beq (pl (i * (3 : Nat)) (2 : Nat)) (pl (i * (3 : Nat)) (2 : Nat)) then
                              bif decide (i < n) then
                                bif decide (i < n) then
                                  bif decide (n ≤ n) then
                                    con
                                        (XV.tup
                                          [XV.row false (3 : Nat) n fun (i_1 : Nat) =>
                                              XV.agg (3 : Nat)
                                                [XV.int IntKind.i64
                                                    (bif Nat.beq i_1 i then bif Nat.beq i i then asN (fld (0 : Nat) (f i)) else asN (fld (0 : Nat) (f i))
                                                    else bif Nat.beq i_1 i then asN (fld (0 : Nat) (f i)) else asN (fld (0 : Nat) (f i_1))),
                                                  XV.bool
                                                    (bif Nat.beq i_1 i then bif Nat.beq i i then true else asB (fld (1 : Nat) (f i)) else bif Nat.beq i_1 i then true else asB (fld (1 : Nat) (f i_1))),
                                                  XV.int IntKind.u32 (bif Nat.beq i_1 i then w else bif Nat.beq i_1 i then asN (fld (2 : Nat) (f i)) else asN (fld (2 : Nat) (f i_1)))],
                                            XV.bool true]) =
                                      r
                                  else False
                                else False
                              else False
                            else False
                          else False
                        else False
                      else False
                    else False
                  else False
                else
                  A
                    (XSt.mk
                      [((8 : Nat), XV.int IntKind.i64 (IntKind.wrap IntKind.i64 ((↑i : Int) + (1 : Int)))), ((0 : Nat), XV.sl (0 : Nat) [] (0 : Nat) (0 : Nat) n (3 : Nat)),
                        ((1 : Nat), XV.int IntKind.i64 tag), ((2 : Nat), XV.int IntKind.u32 w)]
                      [((0 : Nat),
                          some
                            (XV.tab n (3 : Nat) fun (i : Nat) =>
                              XV.agg (3 : Nat) [XV.int IntKind.i64 (asN (fld (0 : Nat) (f i))), XV.bool (asB (fld (1 : Nat) (f i))), XV.int IntKind.u32 (asN (fld (2 : Nat) (f i)))]))]
                      (1 : Nat))
              else False
            else False
          else False
        else False
      else False
    else False
  else False
 else
   bif decide (n ≤ n) then
     con
         (XV.tup
           [XV.row false (3 : Nat) n fun (i : Nat) =>
               XV.agg (3 : Nat) [XV.int IntKind.i64 (asN (fld (0 : Nat) (f i))), XV.bool (asB (fld (1 : Nat) (f i))), XV.int IntKind.u32 (asN (fld (2 : Nat) (f i)))],
             XV.bool false]) =
       r
   else False) := by kernel_rfl
/-- The first slot to be filled. -/
def fstOpen (tag : Int) (n : Nat) (f : Nat → XV) : Nat := fstI (fun i => u_open tag (f i)) n
/-- A list of slots with one of them filled. -/
def o_fill (k : Nat) (f : Nat → XV) (w : Int) (i : Nat) : XV := .agg 3 [.int .i64 (asN (fld 0 (f i))), .bool (bif Nat.beq i k then true else asB (fld 1 (f i))), .int .u32 (bif Nat.beq i k then w else asN (fld 2 (f i)))]
def fillX (n k : Nat) (f : Nat → XV) (w : Int) : XV := .row false 3 n (o_fill k f w)
theorem fill_pure (x : Bool) (n : Nat) (f : Nat → XV) (tag w : Int) (hn : n ≤ 1000000) :
    Pure Try.prog 21 (cons [.row x 3 n (fun i => mkS kSl (f i)), .int .i64 tag, .int .u32 w]) (con (.tup [fillX n (fstOpen tag n f) f w, .bool (decide (fstOpen tag n f < n))])) := by
  refine pureS mix TS3ok t_slots_Fill (Nat.le_of_ble_eq_true rfl) ?_
  refine Eq.mpr (r_fill1 x n f tag w _) ?_
  have hb : n * 16 ≤ 140737488355328 := by omega
  have hn2 : n ≤ 4611686018427387904 := by omega
  unfold fstOpen
  have hk := (fstI_spec (fun i => u_open tag (f i)) n).1
  unfold u_open at hk ⊢
  generalize fstI _ n = k at *
  by_cases hlt : k < n
  · have h1 : ¬ (k : Int) < 0 := by omega
    have h2 : (0 : Int) ≤ k := by omega
    have h3 : (k : Int) < n := by omega
    simp only [hb, hn2, hlt, h1, h2, h3, decide_true, decide_false, cond_true, cond_false, allN_true, Nat.le_refl, Int.toNat_natCast, Nat.beq_refl]
    refine conT2 (conR rfl fun i hi => ?_) rfl
    unfold o_fill
    by_cases hik : i = k
    · subst hik; simp only [Nat.beq_refl, cond_true]
    · simp only [beq_ne hik, cond_false]
  · have h1 : (-1 : Int) < 0 := by omega
    simp only [hb, hn2, hlt, h1, decide_true, decide_false, cond_true, cond_false, allN_true, Nat.le_refl]
    refine conT2 (conR rfl fun i hi => ?_) rfl
    unfold o_fill
    simp only [beq_ne (show ¬ i = k by omega), cond_false]
theorem rfill_pure (x : Bool) (n : Nat) (f : Nat → XV) (tag w : Int) (hn : n ≤ 1000000) :
    Pure Try.prog 22 (cons [.row x 3 n (fun i => mkS kSl (f i)), .int .i64 tag, .int .u32 w]) (con (.tup [fillX n (fstOpen tag n f) f w, .bool (decide (fstOpen tag n f < n))])) := by
  refine pureS mix TS3ok t_ref15_Fill (Nat.le_of_ble_eq_true rfl) ?_
  unfold fstOpen
  refine Eq.mpr (r_rfill1 x n f tag w _) ?_
  have hb : n * 16 ≤ 140737488355328 := by omega
  simp only [hb, decide_true, decide_false, cond_true, cond_false, allN_true, Nat.le_refl, Int.toNat_natCast, Nat.beq_refl, pk_and, pk_or, Bool.not_true, Bool.not_false, not_true_eq_false, not_false_eq_true, Bool.and_true, Bool.true_and, Bool.and_self, ge_iff_le, Int.le_refl, if_true, if_false, reduceCtorEq, eq_self, BEq.rfl]
  refine loopS mix TS3ok (fun i : Nat => ⟨[(0, .sl 0 [] 0 0 n 3), (1, .int .i64 tag), (2, .int .u32 w), (8, .int .i64 i)], [(0, some (.tab n 3 (fun i => mkS kSl (f i))))], 1⟩) (fun i => i ≤ n ∧ ∀ j, j < i → u_open tag (f j) = false) (fun i => n - i) 0 ⟨Nat.zero_le _, fun j hj => by omega⟩ (weakX ⟨rfl, rfl, rfl, rfl, trivial⟩ ⟨rfl, trivial⟩ (Nat.le_refl _)) ?_
  rintro i ⟨hi, hp⟩
  refine Eq.mpr (r_rfill2 n f tag w _ _ i) ?_
  by_cases hlt : i < n
  · have h1 : (i : Int) < n := by omega
    simp only [h1, hlt, decide_true, decide_false, cond_true, cond_false, allN_true, Nat.le_refl, Int.toNat_natCast, Nat.beq_refl, pk_and, pk_or, Bool.not_true, Bool.not_false, not_true_eq_false, not_false_eq_true, Bool.and_true, Bool.true_and, Bool.and_self, ge_iff_le, Int.le_refl, if_true, if_false, reduceCtorEq, eq_self, BEq.rfl]
    refine cnd2 (fun h => ?_) (fun h => ?_)
    · rw [fstI_is hlt h hp]
      simp only [hlt, decide_true]
      refine conT2 (conR rfl fun j hj => ?_) rfl
      unfold o_fill
      by_cases hji : j = i
      · subst hji; simp only [Nat.beq_refl, cond_true]
      · simp only [beq_ne hji, cond_false]
    · refine ⟨i + 1, ⟨hlt, fun j hj => ?_⟩, weakX ⟨rfl, rfl, rfl, ?_, trivial⟩ ⟨rfl, trivial⟩ (Nat.le_refl _), by omega⟩
      · by_cases hji : j = i
        · subst hji; exact h
        · exact hp j (by omega)
      · show con (.int .i64 (IntKind.i64.wrap ((i : Int) + 1))) = con (.int .i64 ((i + 1 : Nat) : Int))
        rw [wrap_i64 (by omega) (by omega)]
        rfl
  · have h1 : ¬ (i : Int) < n := by omega
    simp only [h1, decide_true, decide_false, cond_true, cond_false, allN_true, Nat.le_refl, Int.toNat_natCast, Nat.beq_refl, pk_and, pk_or, Bool.not_true, Bool.not_false, not_true_eq_false, not_false_eq_true, Bool.and_true, Bool.true_and, Bool.and_self, ge_iff_le, Int.le_refl, if_true, if_false, reduceCtorEq, eq_self, BEq.rfl]
    rw [fstI_none fun j hj => hp j (by omega)]
    simp only [Nat.lt_irrefl, decide_false]
    refine conT2 (conR rfl fun j hj => ?_) rfl
    unfold o_fill
    simp only [beq_ne (show ¬ j = n by omega), cond_false]

/-- What filling gives. -/
def fillSp : List XV → Option (List Bool × XV)
  | [.row _ e n f, .int .i64 tag, .int .u32 w] => bif okE e 3 n then some ([decide (n ≤ 1000000), allN (fun i => isS kSl (f i)) n], .tup [fillX n (fstOpen tag n f) f w, .bool (decide (fstOpen tag n f < n))]) else none
  | _ => none
theorem sp_fill_of {fn : Nat} (h : ∀ (x : Bool) (n : Nat) (f : Nat → XV) (tag w : Int), n ≤ 1000000 → Pure Try.prog fn (cons [.row x 3 n (fun i => mkS kSl (f i)), .int .i64 tag, .int .u32 w]) (con (.tup [fillX n (fstOpen tag n f) f w, .bool (decide (fstOpen tag n f < n))]))) : SpOk Try.prog (fn, fillSp) := by
  intro args nd v ha hn
  simp only [fillSp] at ha
  split at ha
  · rename_i x e n f tag w
    cases hc : okE e 3 n <;> rw [hc] at ha
    · cases ha
    · simp only [cond_true, Option.some.injEq, Prod.mk.injEq] at ha
      obtain ⟨rfl, rfl⟩ := ha
      simp only [allT_cons, decide_eq_true_eq, allN_iff] at hn
      refine (h x n f tag w hn.1).nilEqs (.cons (nil_row hc fun i hi => ?_) (.cons (nil_self _) (.cons (nil_self _) .nil)))
      rw [mkS_eq (hn.2.1 i hi)]
  · cases ha
theorem sp_fill : SpOk Try.prog (21, fillSp) := sp_fill_of fill_pure
theorem sp_rfill : SpOk Try.prog (22, fillSp) := sp_fill_of rfill_pure
end Go.Proofs.Ytmlnhecgcbohkaa
