/- The queue of stores' addresses: what its functions give, and the document's. -/
import Derived.Test.YtihhfmdihhmbdaaBy4
import Derived.Test.YtihhfmdihhmbdaaKsaq
import Derived.Test.YtihhfmdihhmbdaaKref15
import Derived.Test.YtihhfmdihhmbdaaKlaw17
namespace Go.Proofs.Ytihhfmdihhmbdaa
open Go.Ra
set_option linter.unusedVariables false
set_option linter.unusedSimpArgs false
def TQ1 : Tab := mkT qq (cl_saq ++ cl_bytes ++ cl_ref1 ++ cl_ref15 ++ cl_slices) [(29, szSp), (20, szSp), (35, extSp), (36, extSp), (21, formSp), (33, ovlSp), (34, ovlSp)] gl_slices
abbrev kEn : List KD := [.i .i64, .i .i64, .i .i64, .b, .i .u32]
def u_eqEn (a b : XV) : Bool := decide (asN (fld 0 a) = asN (fld 0 b)) && (decide (asN (fld 1 a) = asN (fld 1 b)) && (decide (asN (fld 2 a) = asN (fld 2 b)) && ((asB (fld 3 a) == asB (fld 3 b)) && (decide (asN (fld 4 a) = asN (fld 4 b)) && true))))
/-- Has an entry a byte of some? -/
def u_ov (a s : Int) (v : XV) : Bool := ovlB (asN (fld 0 v)) (asN (fld 1 v)) a s
/-- One more than the last place that has a byte of some; 0: none. -/
def lstO (a s : Int) (n : Nat) (f : Nat → XV) : Nat := lstI (fun i => u_ov a s (f i)) n
def o_enI (k : Nat) (L : Nat) (f : Nat → XV) : Int := bif decide (0 < L) then asN (fld k (f (L - 1))) else 0
def o_enB (k : Nat) (L : Nat) (f : Nat → XV) : Bool := bif decide (0 < L) then asB (fld k (f (L - 1))) else false
def seaG (n : Nat) (f : Nat → XV) : List XV → Option (List Bool × XV)
  | [.int .i64 a, .int .i64 s] => some ([i64B a, i64B s, allN (fun i => i64B (asN (fld 0 (f i))) && i64B (asN (fld 1 (f i)))) n],
      .tup [.agg 5 [.int .i64 (o_enI 0 (lstO a s n f) f), .int .i64 (o_enI 1 (lstO a s n f) f), .int .i64 (o_enI 2 (lstO a s n f) f), .bool (o_enB 3 (lstO a s n f) f), .int .u32 (o_enI 4 (lstO a s n f) f)], .bool (decide (0 < lstO a s n f))])
  | _ => none
def seaSp := rowSp 5 kEn 1000000 seaG
/-- Does a load have its word of an entry? -/
def bypB (ea es : Int) (known : Bool) (op addr : Int) : Bool := decide (26 ≤ op ∧ op ≤ 30 ∧ known = true ∧ ea = addr ∧ es = szI op)
def bypSp : List XV → Option (List Bool × XV)
  | [.agg 5 [.int .i64 ea, .int .i64 es, .int .i64 _, .bool known, .int .u32 v], .int .i64 op, .int .i64 addr] => some ([decide (0 ≤ v), decide (v ≤ 4294967295)],
      .tup [.int .u32 (bif bypB ea es known op addr then extI op v else 0), .bool (bypB ea es known op addr)])
  | _ => none
def o_push (n : Nat) (f : Nat → XV) (a b c : Int) (d : Bool) (e : Int) (i : Nat) : XV := .agg 5 [.int .i64 (bif decide (i < n) then asN (fld 0 (f i)) else a), .int .i64 (bif decide (i < n) then asN (fld 1 (f i)) else b), .int .i64 (bif decide (i < n) then asN (fld 2 (f i)) else c), .bool (bif decide (i < n) then asB (fld 3 (f i)) else d), .int .u32 (bif decide (i < n) then asN (fld 4 (f i)) else e)]
def pusG (n : Nat) (f : Nat → XV) : List XV → Option (List Bool × XV)
  | [.int .i64 m, .agg 5 [.int .i64 a, .int .i64 b, .int .i64 c, .bool d, .int .u32 e]] => some ([],
      .tup [.row false 5 (bif decide ((n : Int) ≥ m) then n else n + 1) (o_push n f a b c d e), .bool (!decide ((n : Int) ≥ m))])
  | _ => none
def pusSp := rowSp 5 kEn 1000000 pusG
def TQ2 : Tab := mkT qq cl_law17 [] []
theorem TQ1ok : TabOk Try.prog TQ1 := mkT_ok ((((clok_saq.app clok_bytes).app clok_ref1).app clok_ref15).app clok_slices) ⟨sp_size1, sp_size2, sp_sign, sp_ext, sp_form, sp_ovl, sp_rovl, trivial⟩ glok_slices
theorem TQ2ok : TabOk Try.prog TQ2 := mkT_ok clok_law17 trivial trivial
theorem r_sea0 (x : Bool) (n : Nat) (f : Nat → XV) (a s : Int) (r : AV) : (goS Try.prog TQ1 [(.cell 6 true 5), (.tmp 7)] r (.run c_saq_Search) [] ⟨envX 0 [.row x 5 n (fun i => mkS kEn (f i)), .int .i64 a, .int .i64 s], [], 0⟩) =
    (LoopAt (Ok Try.prog (Tab.q TQ1)) c_saq_Search_l1
  (XSt.mk
    [((8 : Nat), XV.int IntKind.i64 (IntKind.wrap IntKind.i64 ((↑n : Int) - (1 : Int)))), ((7 : Nat), XV.bool false), ((6 : Nat), XV.ptr (0 : Nat) [] (0 : Nat)),
      ((0 : Nat),
        XV.row x (5 : Nat) n fun (i : Nat) =>
          XV.agg (5 : Nat)
            [XV.int IntKind.i64 (asN (fld (0 : Nat) (f i))), XV.int IntKind.i64 (asN (fld (1 : Nat) (f i))), XV.int IntKind.i64 (asN (fld (2 : Nat) (f i))), XV.bool (asB (fld (3 : Nat) (f i))),
              XV.int IntKind.u32 (asN (fld (4 : Nat) (f i)))]),
      ((1 : Nat), XV.int IntKind.i64 a), ((2 : Nat), XV.int IntKind.i64 s)]
    [((0 : Nat), some (XV.agg (5 : Nat) [XV.int IntKind.i64 (0 : Int), XV.int IntKind.i64 (0 : Int), XV.int IntKind.i64 (0 : Int), XV.bool false, XV.int IntKind.u32 (0 : Int)]))] (1 : Nat))
  [Frm.blk (0 : Nat), Frm.seq c_saq_Search_p1] (finR [AR.cell (6 : Nat) true (5 : Nat), AR.tmp (7 : Nat)] r)) := by kernel_rfl
theorem r_sea1 (x : Bool) (n : Nat) (f : Nat → XV) (a s : Int) (r : AV) (A : XSt → Prop) (i : Nat) : (goS Try.prog TQ1 [(.cell 6 true 5), (.tmp 7)] r (.run c_saq_Search_l1) [.lp c_saq_Search_l1 A, .blk 0, .seq c_saq_Search_p1] ⟨[(0, .row x 5 n (fun i => mkS kEn (f i))), (1, .int .i64 a), (2, .int .i64 s), (6, .ptr 0 [] 0), (7, .bool false), (8, .int .i64 ((i : Int) - 1))], [(0, some (.agg 5 [.int .i64 0, .int .i64 0, .int .i64 0, .bool false, .int .u32 0]))], 1⟩) =
    (bif decide ((↑i : Int) - (1 : Int) ≥ (0 : Int)) then
  bif decide ((0 : Int) ≤ (↑i : Int) - (1 : Int)) then
    bif decide ((↑i : Int) - (1 : Int) < (↑n : Int)) then
      bif decide ((0 : Int) ≤ (↑i : Int) - (1 : Int)) then
        bif decide ((↑i : Int) - (1 : Int) < (↑n : Int)) then
          bif i64B (asN (fld (0 : Nat) (f (Int.toNat ((↑i : Int) - (1 : Int)))))) then
            bif i64B (asN (fld (1 : Nat) (f (Int.toNat ((↑i : Int) - (1 : Int)))))) then
              bif i64B a then
                bif i64B s then
                  bif ovlB (asN (fld (0 : Nat) (f (Int.toNat ((↑i : Int) - (1 : Int)))))) (asN (fld (1 : Nat) (f (Int.toNat ((↑i : Int) - (1 : Int)))))) a s then
                    bif decide ((0 : Int) ≤ (↑i : Int) - (1 : Int)) then
                      bif decide ((↑i : Int) - (1 : Int) < (↑n : Int)) then
                        con
                            (XV.tup
                              [XV.agg (5 : Nat)
                                  [XV.int IntKind.i64 (asN (fld (0 : Nat) (f (Int.toNat ((↑i : Int) - (1 : Int)))))), XV.int IntKind.i64 (asN (fld (1 : Nat) (f (Int.toNat ((↑i : Int) - (1 : Int)))))),
                                    XV.int IntKind.i64 (asN (fld (2 : Nat) (f (Int.toNat ((↑i : Int) - (1 : Int)))))), XV.bool (asB (fld (3 : Nat) (f (Int.toNat ((↑i : Int) - (1 : Int)))))),
                                    XV.int IntKind.u32 (asN (fld (4 : Nat) (f (Int.toNat ((↑i : Int) - (1 : Int))))))],
                                XV.bool true]) =
                          r
                      else False
                    else False
                  else
                    A
                      (XSt.mk
                        [((8 : Nat), XV.int IntKind.i64 (IntKind.wrap IntKind.i64 ((↑i : Int) - (1 : Int) - (1 : Int)))),
                          ((0 : Nat),
                            XV.row x (5 : Nat) n fun (i : Nat) =>
                              XV.agg (5 : Nat)
                                [XV.int IntKind.i64 (asN (fld (0 : Nat) (f i))), XV.int IntKind.i64 (asN (fld (1 : Nat) (f i))), XV.int IntKind.i64 (asN (fld (2 : Nat) (f i))),
                                  XV.bool (asB (fld (3 : Nat) (f i))), XV.int IntKind.u32 (asN (fld (4 : Nat) (f i)))]),
                          ((1 : Nat), XV.int IntKind.i64 a), ((2 : Nat), XV.int IntKind.i64 s), ((6 : Nat), XV.ptr (0 : Nat) [] (0 : Nat)), ((7 : Nat), XV.bool false)]
                        [((0 : Nat), some (XV.agg (5 : Nat) [XV.int IntKind.i64 (0 : Int), XV.int IntKind.i64 (0 : Int), XV.int IntKind.i64 (0 : Int), XV.bool false, XV.int IntKind.u32 (0 : Int)]))]
                        (1 : Nat))
                else False
              else False
            else False
          else False
        else False
      else False
    else False
  else False
 else con (XV.tup [XV.agg (5 : Nat) [XV.int IntKind.i64 (0 : Int), XV.int IntKind.i64 (0 : Int), XV.int IntKind.i64 (0 : Int), XV.bool false, XV.int IntKind.u32 (0 : Int)], XV.bool false]) = r) := by kernel_rfl
theorem r_rsea0 (x : Bool) (n : Nat) (f : Nat → XV) (a s : Int) (r : AV) : (goS Try.prog TQ1 [(.cell 6 true 5), (.tmp 7)] r (.run c_ref15_Search) [] ⟨envX 0 [.row x 5 n (fun i => mkS kEn (f i)), .int .i64 a, .int .i64 s], [], 0⟩) =
    (LoopAt (Ok Try.prog (Tab.q TQ1)) c_ref15_Search_l1
  (XSt.mk
    [((8 : Nat), XV.int IntKind.i64 (IntKind.wrap IntKind.i64 ((↑n : Int) - (1 : Int)))), ((7 : Nat), XV.bool false), ((6 : Nat), XV.ptr (0 : Nat) [] (0 : Nat)),
      ((0 : Nat),
        XV.row x (5 : Nat) n fun (i : Nat) =>
          XV.agg (5 : Nat)
            [XV.int IntKind.i64 (asN (fld (0 : Nat) (f i))), XV.int IntKind.i64 (asN (fld (1 : Nat) (f i))), XV.int IntKind.i64 (asN (fld (2 : Nat) (f i))), XV.bool (asB (fld (3 : Nat) (f i))),
              XV.int IntKind.u32 (asN (fld (4 : Nat) (f i)))]),
      ((1 : Nat), XV.int IntKind.i64 a), ((2 : Nat), XV.int IntKind.i64 s)]
    [((0 : Nat), some (XV.agg (5 : Nat) [XV.int IntKind.i64 (0 : Int), XV.int IntKind.i64 (0 : Int), XV.int IntKind.i64 (0 : Int), XV.bool false, XV.int IntKind.u32 (0 : Int)]))] (1 : Nat))
  [Frm.blk (0 : Nat), Frm.seq c_ref15_Search_p1] (finR [AR.cell (6 : Nat) true (5 : Nat), AR.tmp (7 : Nat)] r)) := by kernel_rfl
theorem r_rsea1 (x : Bool) (n : Nat) (f : Nat → XV) (a s : Int) (r : AV) (A : XSt → Prop) (i : Nat) : (goS Try.prog TQ1 [(.cell 6 true 5), (.tmp 7)] r (.run c_ref15_Search_l1) [.lp c_ref15_Search_l1 A, .blk 0, .seq c_ref15_Search_p1] ⟨[(0, .row x 5 n (fun i => mkS kEn (f i))), (1, .int .i64 a), (2, .int .i64 s), (6, .ptr 0 [] 0), (7, .bool false), (8, .int .i64 ((i : Int) - 1))], [(0, some (.agg 5 [.int .i64 0, .int .i64 0, .int .i64 0, .bool false, .int .u32 0]))], 1⟩) =
    (bif decide ((↑i : Int) - (1 : Int) ≥ (0 : Int)) then
  bif decide ((0 : Int) ≤ (↑i : Int) - (1 : Int)) then
    bif decide ((↑i : Int) - (1 : Int) < (↑n : Int)) then
      bif decide ((0 : Int) ≤ (↑i : Int) - (1 : Int)) then
        bif decide ((↑i : Int) - (1 : Int) < (↑n : Int)) then
          bif i64B (asN (fld (0 : Nat) (f (Int.toNat ((↑i : Int) - (1 : Int)))))) then
            bif i64B (asN (fld (1 : Nat) (f (Int.toNat ((↑i : Int) - (1 : Int)))))) then
              bif i64B a then
                bif i64B s then
                  bif ovlB (asN (fld (0 : Nat) (f (Int.toNat ((↑i : Int) - (1 : Int)))))) (asN (fld (1 : Nat) (f (Int.toNat ((↑i : Int) - (1 : Int)))))) a s then
                    bif decide ((0 : Int) ≤ (↑i : Int) - (1 : Int)) then
                      bif decide ((↑i : Int) - (1 : Int) < (↑n : Int)) then
                        con
                            (XV.tup
                              [XV.agg (5 : Nat)
                                  [XV.int IntKind.i64 (asN (fld (0 : Nat) (f (Int.toNat ((↑i : Int) - (1 : Int)))))), XV.int IntKind.i64 (asN (fld (1 : Nat) (f (Int.toNat ((↑i : Int) - (1 : Int)))))),
                                    XV.int IntKind.i64 (asN (fld (2 : Nat) (f (Int.toNat ((↑i : Int) - (1 : Int)))))), XV.bool (asB (fld (3 : Nat) (f (Int.toNat ((↑i : Int) - (1 : Int)))))),
                                    XV.int IntKind.u32 (asN (fld (4 : Nat) (f (Int.toNat ((↑i : Int) - (1 : Int))))))],
                                XV.bool true]) =
                          r
                      else False
                    else False
                  else
                    A
                      (XSt.mk
                        [((8 : Nat), XV.int IntKind.i64 (IntKind.wrap IntKind.i64 ((↑i : Int) - (1 : Int) - (1 : Int)))),
                          ((0 : Nat),
                            XV.row x (5 : Nat) n fun (i : Nat) =>
                              XV.agg (5 : Nat)
                                [XV.int IntKind.i64 (asN (fld (0 : Nat) (f i))), XV.int IntKind.i64 (asN (fld (1 : Nat) (f i))), XV.int IntKind.i64 (asN (fld (2 : Nat) (f i))),
                                  XV.bool (asB (fld (3 : Nat) (f i))), XV.int IntKind.u32 (asN (fld (4 : Nat) (f i)))]),
                          ((1 : Nat), XV.int IntKind.i64 a), ((2 : Nat), XV.int IntKind.i64 s), ((6 : Nat), XV.ptr (0 : Nat) [] (0 : Nat)), ((7 : Nat), XV.bool false)]
                        [((0 : Nat), some (XV.agg (5 : Nat) [XV.int IntKind.i64 (0 : Int), XV.int IntKind.i64 (0 : Int), XV.int IntKind.i64 (0 : Int), XV.bool false, XV.int IntKind.u32 (0 : Int)]))]
                        (1 : Nat))
                else False
              else False
            else False
          else False
        else False
      else False
    else False
  else False
 else con (XV.tup [XV.agg (5 : Nat) [XV.int IntKind.i64 (0 : Int), XV.int IntKind.i64 (0 : Int), XV.int IntKind.i64 (0 : Int), XV.bool false, XV.int IntKind.u32 (0 : Int)], XV.bool false]) = r) := by kernel_rfl
theorem r_byp1 (ea es et : Int) (k : Bool) (v op addr : Int) (K : XV → Prop) : (quietGo TQ1 80 (callI TQ1 80 20) 16 [.agg 5 [.int .i64 ea, .int .i64 es, .int .i64 et, .bool k, .int .u32 v], .int .i64 op, .int .i64 addr] K) =
    (bif bif decide (op < (26 : Int)) then true else !decide (op < (26 : Int)) then
  bif bif bif decide (op < (26 : Int)) then true else decide (op > (30 : Int)) then true else !bif decide (op < (26 : Int)) then true else decide (op > (30 : Int)) then
    bif
        bif bif bif decide (op < (26 : Int)) then true else decide (op > (30 : Int)) then true else !k then true
        else !bif bif decide (op < (26 : Int)) then true else decide (op > (30 : Int)) then true else !k then
      bif
          bif bif bif bif decide (op < (26 : Int)) then true else decide (op > (30 : Int)) then true else !k then true else decide ¬ea = addr then true
          else !bif bif bif decide (op < (26 : Int)) then true else decide (op > (30 : Int)) then true else !k then true else decide ¬ea = addr then
        bif bif bif bif bif decide (op < (26 : Int)) then true else decide (op > (30 : Int)) then true else !k then true else decide ¬ea = addr then true else decide ¬es = szI op then
          K (XV.tup [XV.int IntKind.u32 (0 : Int), XV.bool false])
        else bif decide ((0 : Int) ≤ v) then bif decide (v ≤ (4294967295 : Int)) then K (XV.tup [XV.int IntKind.u32 (extI op v), XV.bool true]) else False else False
      else False
    else False
  else False
 else False) := by kernel_rfl
theorem r_byp2 (ea es et : Int) (k : Bool) (v op addr : Int) (K : XV → Prop) : (quietGo TQ1 80 (callI TQ1 80 20) 25 [.agg 5 [.int .i64 ea, .int .i64 es, .int .i64 et, .bool k, .int .u32 v], .int .i64 op, .int .i64 addr] K) =
    (bif bif decide ¬formI op = (4 : Int) then true else !decide ¬formI op = (4 : Int) then
  bif bif bif decide ¬formI op = (4 : Int) then true else !k then true else !bif decide ¬formI op = (4 : Int) then true else !k then
    bif
        bif bif bif decide ¬formI op = (4 : Int) then true else !k then true else decide ¬ea = addr then true
        else !bif bif decide ¬formI op = (4 : Int) then true else !k then true else decide ¬ea = addr then
      bif bif bif bif decide ¬formI op = (4 : Int) then true else !k then true else decide ¬ea = addr then true else decide ¬es = szI op then K (XV.tup [XV.int IntKind.u32 (0 : Int), XV.bool false])
      else bif decide ((0 : Int) ≤ v) then bif decide (v ≤ (4294967295 : Int)) then K (XV.tup [XV.int IntKind.u32 (extI op v), XV.bool true]) else False else False
    else False
  else False
 else False) := by kernel_rfl
theorem r_msk1 (w n : Int) (K : XV → Prop) : (quietGo TQ1 80 (callI TQ1 80 20) 15 [.int .u32 w, .int .i64 n] K) =
    (bif decide (n = (1 : Int)) then K (XV.int IntKind.u32 (bitsI BinOp.and IntKind.u32 w (255 : Int)))
 else
   bif decide (n = (2 : Int)) then K (XV.int IntKind.u32 (bitsI BinOp.and IntKind.u32 w (65535 : Int)))
   else bif decide (n = (4 : Int)) then K (XV.int IntKind.u32 w) else K (XV.int IntKind.u32 (0 : Int))) := by kernel_rfl
theorem r_push1 (x : Bool) (n : Nat) (f : Nat → XV) (m a b c : Int) (d : Bool) (e : Int) (r : AV) : (goS Try.prog TQ1 [(.tmp 6), (.tmp 7)] r (.run c_saq_Push) [] ⟨envX 0 [.row x 5 n (fun i => mkS kEn (f i)), .int .i64 m, .agg 5 [.int .i64 a, .int .i64 b, .int .i64 c, .bool d, .int .u32 e]], [], 0⟩) =
    (bif decide (n * (32 : Nat) ≤ (140737488355328 : Nat)) then
  bif allN (fun (i : Nat) => true) n then
    bif decide ((↑n : Int) ≥ m) then
      bif decide (n ≤ n) then
        con
            (XV.tup
              [XV.row false (5 : Nat) n fun (i : Nat) =>
                  XV.agg (5 : Nat)
                    [XV.int IntKind.i64 (asN (fld (0 : Nat) (f i))), XV.int IntKind.i64 (asN (fld (1 : Nat) (f i))), XV.int IntKind.i64 (asN (fld (2 : Nat) (f i))),
                      XV.bool (asB (fld (3 : Nat) (f i))), XV.int IntKind.u32 (asN (fld (4 : Nat) (f i)))],
                XV.bool false]) =
          r
      else False
    else
      bif decide (n ≤ n) then
        bif decide (pl n (1 : Nat) * (32 : Nat) ≤ (140737488355328 : Nat)) then
          bif decide (pl n (1 : Nat) ≤ pl n (1 : Nat)) then
            con
                (XV.tup
                  [XV.row false (5 : Nat) (pl n (1 : Nat)) fun (i : Nat) =>
                      XV.agg (5 : Nat)
                        [XV.int IntKind.i64 (bif decide (i < n) then asN (fld (0 : Nat) (f i)) else a), XV.int IntKind.i64 (bif decide (i < n) then asN (fld (1 : Nat) (f i)) else b),
                          XV.int IntKind.i64 (bif decide (i < n) then asN (fld (2 : Nat) (f i)) else c), XV.bool (bif decide (i < n) then asB (fld (3 : Nat) (f i)) else d),
                          XV.int IntKind.u32 (bif decide (i < n) then asN (fld (4 : Nat) (f i)) else e)],
                    XV.bool true]) =
              r
          else False
        else False
      else False
  else False
 else False) := by kernel_rfl
theorem r_push2 (x : Bool) (n : Nat) (f : Nat → XV) (m a b c : Int) (d : Bool) (e : Int) (r : AV) : (goS Try.prog TQ1 [(.tmp 6), (.tmp 7)] r (.run c_ref15_PushEntry) [] ⟨envX 0 [.row x 5 n (fun i => mkS kEn (f i)), .int .i64 m, .agg 5 [.int .i64 a, .int .i64 b, .int .i64 c, .bool d, .int .u32 e]], [], 0⟩) =
    (bif decide (n * (32 : Nat) ≤ (140737488355328 : Nat)) then
  bif decide ((↑n : Int) ≥ m) then
    bif decide (n ≤ n) then
      con
          (XV.tup
            [XV.row false (5 : Nat) n fun (i : Nat) =>
                XV.agg (5 : Nat)
                  [XV.int IntKind.i64 (asN (fld (0 : Nat) (f i))), XV.int IntKind.i64 (asN (fld (1 : Nat) (f i))), XV.int IntKind.i64 (asN (fld (2 : Nat) (f i))), XV.bool (asB (fld (3 : Nat) (f i))),
                    XV.int IntKind.u32 (asN (fld (4 : Nat) (f i)))],
              XV.bool false]) =
        r
    else False
  else
    bif decide (n ≤ n) then
      bif decide (pl n (1 : Nat) * (32 : Nat) ≤ (140737488355328 : Nat)) then
        bif decide (pl n (1 : Nat) ≤ pl n (1 : Nat)) then
          con
              (XV.tup
                [XV.row false (5 : Nat) (pl n (1 : Nat)) fun (i : Nat) =>
                    XV.agg (5 : Nat)
                      [XV.int IntKind.i64 (bif decide (i < n) then asN (fld (0 : Nat) (f i)) else a), XV.int IntKind.i64 (bif decide (i < n) then asN (fld (1 : Nat) (f i)) else b),
                        XV.int IntKind.i64 (bif decide (i < n) then asN (fld (2 : Nat) (f i)) else c), XV.bool (bif decide (i < n) then asB (fld (3 : Nat) (f i)) else d),
                        XV.int IntKind.u32 (bif decide (i < n) then asN (fld (4 : Nat) (f i)) else e)],
                  XV.bool true]) =
            r
        else False
      else False
    else False
 else False) := by kernel_rfl
theorem r_same1 (x y : Bool) (n m : Nat) (f g : Nat → XV) (r : AV) : (goS Try.prog TQ2 [(.tmp 4)] r (.run c_law17_same) [] ⟨envX 0 [.row x 5 n (fun i => mkS kEn (f i)), .row y 5 m (fun i => mkS kEn (g i))], [], 0⟩) =
    (bif decide ¬(↑n : Int) = (↑m : Int) then con (XV.bool false) = r
 else
   LoopAt (Ok Try.prog (Tab.q TQ2)) c_law17_same_l1
     (XSt.mk
       [((5 : Nat), XV.int IntKind.i64 (0 : Int)), ((4 : Nat), XV.bool false),
         ((0 : Nat),
           XV.row x (5 : Nat) n fun (i : Nat) =>
             XV.agg (5 : Nat)
               [XV.int IntKind.i64 (asN (fld (0 : Nat) (f i))), XV.int IntKind.i64 (asN (fld (1 : Nat) (f i))), XV.int IntKind.i64 (asN (fld (2 : Nat) (f i))), XV.bool (asB (fld (3 : Nat) (f i))),
                 XV.int IntKind.u32 (asN (fld (4 : Nat) (f i)))]),
         ((1 : Nat),
           XV.row y (5 : Nat) m fun (i : Nat) =>
             XV.agg (5 : Nat)
               [XV.int IntKind.i64 (asN (fld (0 : Nat) (g i))), XV.int IntKind.i64 (asN (fld (1 : Nat) (g i))), XV.int IntKind.i64 (asN (fld (2 : Nat) (g i))), XV.bool (asB (fld (3 : Nat) (g i))),
                 XV.int IntKind.u32 (asN (fld (4 : Nat) (g i)))])]
       [] (0 : Nat))
     [Frm.blk (0 : Nat), Frm.seq c_law17_same_p1] (finR [AR.tmp (4 : Nat)] r)) := by kernel_rfl
theorem r_same2 (x y : Bool) (n m : Nat) (f g : Nat → XV) (r : AV) (A : XSt → Prop) (i : Nat) : (goS Try.prog TQ2 [(.tmp 4)] r (.run c_law17_same_l1) [.lp c_law17_same_l1 A, .blk 0, .seq c_law17_same_p1] ⟨[(0, .row x 5 n (fun i => mkS kEn (f i))), (1, .row y 5 m (fun i => mkS kEn (g i))), (5, .int .i64 i)], [], 0⟩) =
    (bif decide ((↑i : Int) < (↑n : Int)) then
  bif decide ((↑i : Int) < (↑n : Int)) then
    bif decide ((↑i : Int) < (↑m : Int)) then
      bif
          !(decide (asN (fld (0 : Nat) (f i)) = asN (fld (0 : Nat) (g i))) &&
              (decide (asN (fld (1 : Nat) (f i)) = asN (fld (1 : Nat) (g i))) &&
                (decide (asN (fld (2 : Nat) (f i)) = asN (fld (2 : Nat) (g i))) &&
                  (asB (fld (3 : Nat) (f i)) == asB (fld (3 : Nat) (g i)) && (decide (asN (fld (4 : Nat) (f i)) = asN (fld (4 : Nat) (g i))) && true))))) then
        con (XV.bool false) = r
      else
        A
          (XSt.mk
            [((5 : Nat), XV.int IntKind.i64 (IntKind.wrap IntKind.i64 ((↑i : Int) + (1 : Int)))),
              ((0 : Nat),
                XV.row x (5 : Nat) n fun (i : Nat) =>
                  XV.agg (5 : Nat)
                    [XV.int IntKind.i64 (asN (fld (0 : Nat) (f i))), XV.int IntKind.i64 (asN (fld (1 : Nat) (f i))), XV.int IntKind.i64 (asN (fld (2 : Nat) (f i))),
                      XV.bool (asB (fld (3 : Nat) (f i))), XV.int IntKind.u32 (asN (fld (4 : Nat) (f i)))]),
              ((1 : Nat),
                XV.row y (5 : Nat) m fun (i : Nat) =>
                  XV.agg (5 : Nat)
                    [XV.int IntKind.i64 (asN (fld (0 : Nat) (g i))), XV.int IntKind.i64 (asN (fld (1 : Nat) (g i))), XV.int IntKind.i64 (asN (fld (2 : Nat) (g i))),
                      XV.bool (asB (fld (3 : Nat) (g i))), XV.int IntKind.u32 (asN (fld (4 : Nat) (g i)))])]
            [] (0 : Nat))
    else False
  else False
 else con (XV.bool true) = r) := by kernel_rfl
theorem lstO_none {a s : Int} {n : Nat} {f : Nat → XV} (h : ∀ j, j < n → u_ov a s (f j) = false) : lstO a s n f = 0 := by
  have hs := lstI_spec (fun i => u_ov a s (f i)) n
  refine Nat.eq_zero_of_not_pos fun h0 => ?_
  have h1 := hs.2.2 h0
  unfold lstO at h0
  rw [h _ (by omega)] at h1
  cases h1
theorem lstO_is {a s : Int} {n i : Nat} {f : Nat → XV} (h0 : 0 < i) (hi : i ≤ n) (h : u_ov a s (f (i - 1)) = true) (hp : ∀ j, i ≤ j → j < n → u_ov a s (f j) = false) : lstO a s n f = i := by
  obtain ⟨h1, h2, h3⟩ := lstI_spec (fun i => u_ov a s (f i)) n
  have h2' : ∀ j, lstO a s n f ≤ j → j < n → u_ov a s (f j) = false := h2
  have h3' : 0 < lstO a s n f → u_ov a s (f (lstO a s n f - 1)) = true := h3
  have h1' : lstO a s n f ≤ n := h1
  rcases Nat.lt_trichotomy (lstO a s n f) i with g | g | g
  · rw [h2' (i - 1) (by omega) (by omega)] at h; cases h
  · exact g
  · have := h3' (by omega)
    rw [hp _ (by omega) (by omega)] at this; cases this
theorem sp_sea : SpOk Try.prog (14, seaSp) := rowSp_ok fun x n f rest nd v hn hg hnd => by
  unfold seaG at hg
  split at hg <;> simp only [Option.some.injEq, Prod.mk.injEq, reduceCtorEq] at hg
  rename_i a s
  obtain ⟨rfl, rfl⟩ := hg
  simp only [allT_cons, allN_iff, Bool.and_eq_true] at hnd
  obtain ⟨ha, hs, hr, _⟩ := hnd
  refine pureS mix TQ1ok t_saq_Search (Nat.le_of_ble_eq_true rfl) ?_
  rw [r_sea0]
  have w0 : IntKind.i64.wrap ((n : Int) - 1) = (n : Int) - 1 := wrap_i64 (by omega) (by omega)
  rw [w0]
  refine loopS mix TQ1ok (fun i : Nat => ⟨[(0, .row x 5 n (fun i => mkS kEn (f i))), (1, .int .i64 a), (2, .int .i64 s), (6, .ptr 0 [] 0), (7, .bool false), (8, .int .i64 ((i : Int) - 1))], [(0, some (.agg 5 [.int .i64 0, .int .i64 0, .int .i64 0, .bool false, .int .u32 0]))], 1⟩) (fun i => i ≤ n ∧ ∀ j, i ≤ j → j < n → u_ov a s (f j) = false) (fun i => i) n ⟨Nat.le_refl _, fun j h1 h2 => by omega⟩ (weakX ⟨rfl, rfl, rfl, rfl, rfl, rfl, trivial⟩ ⟨rfl, trivial⟩ (Nat.le_refl _)) ?_
  rintro i ⟨hi, hp⟩
  refine Eq.mpr (r_sea1 x n f a s _ _ i) ?_
  by_cases h0 : i = 0
  · subst h0
    have hL : lstO a s n f = 0 := lstO_none fun j hj => hp j (Nat.zero_le _) hj
    rw [hL]
    rfl
  · have h1 : (0 : Int) ≤ (i : Int) - 1 := by omega
    have h2 : (i : Int) - 1 < (n : Int) := by omega
    have h3 : Int.toNat ((i : Int) - 1) = i - 1 := by omega
    have h4 := hr (i - 1) (by omega)
    have w1 : IntKind.i64.wrap ((i : Int) - 1 - 1) = (((i - 1 : Nat) : Int) - 1) := by rw [wrap_i64 (by omega) (by omega)]; omega
    simp only [h1, h2, h3, h4.1, h4.2, ha, hs, w1, decide_true, decide_false, cond_true, cond_false, allN_true, Nat.le_refl, Int.toNat_natCast, Nat.beq_refl, pk_and, pk_or, Bool.not_true, Bool.not_false, not_true_eq_false, not_false_eq_true, Bool.and_true, Bool.true_and, Bool.and_self, ge_iff_le, Int.le_refl, if_true, if_false, reduceCtorEq, eq_self, BEq.rfl]
    refine cnd2 (fun h => ?_) (fun h => ?_)
    · have hL : lstO a s n f = i := lstO_is (by omega) hi h hp
      rw [hL]
      simp only [o_enI, o_enB, show 0 < i by omega, decide_true, decide_false, cond_true, cond_false, allN_true, Nat.le_refl, Int.toNat_natCast, Nat.beq_refl, pk_and, pk_or, Bool.not_true, Bool.not_false, not_true_eq_false, not_false_eq_true, Bool.and_true, Bool.true_and, Bool.and_self, ge_iff_le, Int.le_refl, if_true, if_false, reduceCtorEq, eq_self, BEq.rfl]
    · refine ⟨i - 1, ⟨by omega, fun j g1 g2 => ?_⟩, weakX ⟨rfl, rfl, rfl, rfl, rfl, rfl, trivial⟩ ⟨rfl, trivial⟩ (Nat.le_refl _), by omega⟩
      by_cases hj : j = i - 1
      · subst hj; exact h
      · exact hp j (by omega) g2
theorem sp_rsea : SpOk Try.prog (24, seaSp) := rowSp_ok fun x n f rest nd v hn hg hnd => by
  unfold seaG at hg
  split at hg <;> simp only [Option.some.injEq, Prod.mk.injEq, reduceCtorEq] at hg
  rename_i a s
  obtain ⟨rfl, rfl⟩ := hg
  simp only [allT_cons, allN_iff, Bool.and_eq_true] at hnd
  obtain ⟨ha, hs, hr, _⟩ := hnd
  refine pureS mix TQ1ok t_ref15_Search (Nat.le_of_ble_eq_true rfl) ?_
  rw [r_rsea0]
  have w0 : IntKind.i64.wrap ((n : Int) - 1) = (n : Int) - 1 := wrap_i64 (by omega) (by omega)
  rw [w0]
  refine loopS mix TQ1ok (fun i : Nat => ⟨[(0, .row x 5 n (fun i => mkS kEn (f i))), (1, .int .i64 a), (2, .int .i64 s), (6, .ptr 0 [] 0), (7, .bool false), (8, .int .i64 ((i : Int) - 1))], [(0, some (.agg 5 [.int .i64 0, .int .i64 0, .int .i64 0, .bool false, .int .u32 0]))], 1⟩) (fun i => i ≤ n ∧ ∀ j, i ≤ j → j < n → u_ov a s (f j) = false) (fun i => i) n ⟨Nat.le_refl _, fun j h1 h2 => by omega⟩ (weakX ⟨rfl, rfl, rfl, rfl, rfl, rfl, trivial⟩ ⟨rfl, trivial⟩ (Nat.le_refl _)) ?_
  rintro i ⟨hi, hp⟩
  refine Eq.mpr (r_rsea1 x n f a s _ _ i) ?_
  by_cases h0 : i = 0
  · subst h0
    have hL : lstO a s n f = 0 := lstO_none fun j hj => hp j (Nat.zero_le _) hj
    rw [hL]
    rfl
  · have h1 : (0 : Int) ≤ (i : Int) - 1 := by omega
    have h2 : (i : Int) - 1 < (n : Int) := by omega
    have h3 : Int.toNat ((i : Int) - 1) = i - 1 := by omega
    have h4 := hr (i - 1) (by omega)
    have w1 : IntKind.i64.wrap ((i : Int) - 1 - 1) = (((i - 1 : Nat) : Int) - 1) := by rw [wrap_i64 (by omega) (by omega)]; omega
    simp only [h1, h2, h3, h4.1, h4.2, ha, hs, w1, decide_true, decide_false, cond_true, cond_false, allN_true, Nat.le_refl, Int.toNat_natCast, Nat.beq_refl, pk_and, pk_or, Bool.not_true, Bool.not_false, not_true_eq_false, not_false_eq_true, Bool.and_true, Bool.true_and, Bool.and_self, ge_iff_le, Int.le_refl, if_true, if_false, reduceCtorEq, eq_self, BEq.rfl]
    refine cnd2 (fun h => ?_) (fun h => ?_)
    · have hL : lstO a s n f = i := lstO_is (by omega) hi h hp
      rw [hL]
      simp only [o_enI, o_enB, show 0 < i by omega, decide_true, decide_false, cond_true, cond_false, allN_true, Nat.le_refl, Int.toNat_natCast, Nat.beq_refl, pk_and, pk_or, Bool.not_true, Bool.not_false, not_true_eq_false, not_false_eq_true, Bool.and_true, Bool.true_and, Bool.and_self, ge_iff_le, Int.le_refl, if_true, if_false, reduceCtorEq, eq_self, BEq.rfl]
    · refine ⟨i - 1, ⟨by omega, fun j g1 g2 => ?_⟩, weakX ⟨rfl, rfl, rfl, rfl, rfl, rfl, trivial⟩ ⟨rfl, trivial⟩ (Nat.le_refl _), by omega⟩
      by_cases hj : j = i - 1
      · subst hj; exact h
      · exact hp j (by omega) g2
theorem msk_pure (w n : Int) : Pure Try.prog 15 (cons [.int .u32 w, .int .i64 n]) (con (.int .u32 (mskI w n))) := by
  refine pureX (u := 80) (k := 20) mix TQ1ok ?_
  rw [r_msk1]
  unfold mskI
  by_cases h1 : n = 1
  · subst h1; simp
  by_cases h2 : n = 2
  · subst h2; simp
  by_cases h4 : n = 4
  · subst h4; simp
  simp [h1, h2, h4]
theorem sp_smask : SpOk Try.prog (15, mskSp) := fun args nd v h hn => by
  simp only [mskSp] at h
  split at h
  · simp only [Option.some.injEq, Prod.mk.injEq] at h
    obtain ⟨rfl, rfl⟩ := h
    exact msk_pure _ _
  · cases h
theorem form4 (op : Int) : formI op = 4 ↔ 26 ≤ op ∧ op ≤ 30 := by
  unfold formI
  repeat' split
  all_goals omega
theorem byp1_pure {ea es et : Int} {k : Bool} {v op addr : Int} (h0 : 0 ≤ v) (h1 : v ≤ 4294967295) : Pure Try.prog 16 (cons [.agg 5 [.int .i64 ea, .int .i64 es, .int .i64 et, .bool k, .int .u32 v], .int .i64 op, .int .i64 addr]) (con (.tup [.int .u32 (bif bypB ea es k op addr then extI op v else 0), .bool (bypB ea es k op addr)])) := by
  refine pureX (u := 80) (k := 20) mix TQ1ok ?_
  rw [r_byp1]
  simp only [pk_or, pk_and, cond_true, h0, h1, decide_true]
  unfold bypB
  by_cases g1 : 26 ≤ op ∧ op ≤ 30
  · have g2 : ¬ op < 26 := by omega
    have g3 : ¬ op > 30 := by omega
    cases k with
    | false => simp [g1, g2, g3]
    | true =>
      by_cases g4 : ea = addr
      · by_cases g5 : es = szI op
        · simp [g1, g2, g4, g5, g3]
        · simp [g1, g2, g4, g5, g3]
      · simp [g1, g2, g4, g3]
  · have g0 : decide (26 ≤ op ∧ op ≤ 30 ∧ k = true ∧ ea = addr ∧ es = szI op) = false := decide_eq_false fun h => g1 ⟨h.1, h.2.1⟩
    rw [g0]
    by_cases g2 : op < 26
    · simp [g2]
    · have g3 : op > 30 := by omega
      simp [g2, g3]
theorem sp_byp1 : SpOk Try.prog (16, bypSp) := fun args nd v h hn => by
  simp only [bypSp] at h
  split at h
  · simp only [Option.some.injEq, Prod.mk.injEq] at h
    obtain ⟨rfl, rfl⟩ := h
    simp only [allT_cons, decide_eq_true_eq] at hn
    exact byp1_pure hn.1 hn.2.1
  · cases h
theorem byp2_pure {ea es et : Int} {k : Bool} {v op addr : Int} (h0 : 0 ≤ v) (h1 : v ≤ 4294967295) : Pure Try.prog 25 (cons [.agg 5 [.int .i64 ea, .int .i64 es, .int .i64 et, .bool k, .int .u32 v], .int .i64 op, .int .i64 addr]) (con (.tup [.int .u32 (bif bypB ea es k op addr then extI op v else 0), .bool (bypB ea es k op addr)])) := by
  refine pureX (u := 80) (k := 20) mix TQ1ok ?_
  rw [r_byp2]
  simp only [pk_or, pk_and, cond_true, h0, h1, decide_true]
  unfold bypB
  by_cases g1 : 26 ≤ op ∧ op ≤ 30
  · have g2 : formI op = 4 := (form4 op).2 g1
    skip
    cases k with
    | false => simp [g1, g2]
    | true =>
      by_cases g4 : ea = addr
      · by_cases g5 : es = szI op
        · simp [g1, g2, g4, g5]
        · simp [g1, g2, g4, g5]
      · simp [g1, g2, g4]
  · have g0 : decide (26 ≤ op ∧ op ≤ 30 ∧ k = true ∧ ea = addr ∧ es = szI op) = false := decide_eq_false fun h => g1 ⟨h.1, h.2.1⟩
    rw [g0]
    have g2 : ¬ formI op = 4 := fun h => g1 ((form4 op).1 h)
    simp [g2]
theorem sp_byp2 : SpOk Try.prog (25, bypSp) := fun args nd v h hn => by
  simp only [bypSp] at h
  split at h
  · simp only [Option.some.injEq, Prod.mk.injEq] at h
    obtain ⟨rfl, rfl⟩ := h
    simp only [allT_cons, decide_eq_true_eq] at hn
    exact byp2_pure hn.1 hn.2.1
  · cases h
theorem sp_push1 : SpOk Try.prog (22, pusSp) := rowSp_ok fun x n f rest nd v hn hg hnd => by
  unfold pusG at hg
  split at hg <;> simp only [Option.some.injEq, Prod.mk.injEq, reduceCtorEq] at hg
  rename_i m a b c d e
  obtain ⟨_, rfl⟩ := hg
  refine pureS mix TQ1ok t_saq_Push (Nat.le_of_ble_eq_true rfl) ?_
  rw [r_push1]
  have h1 : n * 32 ≤ 140737488355328 := by omega
  have h2 : (n + 1) * 32 ≤ 140737488355328 := by omega
  by_cases hc : (n : Int) ≥ m
  · simp only [h1, hc, decide_true, decide_false, cond_true, cond_false, allN_true, Nat.le_refl, Int.toNat_natCast, Nat.beq_refl, pk_and, pk_or, Bool.not_true, Bool.not_false, not_true_eq_false, not_false_eq_true, Bool.and_true, Bool.true_and, Bool.and_self, ge_iff_le, Int.le_refl, if_true, if_false, reduceCtorEq, eq_self, BEq.rfl]
    refine conT2 (conR rfl fun i hi => ?_) rfl
    simp only [o_push, hi, decide_true, decide_false, cond_true, cond_false, allN_true, Nat.le_refl, Int.toNat_natCast, Nat.beq_refl, pk_and, pk_or, Bool.not_true, Bool.not_false, not_true_eq_false, not_false_eq_true, Bool.and_true, Bool.true_and, Bool.and_self, ge_iff_le, Int.le_refl, if_true, if_false, reduceCtorEq, eq_self, BEq.rfl]
  · simp only [h1, h2, hc, pl_eq, decide_true, decide_false, cond_true, cond_false, allN_true, Nat.le_refl, Int.toNat_natCast, Nat.beq_refl, pk_and, pk_or, Bool.not_true, Bool.not_false, not_true_eq_false, not_false_eq_true, Bool.and_true, Bool.true_and, Bool.and_self, ge_iff_le, Int.le_refl, if_true, if_false, reduceCtorEq, eq_self, BEq.rfl]
    rfl
theorem sp_push2 : SpOk Try.prog (23, pusSp) := rowSp_ok fun x n f rest nd v hn hg hnd => by
  unfold pusG at hg
  split at hg <;> simp only [Option.some.injEq, Prod.mk.injEq, reduceCtorEq] at hg
  rename_i m a b c d e
  obtain ⟨_, rfl⟩ := hg
  refine pureS mix TQ1ok t_ref15_PushEntry (Nat.le_of_ble_eq_true rfl) ?_
  rw [r_push2]
  have h1 : n * 32 ≤ 140737488355328 := by omega
  have h2 : (n + 1) * 32 ≤ 140737488355328 := by omega
  by_cases hc : (n : Int) ≥ m
  · simp only [h1, hc, decide_true, decide_false, cond_true, cond_false, allN_true, Nat.le_refl, Int.toNat_natCast, Nat.beq_refl, pk_and, pk_or, Bool.not_true, Bool.not_false, not_true_eq_false, not_false_eq_true, Bool.and_true, Bool.true_and, Bool.and_self, ge_iff_le, Int.le_refl, if_true, if_false, reduceCtorEq, eq_self, BEq.rfl]
    refine conT2 (conR rfl fun i hi => ?_) rfl
    simp only [o_push, hi, decide_true, decide_false, cond_true, cond_false, allN_true, Nat.le_refl, Int.toNat_natCast, Nat.beq_refl, pk_and, pk_or, Bool.not_true, Bool.not_false, not_true_eq_false, not_false_eq_true, Bool.and_true, Bool.true_and, Bool.and_self, ge_iff_le, Int.le_refl, if_true, if_false, reduceCtorEq, eq_self, BEq.rfl]
  · simp only [h1, h2, hc, pl_eq, decide_true, decide_false, cond_true, cond_false, allN_true, Nat.le_refl, Int.toNat_natCast, Nat.beq_refl, pk_and, pk_or, Bool.not_true, Bool.not_false, not_true_eq_false, not_false_eq_true, Bool.and_true, Bool.true_and, Bool.and_self, ge_iff_le, Int.le_refl, if_true, if_false, reduceCtorEq, eq_self, BEq.rfl]
    rfl
theorem sp_same17 : SpOk Try.prog (26, sameS 5 kEn u_eqEn) := sameS_ok fun x y n m f g hn => by
  refine pureS mix TQ2ok t_law17_same (Nat.le_of_ble_eq_true rfl) ?_
  refine Eq.mpr (r_same1 x y n m f g _) (cnd2 (fun h => ?_) (fun h => ?_))
  · have hnm : ¬ n = m := by
      have : ¬ (n : Int) = m := by simpa using h
      omega
    simp only [con, B]
    have : eqR n m (fun i => u_eqEn (mkS kEn (f i)) (mkS kEn (g i))) = false := by
      rw [← Bool.not_eq_true]
      exact fun e => hnm (eqR_iff.1 e).1
    rw [this]
  · have hnm : n = m := by
      have : (n : Int) = m := by simpa using h
      omega
    subst hnm
    refine loopS mix TQ2ok (fun i : Nat => ⟨[(0, .row x 5 n (fun i => mkS kEn (f i))), (1, .row y 5 n (fun i => mkS kEn (g i))), (5, .int .i64 i)], [], 0⟩) (fun i => i ≤ n ∧ ∀ j, j < i → u_eqEn (mkS kEn (f j)) (mkS kEn (g j)) = true) (fun i => n - i) 0 ⟨Nat.zero_le _, fun j hj => by omega⟩ (weakX ⟨rfl, rfl, rfl, trivial⟩ trivial (Nat.le_refl _)) ?_
    rintro i ⟨hi, hp⟩
    refine Eq.mpr (r_same2 x y n n f g _ _ i) (cnd2 (fun h => cndF h (cndF h (cnd2 (fun h1 => ?_) (fun h1 => ?_)))) (fun h => ?_))
    · have hlt : i < n := by simpa using h
      simp only [con, B]
      have : eqR n n (fun i => u_eqEn (mkS kEn (f i)) (mkS kEn (g i))) = false := by
        rw [← Bool.not_eq_true]
        intro e
        have := (eqR_iff.1 e).2 i hlt
        rw [Bool.not_eq_true'] at h1
        exact absurd (h1.symm.trans this) (by decide)
      rw [this]
    · have hlt : i < n := by simpa using h
      refine ⟨i + 1, ⟨hlt, fun j hj => ?_⟩, weakX ⟨rfl, rfl, ?_, trivial⟩ trivial (Nat.le_refl _), by omega⟩
      · by_cases hji : j = i
        · subst hji
          rw [Bool.not_eq_false'] at h1
          exact h1
        · exact hp j (by omega)
      · show con (.int .i64 (IntKind.i64.wrap ((i : Int) + 1))) = con (.int .i64 ((i + 1 : Nat) : Int))
        rw [wrap_i64 (by omega) (by omega)]
        rfl
    · have hlt : ¬ i < n := by simpa using h
      simp only [con, B]
      rw [eqR_self fun j hj => hp j (by omega)]
end Go.Proofs.Ytihhfmdihhmbdaa
