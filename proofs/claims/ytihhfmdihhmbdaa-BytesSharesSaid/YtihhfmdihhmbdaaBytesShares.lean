/- A word in memory is its halves, and these its bytes, the lowest first. -/
import Derived.Test.YtihhfmdihhmbdaaRows
import Derived.Test.YtihhfmdihhmbdaaBy4
import Derived.Test.YtihhfmdihhmbdaaKlaw5
import Derived.WalkKit
import Derived.ProofKit
import Derived.OpenShut
import Derived.ShutString
import Derived.ChangeOld
import Derived.Below
import Derived.SizedLaws
namespace Go.Proofs.Ytihhfmdihhmbdaa
open Go.Ra
set_option linter.unusedVariables false
set_option linter.unusedSimpArgs false
def TBs : Tab := mkT qq (cl_law5 ++ cl_bytes ++ cl_ref1 ++ cl_slices) [(32, stoSp), (31, loadSp)] gl_slices
theorem TBsok : TabOk Try.prog TBs := mkT_ok (((clok_law5.app clok_bytes).app clok_ref1).app clok_slices) ⟨sp_sto, sp_load, trivial⟩ glok_slices
theorem r_sha (v a : Int) (K : XV → Prop) : (quietGo TBs 80 (callI TBs 80 20) 11 [.int .u32 v, .int .i64 a] K) =
    (bif bif decide (a < (0 : Int)) then true else !decide (a < (0 : Int)) then
  bif bif decide (a < (0 : Int)) then true else decide (a > (30 : Int)) then K (XV.bool true)
  else
    bif
        rngB (128 : Nat)
          (o_sto (okW (128 : Nat) (IntKind.wrap IntKind.i64 ((4 : Int) * a)) (4 : Int)) (fun (x : Nat) => XV.int IntKind.u8 (0 : Int)) (Int.toNat (IntKind.wrap IntKind.i64 ((4 : Int) * a))) (4 : Nat)
            v) then
      bif decide ((0 : Int) ≤ IntKind.wrap IntKind.u32 (IntKind.wrap IntKind.i64 ((4 : Int) * a))) then
        bif decide (IntKind.wrap IntKind.u32 (IntKind.wrap IntKind.i64 ((4 : Int) * a)) ≤ (4294967295 : Int)) then
          bif
              rngB (128 : Nat)
                (o_sto (okW (128 : Nat) (IntKind.wrap IntKind.i64 ((4 : Int) * a)) (4 : Int)) (fun (x : Nat) => XV.int IntKind.u8 (0 : Int)) (Int.toNat (IntKind.wrap IntKind.i64 ((4 : Int) * a)))
                  (4 : Nat) v) then
            bif decide ((0 : Int) ≤ IntKind.wrap IntKind.u32 (IntKind.wrap IntKind.u32 (IntKind.wrap IntKind.i64 ((4 : Int) * a)) + (2 : Int))) then
              bif decide (IntKind.wrap IntKind.u32 (IntKind.wrap IntKind.u32 (IntKind.wrap IntKind.i64 ((4 : Int) * a)) + (2 : Int)) ≤ (4294967295 : Int)) then
                bif
                    rngB (128 : Nat)
                      (o_sto (okW (128 : Nat) (IntKind.wrap IntKind.i64 ((4 : Int) * a)) (4 : Int)) (fun (x : Nat) => XV.int IntKind.u8 (0 : Int))
                        (Int.toNat (IntKind.wrap IntKind.i64 ((4 : Int) * a))) (4 : Nat) v) then
                  bif decide ((0 : Int) ≤ IntKind.wrap IntKind.u32 (IntKind.wrap IntKind.i64 ((4 : Int) * a))) then
                    bif decide (IntKind.wrap IntKind.u32 (IntKind.wrap IntKind.i64 ((4 : Int) * a)) ≤ (4294967295 : Int)) then
                      bif
                          rngB (128 : Nat)
                            (o_sto (okW (128 : Nat) (IntKind.wrap IntKind.i64 ((4 : Int) * a)) (4 : Int)) (fun (x : Nat) => XV.int IntKind.u8 (0 : Int))
                              (Int.toNat (IntKind.wrap IntKind.i64 ((4 : Int) * a))) (4 : Nat) v) then
                        bif decide ((0 : Int) ≤ IntKind.wrap IntKind.u32 (IntKind.wrap IntKind.u32 (IntKind.wrap IntKind.i64 ((4 : Int) * a)) + (1 : Int))) then
                          bif decide (IntKind.wrap IntKind.u32 (IntKind.wrap IntKind.u32 (IntKind.wrap IntKind.i64 ((4 : Int) * a)) + (1 : Int)) ≤ (4294967295 : Int)) then
                            bif
                                rngB (128 : Nat)
                                  (o_sto (okW (128 : Nat) (IntKind.wrap IntKind.i64 ((4 : Int) * a)) (4 : Int)) (fun (x : Nat) => XV.int IntKind.u8 (0 : Int))
                                    (Int.toNat (IntKind.wrap IntKind.i64 ((4 : Int) * a))) (4 : Nat) v) then
                              bif decide ((0 : Int) ≤ IntKind.wrap IntKind.u32 (IntKind.wrap IntKind.u32 (IntKind.wrap IntKind.i64 ((4 : Int) * a)) + (2 : Int))) then
                                bif decide (IntKind.wrap IntKind.u32 (IntKind.wrap IntKind.u32 (IntKind.wrap IntKind.i64 ((4 : Int) * a)) + (2 : Int)) ≤ (4294967295 : Int)) then
                                  bif
                                      rngB (128 : Nat)
                                        (o_sto (okW (128 : Nat) (IntKind.wrap IntKind.i64 ((4 : Int) * a)) (4 : Int)) (fun (x : Nat) => XV.int IntKind.u8 (0 : Int))
                                          (Int.toNat (IntKind.wrap IntKind.i64 ((4 : Int) * a))) (4 : Nat) v) then
                                    bif decide ((0 : Int) ≤ IntKind.wrap IntKind.u32 (IntKind.wrap IntKind.u32 (IntKind.wrap IntKind.i64 ((4 : Int) * a)) + (3 : Int))) then
                                      bif decide (IntKind.wrap IntKind.u32 (IntKind.wrap IntKind.u32 (IntKind.wrap IntKind.i64 ((4 : Int) * a)) + (3 : Int)) ≤ (4294967295 : Int)) then
                                        bif
                                            bif
                                                strEq (128 : Nat)
                                                  (fun (i : Nat) =>
                                                    bif
                                                        okW (128 : Nat) (IntKind.wrap IntKind.i64 ((4 : Int) * a)) (4 : Int) &&
                                                          (decide (Int.toNat (IntKind.wrap IntKind.i64 ((4 : Int) * a)) ≤ i) &&
                                                            decide (i < Int.toNat (IntKind.wrap IntKind.i64 ((4 : Int) * a)) + (4 : Nat))) then
                                                      v / (2 : Int) ^ ((8 : Nat) * (i - Int.toNat (IntKind.wrap IntKind.i64 ((4 : Int) * a)))) % (256 : Int)
                                                    else (0 : Int))
                                                  (128 : Nat) fun (i : Nat) =>
                                                  bif
                                                      okW (128 : Nat) (IntKind.wrap IntKind.i64 (IntKind.wrap IntKind.i64 ((4 : Int) * a) + (2 : Int))) (2 : Int) &&
                                                        (decide (Int.toNat (IntKind.wrap IntKind.i64 (IntKind.wrap IntKind.i64 ((4 : Int) * a) + (2 : Int))) ≤ i) &&
                                                          decide (i < Int.toNat (IntKind.wrap IntKind.i64 (IntKind.wrap IntKind.i64 ((4 : Int) * a) + (2 : Int))) + (2 : Nat))) then
                                                    Int.fdiv v (65536 : Int) /
                                                        (2 : Int) ^ ((8 : Nat) * (i - Int.toNat (IntKind.wrap IntKind.i64 (IntKind.wrap IntKind.i64 ((4 : Int) * a) + (2 : Int))))) %
                                                      (256 : Int)
                                                  else
                                                    bif
                                                        okW (128 : Nat) (IntKind.wrap IntKind.i64 (IntKind.wrap IntKind.i64 ((4 : Int) * a) + (0 : Int))) (2 : Int) &&
                                                          (decide (Int.toNat (IntKind.wrap IntKind.i64 (IntKind.wrap IntKind.i64 ((4 : Int) * a) + (0 : Int))) ≤ i) &&
                                                            decide (i < Int.toNat (IntKind.wrap IntKind.i64 (IntKind.wrap IntKind.i64 ((4 : Int) * a) + (0 : Int))) + (2 : Nat))) then
                                                      Int.fdiv v (1 : Int) /
                                                          (2 : Int) ^ ((8 : Nat) * (i - Int.toNat (IntKind.wrap IntKind.i64 (IntKind.wrap IntKind.i64 ((4 : Int) * a) + (0 : Int))))) %
                                                        (256 : Int)
                                                    else (0 : Int) then
                                              strEq (128 : Nat)
                                                (fun (i : Nat) =>
                                                  bif
                                                      okW (128 : Nat) (IntKind.wrap IntKind.i64 ((4 : Int) * a)) (4 : Int) &&
                                                        (decide (Int.toNat (IntKind.wrap IntKind.i64 ((4 : Int) * a)) ≤ i) &&
                                                          decide (i < Int.toNat (IntKind.wrap IntKind.i64 ((4 : Int) * a)) + (4 : Nat))) then
                                                    v / (2 : Int) ^ ((8 : Nat) * (i - Int.toNat (IntKind.wrap IntKind.i64 ((4 : Int) * a)))) % (256 : Int)
                                                  else (0 : Int))
                                                (128 : Nat) fun (i : Nat) =>
                                                bif
                                                    okW (128 : Nat) (IntKind.wrap IntKind.i64 (IntKind.wrap IntKind.i64 ((4 : Int) * a) + (2 : Int))) (2 : Int) &&
                                                      (decide (Int.toNat (IntKind.wrap IntKind.i64 (IntKind.wrap IntKind.i64 ((4 : Int) * a) + (2 : Int))) ≤ i) &&
                                                        decide (i < Int.toNat (IntKind.wrap IntKind.i64 (IntKind.wrap IntKind.i64 ((4 : Int) * a) + (2 : Int))) + (2 : Nat))) then
                                                  Int.fdiv v (65536 : Int) /
                                                      (2 : Int) ^ ((8 : Nat) * (i - Int.toNat (IntKind.wrap IntKind.i64 (IntKind.wrap IntKind.i64 ((4 : Int) * a) + (2 : Int))))) %
                                                    (256 : Int)
                                                else
                                                  bif
                                                      okW (128 : Nat) (IntKind.wrap IntKind.i64 (IntKind.wrap IntKind.i64 ((4 : Int) * a) + (0 : Int))) (2 : Int) &&
                                                        (decide (Int.toNat (IntKind.wrap IntKind.i64 (IntKind.wrap IntKind.i64 ((4 : Int) * a) + (0 : Int))) ≤ i) &&
                                                          decide (i < Int.toNat (IntKind.wrap IntKind.i64 (IntKind.wrap IntKind.i64 ((4 : Int) * a) + (0 : Int))) + (2 : Nat))) then
                                                    Int.fdiv v (1 : Int) / (2 : Int) ^ ((8 : Nat) * (i - Int.toNat (IntKind.wrap IntKind.i64 (IntKind.wrap IntKind.i64 ((4 : Int) * a) + (0 : Int))))) %
                                                      (256 : Int)
                                                  else (0 : Int)
                                            else true then
                                          bif
                                              bif
                                                  rngB (128 : Nat)
                                                    (o_sto (okW (128 : Nat) (IntKind.wrap IntKind.i64 ((4 : Int) * a)) (4 : Int)) (fun (x : Nat) => XV.int IntKind.u8 (0 : Int))
                                                      (Int.toNat (IntKind.wrap IntKind.i64 ((4 : Int) * a))) (4 : Nat) v) then
                                                true
                                              else
                                                !bif
                                                      strEq (128 : Nat)
                                                        (fun (i : Nat) =>
                                                          bif
                                                              okW (128 : Nat) (IntKind.wrap IntKind.i64 ((4 : Int) * a)) (4 : Int) &&
                                                                (decide (Int.toNat (IntKind.wrap IntKind.i64 ((4 : Int) * a)) ≤ i) &&
                                                                  decide (i < Int.toNat (IntKind.wrap IntKind.i64 ((4 : Int) * a)) + (4 : Nat))) then
                                                            v / (2 : Int) ^ ((8 : Nat) * (i - Int.toNat (IntKind.wrap IntKind.i64 ((4 : Int) * a)))) % (256 : Int)
                                                          else (0 : Int))
                                                        (128 : Nat) fun (i : Nat) =>
                                                        bif
                                                            okW (128 : Nat) (IntKind.wrap IntKind.i64 (IntKind.wrap IntKind.i64 ((4 : Int) * a) + (2 : Int))) (2 : Int) &&
                                                              (decide (Int.toNat (IntKind.wrap IntKind.i64 (IntKind.wrap IntKind.i64 ((4 : Int) * a) + (2 : Int))) ≤ i) &&
                                                                decide (i < Int.toNat (IntKind.wrap IntKind.i64 (IntKind.wrap IntKind.i64 ((4 : Int) * a) + (2 : Int))) + (2 : Nat))) then
                                                          Int.fdiv v (65536 : Int) /
                                                              (2 : Int) ^ ((8 : Nat) * (i - Int.toNat (IntKind.wrap IntKind.i64 (IntKind.wrap IntKind.i64 ((4 : Int) * a) + (2 : Int))))) %
                                                            (256 : Int)
                                                        else
                                                          bif
                                                              okW (128 : Nat) (IntKind.wrap IntKind.i64 (IntKind.wrap IntKind.i64 ((4 : Int) * a) + (0 : Int))) (2 : Int) &&
                                                                (decide (Int.toNat (IntKind.wrap IntKind.i64 (IntKind.wrap IntKind.i64 ((4 : Int) * a) + (0 : Int))) ≤ i) &&
                                                                  decide (i < Int.toNat (IntKind.wrap IntKind.i64 (IntKind.wrap IntKind.i64 ((4 : Int) * a) + (0 : Int))) + (2 : Nat))) then
                                                            Int.fdiv v (1 : Int) /
                                                                (2 : Int) ^ ((8 : Nat) * (i - Int.toNat (IntKind.wrap IntKind.i64 (IntKind.wrap IntKind.i64 ((4 : Int) * a) + (0 : Int))))) %
                                                              (256 : Int)
                                                          else (0 : Int) then
                                                    strEq (128 : Nat)
                                                      (fun (i : Nat) =>
                                                        bif
                                                            okW (128 : Nat) (IntKind.wrap IntKind.i64 ((4 : Int) * a)) (4 : Int) &&
                                                              (decide (Int.toNat (IntKind.wrap IntKind.i64 ((4 : Int) * a)) ≤ i) &&
                                                                decide (i < Int.toNat (IntKind.wrap IntKind.i64 ((4 : Int) * a)) + (4 : Nat))) then
                                                          v / (2 : Int) ^ ((8 : Nat) * (i - Int.toNat (IntKind.wrap IntKind.i64 ((4 : Int) * a)))) % (256 : Int)
                                                        else (0 : Int))
                                                      (128 : Nat) fun (i : Nat) =>
                                                      bif
                                                          okW (128 : Nat) (IntKind.wrap IntKind.i64 (IntKind.wrap IntKind.i64 ((4 : Int) * a) + (3 : Int))) (1 : Int) &&
                                                            (decide (Int.toNat (IntKind.wrap IntKind.i64 (IntKind.wrap IntKind.i64 ((4 : Int) * a) + (3 : Int))) ≤ i) &&
                                                              decide (i < Int.toNat (IntKind.wrap IntKind.i64 (IntKind.wrap IntKind.i64 ((4 : Int) * a) + (3 : Int))) + (1 : Nat))) then
                                                        Int.fdiv v (16777216 : Int) /
                                                            (2 : Int) ^ ((8 : Nat) * (i - Int.toNat (IntKind.wrap IntKind.i64 (IntKind.wrap IntKind.i64 ((4 : Int) * a) + (3 : Int))))) %
                                                          (256 : Int)
                                                      else
                                                        bif
                                                            okW (128 : Nat) (IntKind.wrap IntKind.i64 (IntKind.wrap IntKind.i64 ((4 : Int) * a) + (2 : Int))) (1 : Int) &&
                                                              (decide (Int.toNat (IntKind.wrap IntKind.i64 (IntKind.wrap IntKind.i64 ((4 : Int) * a) + (2 : Int))) ≤ i) &&
                                                                decide (i < Int.toNat (IntKind.wrap IntKind.i64 (IntKind.wrap IntKind.i64 ((4 : Int) * a) + (2 : Int))) + (1 : Nat))) then
                                                          Int.fdiv v (65536 : Int) /
                                                              (2 : Int) ^ ((8 : Nat) * (i - Int.toNat (IntKind.wrap IntKind.i64 (IntKind.wrap IntKind.i64 ((4 : Int) * a) + (2 : Int))))) %
                                                            (256 : Int)
                                                        else
                                                          bif
                                                              okW (128 : Nat) (IntKind.wrap IntKind.i64 (IntKind.wrap IntKind.i64 ((4 : Int) * a) + (1 : Int))) (1 : Int) &&
                                                                (decide (Int.toNat (IntKind.wrap IntKind.i64 (IntKind.wrap IntKind.i64 ((4 : Int) * a) + (1 : Int))) ≤ i) &&
                                                                  decide (i < Int.toNat (IntKind.wrap IntKind.i64 (IntKind.wrap IntKind.i64 ((4 : Int) * a) + (1 : Int))) + (1 : Nat))) then
                                                            Int.fdiv v (256 : Int) /
                                                                (2 : Int) ^ ((8 : Nat) * (i - Int.toNat (IntKind.wrap IntKind.i64 (IntKind.wrap IntKind.i64 ((4 : Int) * a) + (1 : Int))))) %
                                                              (256 : Int)
                                                          else
                                                            bif
                                                                okW (128 : Nat) (IntKind.wrap IntKind.i64 (IntKind.wrap IntKind.i64 ((4 : Int) * a) + (0 : Int))) (1 : Int) &&
                                                                  (decide (Int.toNat (IntKind.wrap IntKind.i64 (IntKind.wrap IntKind.i64 ((4 : Int) * a) + (0 : Int))) ≤ i) &&
                                                                    decide (i < Int.toNat (IntKind.wrap IntKind.i64 (IntKind.wrap IntKind.i64 ((4 : Int) * a) + (0 : Int))) + (1 : Nat))) then
                                                              Int.fdiv v (1 : Int) /
                                                                  (2 : Int) ^ ((8 : Nat) * (i - Int.toNat (IntKind.wrap IntKind.i64 (IntKind.wrap IntKind.i64 ((4 : Int) * a) + (0 : Int))))) %
                                                                (256 : Int)
                                                            else (0 : Int)
                                                  else false then
                                            bif
                                                bif decide ((0 : Int) ≤ IntKind.wrap IntKind.u32 (IntKind.wrap IntKind.i64 ((4 : Int) * a))) then true
                                                else
                                                  !bif
                                                        strEq (128 : Nat)
                                                          (fun (i : Nat) =>
                                                            bif
                                                                okW (128 : Nat) (IntKind.wrap IntKind.i64 ((4 : Int) * a)) (4 : Int) &&
                                                                  (decide (Int.toNat (IntKind.wrap IntKind.i64 ((4 : Int) * a)) ≤ i) &&
                                                                    decide (i < Int.toNat (IntKind.wrap IntKind.i64 ((4 : Int) * a)) + (4 : Nat))) then
                                                              v / (2 : Int) ^ ((8 : Nat) * (i - Int.toNat (IntKind.wrap IntKind.i64 ((4 : Int) * a)))) % (256 : Int)
                                                            else (0 : Int))
                                                          (128 : Nat) fun (i : Nat) =>
                                                          bif
                                                              okW (128 : Nat) (IntKind.wrap IntKind.i64 (IntKind.wrap IntKind.i64 ((4 : Int) * a) + (2 : Int))) (2 : Int) &&
                                                                (decide (Int.toNat (IntKind.wrap IntKind.i64 (IntKind.wrap IntKind.i64 ((4 : Int) * a) + (2 : Int))) ≤ i) &&
                                                                  decide (i < Int.toNat (IntKind.wrap IntKind.i64 (IntKind.wrap IntKind.i64 ((4 : Int) * a) + (2 : Int))) + (2 : Nat))) then
                                                            Int.fdiv v (65536 : Int) /
                                                                (2 : Int) ^ ((8 : Nat) * (i - Int.toNat (IntKind.wrap IntKind.i64 (IntKind.wrap IntKind.i64 ((4 : Int) * a) + (2 : Int))))) %
                                                              (256 : Int)
                                                          else
                                                            bif
                                                                okW (128 : Nat) (IntKind.wrap IntKind.i64 (IntKind.wrap IntKind.i64 ((4 : Int) * a) + (0 : Int))) (2 : Int) &&
                                                                  (decide (Int.toNat (IntKind.wrap IntKind.i64 (IntKind.wrap IntKind.i64 ((4 : Int) * a) + (0 : Int))) ≤ i) &&
                                                                    decide (i < Int.toNat (IntKind.wrap IntKind.i64 (IntKind.wrap IntKind.i64 ((4 : Int) * a) + (0 : Int))) + (2 : Nat))) then
                                                              Int.fdiv v (1 : Int) /
                                                                  (2 : Int) ^ ((8 : Nat) * (i - Int.toNat (IntKind.wrap IntKind.i64 (IntKind.wrap IntKind.i64 ((4 : Int) * a) + (0 : Int))))) %
                                                                (256 : Int)
                                                            else (0 : Int) then
                                                      strEq (128 : Nat)
                                                        (fun (i : Nat) =>
                                                          bif
                                                              okW (128 : Nat) (IntKind.wrap IntKind.i64 ((4 : Int) * a)) (4 : Int) &&
                                                                (decide (Int.toNat (IntKind.wrap IntKind.i64 ((4 : Int) * a)) ≤ i) &&
                                                                  decide (i < Int.toNat (IntKind.wrap IntKind.i64 ((4 : Int) * a)) + (4 : Nat))) then
                                                            v / (2 : Int) ^ ((8 : Nat) * (i - Int.toNat (IntKind.wrap IntKind.i64 ((4 : Int) * a)))) % (256 : Int)
                                                          else (0 : Int))
                                                        (128 : Nat) fun (i : Nat) =>
                                                        bif
                                                            okW (128 : Nat) (IntKind.wrap IntKind.i64 (IntKind.wrap IntKind.i64 ((4 : Int) * a) + (3 : Int))) (1 : Int) &&
                                                              (decide (Int.toNat (IntKind.wrap IntKind.i64 (IntKind.wrap IntKind.i64 ((4 : Int) * a) + (3 : Int))) ≤ i) &&
                                                                decide (i < Int.toNat (IntKind.wrap IntKind.i64 (IntKind.wrap IntKind.i64 ((4 : Int) * a) + (3 : Int))) + (1 : Nat))) then
                                                          Int.fdiv v (16777216 : Int) /
                                                              (2 : Int) ^ ((8 : Nat) * (i - Int.toNat (IntKind.wrap IntKind.i64 (IntKind.wrap IntKind.i64 ((4 : Int) * a) + (3 : Int))))) %
                                                            (256 : Int)
                                                        else
                                                          bif
                                                              okW (128 : Nat) (IntKind.wrap IntKind.i64 (IntKind.wrap IntKind.i64 ((4 : Int) * a) + (2 : Int))) (1 : Int) &&
                                                                (decide (Int.toNat (IntKind.wrap IntKind.i64 (IntKind.wrap IntKind.i64 ((4 : Int) * a) + (2 : Int))) ≤ i) &&
                                                                  decide (i < Int.toNat (IntKind.wrap IntKind.i64 (IntKind.wrap IntKind.i64 ((4 : Int) * a) + (2 : Int))) + (1 : Nat))) then
                                                            Int.fdiv v (65536 : Int) /
                                                                (2 : Int) ^ ((8 : Nat) * (i - Int.toNat (IntKind.wrap IntKind.i64 (IntKind.wrap IntKind.i64 ((4 : Int) * a) + (2 : Int))))) %
                                                              (256 : Int)
                                                          else
                                                            bif
                                                                okW (128 : Nat) (IntKind.wrap IntKind.i64 (IntKind.wrap IntKind.i64 ((4 : Int) * a) + (1 : Int))) (1 : Int) &&
                                                                  (decide (Int.toNat (IntKind.wrap IntKind.i64 (IntKind.wrap IntKind.i64 ((4 : Int) * a) + (1 : Int))) ≤ i) &&
                                                                    decide (i < Int.toNat (IntKind.wrap IntKind.i64 (IntKind.wrap IntKind.i64 ((4 : Int) * a) + (1 : Int))) + (1 : Nat))) then
                                                              Int.fdiv v (256 : Int) /
                                                                  (2 : Int) ^ ((8 : Nat) * (i - Int.toNat (IntKind.wrap IntKind.i64 (IntKind.wrap IntKind.i64 ((4 : Int) * a) + (1 : Int))))) %
                                                                (256 : Int)
                                                            else
                                                              bif
                                                                  okW (128 : Nat) (IntKind.wrap IntKind.i64 (IntKind.wrap IntKind.i64 ((4 : Int) * a) + (0 : Int))) (1 : Int) &&
                                                                    (decide (Int.toNat (IntKind.wrap IntKind.i64 (IntKind.wrap IntKind.i64 ((4 : Int) * a) + (0 : Int))) ≤ i) &&
                                                                      decide (i < Int.toNat (IntKind.wrap IntKind.i64 (IntKind.wrap IntKind.i64 ((4 : Int) * a) + (0 : Int))) + (1 : Nat))) then
                                                                Int.fdiv v (1 : Int) /
                                                                    (2 : Int) ^ ((8 : Nat) * (i - Int.toNat (IntKind.wrap IntKind.i64 (IntKind.wrap IntKind.i64 ((4 : Int) * a) + (0 : Int))))) %
                                                                  (256 : Int)
                                                              else (0 : Int)
                                                    else false then
                                              bif
                                                  bif decide (IntKind.wrap IntKind.u32 (IntKind.wrap IntKind.i64 ((4 : Int) * a)) ≤ (4294967295 : Int)) then true
                                                  else
                                                    !bif
                                                          strEq (128 : Nat)
                                                            (fun (i : Nat) =>
                                                              bif
                                                                  okW (128 : Nat) (IntKind.wrap IntKind.i64 ((4 : Int) * a)) (4 : Int) &&
                                                                    (decide (Int.toNat (IntKind.wrap IntKind.i64 ((4 : Int) * a)) ≤ i) &&
                                                                      decide (i < Int.toNat (IntKind.wrap IntKind.i64 ((4 : Int) * a)) + (4 : Nat))) then
                                                                v / (2 : Int) ^ ((8 : Nat) * (i - Int.toNat (IntKind.wrap IntKind.i64 ((4 : Int) * a)))) % (256 : Int)
                                                              else (0 : Int))
                                                            (128 : Nat) fun (i : Nat) =>
                                                            bif
                                                                okW (128 : Nat) (IntKind.wrap IntKind.i64 (IntKind.wrap IntKind.i64 ((4 : Int) * a) + (2 : Int))) (2 : Int) &&
                                                                  (decide (Int.toNat (IntKind.wrap IntKind.i64 (IntKind.wrap IntKind.i64 ((4 : Int) * a) + (2 : Int))) ≤ i) &&
                                                                    decide (i < Int.toNat (IntKind.wrap IntKind.i64 (IntKind.wrap IntKind.i64 ((4 : Int) * a) + (2 : Int))) + (2 : Nat))) then
                                                              Int.fdiv v (65536 : Int) /
                                                                  (2 : Int) ^ ((8 : Nat) * (i - Int.toNat (IntKind.wrap IntKind.i64 (IntKind.wrap IntKind.i64 ((4 : Int) * a) + (2 : Int))))) %
                                                                (256 : Int)
                                                            else
                                                              bif
                                                                  okW (128 : Nat) (IntKind.wrap IntKind.i64 (IntKind.wrap IntKind.i64 ((4 : Int) * a) + (0 : Int))) (2 : Int) &&
                                                                    (decide (Int.toNat (IntKind.wrap IntKind.i64 (IntKind.wrap IntKind.i64 ((4 : Int) * a) + (0 : Int))) ≤ i) &&
                                                                      decide (i < Int.toNat (IntKind.wrap IntKind.i64 (IntKind.wrap IntKind.i64 ((4 : Int) * a) + (0 : Int))) + (2 : Nat))) then
                                                                Int.fdiv v (1 : Int) /
                                                                    (2 : Int) ^ ((8 : Nat) * (i - Int.toNat (IntKind.wrap IntKind.i64 (IntKind.wrap IntKind.i64 ((4 : Int) * a) + (0 : Int))))) %
                                                                  (256 : Int)
                                                              else (0 : Int) then
                                                        strEq (128 : Nat)
                                                          (fun (i : Nat) =>
                                                            bif
                                                                okW (128 : Nat) (IntKind.wrap IntKind.i64 ((4 : Int) * a)) (4 : Int) &&
                                                                  (decide (Int.toNat (IntKind.wrap IntKind.i64 ((4 : Int) * a)) ≤ i) &&
                                                                    decide (i < Int.toNat (IntKind.wrap IntKind.i64 ((4 : Int) * a)) + (4 : Nat))) then
                                                              v / (2 : Int) ^ ((8 : Nat) * (i - Int.toNat (IntKind.wrap IntKind.i64 ((4 : Int) * a)))) % (256 : Int)
                                                            else (0 : Int))
                                                          (128 : Nat) fun (i : Nat) =>
                                                          bif
                                                              okW (128 : Nat) (IntKind.wrap IntKind.i64 (IntKind.wrap IntKind.i64 ((4 : Int) * a) + (3 : Int))) (1 : Int) &&
                                                                (decide (Int.toNat (IntKind.wrap IntKind.i64 (IntKind.wrap IntKind.i64 ((4 : Int) * a) + (3 : Int))) ≤ i) &&
                                                                  decide (i < Int.toNat (IntKind.wrap IntKind.i64 (IntKind.wrap IntKind.i64 ((4 : Int) * a) + (3 : Int))) + (1 : Nat))) then
                                                            Int.fdiv v (16777216 : Int) /
                                                                (2 : Int) ^ ((8 : Nat) * (i - Int.toNat (IntKind.wrap IntKind.i64 (IntKind.wrap IntKind.i64 ((4 : Int) * a) + (3 : Int))))) %
                                                              (256 : Int)
                                                          else
                                                            bif
                                                                okW (128 : Nat) (IntKind.wrap IntKind.i64 (IntKind.wrap IntKind.i64 ((4 : Int) * a) + (2 : Int))) (1 : Int) &&
                                                                  (decide (Int.toNat (IntKind.wrap IntKind.i64 (IntKind.wrap IntKind.i64 ((4 : Int) * a) + (2 : Int))) ≤ i) &&
                                                                    decide (i < Int.toNat (IntKind.wrap IntKind.i64 (IntKind.wrap IntKind.i64 ((4 : Int) * a) + (2 : Int))) + (1 : Nat))) then
                                                              Int.fdiv v (65536 : Int) /
                                                                  (2 : Int) ^ ((8 : Nat) * (i - Int.toNat (IntKind.wrap IntKind.i64 (IntKind.wrap IntKind.i64 ((4 : Int) * a) + (2 : Int))))) %
                                                                (256 : Int)
                                                            else
                                                              bif
                                                                  okW (128 : Nat) (IntKind.wrap IntKind.i64 (IntKind.wrap IntKind.i64 ((4 : Int) * a) + (1 : Int))) (1 : Int) &&
                                                                    (decide (Int.toNat (IntKind.wrap IntKind.i64 (IntKind.wrap IntKind.i64 ((4 : Int) * a) + (1 : Int))) ≤ i) &&
                                                                      decide (i < Int.toNat (IntKind.wrap IntKind.i64 (IntKind.wrap IntKind.i64 ((4 : Int) * a) + (1 : Int))) + (1 : Nat))) then
                                                                Int.fdiv v (256 : Int) /
                                                                    (2 : Int) ^ ((8 : Nat) * (i - Int.toNat (IntKind.wrap IntKind.i64 (IntKind.wrap IntKind.i64 ((4 : Int) * a) + (1 : Int))))) %
                                                                  (256 : Int)
                                                              else
                                                                bif
                                                                    okW (128 : Nat) (IntKind.wrap IntKind.i64 (IntKind.wrap IntKind.i64 ((4 : Int) * a) + (0 : Int))) (1 : Int) &&
                                                                      (decide (Int.toNat (IntKind.wrap IntKind.i64 (IntKind.wrap IntKind.i64 ((4 : Int) * a) + (0 : Int))) ≤ i) &&
                                                                        decide (i < Int.toNat (IntKind.wrap IntKind.i64 (IntKind.wrap IntKind.i64 ((4 : Int) * a) + (0 : Int))) + (1 : Nat))) then
                                                                  Int.fdiv v (1 : Int) /
                                                                      (2 : Int) ^ ((8 : Nat) * (i - Int.toNat (IntKind.wrap IntKind.i64 (IntKind.wrap IntKind.i64 ((4 : Int) * a) + (0 : Int))))) %
                                                                    (256 : Int)
                                                                else (0 : Int)
                                                      else false then
                                                bif
                                                    bif
                                                        bif
                                                            strEq (128 : Nat)
                                                              (fun (i : Nat) =>
                                                                bif
                                                                    okW (128 : Nat) (IntKind.wrap IntKind.i64 ((4 : Int) * a)) (4 : Int) &&
                                                                      (decide (Int.toNat (IntKind.wrap IntKind.i64 ((4 : Int) * a)) ≤ i) &&
                                                                        decide (i < Int.toNat (IntKind.wrap IntKind.i64 ((4 : Int) * a)) + (4 : Nat))) then
                                                                  v / (2 : Int) ^ ((8 : Nat) * (i - Int.toNat (IntKind.wrap IntKind.i64 ((4 : Int) * a)))) % (256 : Int)
                                                                else (0 : Int))
                                                              (128 : Nat) fun (i : Nat) =>
                                                              bif
                                                                  okW (128 : Nat) (IntKind.wrap IntKind.i64 (IntKind.wrap IntKind.i64 ((4 : Int) * a) + (2 : Int))) (2 : Int) &&
                                                                    (decide (Int.toNat (IntKind.wrap IntKind.i64 (IntKind.wrap IntKind.i64 ((4 : Int) * a) + (2 : Int))) ≤ i) &&
                                                                      decide (i < Int.toNat (IntKind.wrap IntKind.i64 (IntKind.wrap IntKind.i64 ((4 : Int) * a) + (2 : Int))) + (2 : Nat))) then
                                                                Int.fdiv v (65536 : Int) /
                                                                    (2 : Int) ^ ((8 : Nat) * (i - Int.toNat (IntKind.wrap IntKind.i64 (IntKind.wrap IntKind.i64 ((4 : Int) * a) + (2 : Int))))) %
                                                                  (256 : Int)
                                                              else
                                                                bif
                                                                    okW (128 : Nat) (IntKind.wrap IntKind.i64 (IntKind.wrap IntKind.i64 ((4 : Int) * a) + (0 : Int))) (2 : Int) &&
                                                                      (decide (Int.toNat (IntKind.wrap IntKind.i64 (IntKind.wrap IntKind.i64 ((4 : Int) * a) + (0 : Int))) ≤ i) &&
                                                                        decide (i < Int.toNat (IntKind.wrap IntKind.i64 (IntKind.wrap IntKind.i64 ((4 : Int) * a) + (0 : Int))) + (2 : Nat))) then
                                                                  Int.fdiv v (1 : Int) /
                                                                      (2 : Int) ^ ((8 : Nat) * (i - Int.toNat (IntKind.wrap IntKind.i64 (IntKind.wrap IntKind.i64 ((4 : Int) * a) + (0 : Int))))) %
                                                                    (256 : Int)
                                                                else (0 : Int) then
                                                          strEq (128 : Nat)
                                                            (fun (i : Nat) =>
                                                              bif
                                                                  okW (128 : Nat) (IntKind.wrap IntKind.i64 ((4 : Int) * a)) (4 : Int) &&
                                                                    (decide (Int.toNat (IntKind.wrap IntKind.i64 ((4 : Int) * a)) ≤ i) &&
                                                                      decide (i < Int.toNat (IntKind.wrap IntKind.i64 ((4 : Int) * a)) + (4 : Nat))) then
                                                                v / (2 : Int) ^ ((8 : Nat) * (i - Int.toNat (IntKind.wrap IntKind.i64 ((4 : Int) * a)))) % (256 : Int)
                                                              else (0 : Int))
                                                            (128 : Nat) fun (i : Nat) =>
                                                            bif
                                                                okW (128 : Nat) (IntKind.wrap IntKind.i64 (IntKind.wrap IntKind.i64 ((4 : Int) * a) + (3 : Int))) (1 : Int) &&
                                                                  (decide (Int.toNat (IntKind.wrap IntKind.i64 (IntKind.wrap IntKind.i64 ((4 : Int) * a) + (3 : Int))) ≤ i) &&
                                                                    decide (i < Int.toNat (IntKind.wrap IntKind.i64 (IntKind.wrap IntKind.i64 ((4 : Int) * a) + (3 : Int))) + (1 : Nat))) then
                                                              Int.fdiv v (16777216 : Int) /
                                                                  (2 : Int) ^ ((8 : Nat) * (i - Int.toNat (IntKind.wrap IntKind.i64 (IntKind.wrap IntKind.i64 ((4 : Int) * a) + (3 : Int))))) %
                                                                (256 : Int)
                                                            else
                                                              bif
                                                                  okW (128 : Nat) (IntKind.wrap IntKind.i64 (IntKind.wrap IntKind.i64 ((4 : Int) * a) + (2 : Int))) (1 : Int) &&
                                                                    (decide (Int.toNat (IntKind.wrap IntKind.i64 (IntKind.wrap IntKind.i64 ((4 : Int) * a) + (2 : Int))) ≤ i) &&
                                                                      decide (i < Int.toNat (IntKind.wrap IntKind.i64 (IntKind.wrap IntKind.i64 ((4 : Int) * a) + (2 : Int))) + (1 : Nat))) then
                                                                Int.fdiv v (65536 : Int) /
                                                                    (2 : Int) ^ ((8 : Nat) * (i - Int.toNat (IntKind.wrap IntKind.i64 (IntKind.wrap IntKind.i64 ((4 : Int) * a) + (2 : Int))))) %
                                                                  (256 : Int)
                                                              else
                                                                bif
                                                                    okW (128 : Nat) (IntKind.wrap IntKind.i64 (IntKind.wrap IntKind.i64 ((4 : Int) * a) + (1 : Int))) (1 : Int) &&
                                                                      (decide (Int.toNat (IntKind.wrap IntKind.i64 (IntKind.wrap IntKind.i64 ((4 : Int) * a) + (1 : Int))) ≤ i) &&
                                                                        decide (i < Int.toNat (IntKind.wrap IntKind.i64 (IntKind.wrap IntKind.i64 ((4 : Int) * a) + (1 : Int))) + (1 : Nat))) then
                                                                  Int.fdiv v (256 : Int) /
                                                                      (2 : Int) ^ ((8 : Nat) * (i - Int.toNat (IntKind.wrap IntKind.i64 (IntKind.wrap IntKind.i64 ((4 : Int) * a) + (1 : Int))))) %
                                                                    (256 : Int)
                                                                else
                                                                  bif
                                                                      okW (128 : Nat) (IntKind.wrap IntKind.i64 (IntKind.wrap IntKind.i64 ((4 : Int) * a) + (0 : Int))) (1 : Int) &&
                                                                        (decide (Int.toNat (IntKind.wrap IntKind.i64 (IntKind.wrap IntKind.i64 ((4 : Int) * a) + (0 : Int))) ≤ i) &&
                                                                          decide (i < Int.toNat (IntKind.wrap IntKind.i64 (IntKind.wrap IntKind.i64 ((4 : Int) * a) + (0 : Int))) + (1 : Nat))) then
                                                                    Int.fdiv v (1 : Int) /
                                                                        (2 : Int) ^ ((8 : Nat) * (i - Int.toNat (IntKind.wrap IntKind.i64 (IntKind.wrap IntKind.i64 ((4 : Int) * a) + (0 : Int))))) %
                                                                      (256 : Int)
                                                                  else (0 : Int)
                                                        else false then
                                                      bif
                                                          strEq (128 : Nat)
                                                            (fun (i : Nat) =>
                                                              bif
                                                                  okW (128 : Nat) (IntKind.wrap IntKind.i64 ((4 : Int) * a)) (4 : Int) &&
                                                                    (decide (Int.toNat (IntKind.wrap IntKind.i64 ((4 : Int) * a)) ≤ i) &&
                                                                      decide (i < Int.toNat (IntKind.wrap IntKind.i64 ((4 : Int) * a)) + (4 : Nat))) then
                                                                v / (2 : Int) ^ ((8 : Nat) * (i - Int.toNat (IntKind.wrap IntKind.i64 ((4 : Int) * a)))) % (256 : Int)
                                                              else (0 : Int))
                                                            (128 : Nat) fun (i : Nat) =>
                                                            bif
                                                                okW (128 : Nat) (IntKind.wrap IntKind.i64 (IntKind.wrap IntKind.i64 ((4 : Int) * a) + (2 : Int))) (2 : Int) &&
                                                                  (decide (Int.toNat (IntKind.wrap IntKind.i64 (IntKind.wrap IntKind.i64 ((4 : Int) * a) + (2 : Int))) ≤ i) &&
                                                                    decide (i < Int.toNat (IntKind.wrap IntKind.i64 (IntKind.wrap IntKind.i64 ((4 : Int) * a) + (2 : Int))) + (2 : Nat))) then
                                                              Int.fdiv v (65536 : Int) /
                                                                  (2 : Int) ^ ((8 : Nat) * (i - Int.toNat (IntKind.wrap IntKind.i64 (IntKind.wrap IntKind.i64 ((4 : Int) * a) + (2 : Int))))) %
                                                                (256 : Int)
                                                            else
                                                              bif
                                                                  okW (128 : Nat) (IntKind.wrap IntKind.i64 (IntKind.wrap IntKind.i64 ((4 : Int) * a) + (0 : Int))) (2 : Int) &&
                                                                    (decide (Int.toNat (IntKind.wrap IntKind.i64 (IntKind.wrap IntKind.i64 ((4 : Int) * a) + (0 : Int))) ≤ i) &&
                                                                      decide (i < Int.toNat (IntKind.wrap IntKind.i64 (IntKind.wrap IntKind.i64 ((4 : Int) * a) + (0 : Int))) + (2 : Nat))) then
                                                                Int.fdiv v (1 : Int) /
                                                                    (2 : Int) ^ ((8 : Nat) * (i - Int.toNat (IntKind.wrap IntKind.i64 (IntKind.wrap IntKind.i64 ((4 : Int) * a) + (0 : Int))))) %
                                                                  (256 : Int)
                                                              else (0 : Int) then
                                                        strEq (128 : Nat)
                                                          (fun (i : Nat) =>
                                                            bif
                                                                okW (128 : Nat) (IntKind.wrap IntKind.i64 ((4 : Int) * a)) (4 : Int) &&
                                                                  (decide (Int.toNat (IntKind.wrap IntKind.i64 ((4 : Int) * a)) ≤ i) &&
                                                                    decide (i < Int.toNat (IntKind.wrap IntKind.i64 ((4 : Int) * a)) + (4 : Nat))) then
                                                              v / (2 : Int) ^ ((8 : Nat) * (i - Int.toNat (IntKind.wrap IntKind.i64 ((4 : Int) * a)))) % (256 : Int)
                                                            else (0 : Int))
                                                          (128 : Nat) fun (i : Nat) =>
                                                          bif
                                                              okW (128 : Nat) (IntKind.wrap IntKind.i64 (IntKind.wrap IntKind.i64 ((4 : Int) * a) + (3 : Int))) (1 : Int) &&
                                                                (decide (Int.toNat (IntKind.wrap IntKind.i64 (IntKind.wrap IntKind.i64 ((4 : Int) * a) + (3 : Int))) ≤ i) &&
                                                                  decide (i < Int.toNat (IntKind.wrap IntKind.i64 (IntKind.wrap IntKind.i64 ((4 : Int) * a) + (3 : Int))) + (1 : Nat))) then
                                                            Int.fdiv v (16777216 : Int) /
                                                                (2 : Int) ^ ((8 : Nat) * (i - Int.toNat (IntKind.wrap IntKind.i64 (IntKind.wrap IntKind.i64 ((4 : Int) * a) + (3 : Int))))) %
                                                              (256 : Int)
                                                          else
                                                            bif
                                                                okW (128 : Nat) (IntKind.wrap IntKind.i64 (IntKind.wrap IntKind.i64 ((4 : Int) * a) + (2 : Int))) (1 : Int) &&
                                                                  (decide (Int.toNat (IntKind.wrap IntKind.i64 (IntKind.wrap IntKind.i64 ((4 : Int) * a) + (2 : Int))) ≤ i) &&
                                                                    decide (i < Int.toNat (IntKind.wrap IntKind.i64 (IntKind.wrap IntKind.i64 ((4 : Int) * a) + (2 : Int))) + (1 : Nat))) then
                                                              Int.fdiv v (65536 : Int) /
                                                                  (2 : Int) ^ ((8 : Nat) * (i - Int.toNat (IntKind.wrap IntKind.i64 (IntKind.wrap IntKind.i64 ((4 : Int) * a) + (2 : Int))))) %
                                                                (256 : Int)
                                                            else
                                                              bif
                                                                  okW (128 : Nat) (IntKind.wrap IntKind.i64 (IntKind.wrap IntKind.i64 ((4 : Int) * a) + (1 : Int))) (1 : Int) &&
                                                                    (decide (Int.toNat (IntKind.wrap IntKind.i64 (IntKind.wrap IntKind.i64 ((4 : Int) * a) + (1 : Int))) ≤ i) &&
                                                                      decide (i < Int.toNat (IntKind.wrap IntKind.i64 (IntKind.wrap IntKind.i64 ((4 : Int) * a) + (1 : Int))) + (1 : Nat))) then
                                                                Int.fdiv v (256 : Int) /
                                                                    (2 : Int) ^ ((8 : Nat) * (i - Int.toNat (IntKind.wrap IntKind.i64 (IntKind.wrap IntKind.i64 ((4 : Int) * a) + (1 : Int))))) %
                                                                  (256 : Int)
                                                              else
                                                                bif
                                                                    okW (128 : Nat) (IntKind.wrap IntKind.i64 (IntKind.wrap IntKind.i64 ((4 : Int) * a) + (0 : Int))) (1 : Int) &&
                                                                      (decide (Int.toNat (IntKind.wrap IntKind.i64 (IntKind.wrap IntKind.i64 ((4 : Int) * a) + (0 : Int))) ≤ i) &&
                                                                        decide (i < Int.toNat (IntKind.wrap IntKind.i64 (IntKind.wrap IntKind.i64 ((4 : Int) * a) + (0 : Int))) + (1 : Nat))) then
                                                                  Int.fdiv v (1 : Int) /
                                                                      (2 : Int) ^ ((8 : Nat) * (i - Int.toNat (IntKind.wrap IntKind.i64 (IntKind.wrap IntKind.i64 ((4 : Int) * a) + (0 : Int))))) %
                                                                    (256 : Int)
                                                                else (0 : Int)
                                                      else false
                                                    else true then
                                                  bif
                                                      bif
                                                          bif
                                                              bif
                                                                  strEq (128 : Nat)
                                                                    (fun (i : Nat) =>
                                                                      bif
                                                                          okW (128 : Nat) (IntKind.wrap IntKind.i64 ((4 : Int) * a)) (4 : Int) &&
                                                                            (decide (Int.toNat (IntKind.wrap IntKind.i64 ((4 : Int) * a)) ≤ i) &&
                                                                              decide (i < Int.toNat (IntKind.wrap IntKind.i64 ((4 : Int) * a)) + (4 : Nat))) then
                                                                        v / (2 : Int) ^ ((8 : Nat) * (i - Int.toNat (IntKind.wrap IntKind.i64 ((4 : Int) * a)))) % (256 : Int)
                                                                      else (0 : Int))
                                                                    (128 : Nat) fun (i : Nat) =>
                                                                    bif
                                                                        okW (128 : Nat) (IntKind.wrap IntKind.i64 (IntKind.wrap IntKind.i64 ((4 : Int) * a) + (2 : Int))) (2 : Int) &&
                                                                          (decide (Int.toNat (IntKind.wrap IntKind.i64 (IntKind.wrap IntKind.i64 ((4 : Int) * a) + (2 : Int))) ≤ i) &&
                                                                            decide (i < Int.toNat (IntKind.wrap IntKind.i64 (IntKind.wrap IntKind.i64 ((4 : Int) * a) + (2 : Int))) + (2 : Nat))) then
                                                                      Int.fdiv v (65536 : Int) /
                                                                          (2 : Int) ^ ((8 : Nat) * (i - Int.toNat (IntKind.wrap IntKind.i64 (IntKind.wrap IntKind.i64 ((4 : Int) * a) + (2 : Int))))) %
                                                                        (256 : Int)
                                                                    else
                                                                      bif
                                                                          okW (128 : Nat) (IntKind.wrap IntKind.i64 (IntKind.wrap IntKind.i64 ((4 : Int) * a) + (0 : Int))) (2 : Int) &&
                                                                            (decide (Int.toNat (IntKind.wrap IntKind.i64 (IntKind.wrap IntKind.i64 ((4 : Int) * a) + (0 : Int))) ≤ i) &&
                                                                              decide (i < Int.toNat (IntKind.wrap IntKind.i64 (IntKind.wrap IntKind.i64 ((4 : Int) * a) + (0 : Int))) + (2 : Nat))) then
                                                                        Int.fdiv v (1 : Int) /
                                                                            (2 : Int) ^
                                                                              ((8 : Nat) * (i - Int.toNat (IntKind.wrap IntKind.i64 (IntKind.wrap IntKind.i64 ((4 : Int) * a) + (0 : Int))))) %
                                                                          (256 : Int)
                                                                      else (0 : Int) then
                                                                strEq (128 : Nat)
                                                                  (fun (i : Nat) =>
                                                                    bif
                                                                        okW (128 : Nat) (IntKind.wrap IntKind.i64 ((4 : Int) * a)) (4 : Int) &&
                                                                          (decide (Int.toNat (IntKind.wrap IntKind.i64 ((4 : Int) * a)) ≤ i) &&
                                                                            decide (i < Int.toNat (IntKind.wrap IntKind.i64 ((4 : Int) * a)) + (4 : Nat))) then
                                                                      v / (2 : Int) ^ ((8 : Nat) * (i - Int.toNat (IntKind.wrap IntKind.i64 ((4 : Int) * a)))) % (256 : Int)
                                                                    else (0 : Int))
                                                                  (128 : Nat) fun (i : Nat) =>
                                                                  bif
                                                                      okW (128 : Nat) (IntKind.wrap IntKind.i64 (IntKind.wrap IntKind.i64 ((4 : Int) * a) + (3 : Int))) (1 : Int) &&
                                                                        (decide (Int.toNat (IntKind.wrap IntKind.i64 (IntKind.wrap IntKind.i64 ((4 : Int) * a) + (3 : Int))) ≤ i) &&
                                                                          decide (i < Int.toNat (IntKind.wrap IntKind.i64 (IntKind.wrap IntKind.i64 ((4 : Int) * a) + (3 : Int))) + (1 : Nat))) then
                                                                    Int.fdiv v (16777216 : Int) /
                                                                        (2 : Int) ^ ((8 : Nat) * (i - Int.toNat (IntKind.wrap IntKind.i64 (IntKind.wrap IntKind.i64 ((4 : Int) * a) + (3 : Int))))) %
                                                                      (256 : Int)
                                                                  else
                                                                    bif
                                                                        okW (128 : Nat) (IntKind.wrap IntKind.i64 (IntKind.wrap IntKind.i64 ((4 : Int) * a) + (2 : Int))) (1 : Int) &&
                                                                          (decide (Int.toNat (IntKind.wrap IntKind.i64 (IntKind.wrap IntKind.i64 ((4 : Int) * a) + (2 : Int))) ≤ i) &&
                                                                            decide (i < Int.toNat (IntKind.wrap IntKind.i64 (IntKind.wrap IntKind.i64 ((4 : Int) * a) + (2 : Int))) + (1 : Nat))) then
                                                                      Int.fdiv v (65536 : Int) /
                                                                          (2 : Int) ^ ((8 : Nat) * (i - Int.toNat (IntKind.wrap IntKind.i64 (IntKind.wrap IntKind.i64 ((4 : Int) * a) + (2 : Int))))) %
                                                                        (256 : Int)
                                                                    else
                                                                      bif
                                                                          okW (128 : Nat) (IntKind.wrap IntKind.i64 (IntKind.wrap IntKind.i64 ((4 : Int) * a) + (1 : Int))) (1 : Int) &&
                                                                            (decide (Int.toNat (IntKind.wrap IntKind.i64 (IntKind.wrap IntKind.i64 ((4 : Int) * a) + (1 : Int))) ≤ i) &&
                                                                              decide (i < Int.toNat (IntKind.wrap IntKind.i64 (IntKind.wrap IntKind.i64 ((4 : Int) * a) + (1 : Int))) + (1 : Nat))) then
                                                                        Int.fdiv v (256 : Int) /
                                                                            (2 : Int) ^
                                                                              ((8 : Nat) * (i - Int.toNat (IntKind.wrap IntKind.i64 (IntKind.wrap IntKind.i64 ((4 : Int) * a) + (1 : Int))))) %
                                                                          (256 : Int)
                                                                      else
                                                                        bif
                                                                            okW (128 : Nat) (IntKind.wrap IntKind.i64 (IntKind.wrap IntKind.i64 ((4 : Int) * a) + (0 : Int))) (1 : Int) &&
                                                                              (decide (Int.toNat (IntKind.wrap IntKind.i64 (IntKind.wrap IntKind.i64 ((4 : Int) * a) + (0 : Int))) ≤ i) &&
                                                                                decide
                                                                                  (i < Int.toNat (IntKind.wrap IntKind.i64 (IntKind.wrap IntKind.i64 ((4 : Int) * a) + (0 : Int))) + (1 : Nat))) then
                                                                          Int.fdiv v (1 : Int) /
                                                                              (2 : Int) ^
                                                                                ((8 : Nat) * (i - Int.toNat (IntKind.wrap IntKind.i64 (IntKind.wrap IntKind.i64 ((4 : Int) * a) + (0 : Int))))) %
                                                                            (256 : Int)
                                                                        else (0 : Int)
                                                              else false then
                                                            decide
                                                              (loadI (128 : Nat)
                                                                  (o_sto (okW (128 : Nat) (IntKind.wrap IntKind.i64 ((4 : Int) * a)) (4 : Int)) (fun (x : Nat) => XV.int IntKind.u8 (0 : Int))
                                                                    (Int.toNat (IntKind.wrap IntKind.i64 ((4 : Int) * a))) (4 : Nat) v)
                                                                  (26 : Int) (IntKind.wrap IntKind.u32 (IntKind.wrap IntKind.i64 ((4 : Int) * a))) =
                                                                v)
                                                          else false then
                                                        bif
                                                            bif
                                                                strEq (128 : Nat)
                                                                  (fun (i : Nat) =>
                                                                    bif
                                                                        okW (128 : Nat) (IntKind.wrap IntKind.i64 ((4 : Int) * a)) (4 : Int) &&
                                                                          (decide (Int.toNat (IntKind.wrap IntKind.i64 ((4 : Int) * a)) ≤ i) &&
                                                                            decide (i < Int.toNat (IntKind.wrap IntKind.i64 ((4 : Int) * a)) + (4 : Nat))) then
                                                                      v / (2 : Int) ^ ((8 : Nat) * (i - Int.toNat (IntKind.wrap IntKind.i64 ((4 : Int) * a)))) % (256 : Int)
                                                                    else (0 : Int))
                                                                  (128 : Nat) fun (i : Nat) =>
                                                                  bif
                                                                      okW (128 : Nat) (IntKind.wrap IntKind.i64 (IntKind.wrap IntKind.i64 ((4 : Int) * a) + (2 : Int))) (2 : Int) &&
                                                                        (decide (Int.toNat (IntKind.wrap IntKind.i64 (IntKind.wrap IntKind.i64 ((4 : Int) * a) + (2 : Int))) ≤ i) &&
                                                                          decide (i < Int.toNat (IntKind.wrap IntKind.i64 (IntKind.wrap IntKind.i64 ((4 : Int) * a) + (2 : Int))) + (2 : Nat))) then
                                                                    Int.fdiv v (65536 : Int) /
                                                                        (2 : Int) ^ ((8 : Nat) * (i - Int.toNat (IntKind.wrap IntKind.i64 (IntKind.wrap IntKind.i64 ((4 : Int) * a) + (2 : Int))))) %
                                                                      (256 : Int)
                                                                  else
                                                                    bif
                                                                        okW (128 : Nat) (IntKind.wrap IntKind.i64 (IntKind.wrap IntKind.i64 ((4 : Int) * a) + (0 : Int))) (2 : Int) &&
                                                                          (decide (Int.toNat (IntKind.wrap IntKind.i64 (IntKind.wrap IntKind.i64 ((4 : Int) * a) + (0 : Int))) ≤ i) &&
                                                                            decide (i < Int.toNat (IntKind.wrap IntKind.i64 (IntKind.wrap IntKind.i64 ((4 : Int) * a) + (0 : Int))) + (2 : Nat))) then
                                                                      Int.fdiv v (1 : Int) /
                                                                          (2 : Int) ^ ((8 : Nat) * (i - Int.toNat (IntKind.wrap IntKind.i64 (IntKind.wrap IntKind.i64 ((4 : Int) * a) + (0 : Int))))) %
                                                                        (256 : Int)
                                                                    else (0 : Int) then
                                                              strEq (128 : Nat)
                                                                (fun (i : Nat) =>
                                                                  bif
                                                                      okW (128 : Nat) (IntKind.wrap IntKind.i64 ((4 : Int) * a)) (4 : Int) &&
                                                                        (decide (Int.toNat (IntKind.wrap IntKind.i64 ((4 : Int) * a)) ≤ i) &&
                                                                          decide (i < Int.toNat (IntKind.wrap IntKind.i64 ((4 : Int) * a)) + (4 : Nat))) then
                                                                    v / (2 : Int) ^ ((8 : Nat) * (i - Int.toNat (IntKind.wrap IntKind.i64 ((4 : Int) * a)))) % (256 : Int)
                                                                  else (0 : Int))
                                                                (128 : Nat) fun (i : Nat) =>
                                                                bif
                                                                    okW (128 : Nat) (IntKind.wrap IntKind.i64 (IntKind.wrap IntKind.i64 ((4 : Int) * a) + (3 : Int))) (1 : Int) &&
                                                                      (decide (Int.toNat (IntKind.wrap IntKind.i64 (IntKind.wrap IntKind.i64 ((4 : Int) * a) + (3 : Int))) ≤ i) &&
                                                                        decide (i < Int.toNat (IntKind.wrap IntKind.i64 (IntKind.wrap IntKind.i64 ((4 : Int) * a) + (3 : Int))) + (1 : Nat))) then
                                                                  Int.fdiv v (16777216 : Int) /
                                                                      (2 : Int) ^ ((8 : Nat) * (i - Int.toNat (IntKind.wrap IntKind.i64 (IntKind.wrap IntKind.i64 ((4 : Int) * a) + (3 : Int))))) %
                                                                    (256 : Int)
                                                                else
                                                                  bif
                                                                      okW (128 : Nat) (IntKind.wrap IntKind.i64 (IntKind.wrap IntKind.i64 ((4 : Int) * a) + (2 : Int))) (1 : Int) &&
                                                                        (decide (Int.toNat (IntKind.wrap IntKind.i64 (IntKind.wrap IntKind.i64 ((4 : Int) * a) + (2 : Int))) ≤ i) &&
                                                                          decide (i < Int.toNat (IntKind.wrap IntKind.i64 (IntKind.wrap IntKind.i64 ((4 : Int) * a) + (2 : Int))) + (1 : Nat))) then
                                                                    Int.fdiv v (65536 : Int) /
                                                                        (2 : Int) ^ ((8 : Nat) * (i - Int.toNat (IntKind.wrap IntKind.i64 (IntKind.wrap IntKind.i64 ((4 : Int) * a) + (2 : Int))))) %
                                                                      (256 : Int)
                                                                  else
                                                                    bif
                                                                        okW (128 : Nat) (IntKind.wrap IntKind.i64 (IntKind.wrap IntKind.i64 ((4 : Int) * a) + (1 : Int))) (1 : Int) &&
                                                                          (decide (Int.toNat (IntKind.wrap IntKind.i64 (IntKind.wrap IntKind.i64 ((4 : Int) * a) + (1 : Int))) ≤ i) &&
                                                                            decide (i < Int.toNat (IntKind.wrap IntKind.i64 (IntKind.wrap IntKind.i64 ((4 : Int) * a) + (1 : Int))) + (1 : Nat))) then
                                                                      Int.fdiv v (256 : Int) /
                                                                          (2 : Int) ^ ((8 : Nat) * (i - Int.toNat (IntKind.wrap IntKind.i64 (IntKind.wrap IntKind.i64 ((4 : Int) * a) + (1 : Int))))) %
                                                                        (256 : Int)
                                                                    else
                                                                      bif
                                                                          okW (128 : Nat) (IntKind.wrap IntKind.i64 (IntKind.wrap IntKind.i64 ((4 : Int) * a) + (0 : Int))) (1 : Int) &&
                                                                            (decide (Int.toNat (IntKind.wrap IntKind.i64 (IntKind.wrap IntKind.i64 ((4 : Int) * a) + (0 : Int))) ≤ i) &&
                                                                              decide (i < Int.toNat (IntKind.wrap IntKind.i64 (IntKind.wrap IntKind.i64 ((4 : Int) * a) + (0 : Int))) + (1 : Nat))) then
                                                                        Int.fdiv v (1 : Int) /
                                                                            (2 : Int) ^
                                                                              ((8 : Nat) * (i - Int.toNat (IntKind.wrap IntKind.i64 (IntKind.wrap IntKind.i64 ((4 : Int) * a) + (0 : Int))))) %
                                                                          (256 : Int)
                                                                      else (0 : Int)
                                                            else false then
                                                          decide
                                                            (loadI (128 : Nat)
                                                                (o_sto (okW (128 : Nat) (IntKind.wrap IntKind.i64 ((4 : Int) * a)) (4 : Int)) (fun (x : Nat) => XV.int IntKind.u8 (0 : Int))
                                                                  (Int.toNat (IntKind.wrap IntKind.i64 ((4 : Int) * a))) (4 : Nat) v)
                                                                (26 : Int) (IntKind.wrap IntKind.u32 (IntKind.wrap IntKind.i64 ((4 : Int) * a))) =
                                                              v)
                                                        else false
                                                      else true then
                                                    bif
                                                        bif
                                                            bif
                                                                bif
                                                                    bif
                                                                        strEq (128 : Nat)
                                                                          (fun (i : Nat) =>
                                                                            bif
                                                                                okW (128 : Nat) (IntKind.wrap IntKind.i64 ((4 : Int) * a)) (4 : Int) &&
                                                                                  (decide (Int.toNat (IntKind.wrap IntKind.i64 ((4 : Int) * a)) ≤ i) &&
                                                                                    decide (i < Int.toNat (IntKind.wrap IntKind.i64 ((4 : Int) * a)) + (4 : Nat))) then
                                                                              v / (2 : Int) ^ ((8 : Nat) * (i - Int.toNat (IntKind.wrap IntKind.i64 ((4 : Int) * a)))) % (256 : Int)
                                                                            else (0 : Int))
                                                                          (128 : Nat) fun (i : Nat) =>
                                                                          bif
                                                                              okW (128 : Nat) (IntKind.wrap IntKind.i64 (IntKind.wrap IntKind.i64 ((4 : Int) * a) + (2 : Int))) (2 : Int) &&
                                                                                (decide (Int.toNat (IntKind.wrap IntKind.i64 (IntKind.wrap IntKind.i64 ((4 : Int) * a) + (2 : Int))) ≤ i) &&
                                                                                  decide
                                                                                    (i < Int.toNat (IntKind.wrap IntKind.i64 (IntKind.wrap IntKind.i64 ((4 : Int) * a) + (2 : Int))) + (2 : Nat))) then
                                                                            Int.fdiv v (65536 : Int) /
                                                                                (2 : Int) ^
                                                                                  ((8 : Nat) * (i - Int.toNat (IntKind.wrap IntKind.i64 (IntKind.wrap IntKind.i64 ((4 : Int) * a) + (2 : Int))))) %
                                                                              (256 : Int)
                                                                          else
                                                                            bif
                                                                                okW (128 : Nat) (IntKind.wrap IntKind.i64 (IntKind.wrap IntKind.i64 ((4 : Int) * a) + (0 : Int))) (2 : Int) &&
                                                                                  (decide (Int.toNat (IntKind.wrap IntKind.i64 (IntKind.wrap IntKind.i64 ((4 : Int) * a) + (0 : Int))) ≤ i) &&
                                                                                    decide
                                                                                      (i <
                                                                                        Int.toNat (IntKind.wrap IntKind.i64 (IntKind.wrap IntKind.i64 ((4 : Int) * a) + (0 : Int))) + (2 : Nat))) then
                                                                              Int.fdiv v (1 : Int) /
                                                                                  (2 : Int) ^
                                                                                    ((8 : Nat) * (i - Int.toNat (IntKind.wrap IntKind.i64 (IntKind.wrap IntKind.i64 ((4 : Int) * a) + (0 : Int))))) %
                                                                                (256 : Int)
                                                                            else (0 : Int) then
                                                                      strEq (128 : Nat)
                                                                        (fun (i : Nat) =>
                                                                          bif
                                                                              okW (128 : Nat) (IntKind.wrap IntKind.i64 ((4 : Int) * a)) (4 : Int) &&
                                                                                (decide (Int.toNat (IntKind.wrap IntKind.i64 ((4 : Int) * a)) ≤ i) &&
                                                                                  decide (i < Int.toNat (IntKind.wrap IntKind.i64 ((4 : Int) * a)) + (4 : Nat))) then
                                                                            v / (2 : Int) ^ ((8 : Nat) * (i - Int.toNat (IntKind.wrap IntKind.i64 ((4 : Int) * a)))) % (256 : Int)
                                                                          else (0 : Int))
                                                                        (128 : Nat) fun (i : Nat) =>
                                                                        bif
                                                                            okW (128 : Nat) (IntKind.wrap IntKind.i64 (IntKind.wrap IntKind.i64 ((4 : Int) * a) + (3 : Int))) (1 : Int) &&
                                                                              (decide (Int.toNat (IntKind.wrap IntKind.i64 (IntKind.wrap IntKind.i64 ((4 : Int) * a) + (3 : Int))) ≤ i) &&
                                                                                decide
                                                                                  (i < Int.toNat (IntKind.wrap IntKind.i64 (IntKind.wrap IntKind.i64 ((4 : Int) * a) + (3 : Int))) + (1 : Nat))) then
                                                                          Int.fdiv v (16777216 : Int) /
                                                                              (2 : Int) ^
                                                                                ((8 : Nat) * (i - Int.toNat (IntKind.wrap IntKind.i64 (IntKind.wrap IntKind.i64 ((4 : Int) * a) + (3 : Int))))) %
                                                                            (256 : Int)
                                                                        else
                                                                          bif
                                                                              okW (128 : Nat) (IntKind.wrap IntKind.i64 (IntKind.wrap IntKind.i64 ((4 : Int) * a) + (2 : Int))) (1 : Int) &&
                                                                                (decide (Int.toNat (IntKind.wrap IntKind.i64 (IntKind.wrap IntKind.i64 ((4 : Int) * a) + (2 : Int))) ≤ i) &&
                                                                                  decide
                                                                                    (i < Int.toNat (IntKind.wrap IntKind.i64 (IntKind.wrap IntKind.i64 ((4 : Int) * a) + (2 : Int))) + (1 : Nat))) then
                                                                            Int.fdiv v (65536 : Int) /
                                                                                (2 : Int) ^
                                                                                  ((8 : Nat) * (i - Int.toNat (IntKind.wrap IntKind.i64 (IntKind.wrap IntKind.i64 ((4 : Int) * a) + (2 : Int))))) %
                                                                              (256 : Int)
                                                                          else
                                                                            bif
                                                                                okW (128 : Nat) (IntKind.wrap IntKind.i64 (IntKind.wrap IntKind.i64 ((4 : Int) * a) + (1 : Int))) (1 : Int) &&
                                                                                  (decide (Int.toNat (IntKind.wrap IntKind.i64 (IntKind.wrap IntKind.i64 ((4 : Int) * a) + (1 : Int))) ≤ i) &&
                                                                                    decide
                                                                                      (i <
                                                                                        Int.toNat (IntKind.wrap IntKind.i64 (IntKind.wrap IntKind.i64 ((4 : Int) * a) + (1 : Int))) + (1 : Nat))) then
                                                                              Int.fdiv v (256 : Int) /
                                                                                  (2 : Int) ^
                                                                                    ((8 : Nat) * (i - Int.toNat (IntKind.wrap IntKind.i64 (IntKind.wrap IntKind.i64 ((4 : Int) * a) + (1 : Int))))) %
                                                                                (256 : Int)
                                                                            else
                                                                              bif
                                                                                  okW (128 : Nat) (IntKind.wrap IntKind.i64 (IntKind.wrap IntKind.i64 ((4 : Int) * a) + (0 : Int))) (1 : Int) &&
                                                                                    (decide (Int.toNat (IntKind.wrap IntKind.i64 (IntKind.wrap IntKind.i64 ((4 : Int) * a) + (0 : Int))) ≤ i) &&
                                                                                      decide
                                                                                        (i <
                                                                                          Int.toNat (IntKind.wrap IntKind.i64 (IntKind.wrap IntKind.i64 ((4 : Int) * a) + (0 : Int))) + (1 : Nat))) then
                                                                                Int.fdiv v (1 : Int) /
                                                                                    (2 : Int) ^
                                                                                      ((8 : Nat) * (i - Int.toNat (IntKind.wrap IntKind.i64 (IntKind.wrap IntKind.i64 ((4 : Int) * a) + (0 : Int))))) %
                                                                                  (256 : Int)
                                                                              else (0 : Int)
                                                                    else false then
                                                                  decide
                                                                    (loadI (128 : Nat)
                                                                        (o_sto (okW (128 : Nat) (IntKind.wrap IntKind.i64 ((4 : Int) * a)) (4 : Int)) (fun (x : Nat) => XV.int IntKind.u8 (0 : Int))
                                                                          (Int.toNat (IntKind.wrap IntKind.i64 ((4 : Int) * a))) (4 : Nat) v)
                                                                        (26 : Int) (IntKind.wrap IntKind.u32 (IntKind.wrap IntKind.i64 ((4 : Int) * a))) =
                                                                      v)
                                                                else false then
                                                              decide
                                                                (bitsI BinOp.or IntKind.u32
                                                                    (loadI (128 : Nat)
                                                                      (o_sto (okW (128 : Nat) (IntKind.wrap IntKind.i64 ((4 : Int) * a)) (4 : Int)) (fun (x : Nat) => XV.int IntKind.u8 (0 : Int))
                                                                        (Int.toNat (IntKind.wrap IntKind.i64 ((4 : Int) * a))) (4 : Nat) v)
                                                                      (28 : Int) (IntKind.wrap IntKind.u32 (IntKind.wrap IntKind.i64 ((4 : Int) * a))))
                                                                    (IntKind.wrap IntKind.u32
                                                                      (loadI (128 : Nat)
                                                                          (o_sto (okW (128 : Nat) (IntKind.wrap IntKind.i64 ((4 : Int) * a)) (4 : Int)) (fun (x : Nat) => XV.int IntKind.u8 (0 : Int))
                                                                            (Int.toNat (IntKind.wrap IntKind.i64 ((4 : Int) * a))) (4 : Nat) v)
                                                                          (28 : Int) (IntKind.wrap IntKind.u32 (IntKind.wrap IntKind.u32 (IntKind.wrap IntKind.i64 ((4 : Int) * a)) + (2 : Int))) *
                                                                        (65536 : Int))) =
                                                                  v)
                                                            else false then
                                                          bif
                                                              bif
                                                                  bif
                                                                      strEq (128 : Nat)
                                                                        (fun (i : Nat) =>
                                                                          bif
                                                                              okW (128 : Nat) (IntKind.wrap IntKind.i64 ((4 : Int) * a)) (4 : Int) &&
                                                                                (decide (Int.toNat (IntKind.wrap IntKind.i64 ((4 : Int) * a)) ≤ i) &&
                                                                                  decide (i < Int.toNat (IntKind.wrap IntKind.i64 ((4 : Int) * a)) + (4 : Nat))) then
                                                                            v / (2 : Int) ^ ((8 : Nat) * (i - Int.toNat (IntKind.wrap IntKind.i64 ((4 : Int) * a)))) % (256 : Int)
                                                                          else (0 : Int))
                                                                        (128 : Nat) fun (i : Nat) =>
                                                                        bif
                                                                            okW (128 : Nat) (IntKind.wrap IntKind.i64 (IntKind.wrap IntKind.i64 ((4 : Int) * a) + (2 : Int))) (2 : Int) &&
                                                                              (decide (Int.toNat (IntKind.wrap IntKind.i64 (IntKind.wrap IntKind.i64 ((4 : Int) * a) + (2 : Int))) ≤ i) &&
                                                                                decide
                                                                                  (i < Int.toNat (IntKind.wrap IntKind.i64 (IntKind.wrap IntKind.i64 ((4 : Int) * a) + (2 : Int))) + (2 : Nat))) then
                                                                          Int.fdiv v (65536 : Int) /
                                                                              (2 : Int) ^
                                                                                ((8 : Nat) * (i - Int.toNat (IntKind.wrap IntKind.i64 (IntKind.wrap IntKind.i64 ((4 : Int) * a) + (2 : Int))))) %
                                                                            (256 : Int)
                                                                        else
                                                                          bif
                                                                              okW (128 : Nat) (IntKind.wrap IntKind.i64 (IntKind.wrap IntKind.i64 ((4 : Int) * a) + (0 : Int))) (2 : Int) &&
                                                                                (decide (Int.toNat (IntKind.wrap IntKind.i64 (IntKind.wrap IntKind.i64 ((4 : Int) * a) + (0 : Int))) ≤ i) &&
                                                                                  decide
                                                                                    (i < Int.toNat (IntKind.wrap IntKind.i64 (IntKind.wrap IntKind.i64 ((4 : Int) * a) + (0 : Int))) + (2 : Nat))) then
                                                                            Int.fdiv v (1 : Int) /
                                                                                (2 : Int) ^
                                                                                  ((8 : Nat) * (i - Int.toNat (IntKind.wrap IntKind.i64 (IntKind.wrap IntKind.i64 ((4 : Int) * a) + (0 : Int))))) %
                                                                              (256 : Int)
                                                                          else (0 : Int) then
                                                                    strEq (128 : Nat)
                                                                      (fun (i : Nat) =>
                                                                        bif
                                                                            okW (128 : Nat) (IntKind.wrap IntKind.i64 ((4 : Int) * a)) (4 : Int) &&
                                                                              (decide (Int.toNat (IntKind.wrap IntKind.i64 ((4 : Int) * a)) ≤ i) &&
                                                                                decide (i < Int.toNat (IntKind.wrap IntKind.i64 ((4 : Int) * a)) + (4 : Nat))) then
                                                                          v / (2 : Int) ^ ((8 : Nat) * (i - Int.toNat (IntKind.wrap IntKind.i64 ((4 : Int) * a)))) % (256 : Int)
                                                                        else (0 : Int))
                                                                      (128 : Nat) fun (i : Nat) =>
                                                                      bif
                                                                          okW (128 : Nat) (IntKind.wrap IntKind.i64 (IntKind.wrap IntKind.i64 ((4 : Int) * a) + (3 : Int))) (1 : Int) &&
                                                                            (decide (Int.toNat (IntKind.wrap IntKind.i64 (IntKind.wrap IntKind.i64 ((4 : Int) * a) + (3 : Int))) ≤ i) &&
                                                                              decide (i < Int.toNat (IntKind.wrap IntKind.i64 (IntKind.wrap IntKind.i64 ((4 : Int) * a) + (3 : Int))) + (1 : Nat))) then
                                                                        Int.fdiv v (16777216 : Int) /
                                                                            (2 : Int) ^
                                                                              ((8 : Nat) * (i - Int.toNat (IntKind.wrap IntKind.i64 (IntKind.wrap IntKind.i64 ((4 : Int) * a) + (3 : Int))))) %
                                                                          (256 : Int)
                                                                      else
                                                                        bif
                                                                            okW (128 : Nat) (IntKind.wrap IntKind.i64 (IntKind.wrap IntKind.i64 ((4 : Int) * a) + (2 : Int))) (1 : Int) &&
                                                                              (decide (Int.toNat (IntKind.wrap IntKind.i64 (IntKind.wrap IntKind.i64 ((4 : Int) * a) + (2 : Int))) ≤ i) &&
                                                                                decide
                                                                                  (i < Int.toNat (IntKind.wrap IntKind.i64 (IntKind.wrap IntKind.i64 ((4 : Int) * a) + (2 : Int))) + (1 : Nat))) then
                                                                          Int.fdiv v (65536 : Int) /
                                                                              (2 : Int) ^
                                                                                ((8 : Nat) * (i - Int.toNat (IntKind.wrap IntKind.i64 (IntKind.wrap IntKind.i64 ((4 : Int) * a) + (2 : Int))))) %
                                                                            (256 : Int)
                                                                        else
                                                                          bif
                                                                              okW (128 : Nat) (IntKind.wrap IntKind.i64 (IntKind.wrap IntKind.i64 ((4 : Int) * a) + (1 : Int))) (1 : Int) &&
                                                                                (decide (Int.toNat (IntKind.wrap IntKind.i64 (IntKind.wrap IntKind.i64 ((4 : Int) * a) + (1 : Int))) ≤ i) &&
                                                                                  decide
                                                                                    (i < Int.toNat (IntKind.wrap IntKind.i64 (IntKind.wrap IntKind.i64 ((4 : Int) * a) + (1 : Int))) + (1 : Nat))) then
                                                                            Int.fdiv v (256 : Int) /
                                                                                (2 : Int) ^
                                                                                  ((8 : Nat) * (i - Int.toNat (IntKind.wrap IntKind.i64 (IntKind.wrap IntKind.i64 ((4 : Int) * a) + (1 : Int))))) %
                                                                              (256 : Int)
                                                                          else
                                                                            bif
                                                                                okW (128 : Nat) (IntKind.wrap IntKind.i64 (IntKind.wrap IntKind.i64 ((4 : Int) * a) + (0 : Int))) (1 : Int) &&
                                                                                  (decide (Int.toNat (IntKind.wrap IntKind.i64 (IntKind.wrap IntKind.i64 ((4 : Int) * a) + (0 : Int))) ≤ i) &&
                                                                                    decide
                                                                                      (i <
                                                                                        Int.toNat (IntKind.wrap IntKind.i64 (IntKind.wrap IntKind.i64 ((4 : Int) * a) + (0 : Int))) + (1 : Nat))) then
                                                                              Int.fdiv v (1 : Int) /
                                                                                  (2 : Int) ^
                                                                                    ((8 : Nat) * (i - Int.toNat (IntKind.wrap IntKind.i64 (IntKind.wrap IntKind.i64 ((4 : Int) * a) + (0 : Int))))) %
                                                                                (256 : Int)
                                                                            else (0 : Int)
                                                                  else false then
                                                                decide
                                                                  (loadI (128 : Nat)
                                                                      (o_sto (okW (128 : Nat) (IntKind.wrap IntKind.i64 ((4 : Int) * a)) (4 : Int)) (fun (x : Nat) => XV.int IntKind.u8 (0 : Int))
                                                                        (Int.toNat (IntKind.wrap IntKind.i64 ((4 : Int) * a))) (4 : Nat) v)
                                                                      (26 : Int) (IntKind.wrap IntKind.u32 (IntKind.wrap IntKind.i64 ((4 : Int) * a))) =
                                                                    v)
                                                              else false then
                                                            decide
                                                              (bitsI BinOp.or IntKind.u32
                                                                  (loadI (128 : Nat)
                                                                    (o_sto (okW (128 : Nat) (IntKind.wrap IntKind.i64 ((4 : Int) * a)) (4 : Int)) (fun (x : Nat) => XV.int IntKind.u8 (0 : Int))
                                                                      (Int.toNat (IntKind.wrap IntKind.i64 ((4 : Int) * a))) (4 : Nat) v)
                                                                    (28 : Int) (IntKind.wrap IntKind.u32 (IntKind.wrap IntKind.i64 ((4 : Int) * a))))
                                                                  (IntKind.wrap IntKind.u32
                                                                    (loadI (128 : Nat)
                                                                        (o_sto (okW (128 : Nat) (IntKind.wrap IntKind.i64 ((4 : Int) * a)) (4 : Int)) (fun (x : Nat) => XV.int IntKind.u8 (0 : Int))
                                                                          (Int.toNat (IntKind.wrap IntKind.i64 ((4 : Int) * a))) (4 : Nat) v)
                                                                        (28 : Int) (IntKind.wrap IntKind.u32 (IntKind.wrap IntKind.u32 (IntKind.wrap IntKind.i64 ((4 : Int) * a)) + (2 : Int))) *
                                                                      (65536 : Int))) =
                                                                v)
                                                          else false
                                                        else true then
                                                      K
                                                        (XV.bool
                                                          (bif
                                                              bif
                                                                  bif
                                                                      bif
                                                                          strEq (128 : Nat)
                                                                            (fun (i : Nat) =>
                                                                              bif
                                                                                  okW (128 : Nat) (IntKind.wrap IntKind.i64 ((4 : Int) * a)) (4 : Int) &&
                                                                                    (decide (Int.toNat (IntKind.wrap IntKind.i64 ((4 : Int) * a)) ≤ i) &&
                                                                                      decide (i < Int.toNat (IntKind.wrap IntKind.i64 ((4 : Int) * a)) + (4 : Nat))) then
                                                                                v / (2 : Int) ^ ((8 : Nat) * (i - Int.toNat (IntKind.wrap IntKind.i64 ((4 : Int) * a)))) % (256 : Int)
                                                                              else (0 : Int))
                                                                            (128 : Nat) fun (i : Nat) =>
                                                                            bif
                                                                                okW (128 : Nat) (IntKind.wrap IntKind.i64 (IntKind.wrap IntKind.i64 ((4 : Int) * a) + (2 : Int))) (2 : Int) &&
                                                                                  (decide (Int.toNat (IntKind.wrap IntKind.i64 (IntKind.wrap IntKind.i64 ((4 : Int) * a) + (2 : Int))) ≤ i) &&
                                                                                    decide
                                                                                      (i <
                                                                                        Int.toNat (IntKind.wrap IntKind.i64 (IntKind.wrap IntKind.i64 ((4 : Int) * a) + (2 : Int))) + (2 : Nat))) then
                                                                              Int.fdiv v (65536 : Int) /
                                                                                  (2 : Int) ^
                                                                                    ((8 : Nat) * (i - Int.toNat (IntKind.wrap IntKind.i64 (IntKind.wrap IntKind.i64 ((4 : Int) * a) + (2 : Int))))) %
                                                                                (256 : Int)
                                                                            else
                                                                              bif
                                                                                  okW (128 : Nat) (IntKind.wrap IntKind.i64 (IntKind.wrap IntKind.i64 ((4 : Int) * a) + (0 : Int))) (2 : Int) &&
                                                                                    (decide (Int.toNat (IntKind.wrap IntKind.i64 (IntKind.wrap IntKind.i64 ((4 : Int) * a) + (0 : Int))) ≤ i) &&
                                                                                      decide
                                                                                        (i <
                                                                                          Int.toNat (IntKind.wrap IntKind.i64 (IntKind.wrap IntKind.i64 ((4 : Int) * a) + (0 : Int))) + (2 : Nat))) then
                                                                                Int.fdiv v (1 : Int) /
                                                                                    (2 : Int) ^
                                                                                      ((8 : Nat) * (i - Int.toNat (IntKind.wrap IntKind.i64 (IntKind.wrap IntKind.i64 ((4 : Int) * a) + (0 : Int))))) %
                                                                                  (256 : Int)
                                                                              else (0 : Int) then
                                                                        strEq (128 : Nat)
                                                                          (fun (i : Nat) =>
                                                                            bif
                                                                                okW (128 : Nat) (IntKind.wrap IntKind.i64 ((4 : Int) * a)) (4 : Int) &&
                                                                                  (decide (Int.toNat (IntKind.wrap IntKind.i64 ((4 : Int) * a)) ≤ i) &&
                                                                                    decide (i < Int.toNat (IntKind.wrap IntKind.i64 ((4 : Int) * a)) + (4 : Nat))) then
                                                                              v / (2 : Int) ^ ((8 : Nat) * (i - Int.toNat (IntKind.wrap IntKind.i64 ((4 : Int) * a)))) % (256 : Int)
                                                                            else (0 : Int))
                                                                          (128 : Nat) fun (i : Nat) =>
                                                                          bif
                                                                              okW (128 : Nat) (IntKind.wrap IntKind.i64 (IntKind.wrap IntKind.i64 ((4 : Int) * a) + (3 : Int))) (1 : Int) &&
                                                                                (decide (Int.toNat (IntKind.wrap IntKind.i64 (IntKind.wrap IntKind.i64 ((4 : Int) * a) + (3 : Int))) ≤ i) &&
                                                                                  decide
                                                                                    (i < Int.toNat (IntKind.wrap IntKind.i64 (IntKind.wrap IntKind.i64 ((4 : Int) * a) + (3 : Int))) + (1 : Nat))) then
                                                                            Int.fdiv v (16777216 : Int) /
                                                                                (2 : Int) ^
                                                                                  ((8 : Nat) * (i - Int.toNat (IntKind.wrap IntKind.i64 (IntKind.wrap IntKind.i64 ((4 : Int) * a) + (3 : Int))))) %
                                                                              (256 : Int)
                                                                          else
                                                                            bif
                                                                                okW (128 : Nat) (IntKind.wrap IntKind.i64 (IntKind.wrap IntKind.i64 ((4 : Int) * a) + (2 : Int))) (1 : Int) &&
                                                                                  (decide (Int.toNat (IntKind.wrap IntKind.i64 (IntKind.wrap IntKind.i64 ((4 : Int) * a) + (2 : Int))) ≤ i) &&
                                                                                    decide
                                                                                      (i <
                                                                                        Int.toNat (IntKind.wrap IntKind.i64 (IntKind.wrap IntKind.i64 ((4 : Int) * a) + (2 : Int))) + (1 : Nat))) then
                                                                              Int.fdiv v (65536 : Int) /
                                                                                  (2 : Int) ^
                                                                                    ((8 : Nat) * (i - Int.toNat (IntKind.wrap IntKind.i64 (IntKind.wrap IntKind.i64 ((4 : Int) * a) + (2 : Int))))) %
                                                                                (256 : Int)
                                                                            else
                                                                              bif
                                                                                  okW (128 : Nat) (IntKind.wrap IntKind.i64 (IntKind.wrap IntKind.i64 ((4 : Int) * a) + (1 : Int))) (1 : Int) &&
                                                                                    (decide (Int.toNat (IntKind.wrap IntKind.i64 (IntKind.wrap IntKind.i64 ((4 : Int) * a) + (1 : Int))) ≤ i) &&
                                                                                      decide
                                                                                        (i <
                                                                                          Int.toNat (IntKind.wrap IntKind.i64 (IntKind.wrap IntKind.i64 ((4 : Int) * a) + (1 : Int))) + (1 : Nat))) then
                                                                                Int.fdiv v (256 : Int) /
                                                                                    (2 : Int) ^
                                                                                      ((8 : Nat) * (i - Int.toNat (IntKind.wrap IntKind.i64 (IntKind.wrap IntKind.i64 ((4 : Int) * a) + (1 : Int))))) %
                                                                                  (256 : Int)
                                                                              else
                                                                                bif
                                                                                    okW (128 : Nat) (IntKind.wrap IntKind.i64 (IntKind.wrap IntKind.i64 ((4 : Int) * a) + (0 : Int))) (1 : Int) &&
                                                                                      (decide (Int.toNat (IntKind.wrap IntKind.i64 (IntKind.wrap IntKind.i64 ((4 : Int) * a) + (0 : Int))) ≤ i) &&
                                                                                        decide
                                                                                          (i <
                                                                                            Int.toNat (IntKind.wrap IntKind.i64 (IntKind.wrap IntKind.i64 ((4 : Int) * a) + (0 : Int))) +
                                                                                              (1 : Nat))) then
                                                                                  Int.fdiv v (1 : Int) /
                                                                                      (2 : Int) ^
                                                                                        ((8 : Nat) *
                                                                                          (i - Int.toNat (IntKind.wrap IntKind.i64 (IntKind.wrap IntKind.i64 ((4 : Int) * a) + (0 : Int))))) %
                                                                                    (256 : Int)
                                                                                else (0 : Int)
                                                                      else false then
                                                                    decide
                                                                      (loadI (128 : Nat)
                                                                          (o_sto (okW (128 : Nat) (IntKind.wrap IntKind.i64 ((4 : Int) * a)) (4 : Int)) (fun (x : Nat) => XV.int IntKind.u8 (0 : Int))
                                                                            (Int.toNat (IntKind.wrap IntKind.i64 ((4 : Int) * a))) (4 : Nat) v)
                                                                          (26 : Int) (IntKind.wrap IntKind.u32 (IntKind.wrap IntKind.i64 ((4 : Int) * a))) =
                                                                        v)
                                                                  else false then
                                                                decide
                                                                  (bitsI BinOp.or IntKind.u32
                                                                      (loadI (128 : Nat)
                                                                        (o_sto (okW (128 : Nat) (IntKind.wrap IntKind.i64 ((4 : Int) * a)) (4 : Int)) (fun (x : Nat) => XV.int IntKind.u8 (0 : Int))
                                                                          (Int.toNat (IntKind.wrap IntKind.i64 ((4 : Int) * a))) (4 : Nat) v)
                                                                        (28 : Int) (IntKind.wrap IntKind.u32 (IntKind.wrap IntKind.i64 ((4 : Int) * a))))
                                                                      (IntKind.wrap IntKind.u32
                                                                        (loadI (128 : Nat)
                                                                            (o_sto (okW (128 : Nat) (IntKind.wrap IntKind.i64 ((4 : Int) * a)) (4 : Int)) (fun (x : Nat) => XV.int IntKind.u8 (0 : Int))
                                                                              (Int.toNat (IntKind.wrap IntKind.i64 ((4 : Int) * a))) (4 : Nat) v)
                                                                            (28 : Int) (IntKind.wrap IntKind.u32 (IntKind.wrap IntKind.u32 (IntKind.wrap IntKind.i64 ((4 : Int) * a)) + (2 : Int))) *
                                                                          (65536 : Int))) =
                                                                    v)
                                                              else false then
                                                            decide
                                                              (bitsI BinOp.or IntKind.u32
                                                                  (bitsI BinOp.or IntKind.u32
                                                                    (bitsI BinOp.or IntKind.u32
                                                                      (loadI (128 : Nat)
                                                                        (o_sto (okW (128 : Nat) (IntKind.wrap IntKind.i64 ((4 : Int) * a)) (4 : Int)) (fun (x : Nat) => XV.int IntKind.u8 (0 : Int))
                                                                          (Int.toNat (IntKind.wrap IntKind.i64 ((4 : Int) * a))) (4 : Nat) v)
                                                                        (30 : Int) (IntKind.wrap IntKind.u32 (IntKind.wrap IntKind.i64 ((4 : Int) * a))))
                                                                      (IntKind.wrap IntKind.u32
                                                                        (loadI (128 : Nat)
                                                                            (o_sto (okW (128 : Nat) (IntKind.wrap IntKind.i64 ((4 : Int) * a)) (4 : Int)) (fun (x : Nat) => XV.int IntKind.u8 (0 : Int))
                                                                              (Int.toNat (IntKind.wrap IntKind.i64 ((4 : Int) * a))) (4 : Nat) v)
                                                                            (30 : Int) (IntKind.wrap IntKind.u32 (IntKind.wrap IntKind.u32 (IntKind.wrap IntKind.i64 ((4 : Int) * a)) + (1 : Int))) *
                                                                          (256 : Int))))
                                                                    (IntKind.wrap IntKind.u32
                                                                      (loadI (128 : Nat)
                                                                          (o_sto (okW (128 : Nat) (IntKind.wrap IntKind.i64 ((4 : Int) * a)) (4 : Int)) (fun (x : Nat) => XV.int IntKind.u8 (0 : Int))
                                                                            (Int.toNat (IntKind.wrap IntKind.i64 ((4 : Int) * a))) (4 : Nat) v)
                                                                          (30 : Int) (IntKind.wrap IntKind.u32 (IntKind.wrap IntKind.u32 (IntKind.wrap IntKind.i64 ((4 : Int) * a)) + (2 : Int))) *
                                                                        (65536 : Int))))
                                                                  (IntKind.wrap IntKind.u32
                                                                    (loadI (128 : Nat)
                                                                        (o_sto (okW (128 : Nat) (IntKind.wrap IntKind.i64 ((4 : Int) * a)) (4 : Int)) (fun (x : Nat) => XV.int IntKind.u8 (0 : Int))
                                                                          (Int.toNat (IntKind.wrap IntKind.i64 ((4 : Int) * a))) (4 : Nat) v)
                                                                        (30 : Int) (IntKind.wrap IntKind.u32 (IntKind.wrap IntKind.u32 (IntKind.wrap IntKind.i64 ((4 : Int) * a)) + (3 : Int))) *
                                                                      (16777216 : Int))) =
                                                                v)
                                                          else false))
                                                    else False
                                                  else False
                                                else False
                                              else False
                                            else False
                                          else False
                                        else False
                                      else False
                                    else False
                                  else False
                                else False
                              else False
                            else False
                          else False
                        else False
                      else False
                    else False
                  else False
                else False
              else False
            else False
          else False
        else False
      else False
    else False
 else False) := by kernel_rfl
theorem strEq_of {n : Nat} {f g : Nat → Int} (h : ∀ i, i < n → f i = g i) : strEq n f n g = true := by
  unfold strEq
  rw [Nat.beq_refl, cond_true, allN_iff]
  exact fun i hi => by rw [h i hi]; simp
theorem chk_v {s a n : Int} (hs : s = 1 ∨ s = 2 ∨ s = 4) (h0 : 0 ≤ a) (h1 : a ≤ 4294967295) (hn : 0 ≤ n) (hn2 : n ≤ 1099511627776) : chkI s a n = if a % s = 0 then (if a + s ≤ n then 0 else 2) else 1 := by
  unfold chkI
  have h4 : IntKind.i64.wrap a = a := wrap_i64 (by omega) (by omega)
  have h5 : IntKind.i64.wrap (n - s) = n - s := wrap_i64 (by omega) (by omega)
  rw [h4, h5, Int.tmod_eq_emod_of_nonneg h0]
  by_cases h6 : a % s = 0
  · rw [if_neg (by rintro ⟨_, h⟩; exact h h6), if_pos h6]
    by_cases h7 : a + s ≤ n
    · rw [if_pos h7, if_neg (by rintro (⟨_, h | h⟩ | ⟨h, _⟩) <;> omega)]
    · rw [if_neg h7, if_pos (.inl ⟨by omega, by omega⟩)]
  · rw [if_pos ⟨by omega, h6⟩, if_neg h6]
theorem ok128 (A s : Nat) (hs : s = 1 ∨ s = 2 ∨ s = 4) (h : A % s = 0) (h2 : A + s ≤ 128) : okW 128 (A : Int) (s : Int) = true := by
  refine okW_iff.2 ⟨by omega, by omega, by omega, ?_⟩
  rw [chk_v (by omega) (by omega) (by omega) (by omega) (by omega), if_pos, if_pos (by omega)]
  rw [← Int.natCast_emod, h]
  rfl
theorem rng_sto {n : Nat} {f : Nat → XV} {A s : Nat} {v : Int} (hb : rngB n f = true) : rngB n (o_sto true f A s v) = true := by
  rw [rngB_iff] at hb ⊢
  intro i hi
  have := hb i hi
  by_cases h : A ≤ i ∧ i < A + s
  · rw [sto_in (j := i - A) (by omega) (by omega)]
    simp only [asN]
    omega
  · rw [sto_out (by omega)]
    exact this
theorem ld_v {n : Nat} {f : Nat → XV} {op B s : Int} (ho : op ≥ 26 ∧ op ≤ 30) (hs : szI op = s) (h : okW n B s = true) : loadI n f op B = extI op (wrd f B.toNat s.toNat) := by
  unfold loadI
  rw [hs, if_pos ⟨ho.1, ho.2, (okW_iff.1 h).2.2.2⟩]
theorem sha_pure (v a : Int) (h0 : 0 ≤ v) (h1 : v ≤ 4294967295) : Pure Try.prog 11 (cons [.int .u32 v, .int .i64 a]) (con (.bool true)) := by
  refine pureX (u := 80) (k := 20) mix TBsok ?_
  rw [r_sha]
  simp only [pk_or, pk_and, cond_true]
  by_cases g0 : a < 0
  · simp only [g0, decide_true, decide_false, cond_true, cond_false, allN_true, Nat.le_refl, Int.toNat_natCast, Nat.beq_refl, pk_and, pk_or, Bool.not_true, Bool.not_false, not_true_eq_false, not_false_eq_true, Bool.and_true, Bool.true_and, Bool.and_self, ge_iff_le, Int.le_refl, if_true, if_false, reduceCtorEq, eq_self, BEq.rfl]
  by_cases g1 : a > 30
  · simp only [g0, g1, decide_true, decide_false, cond_true, cond_false, allN_true, Nat.le_refl, Int.toNat_natCast, Nat.beq_refl, pk_and, pk_or, Bool.not_true, Bool.not_false, not_true_eq_false, not_false_eq_true, Bool.and_true, Bool.true_and, Bool.and_self, ge_iff_le, Int.le_refl, if_true, if_false, reduceCtorEq, eq_self, BEq.rfl]
  obtain ⟨n, rfl⟩ := Int.eq_ofNat_of_zero_le (show 0 ≤ a by omega)
  obtain ⟨A, hA⟩ : ∃ A, A = 4 * n := ⟨_, rfl⟩
  have hA4 : A % 4 = 0 := by omega
  have hA2 : A ≤ 120 := by omega
  have w0 : IntKind.i64.wrap (4 * (n : Int)) = (A : Int) := by rw [wrap_i64 (by omega) (by omega)]; omega
  have e0 : IntKind.i64.wrap ((A : Int) + 0) = (A : Int) := by rw [wrap_i64 (by omega) (by omega)]; omega
  have e1 : IntKind.i64.wrap ((A : Int) + 1) = ((A + 1 : Nat) : Int) := wrap_i64 (by omega) (by omega)
  have e2 : IntKind.i64.wrap ((A : Int) + 2) = ((A + 2 : Nat) : Int) := wrap_i64 (by omega) (by omega)
  have e3 : IntKind.i64.wrap ((A : Int) + 3) = ((A + 3 : Nat) : Int) := wrap_i64 (by omega) (by omega)
  have u0 : IntKind.u32.wrap (A : Int) = (A : Int) := by rw [wU32]; omega
  have u1 : IntKind.u32.wrap ((A : Int) + 1) = ((A + 1 : Nat) : Int) := by rw [wU32]; omega
  have u2 : IntKind.u32.wrap ((A : Int) + 2) = ((A + 2 : Nat) : Int) := by rw [wU32]; omega
  have u3 : IntKind.u32.wrap ((A : Int) + 3) = ((A + 3 : Nat) : Int) := by rw [wU32]; omega
  have k4 : okW 128 (A : Int) 4 = true := ok128 A 4 (by omega) (by omega) (by omega)
  have k2 : okW 128 (A : Int) 2 = true := ok128 A 2 (by omega) (by omega) (by omega)
  have k22 : okW 128 ((A + 2 : Nat) : Int) 2 = true := ok128 (A + 2) 2 (by omega) (by omega) (by omega)
  have k1 : okW 128 (A : Int) 1 = true := ok128 A 1 (by omega) (by omega) (by omega)
  have k11 : okW 128 ((A + 1 : Nat) : Int) 1 = true := ok128 (A + 1) 1 (by omega) (by omega) (by omega)
  have k12 : okW 128 ((A + 2 : Nat) : Int) 1 = true := ok128 (A + 2) 1 (by omega) (by omega) (by omega)
  have k13 : okW 128 ((A + 3 : Nat) : Int) 1 = true := ok128 (A + 3) 1 (by omega) (by omega) (by omega)
  have rz : rngB 128 (fun _ => .int .u8 0) = true := rngB_iff.2 fun i _ => by simp [asN]
  have rs := rng_sto (A := A) (s := 4) (v := v) rz
  have l0 : ∀ k : Nat, (0 : Int) ≤ ((k : Nat) : Int) := Int.natCast_nonneg
  have l1 : (A : Int) ≤ 4294967295 := by omega
  have l2 : ((A + 1 : Nat) : Int) ≤ 4294967295 := by omega
  have l3 : ((A + 2 : Nat) : Int) ≤ 4294967295 := by omega
  have l4 : ((A + 3 : Nat) : Int) ≤ 4294967295 := by omega
  have f1 : Int.fdiv v 1 = v := by rw [fdivE (by omega)]; omega
  have f2 : Int.fdiv v 256 = v / 256 := fdivE (by omega)
  have f3 : Int.fdiv v 65536 = v / 65536 := fdivE (by omega)
  have f4 : Int.fdiv v 16777216 = v / 16777216 := fdivE (by omega)
  simp only [g0, g1, w0, e0, e1, e2, e3, u0, u1, u2, u3, k4, k2, k22, k1, k11, k12, k13, rs, l0, l1, l2, l3, l4, f1, f2, f3, f4, decide_true, decide_false, cond_true, cond_false, allN_true, Nat.le_refl, Int.toNat_natCast, Nat.beq_refl, pk_and, pk_or, Bool.not_true, Bool.not_false, not_true_eq_false, not_false_eq_true, Bool.and_true, Bool.true_and, Bool.and_self, ge_iff_le, Int.le_refl, if_true, if_false, reduceCtorEq, eq_self, BEq.rfl]
  have z : Nat → XV := fun _ => .int .u8 0
  have i0 : ∀ f : Nat → XV, o_sto true f A 4 v A = .int .u8 (v % 256) := fun f => by rw [sto_in (j := 0) (by omega) (by omega)]; simp
  have i1 : ∀ f : Nat → XV, o_sto true f A 4 v (A + 1) = .int .u8 (v / 256 % 256) := fun f => by rw [sto_in (j := 1) (by omega) (by omega)]; rfl
  have i2 : ∀ f : Nat → XV, o_sto true f A 4 v (A + 2) = .int .u8 (v / 65536 % 256) := fun f => by rw [sto_in (j := 2) (by omega) (by omega)]; rfl
  have i3 : ∀ f : Nat → XV, o_sto true f A 4 v (A + 3) = .int .u8 (v / 16777216 % 256) := fun f => by rw [sto_in (j := 3) (by omega) (by omega)]; rfl
  have x0 : ∀ w : Int, extI 26 w = w := fun w => by simp [extI]
  have x1 : ∀ w : Int, extI 28 w = w := fun w => by simp [extI]
  have x2 : ∀ w : Int, extI 30 w = w := fun w => by simp [extI]
  have d26 : loadI 128 (o_sto true (fun _ => .int .u8 0) A 4 v) 26 (A : Int) = v := by
    rw [ld_v (s := 4) (by omega) rfl k4, x0]
    simp only [Int.toNat_natCast, show (4 : Int).toNat = 4 from rfl, wrd, i0, i1, i2, i3, asN, Nat.add_zero, Nat.add_assoc, Nat.reduceAdd]
    omega
  have d28 : loadI 128 (o_sto true (fun _ => .int .u8 0) A 4 v) 28 (A : Int) = v % 65536 := by
    rw [ld_v (s := 2) (by omega) rfl k2, x1]
    simp only [Int.toNat_natCast, show (2 : Int).toNat = 2 from rfl, wrd, i0, i1, asN, Nat.add_zero, Nat.add_assoc, Nat.reduceAdd]
    omega
  have d282 : loadI 128 (o_sto true (fun _ => .int .u8 0) A 4 v) 28 ((A + 2 : Nat) : Int) = v / 65536 := by
    rw [ld_v (s := 2) (by omega) rfl k22, x1]
    simp only [Int.toNat_natCast, show (2 : Int).toNat = 2 from rfl, wrd, i2, i3, asN, Nat.add_zero, Nat.add_assoc, Nat.reduceAdd]
    omega
  have d300 : loadI 128 (o_sto true (fun _ => .int .u8 0) A 4 v) 30 (A : Int) = v % 256 := by
    rw [ld_v (s := 1) (by omega) rfl k1, x2]
    simp only [Int.toNat_natCast, show (1 : Int).toNat = 1 from rfl, wrd, i0, asN, Nat.add_zero, Nat.add_assoc, Nat.reduceAdd]
    omega
  have d301 : loadI 128 (o_sto true (fun _ => .int .u8 0) A 4 v) 30 ((A + 1 : Nat) : Int) = v / 256 % 256 := by
    rw [ld_v (s := 1) (by omega) rfl k11, x2]
    simp only [Int.toNat_natCast, show (1 : Int).toNat = 1 from rfl, wrd, i1, asN, Nat.add_zero, Nat.add_assoc, Nat.reduceAdd]
    omega
  have d302 : loadI 128 (o_sto true (fun _ => .int .u8 0) A 4 v) 30 ((A + 2 : Nat) : Int) = v / 65536 % 256 := by
    rw [ld_v (s := 1) (by omega) rfl k12, x2]
    simp only [Int.toNat_natCast, show (1 : Int).toNat = 1 from rfl, wrd, i2, asN, Nat.add_zero, Nat.add_assoc, Nat.reduceAdd]
    omega
  have d303 : loadI 128 (o_sto true (fun _ => .int .u8 0) A 4 v) 30 ((A + 3 : Nat) : Int) = v / 16777216 := by
    rw [ld_v (s := 1) (by omega) rfl k13, x2]
    simp only [Int.toNat_natCast, show (1 : Int).toNat = 1 from rfl, wrd, i3, asN, Nat.add_zero, Nat.add_assoc, Nat.reduceAdd]
    omega
  have o1 : bitsI .or .u32 (v % 65536) (IntKind.u32.wrap (v / 65536 * 65536)) = v := by
    rw [wU32, show v / 65536 * 65536 % 4294967296 = v / 65536 * 2 ^ 16 by rw [show (2 : Int) ^ 16 = 65536 by decide]; omega, or_u32 (k := 16) (by omega) (by rw [show (2 : Int) ^ 16 = 65536 by decide]; omega) (by omega) (by rw [show (2 : Int) ^ 16 = 65536 by decide]; omega), show (2 : Int) ^ 16 = 65536 by decide]
    omega
  have o2 : bitsI .or .u32 (v % 256) (IntKind.u32.wrap (v / 256 % 256 * 256)) = v % 65536 := by
    rw [wU32, show v / 256 % 256 * 256 % 4294967296 = v / 256 % 256 * 2 ^ 8 by rw [show (2 : Int) ^ 8 = 256 by decide]; omega, or_u32 (k := 8) (by omega) (by rw [show (2 : Int) ^ 8 = 256 by decide]; omega) (by omega) (by rw [show (2 : Int) ^ 8 = 256 by decide]; omega), show (2 : Int) ^ 8 = 256 by decide]
    omega
  have o3 : bitsI .or .u32 (v % 65536) (IntKind.u32.wrap (v / 65536 % 256 * 65536)) = v % 16777216 := by
    rw [wU32, show v / 65536 % 256 * 65536 % 4294967296 = v / 65536 % 256 * 2 ^ 16 by rw [show (2 : Int) ^ 16 = 65536 by decide]; omega, or_u32 (k := 16) (by omega) (by rw [show (2 : Int) ^ 16 = 65536 by decide]; omega) (by omega) (by rw [show (2 : Int) ^ 16 = 65536 by decide]; omega), show (2 : Int) ^ 16 = 65536 by decide]
    omega
  have o4 : bitsI .or .u32 (v % 16777216) (IntKind.u32.wrap (v / 16777216 * 16777216)) = v := by
    rw [wU32, show v / 16777216 * 16777216 % 4294967296 = v / 16777216 * 2 ^ 24 by rw [show (2 : Int) ^ 24 = 16777216 by decide]; omega, or_u32 (k := 24) (by omega) (by rw [show (2 : Int) ^ 24 = 16777216 by decide]; omega) (by omega) (by rw [show (2 : Int) ^ 24 = 16777216 by decide]; omega), show (2 : Int) ^ 24 = 16777216 by decide]
    omega
  have q : ∀ i : Nat, i = A ∨ i = A + 1 ∨ i = A + 2 ∨ i = A + 3 ∨ i < A ∨ A + 4 ≤ i := fun i => by omega
  have s1 : strEq 128 (fun i => bif decide (A ≤ i) && decide (i < A + 4) then v / 2 ^ (8 * (i - A)) % 256 else 0) 128 (fun i => bif decide (A + 2 ≤ i) && decide (i < A + 2 + 2) then v / 65536 / 2 ^ (8 * (i - (A + 2))) % 256 else bif decide (A ≤ i) && decide (i < A + 2) then v / 2 ^ (8 * (i - A)) % 256 else 0) = true := by
    refine strEq_of fun i _ => ?_
    rcases q i with rfl | rfl | rfl | rfl | h | h
    · simp [show ¬ i + 2 ≤ i by omega]
    · simp [show ¬ A + 2 ≤ A + 1 by omega]
    · simp
    · simp [show A + 2 ≤ A + 3 by omega, show A + 3 - (A + 2) = 1 by omega]
      try omega
    · simp [show ¬ A ≤ i by omega, show ¬ A + 2 ≤ i by omega]
    · simp [show ¬ i < A + 4 by omega, show ¬ i < A + 2 + 2 by omega, show ¬ i < A + 2 by omega]
  have s2 : strEq 128 (fun i => bif decide (A ≤ i) && decide (i < A + 4) then v / 2 ^ (8 * (i - A)) % 256 else 0) 128 (fun i => bif decide (A + 3 ≤ i) && decide (i < A + 3 + 1) then v / 16777216 / 2 ^ (8 * (i - (A + 3))) % 256 else bif decide (A + 2 ≤ i) && decide (i < A + 2 + 1) then v / 65536 / 2 ^ (8 * (i - (A + 2))) % 256 else bif decide (A + 1 ≤ i) && decide (i < A + 1 + 1) then v / 256 / 2 ^ (8 * (i - (A + 1))) % 256 else bif decide (A ≤ i) && decide (i < A + 1) then v / 2 ^ (8 * (i - A)) % 256 else 0) = true := by
    refine strEq_of fun i _ => ?_
    rcases q i with rfl | rfl | rfl | rfl | h | h
    · simp [show ¬ i + 3 ≤ i by omega, show ¬ i + 2 ≤ i by omega, show ¬ i + 1 ≤ i by omega]
    · simp [show ¬ A + 3 ≤ A + 1 by omega, show ¬ A + 2 ≤ A + 1 by omega]
    · simp [show ¬ A + 3 ≤ A + 2 by omega]
    · simp
    · simp [show ¬ A + 3 ≤ i by omega, show ¬ A + 2 ≤ i by omega, show ¬ A + 1 ≤ i by omega, show ¬ A ≤ i by omega]
    · simp [show ¬ i < A + 4 by omega, show ¬ i < A + 3 + 1 by omega, show ¬ i < A + 2 + 1 by omega, show ¬ i < A + 1 + 1 by omega, show ¬ i < A + 1 by omega]
  simp only [s1, s2, d26, d28, d282, d300, d301, d302, d303, o1, o2, o3, o4, decide_true, decide_false, cond_true, cond_false, allN_true, Nat.le_refl, Int.toNat_natCast, Nat.beq_refl, pk_and, pk_or, Bool.not_true, Bool.not_false, not_true_eq_false, not_false_eq_true, Bool.and_true, Bool.true_and, Bool.and_self, ge_iff_le, Int.le_refl, if_true, if_false, reduceCtorEq, eq_self, BEq.rfl]
end Go.Proofs.Ytihhfmdihhmbdaa
namespace Go.Proofs.Ytihhfmdihhmbdaa.bytesShares
open Go.Ra Go.ChangeShapes Go.WideShapes Go.ChangeAt Go.RowKit
open Go.ChangeMaps (open_string shut_string)
theorem own : ownKnob Try.prog.godebug = none := by kernel_rfl
def Ts : List Ty := [.int .u32, .int .i64]
theorem law (xs : List AV) (h : Ty.hasL Ts xs) : Pure Try.prog 11 xs (.sc (.bool true)) := by
  have h0 := h
  simp only [Ts, Ty.hasL] at h0
  obtain ⟨w, _, rfl, hw, a, _, rfl, ha, rfl⟩ := h0
  exact lawX h (sha_pure _ _ (has_u32 hw).1 (has_u32 hw).2)
set_option maxRecDepth 100000 in
theorem lifted (os : Os) (started : os.Started) (H : Type) (enc : TypeId × Value → H) :
    ReturnsInHanded {} Try.checked os 11 .any (Rows.bytesSharesSpec.pre6 enc Try.prog Try.f11 Rows.bytesSharesRow.domain false) (Rows.bytesSharesSpec.post enc Try.prog Try.f11 false true false false) := by
  refine returnsInHanded_of_change_sized (C := Try.checked) own started (by kernel_rfl) Try.func11
    (ChangeSpec.witness6 (enc := enc) (C := Try.checked) false ⟨#[], #[.int .u32 0, .int .i64 0], []⟩ 8 (by kernel_rfl) (by kernel_rfl) (by kernel_rfl) (by kernel_rfl)) ?_
  intro W base args ds gs before hval hW hcnd hsz _
  refine law_post (s := Rows.bytesSharesSpec) (n := 60) (Ts := Ts) (ts := [24, 3]) (tb := 4) (by kernel_rfl) rfl rfl Try.underlying4 rfl (by kernel_rfl) (by kernel_rfl) (fun ds hds => ?_) law W base args ds gs before hval hW hsz
  match ds, hds with
  | [d1, d2], _ => exact ⟨rfl, rfl, rfl⟩
theorem over : Rows.bytesSharesRow.holds Try.pinned (OpenSpec.ofChange Rows.bytesSharesSpec) :=
  OpenClaim.holds_of_wide 11 Try.f11 rfl rfl rfl rfl rfl rfl rfl ⟨rfl, rfl, rfl, rfl, rfl⟩ rfl rfl rfl rfl rfl (by kernel_rfl) Try.func11 (by kernel_rfl)
    (of_decide_eq_true (by kernel_rfl)) (by unfold Func.isWrapper; first | (rw [if_pos (by decide +kernel)]; kernel_rfl) | (rw [if_neg (by decide +kernel)]; exact ⟨rfl, rfl⟩))
    (fun os started H enc _ => lifted os started H enc)
theorem proved : Rows.BytesSharesSaid := over
end Go.Proofs.Ytihhfmdihhmbdaa.bytesShares
namespace Go.Proofs.Ytihhfmdihhmbdaa
/-- The row, under a short name, for the claim. -/
theorem bytesShares_holds : Rows.BytesSharesSaid := bytesShares.proved
end Go.Proofs.Ytihhfmdihhmbdaa
#print axioms Go.Proofs.Ytihhfmdihhmbdaa.bytesShares_holds
