/- How many bytes operations have, which addresses are wrong, what is read, what a write leaves, and which stretches have a byte together. -/
import Derived.Test.YtfobbfdbojednaaRows
import Derived.Test.YtfobbfdbojednaaBy4
import Derived.Test.YtfobbfdbojednaaKlaw5
import Derived.WalkKit
import Derived.ProofKit
import Derived.OpenShut
import Derived.ShutString
import Derived.ChangeOld
import Derived.Below
import Derived.SizedLaws
namespace Go.Proofs.Ytfobbfdbojednaa
open Go.Ra
set_option linter.unusedVariables false
set_option linter.unusedSimpArgs false
def TBt : Tab := mkT qq (cl_law5 ++ cl_bytes ++ cl_ref1 ++ cl_slices) [(11, szSp), (12, szSp), (13, chkSp), (14, chkSp), (15, loadSp), (16, loadSp), (17, stoSp), (18, stoSp), (19, ovlSp), (20, ovlSp)] gl_slices
def tU8 : Ty := .int .u8
theorem TBtok : TabOk Try.prog TBt := mkT_ok (((clok_law5.app clok_bytes).app clok_ref1).app clok_slices) ⟨sp_size1, sp_size2, sp_check1, sp_check2, sp_load, sp_rload, sp_sto, sp_rsto, sp_ovl, sp_rovl, trivial⟩ glok_slices
theorem r_btell (m : AV) (op size n addr wa ws wv a b c d : Int) (r : AV) : (goS Try.prog TBt [(.tmp 20)] r (.run c_law5_BytesTell) [] ⟨envX 0 [.row false 1 (avN m) (o_el tU8 m), .int .i64 op, .int .i64 size, .int .i64 n, .int .u32 addr, .agg 3 [.int .i64 wa, .int .i64 ws, .int .u32 wv], .int .i64 a, .int .i64 b, .int .i64 c, .int .i64 d], [], 0⟩) =
    (bif decide ((↑(avN m) : Int) > (300 : Int)) then con (XV.bool true) = r
else
  bif bif decide (szI op = szI op) then decide (szI op = szI op) else true then
    bif bif decide (avN m * (1 : Nat) ≤ (140737488355328 : Nat)) then true else !bif decide (szI op = szI op) then decide (chkI size addr n = chkI size addr n) else false then
      bif bif decide (avN m ≤ (1099511627776 : Nat)) then true else !bif decide (szI op = szI op) then decide (chkI size addr n = chkI size addr n) else false then
        bif bif allN (fun (i : Nat) => true) (avN m) then true else !bif decide (szI op = szI op) then decide (chkI size addr n = chkI size addr n) else false then
          bif bif rngB (avN m) (o_el tU8 m) then true else !bif decide (szI op = szI op) then decide (chkI size addr n = chkI size addr n) else false then
            bif bif decide ((0 : Int) ≤ addr) then true else !bif decide (szI op = szI op) then decide (chkI size addr n = chkI size addr n) else false then
              bif bif decide (addr ≤ (4294967295 : Int)) then true else !bif decide (szI op = szI op) then decide (chkI size addr n = chkI size addr n) else false then
                bif bif decide (avN m ≤ (1099511627776 : Nat)) then true else !bif decide (szI op = szI op) then decide (chkI size addr n = chkI size addr n) else false then
                  bif bif allN (fun (i : Nat) => true) (avN m) then true else !bif decide (szI op = szI op) then decide (chkI size addr n = chkI size addr n) else false then
                    bif bif rngB (avN m) (o_el tU8 m) then true else !bif decide (szI op = szI op) then decide (chkI size addr n = chkI size addr n) else false then
                      bif bif decide ((0 : Int) ≤ addr) then true else !bif decide (szI op = szI op) then decide (chkI size addr n = chkI size addr n) else false then
                        bif bif decide (addr ≤ (4294967295 : Int)) then true else !bif decide (szI op = szI op) then decide (chkI size addr n = chkI size addr n) else false then
                          bif
                              bif bif decide (szI op = szI op) then decide (chkI size addr n = chkI size addr n) else false then
                                bif decide (szI op = szI op) then decide (chkI size addr n = chkI size addr n) else false
                              else true then
                            bif
                                bif decide (avN m * (1 : Nat) ≤ (140737488355328 : Nat)) then true
                                else
                                  !bif bif decide (szI op = szI op) then decide (chkI size addr n = chkI size addr n) else false then
                                      decide (loadI (avN m) (o_el tU8 m) op addr = loadI (avN m) (o_el tU8 m) op addr)
                                    else false then
                              bif
                                  bif decide (avN m ≤ (1099511627776 : Nat)) then true
                                  else
                                    !bif bif decide (szI op = szI op) then decide (chkI size addr n = chkI size addr n) else false then
                                        decide (loadI (avN m) (o_el tU8 m) op addr = loadI (avN m) (o_el tU8 m) op addr)
                                      else false then
                                bif
                                    bif allN (fun (i : Nat) => true) (avN m) then true
                                    else
                                      !bif bif decide (szI op = szI op) then decide (chkI size addr n = chkI size addr n) else false then
                                          decide (loadI (avN m) (o_el tU8 m) op addr = loadI (avN m) (o_el tU8 m) op addr)
                                        else false then
                                  bif
                                      bif allN (fun (i : Nat) => true) (avN m) then true
                                      else
                                        !bif bif decide (szI op = szI op) then decide (chkI size addr n = chkI size addr n) else false then
                                            decide (loadI (avN m) (o_el tU8 m) op addr = loadI (avN m) (o_el tU8 m) op addr)
                                          else false then
                                    bif
                                        bif decide (avN m ≤ (1099511627776 : Nat)) then true
                                        else
                                          !bif bif decide (szI op = szI op) then decide (chkI size addr n = chkI size addr n) else false then
                                              decide (loadI (avN m) (o_el tU8 m) op addr = loadI (avN m) (o_el tU8 m) op addr)
                                            else false then
                                      bif
                                          bif allN (fun (i : Nat) => true) (avN m) then true
                                          else
                                            !bif bif decide (szI op = szI op) then decide (chkI size addr n = chkI size addr n) else false then
                                                decide (loadI (avN m) (o_el tU8 m) op addr = loadI (avN m) (o_el tU8 m) op addr)
                                              else false then
                                        bif
                                            bif allN (fun (i : Nat) => true) (avN m) then true
                                            else
                                              !bif bif decide (szI op = szI op) then decide (chkI size addr n = chkI size addr n) else false then
                                                  decide (loadI (avN m) (o_el tU8 m) op addr = loadI (avN m) (o_el tU8 m) op addr)
                                                else false then
                                          bif
                                              bif
                                                  bif bif decide (szI op = szI op) then decide (chkI size addr n = chkI size addr n) else false then
                                                    decide (loadI (avN m) (o_el tU8 m) op addr = loadI (avN m) (o_el tU8 m) op addr)
                                                  else false then
                                                bif bif decide (szI op = szI op) then decide (chkI size addr n = chkI size addr n) else false then
                                                  decide (loadI (avN m) (o_el tU8 m) op addr = loadI (avN m) (o_el tU8 m) op addr)
                                                else false
                                              else true then
                                            bif
                                                bif i64B a then true
                                                else
                                                  !bif
                                                        bif bif decide (szI op = szI op) then decide (chkI size addr n = chkI size addr n) else false then
                                                          decide (loadI (avN m) (o_el tU8 m) op addr = loadI (avN m) (o_el tU8 m) op addr)
                                                        else false then
                                                      strEq (avN m)
                                                        (fun (i : Nat) =>
                                                          bif okW (avN m) wa ws && (decide (Int.toNat wa ≤ i) && decide (i < Int.toNat wa + Int.toNat ws)) then
                                                            wv / (2 : Int) ^ ((8 : Nat) * (i - Int.toNat wa)) % (256 : Int)
                                                          else avI (avAt m i))
                                                        (avN m) fun (i : Nat) =>
                                                        bif okW (avN m) wa ws && (decide (Int.toNat wa ≤ i) && decide (i < Int.toNat wa + Int.toNat ws)) then
                                                          wv / (2 : Int) ^ ((8 : Nat) * (i - Int.toNat wa)) % (256 : Int)
                                                        else avI (avAt m i)
                                                    else false then
                                              bif
                                                  bif i64B b then true
                                                  else
                                                    !bif
                                                          bif bif decide (szI op = szI op) then decide (chkI size addr n = chkI size addr n) else false then
                                                            decide (loadI (avN m) (o_el tU8 m) op addr = loadI (avN m) (o_el tU8 m) op addr)
                                                          else false then
                                                        strEq (avN m)
                                                          (fun (i : Nat) =>
                                                            bif okW (avN m) wa ws && (decide (Int.toNat wa ≤ i) && decide (i < Int.toNat wa + Int.toNat ws)) then
                                                              wv / (2 : Int) ^ ((8 : Nat) * (i - Int.toNat wa)) % (256 : Int)
                                                            else avI (avAt m i))
                                                          (avN m) fun (i : Nat) =>
                                                          bif okW (avN m) wa ws && (decide (Int.toNat wa ≤ i) && decide (i < Int.toNat wa + Int.toNat ws)) then
                                                            wv / (2 : Int) ^ ((8 : Nat) * (i - Int.toNat wa)) % (256 : Int)
                                                          else avI (avAt m i)
                                                      else false then
                                                bif
                                                    bif i64B c then true
                                                    else
                                                      !bif
                                                            bif bif decide (szI op = szI op) then decide (chkI size addr n = chkI size addr n) else false then
                                                              decide (loadI (avN m) (o_el tU8 m) op addr = loadI (avN m) (o_el tU8 m) op addr)
                                                            else false then
                                                          strEq (avN m)
                                                            (fun (i : Nat) =>
                                                              bif okW (avN m) wa ws && (decide (Int.toNat wa ≤ i) && decide (i < Int.toNat wa + Int.toNat ws)) then
                                                                wv / (2 : Int) ^ ((8 : Nat) * (i - Int.toNat wa)) % (256 : Int)
                                                              else avI (avAt m i))
                                                            (avN m) fun (i : Nat) =>
                                                            bif okW (avN m) wa ws && (decide (Int.toNat wa ≤ i) && decide (i < Int.toNat wa + Int.toNat ws)) then
                                                              wv / (2 : Int) ^ ((8 : Nat) * (i - Int.toNat wa)) % (256 : Int)
                                                            else avI (avAt m i)
                                                        else false then
                                                  bif
                                                      bif i64B d then true
                                                      else
                                                        !bif
                                                              bif bif decide (szI op = szI op) then decide (chkI size addr n = chkI size addr n) else false then
                                                                decide (loadI (avN m) (o_el tU8 m) op addr = loadI (avN m) (o_el tU8 m) op addr)
                                                              else false then
                                                            strEq (avN m)
                                                              (fun (i : Nat) =>
                                                                bif okW (avN m) wa ws && (decide (Int.toNat wa ≤ i) && decide (i < Int.toNat wa + Int.toNat ws)) then
                                                                  wv / (2 : Int) ^ ((8 : Nat) * (i - Int.toNat wa)) % (256 : Int)
                                                                else avI (avAt m i))
                                                              (avN m) fun (i : Nat) =>
                                                              bif okW (avN m) wa ws && (decide (Int.toNat wa ≤ i) && decide (i < Int.toNat wa + Int.toNat ws)) then
                                                                wv / (2 : Int) ^ ((8 : Nat) * (i - Int.toNat wa)) % (256 : Int)
                                                              else avI (avAt m i)
                                                          else false then
                                                    bif
                                                        bif i64B a then true
                                                        else
                                                          !bif
                                                                bif bif decide (szI op = szI op) then decide (chkI size addr n = chkI size addr n) else false then
                                                                  decide (loadI (avN m) (o_el tU8 m) op addr = loadI (avN m) (o_el tU8 m) op addr)
                                                                else false then
                                                              strEq (avN m)
                                                                (fun (i : Nat) =>
                                                                  bif okW (avN m) wa ws && (decide (Int.toNat wa ≤ i) && decide (i < Int.toNat wa + Int.toNat ws)) then
                                                                    wv / (2 : Int) ^ ((8 : Nat) * (i - Int.toNat wa)) % (256 : Int)
                                                                  else avI (avAt m i))
                                                                (avN m) fun (i : Nat) =>
                                                                bif okW (avN m) wa ws && (decide (Int.toNat wa ≤ i) && decide (i < Int.toNat wa + Int.toNat ws)) then
                                                                  wv / (2 : Int) ^ ((8 : Nat) * (i - Int.toNat wa)) % (256 : Int)
                                                                else avI (avAt m i)
                                                            else false then
                                                      bif
                                                          bif i64B b then true
                                                          else
                                                            !bif
                                                                  bif bif decide (szI op = szI op) then decide (chkI size addr n = chkI size addr n) else false then
                                                                    decide (loadI (avN m) (o_el tU8 m) op addr = loadI (avN m) (o_el tU8 m) op addr)
                                                                  else false then
                                                                strEq (avN m)
                                                                  (fun (i : Nat) =>
                                                                    bif okW (avN m) wa ws && (decide (Int.toNat wa ≤ i) && decide (i < Int.toNat wa + Int.toNat ws)) then
                                                                      wv / (2 : Int) ^ ((8 : Nat) * (i - Int.toNat wa)) % (256 : Int)
                                                                    else avI (avAt m i))
                                                                  (avN m) fun (i : Nat) =>
                                                                  bif okW (avN m) wa ws && (decide (Int.toNat wa ≤ i) && decide (i < Int.toNat wa + Int.toNat ws)) then
                                                                    wv / (2 : Int) ^ ((8 : Nat) * (i - Int.toNat wa)) % (256 : Int)
                                                                  else avI (avAt m i)
                                                              else false then
                                                        bif
                                                            bif i64B c then true
                                                            else
                                                              !bif
                                                                    bif bif decide (szI op = szI op) then decide (chkI size addr n = chkI size addr n) else false then
                                                                      decide (loadI (avN m) (o_el tU8 m) op addr = loadI (avN m) (o_el tU8 m) op addr)
                                                                    else false then
                                                                  strEq (avN m)
                                                                    (fun (i : Nat) =>
                                                                      bif okW (avN m) wa ws && (decide (Int.toNat wa ≤ i) && decide (i < Int.toNat wa + Int.toNat ws)) then
                                                                        wv / (2 : Int) ^ ((8 : Nat) * (i - Int.toNat wa)) % (256 : Int)
                                                                      else avI (avAt m i))
                                                                    (avN m) fun (i : Nat) =>
                                                                    bif okW (avN m) wa ws && (decide (Int.toNat wa ≤ i) && decide (i < Int.toNat wa + Int.toNat ws)) then
                                                                      wv / (2 : Int) ^ ((8 : Nat) * (i - Int.toNat wa)) % (256 : Int)
                                                                    else avI (avAt m i)
                                                                else false then
                                                          bif
                                                              bif i64B d then true
                                                              else
                                                                !bif
                                                                      bif bif decide (szI op = szI op) then decide (chkI size addr n = chkI size addr n) else false then
                                                                        decide (loadI (avN m) (o_el tU8 m) op addr = loadI (avN m) (o_el tU8 m) op addr)
                                                                      else false then
                                                                    strEq (avN m)
                                                                      (fun (i : Nat) =>
                                                                        bif okW (avN m) wa ws && (decide (Int.toNat wa ≤ i) && decide (i < Int.toNat wa + Int.toNat ws)) then
                                                                          wv / (2 : Int) ^ ((8 : Nat) * (i - Int.toNat wa)) % (256 : Int)
                                                                        else avI (avAt m i))
                                                                      (avN m) fun (i : Nat) =>
                                                                      bif okW (avN m) wa ws && (decide (Int.toNat wa ≤ i) && decide (i < Int.toNat wa + Int.toNat ws)) then
                                                                        wv / (2 : Int) ^ ((8 : Nat) * (i - Int.toNat wa)) % (256 : Int)
                                                                      else avI (avAt m i)
                                                                  else false then
                                                            bif
                                                                bif
                                                                    bif
                                                                        bif bif decide (szI op = szI op) then decide (chkI size addr n = chkI size addr n) else false then
                                                                          decide (loadI (avN m) (o_el tU8 m) op addr = loadI (avN m) (o_el tU8 m) op addr)
                                                                        else false then
                                                                      strEq (avN m)
                                                                        (fun (i : Nat) =>
                                                                          bif okW (avN m) wa ws && (decide (Int.toNat wa ≤ i) && decide (i < Int.toNat wa + Int.toNat ws)) then
                                                                            wv / (2 : Int) ^ ((8 : Nat) * (i - Int.toNat wa)) % (256 : Int)
                                                                          else avI (avAt m i))
                                                                        (avN m) fun (i : Nat) =>
                                                                        bif okW (avN m) wa ws && (decide (Int.toNat wa ≤ i) && decide (i < Int.toNat wa + Int.toNat ws)) then
                                                                          wv / (2 : Int) ^ ((8 : Nat) * (i - Int.toNat wa)) % (256 : Int)
                                                                        else avI (avAt m i)
                                                                    else false then
                                                                  bif
                                                                      bif bif decide (szI op = szI op) then decide (chkI size addr n = chkI size addr n) else false then
                                                                        decide (loadI (avN m) (o_el tU8 m) op addr = loadI (avN m) (o_el tU8 m) op addr)
                                                                      else false then
                                                                    strEq (avN m)
                                                                      (fun (i : Nat) =>
                                                                        bif okW (avN m) wa ws && (decide (Int.toNat wa ≤ i) && decide (i < Int.toNat wa + Int.toNat ws)) then
                                                                          wv / (2 : Int) ^ ((8 : Nat) * (i - Int.toNat wa)) % (256 : Int)
                                                                        else avI (avAt m i))
                                                                      (avN m) fun (i : Nat) =>
                                                                      bif okW (avN m) wa ws && (decide (Int.toNat wa ≤ i) && decide (i < Int.toNat wa + Int.toNat ws)) then
                                                                        wv / (2 : Int) ^ ((8 : Nat) * (i - Int.toNat wa)) % (256 : Int)
                                                                      else avI (avAt m i)
                                                                  else false
                                                                else true then
                                                              con
                                                                  (XV.bool
                                                                    (bif
                                                                        bif
                                                                            bif bif decide (szI op = szI op) then decide (chkI size addr n = chkI size addr n) else false then
                                                                              decide (loadI (avN m) (o_el tU8 m) op addr = loadI (avN m) (o_el tU8 m) op addr)
                                                                            else false then
                                                                          strEq (avN m)
                                                                            (fun (i : Nat) =>
                                                                              bif okW (avN m) wa ws && (decide (Int.toNat wa ≤ i) && decide (i < Int.toNat wa + Int.toNat ws)) then
                                                                                wv / (2 : Int) ^ ((8 : Nat) * (i - Int.toNat wa)) % (256 : Int)
                                                                              else avI (avAt m i))
                                                                            (avN m) fun (i : Nat) =>
                                                                            bif okW (avN m) wa ws && (decide (Int.toNat wa ≤ i) && decide (i < Int.toNat wa + Int.toNat ws)) then
                                                                              wv / (2 : Int) ^ ((8 : Nat) * (i - Int.toNat wa)) % (256 : Int)
                                                                            else avI (avAt m i)
                                                                        else false then
                                                                      ovlB a b c d == ovlB a b c d
                                                                    else false)) =
                                                                r
                                                            else False
                                                          else False
                                                        else False
                                                      else False
                                                    else False
                                                  else False
                                                else False
                                              else False
                                            else False
                                          else False
                                        else False
                                      else False
                                    else False
                                  else False
                                else False
                              else False
                            else False
                          else False
                        else False
                      else False
                    else False
                  else False
                else False
              else False
            else False
          else False
        else False
      else False
    else False
  else False) := by kernel_rfl
theorem btell_pure (m : AV) (op size n addr wa ws wv a b c d : Int) (hb : rngB (avN m) (o_el tU8 m) = true) (h0 : 0 ≤ addr) (h1 : addr ≤ 4294967295) (ha : i64B a = true) (hb2 : i64B b = true) (hc : i64B c = true) (hd : i64B d = true) :
    Pure Try.prog 3 (cons [.row false 1 (avN m) (o_el tU8 m), .int .i64 op, .int .i64 size, .int .i64 n, .int .u32 addr, .agg 3 [.int .i64 wa, .int .i64 ws, .int .u32 wv], .int .i64 a, .int .i64 b, .int .i64 c, .int .i64 d]) (con (.bool true)) := by
  refine pureS mix TBtok t_law5_BytesTell (Nat.le_of_ble_eq_true rfl) ?_
  rw [r_btell]
  by_cases h : ((avN m : Nat) : Int) > 300
  · simp only [h, decide_true, decide_false, cond_true, cond_false, allN_true, Nat.le_refl, Int.toNat_natCast, Nat.beq_refl, pk_and, pk_or, Bool.not_true, Bool.not_false, not_true_eq_false, not_false_eq_true, Bool.and_true, Bool.true_and, Bool.and_self, ge_iff_le, Int.le_refl, if_true, if_false, reduceCtorEq, eq_self, BEq.rfl]
  · have h2 : avN m * 1 ≤ 140737488355328 := by omega
    have h3 : avN m ≤ 1099511627776 := by omega
    simp only [h, h2, h3, hb, h0, h1, ha, hb2, hc, hd, strEq_self, decide_true, decide_false, cond_true, cond_false, allN_true, Nat.le_refl, Int.toNat_natCast, Nat.beq_refl, pk_and, pk_or, Bool.not_true, Bool.not_false, not_true_eq_false, not_false_eq_true, Bool.and_true, Bool.true_and, Bool.and_self, ge_iff_le, Int.le_refl, if_true, if_false, reduceCtorEq, eq_self, BEq.rfl]
end Go.Proofs.Ytfobbfdbojednaa
namespace Go.Proofs.Ytfobbfdbojednaa.bytesTell
open Go.Ra Go.ChangeShapes Go.WideShapes Go.ChangeAt Go.RowKit
open Go.ChangeMaps (open_string shut_string)
theorem own : ownKnob Try.prog.godebug = none := by kernel_rfl
def Ts : List Ty := [.slice 1 1 tU8, .int .i64, .int .i64, .int .i64, .int .u32, .agg 3 [.int .i64, .int .i64, .int .u32], .int .i64, .int .i64, .int .i64, .int .i64]
theorem law (xs : List AV) (h : Ty.hasL Ts xs) : Pure Try.prog 3 xs (.sc (.bool true)) := by
  have h0 := h
  simp only [Ts, Ty.hasL] at h0
  obtain ⟨m, _, rfl, hm, op, _, rfl, _, sz, _, rfl, _, n, _, rfl, _, ad, _, rfl, had, w, _, rfl, hw, a, _, rfl, ha, b, _, rfl, hb, c, _, rfl, hc, d, _, rfl, hd, rfl⟩ := h0
  exact lawX h (btell_pure m _ _ _ _ _ _ _ _ _ _ _ (rng_el hm rfl) (has_u32 had).1 (has_u32 had).2 (i64B_iff.2 (has_i64 ha)) (i64B_iff.2 (has_i64 hb)) (i64B_iff.2 (has_i64 hc)) (i64B_iff.2 (has_i64 hd)))
set_option maxRecDepth 100000 in
theorem lifted (os : Os) (started : os.Started) (H : Type) (enc : TypeId × Value → H) :
    ReturnsInHanded {} Try.checked os 3 .any (Rows.bytesTellSpec.pre6 enc Try.prog Try.f3 Rows.bytesTellRow.domain false) (Rows.bytesTellSpec.post enc Try.prog Try.f3 false true false false) := by
  refine returnsInHanded_of_change_sized (C := Try.checked) own started (by kernel_rfl) Try.func3
    (ChangeSpec.witness6 (enc := enc) (C := Try.checked) false ⟨#[], #[.slice none 0 0, .int .i64 0, .int .i64 0, .int .i64 0, .int .u32 0, .agg #[.int .i64 0, .int .i64 0, .int .u32 0], .int .i64 0, .int .i64 0, .int .i64 0, .int .i64 0], []⟩ 8 (by kernel_rfl) (by kernel_rfl) (by kernel_rfl) (by kernel_rfl)) ?_
  intro W base args ds gs before hval hW hcnd hsz _
  refine law_post (s := Rows.bytesTellSpec) (n := 60) (Ts := Ts) (ts := [22, 3, 3, 3, 23, 25, 3, 3, 3, 3]) (tb := 4) (by kernel_rfl) rfl rfl Try.underlying4 rfl (by kernel_rfl) (by kernel_rfl) (fun ds hds => ?_) law W base args ds gs before hval hW hsz
  match ds, hds with
  | [d1, d2, d3, d4, d5, d6, d7, d8, d9, d10], _ => exact ⟨rfl, rfl, rfl⟩
theorem over : Rows.bytesTellRow.holds Try.pinned (OpenSpec.ofChange Rows.bytesTellSpec) :=
  OpenClaim.holds_of_wide 3 Try.f3 rfl rfl rfl rfl rfl rfl rfl ⟨rfl, rfl, rfl, rfl, rfl⟩ rfl rfl rfl rfl rfl (by kernel_rfl) Try.func3 (by kernel_rfl)
    (of_decide_eq_true (by kernel_rfl)) (by unfold Func.isWrapper; first | (rw [if_pos (by decide +kernel)]; kernel_rfl) | (rw [if_neg (by decide +kernel)]; exact ⟨rfl, rfl⟩))
    (fun os started H enc _ => lifted os started H enc)
theorem proved : Rows.BytesTellSaid := over
end Go.Proofs.Ytfobbfdbojednaa.bytesTell
namespace Go.Proofs.Ytfobbfdbojednaa
/-- The row, under a short name, for the claim. -/
theorem bytesTell_holds : Rows.BytesTellSaid := bytesTell.proved
end Go.Proofs.Ytfobbfdbojednaa
#print axioms Go.Proofs.Ytfobbfdbojednaa.bytesTell_holds
