/- What any queue of slots is with a place more, with one filled, and without its first. -/
import Derived.Test.YtmlnhecgcbohkaaRows
import Derived.Test.YtmlnhecgcbohkaaS4
import Derived.Test.YtmlnhecgcbohkaaRaZg
import Derived.WalkKit
import Derived.ProofKit
import Derived.OpenShut
import Derived.ShutString
import Derived.ChangeOld
import Derived.Below
import Derived.SizedLaws
namespace Go.Proofs.Ytmlnhecgcbohkaa
open Go.Ra
set_option linter.unusedVariables false
set_option linter.unusedSimpArgs false
def TSt : Tab := mkT qq (cl_law16 ++ cl_slots ++ cl_slices ++ cl_ref15) [(25, sameS 3 kSl u_eqSl), (21, fillSp), (22, fillSp), (47, idxSp), (19, resSp), (20, resSp), (23, popSp), (24, popSp)] (gl_slices ++ gl_ref15)
def tSl : Ty := .agg 3 [.int .i64, .bool, .int .u32]
theorem TStok : TabOk Try.prog TSt := mkT_ok (((clok_law16.app clok_slots).app clok_slices).app clok_ref15) ⟨sp_law16_same, sp_fill, sp_rfill, sp_idx, sp_res, sp_rres, sp_pop, sp_rpop, trivial⟩ (glok_slices.app glok_ref15)
theorem r_tell (a n tag w : AV) (r : AV) : (goS Try.prog TSt [(.tmp 8)] r (.run c_law16_SlotsTell) [] ⟨envX 0 ([.row false 3 (avN a) (o_el tSl a), .int .i64 (avI n), .int .i64 (avI tag), .int .u32 (avI w)]), [], 0⟩) =
    (bif decide ((↑(avN a) : Int) > (100 : Int)) then con (XV.bool true) = r
else
  bif decide (avN a * (16 : Nat) ≤ (140737488355328 : Nat)) then
    bif decide (avN a ≤ (1000000 : Nat)) then
      bif allN (fun (i : Nat) => true) (avN a) then
        bif decide (avN a ≤ (1000000 : Nat)) then
          bif allN (fun (i : Nat) => true) (avN a) then
            bif decide (avN a * (16 : Nat) ≤ (140737488355328 : Nat)) then
              bif decide (avN a ≤ (1000000 : Nat)) then
                bif allN (fun (i : Nat) => true) (avN a) then
                  bif decide (avN a ≤ (1000000 : Nat)) then
                    bif allN (fun (i : Nat) => true) (avN a) then
                      bif decide (avN a * (16 : Nat) ≤ (140737488355328 : Nat)) then
                        bif decide (avN a ≤ (1000000 : Nat)) then
                          bif allN (fun (i : Nat) => true) (avN a) then
                            bif decide (avN a ≤ (1000000 : Nat)) then
                              bif allN (fun (i : Nat) => true) (avN a) then
                                bif decide ((bif decide ((↑(avN a) : Int) ≥ avI n) then avN a else avN a + (1 : Nat)) ≤ (4611686018427387904 : Nat)) then
                                  bif allN (fun (i : Nat) => true) (bif decide ((↑(avN a) : Int) ≥ avI n) then avN a else avN a + (1 : Nat)) then
                                    bif allN (fun (i : Nat) => true) (bif decide ((↑(avN a) : Int) ≥ avI n) then avN a else avN a + (1 : Nat)) then
                                      bif
                                          bif
                                              eqRow u_eqSl (bif decide ((↑(avN a) : Int) ≥ avI n) then avN a else avN a + (1 : Nat))
                                                (bif decide ((↑(avN a) : Int) ≥ avI n) then avN a else avN a + (1 : Nat)) (o_res (avN a) (o_el tSl a) (avI tag))
                                                (o_res (avN a) (o_el tSl a) (avI tag)) then
                                            eqRow u_eqSl (bif decide ((↑(avN a) : Int) ≥ avI n) then avN a else avN a + (1 : Nat))
                                              (bif decide ((↑(avN a) : Int) ≥ avI n) then avN a else avN a + (1 : Nat)) (o_res (avN a) (o_el tSl a) (avI tag)) (o_res (avN a) (o_el tSl a) (avI tag))
                                          else true then
                                        bif
                                            bif decide (avN a ≤ (4611686018427387904 : Nat)) then true
                                            else
                                              !bif
                                                    eqRow u_eqSl (bif decide ((↑(avN a) : Int) ≥ avI n) then avN a else avN a + (1 : Nat))
                                                      (bif decide ((↑(avN a) : Int) ≥ avI n) then avN a else avN a + (1 : Nat)) (o_res (avN a) (o_el tSl a) (avI tag))
                                                      (o_res (avN a) (o_el tSl a) (avI tag)) then
                                                  (!decide ((↑(avN a) : Int) ≥ avI n)) == !decide ((↑(avN a) : Int) ≥ avI n)
                                                else false then
                                          bif
                                              bif allN (fun (i : Nat) => true) (avN a) then true
                                              else
                                                !bif
                                                      eqRow u_eqSl (bif decide ((↑(avN a) : Int) ≥ avI n) then avN a else avN a + (1 : Nat))
                                                        (bif decide ((↑(avN a) : Int) ≥ avI n) then avN a else avN a + (1 : Nat)) (o_res (avN a) (o_el tSl a) (avI tag))
                                                        (o_res (avN a) (o_el tSl a) (avI tag)) then
                                                    (!decide ((↑(avN a) : Int) ≥ avI n)) == !decide ((↑(avN a) : Int) ≥ avI n)
                                                  else false then
                                            bif
                                                bif allN (fun (i : Nat) => true) (avN a) then true
                                                else
                                                  !bif
                                                        eqRow u_eqSl (bif decide ((↑(avN a) : Int) ≥ avI n) then avN a else avN a + (1 : Nat))
                                                          (bif decide ((↑(avN a) : Int) ≥ avI n) then avN a else avN a + (1 : Nat)) (o_res (avN a) (o_el tSl a) (avI tag))
                                                          (o_res (avN a) (o_el tSl a) (avI tag)) then
                                                      (!decide ((↑(avN a) : Int) ≥ avI n)) == !decide ((↑(avN a) : Int) ≥ avI n)
                                                    else false then
                                              bif
                                                  bif
                                                      bif
                                                          eqRow u_eqSl (bif decide ((↑(avN a) : Int) ≥ avI n) then avN a else avN a + (1 : Nat))
                                                            (bif decide ((↑(avN a) : Int) ≥ avI n) then avN a else avN a + (1 : Nat)) (o_res (avN a) (o_el tSl a) (avI tag))
                                                            (o_res (avN a) (o_el tSl a) (avI tag)) then
                                                        (!decide ((↑(avN a) : Int) ≥ avI n)) == !decide ((↑(avN a) : Int) ≥ avI n)
                                                      else false then
                                                    bif
                                                        eqRow u_eqSl (bif decide ((↑(avN a) : Int) ≥ avI n) then avN a else avN a + (1 : Nat))
                                                          (bif decide ((↑(avN a) : Int) ≥ avI n) then avN a else avN a + (1 : Nat)) (o_res (avN a) (o_el tSl a) (avI tag))
                                                          (o_res (avN a) (o_el tSl a) (avI tag)) then
                                                      (!decide ((↑(avN a) : Int) ≥ avI n)) == !decide ((↑(avN a) : Int) ≥ avI n)
                                                    else false
                                                  else true then
                                                bif
                                                    bif
                                                        bif
                                                            bif
                                                                eqRow u_eqSl (bif decide ((↑(avN a) : Int) ≥ avI n) then avN a else avN a + (1 : Nat))
                                                                  (bif decide ((↑(avN a) : Int) ≥ avI n) then avN a else avN a + (1 : Nat)) (o_res (avN a) (o_el tSl a) (avI tag))
                                                                  (o_res (avN a) (o_el tSl a) (avI tag)) then
                                                              (!decide ((↑(avN a) : Int) ≥ avI n)) == !decide ((↑(avN a) : Int) ≥ avI n)
                                                            else false then
                                                          eqRow u_eqSl (avN a) (avN a) (o_fill (fstOpen (avI tag) (avN a) (o_el tSl a)) (o_el tSl a) (avI w))
                                                            (o_fill (fstOpen (avI tag) (avN a) (o_el tSl a)) (o_el tSl a) (avI w))
                                                        else false then
                                                      bif
                                                          bif
                                                              eqRow u_eqSl (bif decide ((↑(avN a) : Int) ≥ avI n) then avN a else avN a + (1 : Nat))
                                                                (bif decide ((↑(avN a) : Int) ≥ avI n) then avN a else avN a + (1 : Nat)) (o_res (avN a) (o_el tSl a) (avI tag))
                                                                (o_res (avN a) (o_el tSl a) (avI tag)) then
                                                            (!decide ((↑(avN a) : Int) ≥ avI n)) == !decide ((↑(avN a) : Int) ≥ avI n)
                                                          else false then
                                                        eqRow u_eqSl (avN a) (avN a) (o_fill (fstOpen (avI tag) (avN a) (o_el tSl a)) (o_el tSl a) (avI w))
                                                          (o_fill (fstOpen (avI tag) (avN a) (o_el tSl a)) (o_el tSl a) (avI w))
                                                      else false
                                                    else true then
                                                  bif
                                                      bif decide ((bif popC (avN a) (o_el tSl a) then avN a else avN a - (1 : Nat)) ≤ (4611686018427387904 : Nat)) then true
                                                      else
                                                        !bif
                                                              bif
                                                                  bif
                                                                      eqRow u_eqSl (bif decide ((↑(avN a) : Int) ≥ avI n) then avN a else avN a + (1 : Nat))
                                                                        (bif decide ((↑(avN a) : Int) ≥ avI n) then avN a else avN a + (1 : Nat)) (o_res (avN a) (o_el tSl a) (avI tag))
                                                                        (o_res (avN a) (o_el tSl a) (avI tag)) then
                                                                    (!decide ((↑(avN a) : Int) ≥ avI n)) == !decide ((↑(avN a) : Int) ≥ avI n)
                                                                  else false then
                                                                eqRow u_eqSl (avN a) (avN a) (o_fill (fstOpen (avI tag) (avN a) (o_el tSl a)) (o_el tSl a) (avI w))
                                                                  (o_fill (fstOpen (avI tag) (avN a) (o_el tSl a)) (o_el tSl a) (avI w))
                                                              else false then
                                                            decide (fstOpen (avI tag) (avN a) (o_el tSl a) < avN a) == decide (fstOpen (avI tag) (avN a) (o_el tSl a) < avN a)
                                                          else false then
                                                    bif
                                                        bif allN (fun (i : Nat) => true) (bif popC (avN a) (o_el tSl a) then avN a else avN a - (1 : Nat)) then true
                                                        else
                                                          !bif
                                                                bif
                                                                    bif
                                                                        eqRow u_eqSl (bif decide ((↑(avN a) : Int) ≥ avI n) then avN a else avN a + (1 : Nat))
                                                                          (bif decide ((↑(avN a) : Int) ≥ avI n) then avN a else avN a + (1 : Nat)) (o_res (avN a) (o_el tSl a) (avI tag))
                                                                          (o_res (avN a) (o_el tSl a) (avI tag)) then
                                                                      (!decide ((↑(avN a) : Int) ≥ avI n)) == !decide ((↑(avN a) : Int) ≥ avI n)
                                                                    else false then
                                                                  eqRow u_eqSl (avN a) (avN a) (o_fill (fstOpen (avI tag) (avN a) (o_el tSl a)) (o_el tSl a) (avI w))
                                                                    (o_fill (fstOpen (avI tag) (avN a) (o_el tSl a)) (o_el tSl a) (avI w))
                                                                else false then
                                                              decide (fstOpen (avI tag) (avN a) (o_el tSl a) < avN a) == decide (fstOpen (avI tag) (avN a) (o_el tSl a) < avN a)
                                                            else false then
                                                      bif
                                                          bif allN (fun (i : Nat) => true) (bif popC (avN a) (o_el tSl a) then avN a else avN a - (1 : Nat)) then true
                                                          else
                                                            !bif
                                                                  bif
                                                                      bif
                                                                          eqRow u_eqSl (bif decide ((↑(avN a) : Int) ≥ avI n) then avN a else avN a + (1 : Nat))
                                                                            (bif decide ((↑(avN a) : Int) ≥ avI n) then avN a else avN a + (1 : Nat)) (o_res (avN a) (o_el tSl a) (avI tag))
                                                                            (o_res (avN a) (o_el tSl a) (avI tag)) then
                                                                        (!decide ((↑(avN a) : Int) ≥ avI n)) == !decide ((↑(avN a) : Int) ≥ avI n)
                                                                      else false then
                                                                    eqRow u_eqSl (avN a) (avN a) (o_fill (fstOpen (avI tag) (avN a) (o_el tSl a)) (o_el tSl a) (avI w))
                                                                      (o_fill (fstOpen (avI tag) (avN a) (o_el tSl a)) (o_el tSl a) (avI w))
                                                                  else false then
                                                                decide (fstOpen (avI tag) (avN a) (o_el tSl a) < avN a) == decide (fstOpen (avI tag) (avN a) (o_el tSl a) < avN a)
                                                              else false then
                                                        bif
                                                            bif
                                                                bif
                                                                    bif
                                                                        bif
                                                                            eqRow u_eqSl (bif decide ((↑(avN a) : Int) ≥ avI n) then avN a else avN a + (1 : Nat))
                                                                              (bif decide ((↑(avN a) : Int) ≥ avI n) then avN a else avN a + (1 : Nat)) (o_res (avN a) (o_el tSl a) (avI tag))
                                                                              (o_res (avN a) (o_el tSl a) (avI tag)) then
                                                                          (!decide ((↑(avN a) : Int) ≥ avI n)) == !decide ((↑(avN a) : Int) ≥ avI n)
                                                                        else false then
                                                                      eqRow u_eqSl (avN a) (avN a) (o_fill (fstOpen (avI tag) (avN a) (o_el tSl a)) (o_el tSl a) (avI w))
                                                                        (o_fill (fstOpen (avI tag) (avN a) (o_el tSl a)) (o_el tSl a) (avI w))
                                                                    else false then
                                                                  decide (fstOpen (avI tag) (avN a) (o_el tSl a) < avN a) == decide (fstOpen (avI tag) (avN a) (o_el tSl a) < avN a)
                                                                else false then
                                                              bif
                                                                  bif
                                                                      bif
                                                                          eqRow u_eqSl (bif decide ((↑(avN a) : Int) ≥ avI n) then avN a else avN a + (1 : Nat))
                                                                            (bif decide ((↑(avN a) : Int) ≥ avI n) then avN a else avN a + (1 : Nat)) (o_res (avN a) (o_el tSl a) (avI tag))
                                                                            (o_res (avN a) (o_el tSl a) (avI tag)) then
                                                                        (!decide ((↑(avN a) : Int) ≥ avI n)) == !decide ((↑(avN a) : Int) ≥ avI n)
                                                                      else false then
                                                                    eqRow u_eqSl (avN a) (avN a) (o_fill (fstOpen (avI tag) (avN a) (o_el tSl a)) (o_el tSl a) (avI w))
                                                                      (o_fill (fstOpen (avI tag) (avN a) (o_el tSl a)) (o_el tSl a) (avI w))
                                                                  else false then
                                                                decide (fstOpen (avI tag) (avN a) (o_el tSl a) < avN a) == decide (fstOpen (avI tag) (avN a) (o_el tSl a) < avN a)
                                                              else false
                                                            else true then
                                                          bif
                                                              bif
                                                                  bif
                                                                      bif
                                                                          bif
                                                                              bif
                                                                                  eqRow u_eqSl (bif decide ((↑(avN a) : Int) ≥ avI n) then avN a else avN a + (1 : Nat))
                                                                                    (bif decide ((↑(avN a) : Int) ≥ avI n) then avN a else avN a + (1 : Nat)) (o_res (avN a) (o_el tSl a) (avI tag))
                                                                                    (o_res (avN a) (o_el tSl a) (avI tag)) then
                                                                                (!decide ((↑(avN a) : Int) ≥ avI n)) == !decide ((↑(avN a) : Int) ≥ avI n)
                                                                              else false then
                                                                            eqRow u_eqSl (avN a) (avN a) (o_fill (fstOpen (avI tag) (avN a) (o_el tSl a)) (o_el tSl a) (avI w))
                                                                              (o_fill (fstOpen (avI tag) (avN a) (o_el tSl a)) (o_el tSl a) (avI w))
                                                                          else false then
                                                                        decide (fstOpen (avI tag) (avN a) (o_el tSl a) < avN a) == decide (fstOpen (avI tag) (avN a) (o_el tSl a) < avN a)
                                                                      else false then
                                                                    eqRow u_eqSl (bif popC (avN a) (o_el tSl a) then avN a else avN a - (1 : Nat))
                                                                      (bif popC (avN a) (o_el tSl a) then avN a else avN a - (1 : Nat)) (o_pop (avN a) (o_el tSl a)) (o_pop (avN a) (o_el tSl a))
                                                                  else false then
                                                                bif
                                                                    bif
                                                                        bif
                                                                            bif
                                                                                eqRow u_eqSl (bif decide ((↑(avN a) : Int) ≥ avI n) then avN a else avN a + (1 : Nat))
                                                                                  (bif decide ((↑(avN a) : Int) ≥ avI n) then avN a else avN a + (1 : Nat)) (o_res (avN a) (o_el tSl a) (avI tag))
                                                                                  (o_res (avN a) (o_el tSl a) (avI tag)) then
                                                                              (!decide ((↑(avN a) : Int) ≥ avI n)) == !decide ((↑(avN a) : Int) ≥ avI n)
                                                                            else false then
                                                                          eqRow u_eqSl (avN a) (avN a) (o_fill (fstOpen (avI tag) (avN a) (o_el tSl a)) (o_el tSl a) (avI w))
                                                                            (o_fill (fstOpen (avI tag) (avN a) (o_el tSl a)) (o_el tSl a) (avI w))
                                                                        else false then
                                                                      decide (fstOpen (avI tag) (avN a) (o_el tSl a) < avN a) == decide (fstOpen (avI tag) (avN a) (o_el tSl a) < avN a)
                                                                    else false then
                                                                  eqRow u_eqSl (bif popC (avN a) (o_el tSl a) then avN a else avN a - (1 : Nat))
                                                                    (bif popC (avN a) (o_el tSl a) then avN a else avN a - (1 : Nat)) (o_pop (avN a) (o_el tSl a)) (o_pop (avN a) (o_el tSl a))
                                                                else false
                                                              else true then
                                                            bif
                                                                bif
                                                                    bif
                                                                        bif
                                                                            bif
                                                                                bif
                                                                                    bif
                                                                                        eqRow u_eqSl (bif decide ((↑(avN a) : Int) ≥ avI n) then avN a else avN a + (1 : Nat))
                                                                                          (bif decide ((↑(avN a) : Int) ≥ avI n) then avN a else avN a + (1 : Nat))
                                                                                          (o_res (avN a) (o_el tSl a) (avI tag)) (o_res (avN a) (o_el tSl a) (avI tag)) then
                                                                                      (!decide ((↑(avN a) : Int) ≥ avI n)) == !decide ((↑(avN a) : Int) ≥ avI n)
                                                                                    else false then
                                                                                  eqRow u_eqSl (avN a) (avN a) (o_fill (fstOpen (avI tag) (avN a) (o_el tSl a)) (o_el tSl a) (avI w))
                                                                                    (o_fill (fstOpen (avI tag) (avN a) (o_el tSl a)) (o_el tSl a) (avI w))
                                                                                else false then
                                                                              decide (fstOpen (avI tag) (avN a) (o_el tSl a) < avN a) == decide (fstOpen (avI tag) (avN a) (o_el tSl a) < avN a)
                                                                            else false then
                                                                          eqRow u_eqSl (bif popC (avN a) (o_el tSl a) then avN a else avN a - (1 : Nat))
                                                                            (bif popC (avN a) (o_el tSl a) then avN a else avN a - (1 : Nat)) (o_pop (avN a) (o_el tSl a)) (o_pop (avN a) (o_el tSl a))
                                                                        else false then
                                                                      decide
                                                                        ((bif popC (avN a) (o_el tSl a) then (0 : Int) else avI (avAt (avAt a (0 : Nat)) ((0 : Nat) + (1 : Nat) + (1 : Nat)))) =
                                                                          bif popC (avN a) (o_el tSl a) then (0 : Int) else avI (avAt (avAt a (0 : Nat)) ((0 : Nat) + (1 : Nat) + (1 : Nat))))
                                                                    else false then
                                                                  bif
                                                                      bif
                                                                          bif
                                                                              bif
                                                                                  bif
                                                                                      eqRow u_eqSl (bif decide ((↑(avN a) : Int) ≥ avI n) then avN a else avN a + (1 : Nat))
                                                                                        (bif decide ((↑(avN a) : Int) ≥ avI n) then avN a else avN a + (1 : Nat)) (o_res (avN a) (o_el tSl a) (avI tag))
                                                                                        (o_res (avN a) (o_el tSl a) (avI tag)) then
                                                                                    (!decide ((↑(avN a) : Int) ≥ avI n)) == !decide ((↑(avN a) : Int) ≥ avI n)
                                                                                  else false then
                                                                                eqRow u_eqSl (avN a) (avN a) (o_fill (fstOpen (avI tag) (avN a) (o_el tSl a)) (o_el tSl a) (avI w))
                                                                                  (o_fill (fstOpen (avI tag) (avN a) (o_el tSl a)) (o_el tSl a) (avI w))
                                                                              else false then
                                                                            decide (fstOpen (avI tag) (avN a) (o_el tSl a) < avN a) == decide (fstOpen (avI tag) (avN a) (o_el tSl a) < avN a)
                                                                          else false then
                                                                        eqRow u_eqSl (bif popC (avN a) (o_el tSl a) then avN a else avN a - (1 : Nat))
                                                                          (bif popC (avN a) (o_el tSl a) then avN a else avN a - (1 : Nat)) (o_pop (avN a) (o_el tSl a)) (o_pop (avN a) (o_el tSl a))
                                                                      else false then
                                                                    decide
                                                                      ((bif popC (avN a) (o_el tSl a) then (0 : Int) else avI (avAt (avAt a (0 : Nat)) ((0 : Nat) + (1 : Nat) + (1 : Nat)))) =
                                                                        bif popC (avN a) (o_el tSl a) then (0 : Int) else avI (avAt (avAt a (0 : Nat)) ((0 : Nat) + (1 : Nat) + (1 : Nat))))
                                                                  else false
                                                                else true then
                                                              con
                                                                  (XV.bool
                                                                    (bif
                                                                        bif
                                                                            bif
                                                                                bif
                                                                                    bif
                                                                                        bif
                                                                                            eqRow u_eqSl (bif decide ((↑(avN a) : Int) ≥ avI n) then avN a else avN a + (1 : Nat))
                                                                                              (bif decide ((↑(avN a) : Int) ≥ avI n) then avN a else avN a + (1 : Nat))
                                                                                              (o_res (avN a) (o_el tSl a) (avI tag)) (o_res (avN a) (o_el tSl a) (avI tag)) then
                                                                                          (!decide ((↑(avN a) : Int) ≥ avI n)) == !decide ((↑(avN a) : Int) ≥ avI n)
                                                                                        else false then
                                                                                      eqRow u_eqSl (avN a) (avN a) (o_fill (fstOpen (avI tag) (avN a) (o_el tSl a)) (o_el tSl a) (avI w))
                                                                                        (o_fill (fstOpen (avI tag) (avN a) (o_el tSl a)) (o_el tSl a) (avI w))
                                                                                    else false then
                                                                                  decide (fstOpen (avI tag) (avN a) (o_el tSl a) < avN a) == decide (fstOpen (avI tag) (avN a) (o_el tSl a) < avN a)
                                                                                else false then
                                                                              eqRow u_eqSl (bif popC (avN a) (o_el tSl a) then avN a else avN a - (1 : Nat))
                                                                                (bif popC (avN a) (o_el tSl a) then avN a else avN a - (1 : Nat)) (o_pop (avN a) (o_el tSl a))
                                                                                (o_pop (avN a) (o_el tSl a))
                                                                            else false then
                                                                          decide
                                                                            ((bif popC (avN a) (o_el tSl a) then (0 : Int) else avI (avAt (avAt a (0 : Nat)) ((0 : Nat) + (1 : Nat) + (1 : Nat)))) =
                                                                              bif popC (avN a) (o_el tSl a) then (0 : Int) else avI (avAt (avAt a (0 : Nat)) ((0 : Nat) + (1 : Nat) + (1 : Nat))))
                                                                        else false then
                                                                      (!popC (avN a) (o_el tSl a)) == !popC (avN a) (o_el tSl a)
                                                                    else false)) =
                                                                r
                                                            else False
                                                          else False
                                                        else False
                                                      else False
                                                    else False
                                                  else False
                                                else False
                                              else False
                                            else False
                                          else False
                                        else False
                                      else False
                                    else False
                                  else False
                                else False
                              else False
                            else False
                          else False
                        else False
                      else False
                    else False
                  else False
                else False
              else False
            else False
          else False
        else False
      else False
    else False
  else False) := by kernel_rfl
theorem eqSl_refl (a : XV) : u_eqSl a a = true := by simp [u_eqSl]
theorem tell_pure (a n tag w : AV) (hb : avN a * 16 ≤ 140737488351232) : Pure Try.prog 5 (cons [.row false 3 (avN a) (o_el tSl a), .int .i64 (avI n), .int .i64 (avI tag), .int .u32 (avI w)]) (con (.bool true)) := by
  refine pureS mix TStok t_law16_SlotsTell (Nat.le_of_ble_eq_true rfl) ?_
  rw [r_tell]
  by_cases h : ((avN a : Nat) : Int) > 100
  · simp only [h, decide_true, decide_false, cond_true, cond_false, allN_true, Nat.le_refl, Int.toNat_natCast, Nat.beq_refl, pk_and, pk_or, Bool.not_true, Bool.not_false, not_true_eq_false, not_false_eq_true, Bool.and_true, Bool.true_and, Bool.and_self, ge_iff_le, Int.le_refl, if_true, if_false, reduceCtorEq]
  · have h1 : avN a * 16 ≤ 140737488355328 := by omega
    have h2 : avN a ≤ 1000000 := by omega
    have h3 : ∀ c : Bool, (bif c then avN a else avN a + 1) ≤ 4611686018427387904 := fun c => by cases c <;> simp only [cond_true, cond_false] <;> omega
    have h4 : ∀ c : Bool, (bif c then avN a else avN a - 1) ≤ 4611686018427387904 := fun c => by cases c <;> simp only [cond_true, cond_false] <;> omega
    have h5 : avN a ≤ 4611686018427387904 := by omega
    simp only [h, h1, h2, h3, h4, h5, eqRow_self eqSl_refl, BEq.rfl, decide_true, decide_false, cond_true, cond_false, allN_true, Nat.le_refl, Int.toNat_natCast, Nat.beq_refl, pk_and, pk_or, Bool.not_true, Bool.not_false, not_true_eq_false, not_false_eq_true, Bool.and_true, Bool.true_and, Bool.and_self, ge_iff_le, Int.le_refl, if_true, if_false, reduceCtorEq]
end Go.Proofs.Ytmlnhecgcbohkaa
namespace Go.Proofs.Ytmlnhecgcbohkaa.slotsTell
open Go.Ra Go.ChangeShapes Go.WideShapes Go.ChangeAt Go.RowKit
open Go.ChangeMaps (open_string shut_string)
theorem own : ownKnob Try.prog.godebug = none := by kernel_rfl
def Ts : List Ty := [.slice 3 16 tSl, .int .i64, .int .i64, .int .u32]
theorem law (xs : List AV) (h : Ty.hasL Ts xs) : Pure Try.prog 5 xs (.sc (.bool true)) := by
  have h0 := h
  simp only [Ts, Ty.hasL] at h0
  obtain ⟨a, r, rfl, ha, n, s, rfl, _, t, u, rfl, _, w, v, rfl, _, rfl⟩ := h0
  exact lawX h (tell_pure a n t w (has_nat ha))
set_option maxRecDepth 100000 in
theorem lifted (os : Os) (started : os.Started) (H : Type) (enc : TypeId × Value → H) :
    ReturnsInHanded {} Try.checked os 5 .any (Rows.slotsTellSpec.pre6 enc Try.prog Try.f5 Rows.slotsTellRow.domain false) (Rows.slotsTellSpec.post enc Try.prog Try.f5 false true false false) := by
  refine returnsInHanded_of_change_sized (C := Try.checked) own started (by kernel_rfl) Try.func5
    (ChangeSpec.witness6 (enc := enc) (C := Try.checked) false ⟨#[], #[.slice none 0 0, .int .i64 0, .int .i64 0, .int .u32 0], []⟩ 8 (by kernel_rfl) (by kernel_rfl) (by kernel_rfl) (by kernel_rfl)) ?_
  intro W base args ds gs before hval hW hcnd hsz _
  refine law_post (s := Rows.slotsTellSpec) (n := 60) (Ts := Ts) (ts := [30, 3, 3, 31]) (tb := 4) (by kernel_rfl) rfl rfl Try.underlying4 rfl (by kernel_rfl) (by kernel_rfl) (fun ds hds => ?_) law W base args ds gs before hval hW hsz
  match ds, hds with
  | [d1, d2, d3, d4], _ => exact ⟨rfl, rfl, rfl⟩
theorem over : Rows.slotsTellRow.holds Try.pinned (OpenSpec.ofChange Rows.slotsTellSpec) :=
  OpenClaim.holds_of_wide 5 Try.f5 rfl rfl rfl rfl rfl rfl rfl ⟨rfl, rfl, rfl, rfl, rfl⟩ rfl rfl rfl rfl rfl (by kernel_rfl) Try.func5 (by kernel_rfl)
    (of_decide_eq_true (by kernel_rfl)) (by unfold Func.isWrapper; first | (rw [if_pos (by decide +kernel)]; kernel_rfl) | (rw [if_neg (by decide +kernel)]; exact ⟨rfl, rfl⟩))
    (fun os started H enc _ => lifted os started H enc)
theorem proved : Rows.SlotsTellSaid := over
end Go.Proofs.Ytmlnhecgcbohkaa.slotsTell
namespace Go.Proofs.Ytmlnhecgcbohkaa
/-- The row, under a short name, for the claim. -/
theorem slotsTell_holds : Rows.SlotsTellSaid := slotsTell.proved
end Go.Proofs.Ytmlnhecgcbohkaa
#print axioms Go.Proofs.Ytmlnhecgcbohkaa.slotsTell_holds
