/- What any queue is with an entry more, which entry a load meets, what it has of it, and the lowest bytes of a word. -/
import Derived.Test.YtihhfmdihhmbdaaRows
import Derived.Test.YtihhfmdihhmbdaaSq2
import Derived.WalkKit
import Derived.ProofKit
import Derived.OpenShut
import Derived.ShutString
import Derived.ChangeOld
import Derived.Below
import Derived.SizedLaws
namespace Go.Proofs.Ytihhfmdihhmbdaa
open Go.Ra
set_option linter.unusedVariables false
set_option linter.unusedSimpArgs false
theorem r_tells (m : AV) (n ea es et : Int) (k : Bool) (v a s op w : Int) (r : AV) : (goS Try.prog TQ [(.tmp 14)] r (.run c_law17_SaqTells) [] ⟨envX 0 [rL m, .int .i64 n, .agg 5 [.int .i64 ea, .int .i64 es, .int .i64 et, .bool k, .int .u32 v], .int .i64 a, .int .i64 s, .int .i64 op, .int .u32 w], [], 0⟩) =
    (bif decide ((↑(avN m) : Int) > (100 : Int)) then con (XV.bool true) = r
 else
   bif decide (avN m * (32 : Nat) ≤ (140737488355328 : Nat)) then
     bif decide (avN m ≤ (1000000 : Nat)) then
       bif allN (fun (i : Nat) => true) (avN m) then
         bif decide (avN m ≤ (1000000 : Nat)) then
           bif allN (fun (i : Nat) => true) (avN m) then
             bif decide (avN m ≤ (1000000 : Nat)) then
               bif allN (fun (i : Nat) => true) (avN m) then
                 bif i64B a then
                   bif i64B s then
                     bif allN (fun (i : Nat) => i64B (avI (avAt (avAt m i) (0 : Nat))) && i64B (avI (avAt (avAt m i) ((0 : Nat) + (1 : Nat))))) (avN m) then
                       bif decide (avN m ≤ (1000000 : Nat)) then
                         bif allN (fun (i : Nat) => true) (avN m) then
                           bif i64B a then
                             bif i64B s then
                               bif allN (fun (i : Nat) => i64B (avI (avAt (avAt m i) (0 : Nat))) && i64B (avI (avAt (avAt m i) ((0 : Nat) + (1 : Nat))))) (avN m) then
                                 bif decide ((0 : Int) ≤ v) then
                                   bif decide (v ≤ (4294967295 : Int)) then
                                     bif decide ((0 : Int) ≤ v) then
                                       bif decide (v ≤ (4294967295 : Int)) then
                                         bif decide ((bif decide ((↑(avN m) : Int) ≥ n) then avN m else avN m + (1 : Nat)) ≤ (4611686018427387904 : Nat)) then
                                           bif allN (fun (i : Nat) => true) (bif decide ((↑(avN m) : Int) ≥ n) then avN m else avN m + (1 : Nat)) then
                                             bif allN (fun (i : Nat) => true) (bif decide ((↑(avN m) : Int) ≥ n) then avN m else avN m + (1 : Nat)) then
                                               bif
                                                   bif
                                                       eqRow u_eqEn (bif decide ((↑(avN m) : Int) ≥ n) then avN m else avN m + (1 : Nat))
                                                         (bif decide ((↑(avN m) : Int) ≥ n) then avN m else avN m + (1 : Nat)) (o_push (avN m) (o_el tEn m) ea es et k v)
                                                         (o_push (avN m) (o_el tEn m) ea es et k v) then
                                                     eqRow u_eqEn (bif decide ((↑(avN m) : Int) ≥ n) then avN m else avN m + (1 : Nat))
                                                       (bif decide ((↑(avN m) : Int) ≥ n) then avN m else avN m + (1 : Nat)) (o_push (avN m) (o_el tEn m) ea es et k v)
                                                       (o_push (avN m) (o_el tEn m) ea es et k v)
                                                   else true then
                                                 bif
                                                     bif
                                                         bif
                                                             eqRow u_eqEn (bif decide ((↑(avN m) : Int) ≥ n) then avN m else avN m + (1 : Nat))
                                                               (bif decide ((↑(avN m) : Int) ≥ n) then avN m else avN m + (1 : Nat)) (o_push (avN m) (o_el tEn m) ea es et k v)
                                                               (o_push (avN m) (o_el tEn m) ea es et k v) then
                                                           (!decide ((↑(avN m) : Int) ≥ n)) == !decide ((↑(avN m) : Int) ≥ n)
                                                         else false then
                                                       bif
                                                           eqRow u_eqEn (bif decide ((↑(avN m) : Int) ≥ n) then avN m else avN m + (1 : Nat))
                                                             (bif decide ((↑(avN m) : Int) ≥ n) then avN m else avN m + (1 : Nat)) (o_push (avN m) (o_el tEn m) ea es et k v)
                                                             (o_push (avN m) (o_el tEn m) ea es et k v) then
                                                         (!decide ((↑(avN m) : Int) ≥ n)) == !decide ((↑(avN m) : Int) ≥ n)
                                                       else false
                                                     else true then
                                                   bif
                                                       bif
                                                           bif
                                                               bif
                                                                   eqRow u_eqEn (bif decide ((↑(avN m) : Int) ≥ n) then avN m else avN m + (1 : Nat))
                                                                     (bif decide ((↑(avN m) : Int) ≥ n) then avN m else avN m + (1 : Nat)) (o_push (avN m) (o_el tEn m) ea es et k v)
                                                                     (o_push (avN m) (o_el tEn m) ea es et k v) then
                                                                 (!decide ((↑(avN m) : Int) ≥ n)) == !decide ((↑(avN m) : Int) ≥ n)
                                                               else false then
                                                             decide (o_enI (0 : Nat) (lstO a s (avN m) (o_el tEn m)) (o_el tEn m) = o_enI (0 : Nat) (lstO a s (avN m) (o_el tEn m)) (o_el tEn m)) &&
                                                               (decide (o_enI (1 : Nat) (lstO a s (avN m) (o_el tEn m)) (o_el tEn m) = o_enI (1 : Nat) (lstO a s (avN m) (o_el tEn m)) (o_el tEn m)) &&
                                                                 (decide (o_enI (2 : Nat) (lstO a s (avN m) (o_el tEn m)) (o_el tEn m) = o_enI (2 : Nat) (lstO a s (avN m) (o_el tEn m)) (o_el tEn m)) &&
                                                                   (o_enB (3 : Nat) (lstO a s (avN m) (o_el tEn m)) (o_el tEn m) == o_enB (3 : Nat) (lstO a s (avN m) (o_el tEn m)) (o_el tEn m) &&
                                                                     (decide
                                                                         (o_enI (4 : Nat) (lstO a s (avN m) (o_el tEn m)) (o_el tEn m) = o_enI (4 : Nat) (lstO a s (avN m) (o_el tEn m)) (o_el tEn m)) &&
                                                                       true))))
                                                           else false then
                                                         bif
                                                             bif
                                                                 eqRow u_eqEn (bif decide ((↑(avN m) : Int) ≥ n) then avN m else avN m + (1 : Nat))
                                                                   (bif decide ((↑(avN m) : Int) ≥ n) then avN m else avN m + (1 : Nat)) (o_push (avN m) (o_el tEn m) ea es et k v)
                                                                   (o_push (avN m) (o_el tEn m) ea es et k v) then
                                                               (!decide ((↑(avN m) : Int) ≥ n)) == !decide ((↑(avN m) : Int) ≥ n)
                                                             else false then
                                                           decide (o_enI (0 : Nat) (lstO a s (avN m) (o_el tEn m)) (o_el tEn m) = o_enI (0 : Nat) (lstO a s (avN m) (o_el tEn m)) (o_el tEn m)) &&
                                                             (decide (o_enI (1 : Nat) (lstO a s (avN m) (o_el tEn m)) (o_el tEn m) = o_enI (1 : Nat) (lstO a s (avN m) (o_el tEn m)) (o_el tEn m)) &&
                                                               (decide (o_enI (2 : Nat) (lstO a s (avN m) (o_el tEn m)) (o_el tEn m) = o_enI (2 : Nat) (lstO a s (avN m) (o_el tEn m)) (o_el tEn m)) &&
                                                                 (o_enB (3 : Nat) (lstO a s (avN m) (o_el tEn m)) (o_el tEn m) == o_enB (3 : Nat) (lstO a s (avN m) (o_el tEn m)) (o_el tEn m) &&
                                                                   (decide
                                                                       (o_enI (4 : Nat) (lstO a s (avN m) (o_el tEn m)) (o_el tEn m) = o_enI (4 : Nat) (lstO a s (avN m) (o_el tEn m)) (o_el tEn m)) &&
                                                                     true))))
                                                         else false
                                                       else true then
                                                     bif
                                                         bif
                                                             bif
                                                                 bif
                                                                     bif
                                                                         eqRow u_eqEn (bif decide ((↑(avN m) : Int) ≥ n) then avN m else avN m + (1 : Nat))
                                                                           (bif decide ((↑(avN m) : Int) ≥ n) then avN m else avN m + (1 : Nat)) (o_push (avN m) (o_el tEn m) ea es et k v)
                                                                           (o_push (avN m) (o_el tEn m) ea es et k v) then
                                                                       (!decide ((↑(avN m) : Int) ≥ n)) == !decide ((↑(avN m) : Int) ≥ n)
                                                                     else false then
                                                                   decide
                                                                       (o_enI (0 : Nat) (lstO a s (avN m) (o_el tEn m)) (o_el tEn m) = o_enI (0 : Nat) (lstO a s (avN m) (o_el tEn m)) (o_el tEn m)) &&
                                                                     (decide
                                                                         (o_enI (1 : Nat) (lstO a s (avN m) (o_el tEn m)) (o_el tEn m) = o_enI (1 : Nat) (lstO a s (avN m) (o_el tEn m)) (o_el tEn m)) &&
                                                                       (decide
                                                                           (o_enI (2 : Nat) (lstO a s (avN m) (o_el tEn m)) (o_el tEn m) =
                                                                             o_enI (2 : Nat) (lstO a s (avN m) (o_el tEn m)) (o_el tEn m)) &&
                                                                         (o_enB (3 : Nat) (lstO a s (avN m) (o_el tEn m)) (o_el tEn m) == o_enB (3 : Nat) (lstO a s (avN m) (o_el tEn m)) (o_el tEn m) &&
                                                                           (decide
                                                                               (o_enI (4 : Nat) (lstO a s (avN m) (o_el tEn m)) (o_el tEn m) =
                                                                                 o_enI (4 : Nat) (lstO a s (avN m) (o_el tEn m)) (o_el tEn m)) &&
                                                                             true))))
                                                                 else false then
                                                               decide ((0 : Nat) < lstO a s (avN m) (o_el tEn m)) == decide ((0 : Nat) < lstO a s (avN m) (o_el tEn m))
                                                             else false then
                                                           bif
                                                               bif
                                                                   bif
                                                                       eqRow u_eqEn (bif decide ((↑(avN m) : Int) ≥ n) then avN m else avN m + (1 : Nat))
                                                                         (bif decide ((↑(avN m) : Int) ≥ n) then avN m else avN m + (1 : Nat)) (o_push (avN m) (o_el tEn m) ea es et k v)
                                                                         (o_push (avN m) (o_el tEn m) ea es et k v) then
                                                                     (!decide ((↑(avN m) : Int) ≥ n)) == !decide ((↑(avN m) : Int) ≥ n)
                                                                   else false then
                                                                 decide (o_enI (0 : Nat) (lstO a s (avN m) (o_el tEn m)) (o_el tEn m) = o_enI (0 : Nat) (lstO a s (avN m) (o_el tEn m)) (o_el tEn m)) &&
                                                                   (decide
                                                                       (o_enI (1 : Nat) (lstO a s (avN m) (o_el tEn m)) (o_el tEn m) = o_enI (1 : Nat) (lstO a s (avN m) (o_el tEn m)) (o_el tEn m)) &&
                                                                     (decide
                                                                         (o_enI (2 : Nat) (lstO a s (avN m) (o_el tEn m)) (o_el tEn m) = o_enI (2 : Nat) (lstO a s (avN m) (o_el tEn m)) (o_el tEn m)) &&
                                                                       (o_enB (3 : Nat) (lstO a s (avN m) (o_el tEn m)) (o_el tEn m) == o_enB (3 : Nat) (lstO a s (avN m) (o_el tEn m)) (o_el tEn m) &&
                                                                         (decide
                                                                             (o_enI (4 : Nat) (lstO a s (avN m) (o_el tEn m)) (o_el tEn m) =
                                                                               o_enI (4 : Nat) (lstO a s (avN m) (o_el tEn m)) (o_el tEn m)) &&
                                                                           true))))
                                                               else false then
                                                             decide ((0 : Nat) < lstO a s (avN m) (o_el tEn m)) == decide ((0 : Nat) < lstO a s (avN m) (o_el tEn m))
                                                           else false
                                                         else true then
                                                       bif
                                                           bif
                                                               bif
                                                                   bif
                                                                       bif
                                                                           bif
                                                                               eqRow u_eqEn (bif decide ((↑(avN m) : Int) ≥ n) then avN m else avN m + (1 : Nat))
                                                                                 (bif decide ((↑(avN m) : Int) ≥ n) then avN m else avN m + (1 : Nat)) (o_push (avN m) (o_el tEn m) ea es et k v)
                                                                                 (o_push (avN m) (o_el tEn m) ea es et k v) then
                                                                             (!decide ((↑(avN m) : Int) ≥ n)) == !decide ((↑(avN m) : Int) ≥ n)
                                                                           else false then
                                                                         decide
                                                                             (o_enI (0 : Nat) (lstO a s (avN m) (o_el tEn m)) (o_el tEn m) =
                                                                               o_enI (0 : Nat) (lstO a s (avN m) (o_el tEn m)) (o_el tEn m)) &&
                                                                           (decide
                                                                               (o_enI (1 : Nat) (lstO a s (avN m) (o_el tEn m)) (o_el tEn m) =
                                                                                 o_enI (1 : Nat) (lstO a s (avN m) (o_el tEn m)) (o_el tEn m)) &&
                                                                             (decide
                                                                                 (o_enI (2 : Nat) (lstO a s (avN m) (o_el tEn m)) (o_el tEn m) =
                                                                                   o_enI (2 : Nat) (lstO a s (avN m) (o_el tEn m)) (o_el tEn m)) &&
                                                                               (o_enB (3 : Nat) (lstO a s (avN m) (o_el tEn m)) (o_el tEn m) ==
                                                                                   o_enB (3 : Nat) (lstO a s (avN m) (o_el tEn m)) (o_el tEn m) &&
                                                                                 (decide
                                                                                     (o_enI (4 : Nat) (lstO a s (avN m) (o_el tEn m)) (o_el tEn m) =
                                                                                       o_enI (4 : Nat) (lstO a s (avN m) (o_el tEn m)) (o_el tEn m)) &&
                                                                                   true))))
                                                                       else false then
                                                                     decide ((0 : Nat) < lstO a s (avN m) (o_el tEn m)) == decide ((0 : Nat) < lstO a s (avN m) (o_el tEn m))
                                                                   else false then
                                                                 decide ((bif bypB ea es k op a then extI op v else (0 : Int)) = bif bypB ea es k op a then extI op v else (0 : Int))
                                                               else false then
                                                             bif
                                                                 bif
                                                                     bif
                                                                         bif
                                                                             eqRow u_eqEn (bif decide ((↑(avN m) : Int) ≥ n) then avN m else avN m + (1 : Nat))
                                                                               (bif decide ((↑(avN m) : Int) ≥ n) then avN m else avN m + (1 : Nat)) (o_push (avN m) (o_el tEn m) ea es et k v)
                                                                               (o_push (avN m) (o_el tEn m) ea es et k v) then
                                                                           (!decide ((↑(avN m) : Int) ≥ n)) == !decide ((↑(avN m) : Int) ≥ n)
                                                                         else false then
                                                                       decide
                                                                           (o_enI (0 : Nat) (lstO a s (avN m) (o_el tEn m)) (o_el tEn m) =
                                                                             o_enI (0 : Nat) (lstO a s (avN m) (o_el tEn m)) (o_el tEn m)) &&
                                                                         (decide
                                                                             (o_enI (1 : Nat) (lstO a s (avN m) (o_el tEn m)) (o_el tEn m) =
                                                                               o_enI (1 : Nat) (lstO a s (avN m) (o_el tEn m)) (o_el tEn m)) &&
                                                                           (decide
                                                                               (o_enI (2 : Nat) (lstO a s (avN m) (o_el tEn m)) (o_el tEn m) =
                                                                                 o_enI (2 : Nat) (lstO a s (avN m) (o_el tEn m)) (o_el tEn m)) &&
                                                                             (o_enB (3 : Nat) (lstO a s (avN m) (o_el tEn m)) (o_el tEn m) ==
                                                                                 o_enB (3 : Nat) (lstO a s (avN m) (o_el tEn m)) (o_el tEn m) &&
                                                                               (decide
                                                                                   (o_enI (4 : Nat) (lstO a s (avN m) (o_el tEn m)) (o_el tEn m) =
                                                                                     o_enI (4 : Nat) (lstO a s (avN m) (o_el tEn m)) (o_el tEn m)) &&
                                                                                 true))))
                                                                     else false then
                                                                   decide ((0 : Nat) < lstO a s (avN m) (o_el tEn m)) == decide ((0 : Nat) < lstO a s (avN m) (o_el tEn m))
                                                                 else false then
                                                               decide ((bif bypB ea es k op a then extI op v else (0 : Int)) = bif bypB ea es k op a then extI op v else (0 : Int))
                                                             else false
                                                           else true then
                                                         bif
                                                             bif
                                                                 bif
                                                                     bif
                                                                         bif
                                                                             bif
                                                                                 bif
                                                                                     eqRow u_eqEn (bif decide ((↑(avN m) : Int) ≥ n) then avN m else avN m + (1 : Nat))
                                                                                       (bif decide ((↑(avN m) : Int) ≥ n) then avN m else avN m + (1 : Nat)) (o_push (avN m) (o_el tEn m) ea es et k v)
                                                                                       (o_push (avN m) (o_el tEn m) ea es et k v) then
                                                                                   (!decide ((↑(avN m) : Int) ≥ n)) == !decide ((↑(avN m) : Int) ≥ n)
                                                                                 else false then
                                                                               decide
                                                                                   (o_enI (0 : Nat) (lstO a s (avN m) (o_el tEn m)) (o_el tEn m) =
                                                                                     o_enI (0 : Nat) (lstO a s (avN m) (o_el tEn m)) (o_el tEn m)) &&
                                                                                 (decide
                                                                                     (o_enI (1 : Nat) (lstO a s (avN m) (o_el tEn m)) (o_el tEn m) =
                                                                                       o_enI (1 : Nat) (lstO a s (avN m) (o_el tEn m)) (o_el tEn m)) &&
                                                                                   (decide
                                                                                       (o_enI (2 : Nat) (lstO a s (avN m) (o_el tEn m)) (o_el tEn m) =
                                                                                         o_enI (2 : Nat) (lstO a s (avN m) (o_el tEn m)) (o_el tEn m)) &&
                                                                                     (o_enB (3 : Nat) (lstO a s (avN m) (o_el tEn m)) (o_el tEn m) ==
                                                                                         o_enB (3 : Nat) (lstO a s (avN m) (o_el tEn m)) (o_el tEn m) &&
                                                                                       (decide
                                                                                           (o_enI (4 : Nat) (lstO a s (avN m) (o_el tEn m)) (o_el tEn m) =
                                                                                             o_enI (4 : Nat) (lstO a s (avN m) (o_el tEn m)) (o_el tEn m)) &&
                                                                                         true))))
                                                                             else false then
                                                                           decide ((0 : Nat) < lstO a s (avN m) (o_el tEn m)) == decide ((0 : Nat) < lstO a s (avN m) (o_el tEn m))
                                                                         else false then
                                                                       decide ((bif bypB ea es k op a then extI op v else (0 : Int)) = bif bypB ea es k op a then extI op v else (0 : Int))
                                                                     else false then
                                                                   bypB ea es k op a == bypB ea es k op a
                                                                 else false then
                                                               bif
                                                                   bif
                                                                       bif
                                                                           bif
                                                                               bif
                                                                                   eqRow u_eqEn (bif decide ((↑(avN m) : Int) ≥ n) then avN m else avN m + (1 : Nat))
                                                                                     (bif decide ((↑(avN m) : Int) ≥ n) then avN m else avN m + (1 : Nat)) (o_push (avN m) (o_el tEn m) ea es et k v)
                                                                                     (o_push (avN m) (o_el tEn m) ea es et k v) then
                                                                                 (!decide ((↑(avN m) : Int) ≥ n)) == !decide ((↑(avN m) : Int) ≥ n)
                                                                               else false then
                                                                             decide
                                                                                 (o_enI (0 : Nat) (lstO a s (avN m) (o_el tEn m)) (o_el tEn m) =
                                                                                   o_enI (0 : Nat) (lstO a s (avN m) (o_el tEn m)) (o_el tEn m)) &&
                                                                               (decide
                                                                                   (o_enI (1 : Nat) (lstO a s (avN m) (o_el tEn m)) (o_el tEn m) =
                                                                                     o_enI (1 : Nat) (lstO a s (avN m) (o_el tEn m)) (o_el tEn m)) &&
                                                                                 (decide
                                                                                     (o_enI (2 : Nat) (lstO a s (avN m) (o_el tEn m)) (o_el tEn m) =
                                                                                       o_enI (2 : Nat) (lstO a s (avN m) (o_el tEn m)) (o_el tEn m)) &&
                                                                                   (o_enB (3 : Nat) (lstO a s (avN m) (o_el tEn m)) (o_el tEn m) ==
                                                                                       o_enB (3 : Nat) (lstO a s (avN m) (o_el tEn m)) (o_el tEn m) &&
                                                                                     (decide
                                                                                         (o_enI (4 : Nat) (lstO a s (avN m) (o_el tEn m)) (o_el tEn m) =
                                                                                           o_enI (4 : Nat) (lstO a s (avN m) (o_el tEn m)) (o_el tEn m)) &&
                                                                                       true))))
                                                                           else false then
                                                                         decide ((0 : Nat) < lstO a s (avN m) (o_el tEn m)) == decide ((0 : Nat) < lstO a s (avN m) (o_el tEn m))
                                                                       else false then
                                                                     decide ((bif bypB ea es k op a then extI op v else (0 : Int)) = bif bypB ea es k op a then extI op v else (0 : Int))
                                                                   else false then
                                                                 bypB ea es k op a == bypB ea es k op a
                                                               else false
                                                             else true then
                                                           con
                                                               (XV.bool
                                                                 (bif
                                                                     bif
                                                                         bif
                                                                             bif
                                                                                 bif
                                                                                     bif
                                                                                         eqRow u_eqEn (bif decide ((↑(avN m) : Int) ≥ n) then avN m else avN m + (1 : Nat))
                                                                                           (bif decide ((↑(avN m) : Int) ≥ n) then avN m else avN m + (1 : Nat))
                                                                                           (o_push (avN m) (o_el tEn m) ea es et k v) (o_push (avN m) (o_el tEn m) ea es et k v) then
                                                                                       (!decide ((↑(avN m) : Int) ≥ n)) == !decide ((↑(avN m) : Int) ≥ n)
                                                                                     else false then
                                                                                   decide
                                                                                       (o_enI (0 : Nat) (lstO a s (avN m) (o_el tEn m)) (o_el tEn m) =
                                                                                         o_enI (0 : Nat) (lstO a s (avN m) (o_el tEn m)) (o_el tEn m)) &&
                                                                                     (decide
                                                                                         (o_enI (1 : Nat) (lstO a s (avN m) (o_el tEn m)) (o_el tEn m) =
                                                                                           o_enI (1 : Nat) (lstO a s (avN m) (o_el tEn m)) (o_el tEn m)) &&
                                                                                       (decide
                                                                                           (o_enI (2 : Nat) (lstO a s (avN m) (o_el tEn m)) (o_el tEn m) =
                                                                                             o_enI (2 : Nat) (lstO a s (avN m) (o_el tEn m)) (o_el tEn m)) &&
                                                                                         (o_enB (3 : Nat) (lstO a s (avN m) (o_el tEn m)) (o_el tEn m) ==
                                                                                             o_enB (3 : Nat) (lstO a s (avN m) (o_el tEn m)) (o_el tEn m) &&
                                                                                           (decide
                                                                                               (o_enI (4 : Nat) (lstO a s (avN m) (o_el tEn m)) (o_el tEn m) =
                                                                                                 o_enI (4 : Nat) (lstO a s (avN m) (o_el tEn m)) (o_el tEn m)) &&
                                                                                             true))))
                                                                                 else false then
                                                                               decide ((0 : Nat) < lstO a s (avN m) (o_el tEn m)) == decide ((0 : Nat) < lstO a s (avN m) (o_el tEn m))
                                                                             else false then
                                                                           decide ((bif bypB ea es k op a then extI op v else (0 : Int)) = bif bypB ea es k op a then extI op v else (0 : Int))
                                                                         else false then
                                                                       bypB ea es k op a == bypB ea es k op a
                                                                     else false then
                                                                   decide (mskI w s = mskI w s)
                                                                 else false)) =
                                                             r
                                                         else False
                                                       else False
                                                     else False
                                                   else False
                                                 else False
                                               else False
                                             else False
                                           else False
                                         else False
                                       else False
                                     else False
                                   else False
                                 else False
                               else False
                             else False
                           else False
                         else False
                       else False
                     else False
                   else False
                 else False
               else False
             else False
           else False
         else False
       else False
     else False
   else False) := by kernel_rfl
theorem tells_pure (m : AV) (n ea es et : Int) (k : Bool) (v a s op w : Int) (hr : allN (fun i => i64B (avI (avAt (avAt m i) 0)) && i64B (avI (avAt (avAt m i) (0 + 1)))) (avN m) = true) (ha : i64B a = true) (hs : i64B s = true) (h0 : 0 ≤ v) (h1 : v ≤ 4294967295) :
    Pure Try.prog 6 (cons [rL m, .int .i64 n, .agg 5 [.int .i64 ea, .int .i64 es, .int .i64 et, .bool k, .int .u32 v], .int .i64 a, .int .i64 s, .int .i64 op, .int .u32 w]) (con (.bool true)) := by
  refine pureS mix TQok t_law17_SaqTells (Nat.le_of_ble_eq_true rfl) ?_
  rw [r_tells]
  by_cases hn : ((avN m : Nat) : Int) > 100
  · simp only [hn, decide_true, decide_false, cond_true, cond_false, allN_true, Nat.le_refl, Int.toNat_natCast, Nat.beq_refl, pk_and, pk_or, Bool.not_true, Bool.not_false, not_true_eq_false, not_false_eq_true, Bool.and_true, Bool.true_and, Bool.and_self, ge_iff_le, Int.le_refl, if_true, if_false, reduceCtorEq, eq_self, BEq.rfl]
  have c1 : avN m * 32 ≤ 140737488355328 := by omega
  have c2 : avN m ≤ 1000000 := by omega
  obtain ⟨N, hN⟩ : ∃ N, N = (bif decide (((avN m : Nat) : Int) ≥ n) then avN m else avN m + 1) := ⟨_, rfl⟩
  have c3 : N ≤ 4611686018427387904 := by
    rw [hN]
    cases decide (((avN m : Nat) : Int) ≥ n) <;> simp only [cond_true, cond_false] <;> omega
  have c4 : ∀ f : Nat → XV, eqRow u_eqEn N N f f = true := fun f => eqRow_self (fun a => by simp [u_eqEn]) _ _
  rw [← hN]
  simp only [hn, c1, c2, c3, c4, hr, ha, hs, h0, h1, beq_self_eq_true, decide_true, decide_false, cond_true, cond_false, allN_true, Nat.le_refl, Int.toNat_natCast, Nat.beq_refl, pk_and, pk_or, Bool.not_true, Bool.not_false, not_true_eq_false, not_false_eq_true, Bool.and_true, Bool.true_and, Bool.and_self, ge_iff_le, Int.le_refl, if_true, if_false, reduceCtorEq, eq_self, BEq.rfl]
end Go.Proofs.Ytihhfmdihhmbdaa
namespace Go.Proofs.Ytihhfmdihhmbdaa.saqTells
open Go.Ra Go.ChangeShapes Go.WideShapes Go.ChangeAt Go.RowKit
open Go.ChangeMaps (open_string shut_string)
theorem own : ownKnob Try.prog.godebug = none := by kernel_rfl
def Ts : List Ty := [.slice 5 32 tEn, .int .i64, tEn, .int .i64, .int .i64, .int .i64, .int .u32]
theorem law (xs : List AV) (h : Ty.hasL Ts xs) : Pure Try.prog 6 xs (.sc (.bool true)) := by
  have h0 := h
  simp only [Ts, Ty.hasL] at h0
  obtain ⟨m, _, rfl, hm, n, _, rfl, hn, e, _, rfl, he, a, _, rfl, ha, s, _, rfl, hs, op, _, rfl, hop, w, _, rfl, hw, rfl⟩ := h0
  have hr : allN (fun i => i64B (avI (avAt (avAt m i) 0)) && i64B (avI (avAt (avAt m i) (0 + 1)))) (avN m) = true := by
    rw [allN_iff]
    intro i hi
    have hv := has_at hm hi
    generalize avAt m i = v at *
    simp only [tEn, Ty.has, Ty.hasL] at hv
    obtain ⟨_, rfl, a, _, rfl, ⟨x, rfl, hx⟩, b, _, rfl, ⟨y, rfl, hy⟩, _⟩ := hv
    rw [Bool.and_eq_true]
    exact ⟨i64B_iff.2 (has_i64 ⟨x, rfl, hx⟩), i64B_iff.2 (has_i64 ⟨y, rfl, hy⟩)⟩
  have hv : 0 ≤ avI (avAt e 4) ∧ avI (avAt e 4) ≤ 4294967295 := by
    simp only [tEn, Ty.has, Ty.hasL] at he
    obtain ⟨_, rfl, a, _, rfl, _, b, _, rfl, _, c, _, rfl, _, d, _, rfl, _, z, _, rfl, ⟨y, rfl, hy⟩, _⟩ := he
    exact has_u32 ⟨y, rfl, hy⟩
  exact lawX h (tells_pure m _ _ _ _ _ _ _ _ _ _ hr (i64B_iff.2 (has_i64 ha)) (i64B_iff.2 (has_i64 hs)) hv.1 hv.2)
set_option maxRecDepth 100000 in
theorem lifted (os : Os) (started : os.Started) (H : Type) (enc : TypeId × Value → H) :
    ReturnsInHanded {} Try.checked os 6 .any (Rows.saqTellsSpec.pre6 enc Try.prog Try.f6 Rows.saqTellsRow.domain false) (Rows.saqTellsSpec.post enc Try.prog Try.f6 false true false false) := by
  refine returnsInHanded_of_change_sized (C := Try.checked) own started (by kernel_rfl) Try.func6
    (ChangeSpec.witness6 (enc := enc) (C := Try.checked) false ⟨#[], #[.slice none 0 0, .int .i64 0, .agg #[.int .i64 0, .int .i64 0, .int .i64 0, .bool false, .int .u32 0], .int .i64 0, .int .i64 0, .int .i64 0, .int .u32 0], []⟩ 8 (by kernel_rfl) (by kernel_rfl) (by kernel_rfl) (by kernel_rfl)) ?_
  intro W base args ds gs before hval hW hcnd hsz _
  refine law_post (s := Rows.saqTellsSpec) (n := 60) (Ts := Ts) (ts := [22, 3, 26, 3, 3, 3, 24]) (tb := 4) (by kernel_rfl) rfl rfl Try.underlying4 rfl (by kernel_rfl) (by kernel_rfl) (fun ds hds => ?_) law W base args ds gs before hval hW hsz
  match ds, hds with
  | [d1, d2, d3, d4, d5, d6, d7], _ => exact ⟨rfl, rfl, rfl⟩
theorem over : Rows.saqTellsRow.holds Try.pinned (OpenSpec.ofChange Rows.saqTellsSpec) :=
  OpenClaim.holds_of_wide 6 Try.f6 rfl rfl rfl rfl rfl rfl rfl ⟨rfl, rfl, rfl, rfl, rfl⟩ rfl rfl rfl rfl rfl (by kernel_rfl) Try.func6 (by kernel_rfl)
    (of_decide_eq_true (by kernel_rfl)) (by unfold Func.isWrapper; first | (rw [if_pos (by decide +kernel)]; kernel_rfl) | (rw [if_neg (by decide +kernel)]; exact ⟨rfl, rfl⟩))
    (fun os started H enc _ => lifted os started H enc)
theorem proved : Rows.SaqTellsSaid := over
end Go.Proofs.Ytihhfmdihhmbdaa.saqTells
namespace Go.Proofs.Ytihhfmdihhmbdaa
/-- The row, under a short name, for the claim. -/
theorem saqTells_holds : Rows.SaqTellsSaid := saqTells.proved
end Go.Proofs.Ytihhfmdihhmbdaa
#print axioms Go.Proofs.Ytihhfmdihhmbdaa.saqTells_holds
