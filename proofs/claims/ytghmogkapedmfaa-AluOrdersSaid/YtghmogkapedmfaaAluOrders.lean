/- Of two words just one is less, or they are one, with signs and without, and branches say so. -/
import Derived.Test.YtghmogkapedmfaaRows
import Derived.Test.YtghmogkapedmfaaAl3
import Derived.WalkKit
import Derived.ProofKit
import Derived.OpenShut
import Derived.ShutString
import Derived.ChangeOld
import Derived.Below
import Derived.SizedLaws
namespace Go.Proofs.Ytghmogkapedmfaa
open Go.Ra
set_option linter.unusedVariables false
set_option linter.unusedSimpArgs false
theorem r_ord (a b : Int) (K : XV → Prop) : (quietGo TA3 80 (callI TA3 80 20) 7 [.int .u32 a, .int .u32 b] K) =
    (bif decide ((0 : Int) ≤ a) then
  bif decide (a ≤ (4294967295 : Int)) then
    bif decide ((0 : Int) ≤ b) then
      bif decide (b ≤ (4294967295 : Int)) then
        bif decide ((0 : Int) ≤ b) then
          bif decide (b ≤ (4294967295 : Int)) then
            bif decide ((0 : Int) ≤ a) then
              bif decide (a ≤ (4294967295 : Int)) then
                bif decide ((0 : Int) ≤ a) then
                  bif decide (a ≤ (4294967295 : Int)) then
                    bif decide ((0 : Int) ≤ b) then
                      bif decide (b ≤ (4294967295 : Int)) then
                        bif decide ((0 : Int) ≤ b) then
                          bif decide (b ≤ (4294967295 : Int)) then
                            bif decide ((0 : Int) ≤ a) then
                              bif decide (a ≤ (4294967295 : Int)) then
                                bif decide ((0 : Int) ≤ a) then
                                  bif decide (a ≤ (4294967295 : Int)) then
                                    bif decide ((0 : Int) ≤ b) then
                                      bif decide (b ≤ (4294967295 : Int)) then
                                        bif bif decide ((0 : Int) ≤ a) then true else !tkB (34 : Int) a b == decide (a = b) then
                                          bif bif decide (a ≤ (4294967295 : Int)) then true else !tkB (34 : Int) a b == decide (a = b) then
                                            bif bif decide ((0 : Int) ≤ b) then true else !tkB (34 : Int) a b == decide (a = b) then
                                              bif bif decide (b ≤ (4294967295 : Int)) then true else !tkB (34 : Int) a b == decide (a = b) then
                                                bif bif tkB (34 : Int) a b == decide (a = b) then tkB (34 : Int) a b == decide (a = b) else true then
                                                  bif
                                                      bif bif tkB (34 : Int) a b == decide (a = b) then !tkB (35 : Int) a b == tkB (34 : Int) a b else false then
                                                        bif tkB (34 : Int) a b == decide (a = b) then !tkB (35 : Int) a b == tkB (34 : Int) a b else false
                                                      else true then
                                                    bif
                                                        bif
                                                            bif bif tkB (34 : Int) a b == decide (a = b) then !tkB (35 : Int) a b == tkB (34 : Int) a b else false then
                                                              decide
                                                                  (IntKind.wrap IntKind.u32
                                                                      (doI (9 : Int) (1 : Int) (2 : Int) (3 : Int) (0 : Int) a b + doI (9 : Int) (1 : Int) (2 : Int) (3 : Int) (0 : Int) b a) =
                                                                    (0 : Int)) ==
                                                                tkB (34 : Int) a b
                                                            else false then
                                                          bif bif tkB (34 : Int) a b == decide (a = b) then !tkB (35 : Int) a b == tkB (34 : Int) a b else false then
                                                            decide
                                                                (IntKind.wrap IntKind.u32
                                                                    (doI (9 : Int) (1 : Int) (2 : Int) (3 : Int) (0 : Int) a b + doI (9 : Int) (1 : Int) (2 : Int) (3 : Int) (0 : Int) b a) =
                                                                  (0 : Int)) ==
                                                              tkB (34 : Int) a b
                                                          else false
                                                        else true then
                                                      bif
                                                          bif
                                                              bif
                                                                  bif bif tkB (34 : Int) a b == decide (a = b) then !tkB (35 : Int) a b == tkB (34 : Int) a b else false then
                                                                    decide
                                                                        (IntKind.wrap IntKind.u32
                                                                            (doI (9 : Int) (1 : Int) (2 : Int) (3 : Int) (0 : Int) a b + doI (9 : Int) (1 : Int) (2 : Int) (3 : Int) (0 : Int) b a) =
                                                                          (0 : Int)) ==
                                                                      tkB (34 : Int) a b
                                                                  else false then
                                                                decide
                                                                  (IntKind.wrap IntKind.u32
                                                                      (doI (9 : Int) (1 : Int) (2 : Int) (3 : Int) (0 : Int) a b + doI (9 : Int) (1 : Int) (2 : Int) (3 : Int) (0 : Int) b a) ≤
                                                                    (1 : Int))
                                                              else false then
                                                            bif
                                                                bif bif tkB (34 : Int) a b == decide (a = b) then !tkB (35 : Int) a b == tkB (34 : Int) a b else false then
                                                                  decide
                                                                      (IntKind.wrap IntKind.u32
                                                                          (doI (9 : Int) (1 : Int) (2 : Int) (3 : Int) (0 : Int) a b + doI (9 : Int) (1 : Int) (2 : Int) (3 : Int) (0 : Int) b a) =
                                                                        (0 : Int)) ==
                                                                    tkB (34 : Int) a b
                                                                else false then
                                                              decide
                                                                (IntKind.wrap IntKind.u32
                                                                    (doI (9 : Int) (1 : Int) (2 : Int) (3 : Int) (0 : Int) a b + doI (9 : Int) (1 : Int) (2 : Int) (3 : Int) (0 : Int) b a) ≤
                                                                  (1 : Int))
                                                            else false
                                                          else true then
                                                        bif
                                                            bif
                                                                bif
                                                                    bif
                                                                        bif bif tkB (34 : Int) a b == decide (a = b) then !tkB (35 : Int) a b == tkB (34 : Int) a b else false then
                                                                          decide
                                                                              (IntKind.wrap IntKind.u32
                                                                                  (doI (9 : Int) (1 : Int) (2 : Int) (3 : Int) (0 : Int) a b +
                                                                                    doI (9 : Int) (1 : Int) (2 : Int) (3 : Int) (0 : Int) b a) =
                                                                                (0 : Int)) ==
                                                                            tkB (34 : Int) a b
                                                                        else false then
                                                                      decide
                                                                        (IntKind.wrap IntKind.u32
                                                                            (doI (9 : Int) (1 : Int) (2 : Int) (3 : Int) (0 : Int) a b + doI (9 : Int) (1 : Int) (2 : Int) (3 : Int) (0 : Int) b a) ≤
                                                                          (1 : Int))
                                                                    else false then
                                                                  decide
                                                                      (IntKind.wrap IntKind.u32
                                                                          (doI (10 : Int) (1 : Int) (2 : Int) (3 : Int) (0 : Int) a b + doI (10 : Int) (1 : Int) (2 : Int) (3 : Int) (0 : Int) b a) =
                                                                        (0 : Int)) ==
                                                                    tkB (34 : Int) a b
                                                                else false then
                                                              bif
                                                                  bif
                                                                      bif bif tkB (34 : Int) a b == decide (a = b) then !tkB (35 : Int) a b == tkB (34 : Int) a b else false then
                                                                        decide
                                                                            (IntKind.wrap IntKind.u32
                                                                                (doI (9 : Int) (1 : Int) (2 : Int) (3 : Int) (0 : Int) a b +
                                                                                  doI (9 : Int) (1 : Int) (2 : Int) (3 : Int) (0 : Int) b a) =
                                                                              (0 : Int)) ==
                                                                          tkB (34 : Int) a b
                                                                      else false then
                                                                    decide
                                                                      (IntKind.wrap IntKind.u32
                                                                          (doI (9 : Int) (1 : Int) (2 : Int) (3 : Int) (0 : Int) a b + doI (9 : Int) (1 : Int) (2 : Int) (3 : Int) (0 : Int) b a) ≤
                                                                        (1 : Int))
                                                                  else false then
                                                                decide
                                                                    (IntKind.wrap IntKind.u32
                                                                        (doI (10 : Int) (1 : Int) (2 : Int) (3 : Int) (0 : Int) a b + doI (10 : Int) (1 : Int) (2 : Int) (3 : Int) (0 : Int) b a) =
                                                                      (0 : Int)) ==
                                                                  tkB (34 : Int) a b
                                                              else false
                                                            else true then
                                                          bif
                                                              bif
                                                                  bif
                                                                      bif
                                                                          bif bif tkB (34 : Int) a b == decide (a = b) then !tkB (35 : Int) a b == tkB (34 : Int) a b else false then
                                                                            decide
                                                                                (IntKind.wrap IntKind.u32
                                                                                    (doI (9 : Int) (1 : Int) (2 : Int) (3 : Int) (0 : Int) a b +
                                                                                      doI (9 : Int) (1 : Int) (2 : Int) (3 : Int) (0 : Int) b a) =
                                                                                  (0 : Int)) ==
                                                                              tkB (34 : Int) a b
                                                                          else false then
                                                                        decide
                                                                          (IntKind.wrap IntKind.u32
                                                                              (doI (9 : Int) (1 : Int) (2 : Int) (3 : Int) (0 : Int) a b + doI (9 : Int) (1 : Int) (2 : Int) (3 : Int) (0 : Int) b a) ≤
                                                                            (1 : Int))
                                                                      else false then
                                                                    decide
                                                                        (IntKind.wrap IntKind.u32
                                                                            (doI (10 : Int) (1 : Int) (2 : Int) (3 : Int) (0 : Int) a b + doI (10 : Int) (1 : Int) (2 : Int) (3 : Int) (0 : Int) b a) =
                                                                          (0 : Int)) ==
                                                                      tkB (34 : Int) a b
                                                                  else false then
                                                                decide
                                                                  (IntKind.wrap IntKind.u32
                                                                      (doI (10 : Int) (1 : Int) (2 : Int) (3 : Int) (0 : Int) a b + doI (10 : Int) (1 : Int) (2 : Int) (3 : Int) (0 : Int) b a) ≤
                                                                    (1 : Int))
                                                              else false then
                                                            bif decide ((0 : Int) ≤ a) then
                                                              bif decide (a ≤ (4294967295 : Int)) then
                                                                bif decide ((0 : Int) ≤ b) then
                                                                  bif decide (b ≤ (4294967295 : Int)) then
                                                                    bif decide ((0 : Int) ≤ a) then
                                                                      bif decide (a ≤ (4294967295 : Int)) then
                                                                        bif decide ((0 : Int) ≤ b) then
                                                                          bif decide (b ≤ (4294967295 : Int)) then
                                                                            bif
                                                                                bif decide ((0 : Int) ≤ a) then true
                                                                                else
                                                                                  !bif
                                                                                        bif
                                                                                            bif
                                                                                                bif
                                                                                                    bif
                                                                                                        bif tkB (34 : Int) a b == decide (a = b) then !tkB (35 : Int) a b == tkB (34 : Int) a b
                                                                                                        else false then
                                                                                                      decide
                                                                                                          (IntKind.wrap IntKind.u32
                                                                                                              (doI (9 : Int) (1 : Int) (2 : Int) (3 : Int) (0 : Int) a b +
                                                                                                                doI (9 : Int) (1 : Int) (2 : Int) (3 : Int) (0 : Int) b a) =
                                                                                                            (0 : Int)) ==
                                                                                                        tkB (34 : Int) a b
                                                                                                    else false then
                                                                                                  decide
                                                                                                    (IntKind.wrap IntKind.u32
                                                                                                        (doI (9 : Int) (1 : Int) (2 : Int) (3 : Int) (0 : Int) a b +
                                                                                                          doI (9 : Int) (1 : Int) (2 : Int) (3 : Int) (0 : Int) b a) ≤
                                                                                                      (1 : Int))
                                                                                                else false then
                                                                                              decide
                                                                                                  (IntKind.wrap IntKind.u32
                                                                                                      (doI (10 : Int) (1 : Int) (2 : Int) (3 : Int) (0 : Int) a b +
                                                                                                        doI (10 : Int) (1 : Int) (2 : Int) (3 : Int) (0 : Int) b a) =
                                                                                                    (0 : Int)) ==
                                                                                                tkB (34 : Int) a b
                                                                                            else false then
                                                                                          decide
                                                                                            (IntKind.wrap IntKind.u32
                                                                                                (doI (10 : Int) (1 : Int) (2 : Int) (3 : Int) (0 : Int) a b +
                                                                                                  doI (10 : Int) (1 : Int) (2 : Int) (3 : Int) (0 : Int) b a) ≤
                                                                                              (1 : Int))
                                                                                        else false then
                                                                                      tkB (36 : Int) a b == decide (doI (9 : Int) (1 : Int) (2 : Int) (3 : Int) (0 : Int) a b = (1 : Int))
                                                                                    else false then
                                                                              bif
                                                                                  bif decide (a ≤ (4294967295 : Int)) then true
                                                                                  else
                                                                                    !bif
                                                                                          bif
                                                                                              bif
                                                                                                  bif
                                                                                                      bif
                                                                                                          bif tkB (34 : Int) a b == decide (a = b) then !tkB (35 : Int) a b == tkB (34 : Int) a b
                                                                                                          else false then
                                                                                                        decide
                                                                                                            (IntKind.wrap IntKind.u32
                                                                                                                (doI (9 : Int) (1 : Int) (2 : Int) (3 : Int) (0 : Int) a b +
                                                                                                                  doI (9 : Int) (1 : Int) (2 : Int) (3 : Int) (0 : Int) b a) =
                                                                                                              (0 : Int)) ==
                                                                                                          tkB (34 : Int) a b
                                                                                                      else false then
                                                                                                    decide
                                                                                                      (IntKind.wrap IntKind.u32
                                                                                                          (doI (9 : Int) (1 : Int) (2 : Int) (3 : Int) (0 : Int) a b +
                                                                                                            doI (9 : Int) (1 : Int) (2 : Int) (3 : Int) (0 : Int) b a) ≤
                                                                                                        (1 : Int))
                                                                                                  else false then
                                                                                                decide
                                                                                                    (IntKind.wrap IntKind.u32
                                                                                                        (doI (10 : Int) (1 : Int) (2 : Int) (3 : Int) (0 : Int) a b +
                                                                                                          doI (10 : Int) (1 : Int) (2 : Int) (3 : Int) (0 : Int) b a) =
                                                                                                      (0 : Int)) ==
                                                                                                  tkB (34 : Int) a b
                                                                                              else false then
                                                                                            decide
                                                                                              (IntKind.wrap IntKind.u32
                                                                                                  (doI (10 : Int) (1 : Int) (2 : Int) (3 : Int) (0 : Int) a b +
                                                                                                    doI (10 : Int) (1 : Int) (2 : Int) (3 : Int) (0 : Int) b a) ≤
                                                                                                (1 : Int))
                                                                                          else false then
                                                                                        tkB (36 : Int) a b == decide (doI (9 : Int) (1 : Int) (2 : Int) (3 : Int) (0 : Int) a b = (1 : Int))
                                                                                      else false then
                                                                                bif
                                                                                    bif decide ((0 : Int) ≤ b) then true
                                                                                    else
                                                                                      !bif
                                                                                            bif
                                                                                                bif
                                                                                                    bif
                                                                                                        bif
                                                                                                            bif tkB (34 : Int) a b == decide (a = b) then !tkB (35 : Int) a b == tkB (34 : Int) a b
                                                                                                            else false then
                                                                                                          decide
                                                                                                              (IntKind.wrap IntKind.u32
                                                                                                                  (doI (9 : Int) (1 : Int) (2 : Int) (3 : Int) (0 : Int) a b +
                                                                                                                    doI (9 : Int) (1 : Int) (2 : Int) (3 : Int) (0 : Int) b a) =
                                                                                                                (0 : Int)) ==
                                                                                                            tkB (34 : Int) a b
                                                                                                        else false then
                                                                                                      decide
                                                                                                        (IntKind.wrap IntKind.u32
                                                                                                            (doI (9 : Int) (1 : Int) (2 : Int) (3 : Int) (0 : Int) a b +
                                                                                                              doI (9 : Int) (1 : Int) (2 : Int) (3 : Int) (0 : Int) b a) ≤
                                                                                                          (1 : Int))
                                                                                                    else false then
                                                                                                  decide
                                                                                                      (IntKind.wrap IntKind.u32
                                                                                                          (doI (10 : Int) (1 : Int) (2 : Int) (3 : Int) (0 : Int) a b +
                                                                                                            doI (10 : Int) (1 : Int) (2 : Int) (3 : Int) (0 : Int) b a) =
                                                                                                        (0 : Int)) ==
                                                                                                    tkB (34 : Int) a b
                                                                                                else false then
                                                                                              decide
                                                                                                (IntKind.wrap IntKind.u32
                                                                                                    (doI (10 : Int) (1 : Int) (2 : Int) (3 : Int) (0 : Int) a b +
                                                                                                      doI (10 : Int) (1 : Int) (2 : Int) (3 : Int) (0 : Int) b a) ≤
                                                                                                  (1 : Int))
                                                                                            else false then
                                                                                          tkB (36 : Int) a b == decide (doI (9 : Int) (1 : Int) (2 : Int) (3 : Int) (0 : Int) a b = (1 : Int))
                                                                                        else false then
                                                                                  bif
                                                                                      bif decide (b ≤ (4294967295 : Int)) then true
                                                                                      else
                                                                                        !bif
                                                                                              bif
                                                                                                  bif
                                                                                                      bif
                                                                                                          bif
                                                                                                              bif tkB (34 : Int) a b == decide (a = b) then !tkB (35 : Int) a b == tkB (34 : Int) a b
                                                                                                              else false then
                                                                                                            decide
                                                                                                                (IntKind.wrap IntKind.u32
                                                                                                                    (doI (9 : Int) (1 : Int) (2 : Int) (3 : Int) (0 : Int) a b +
                                                                                                                      doI (9 : Int) (1 : Int) (2 : Int) (3 : Int) (0 : Int) b a) =
                                                                                                                  (0 : Int)) ==
                                                                                                              tkB (34 : Int) a b
                                                                                                          else false then
                                                                                                        decide
                                                                                                          (IntKind.wrap IntKind.u32
                                                                                                              (doI (9 : Int) (1 : Int) (2 : Int) (3 : Int) (0 : Int) a b +
                                                                                                                doI (9 : Int) (1 : Int) (2 : Int) (3 : Int) (0 : Int) b a) ≤
                                                                                                            (1 : Int))
                                                                                                      else false then
                                                                                                    decide
                                                                                                        (IntKind.wrap IntKind.u32
                                                                                                            (doI (10 : Int) (1 : Int) (2 : Int) (3 : Int) (0 : Int) a b +
                                                                                                              doI (10 : Int) (1 : Int) (2 : Int) (3 : Int) (0 : Int) b a) =
                                                                                                          (0 : Int)) ==
                                                                                                      tkB (34 : Int) a b
                                                                                                  else false then
                                                                                                decide
                                                                                                  (IntKind.wrap IntKind.u32
                                                                                                      (doI (10 : Int) (1 : Int) (2 : Int) (3 : Int) (0 : Int) a b +
                                                                                                        doI (10 : Int) (1 : Int) (2 : Int) (3 : Int) (0 : Int) b a) ≤
                                                                                                    (1 : Int))
                                                                                              else false then
                                                                                            tkB (36 : Int) a b == decide (doI (9 : Int) (1 : Int) (2 : Int) (3 : Int) (0 : Int) a b = (1 : Int))
                                                                                          else false then
                                                                                    bif
                                                                                        bif decide ((0 : Int) ≤ a) then true
                                                                                        else
                                                                                          !bif
                                                                                                bif
                                                                                                    bif
                                                                                                        bif
                                                                                                            bif
                                                                                                                bif tkB (34 : Int) a b == decide (a = b) then !tkB (35 : Int) a b == tkB (34 : Int) a b
                                                                                                                else false then
                                                                                                              decide
                                                                                                                  (IntKind.wrap IntKind.u32
                                                                                                                      (doI (9 : Int) (1 : Int) (2 : Int) (3 : Int) (0 : Int) a b +
                                                                                                                        doI (9 : Int) (1 : Int) (2 : Int) (3 : Int) (0 : Int) b a) =
                                                                                                                    (0 : Int)) ==
                                                                                                                tkB (34 : Int) a b
                                                                                                            else false then
                                                                                                          decide
                                                                                                            (IntKind.wrap IntKind.u32
                                                                                                                (doI (9 : Int) (1 : Int) (2 : Int) (3 : Int) (0 : Int) a b +
                                                                                                                  doI (9 : Int) (1 : Int) (2 : Int) (3 : Int) (0 : Int) b a) ≤
                                                                                                              (1 : Int))
                                                                                                        else false then
                                                                                                      decide
                                                                                                          (IntKind.wrap IntKind.u32
                                                                                                              (doI (10 : Int) (1 : Int) (2 : Int) (3 : Int) (0 : Int) a b +
                                                                                                                doI (10 : Int) (1 : Int) (2 : Int) (3 : Int) (0 : Int) b a) =
                                                                                                            (0 : Int)) ==
                                                                                                        tkB (34 : Int) a b
                                                                                                    else false then
                                                                                                  decide
                                                                                                    (IntKind.wrap IntKind.u32
                                                                                                        (doI (10 : Int) (1 : Int) (2 : Int) (3 : Int) (0 : Int) a b +
                                                                                                          doI (10 : Int) (1 : Int) (2 : Int) (3 : Int) (0 : Int) b a) ≤
                                                                                                      (1 : Int))
                                                                                                else false then
                                                                                              tkB (36 : Int) a b == decide (doI (9 : Int) (1 : Int) (2 : Int) (3 : Int) (0 : Int) a b = (1 : Int))
                                                                                            else false then
                                                                                      bif
                                                                                          bif decide (a ≤ (4294967295 : Int)) then true
                                                                                          else
                                                                                            !bif
                                                                                                  bif
                                                                                                      bif
                                                                                                          bif
                                                                                                              bif
                                                                                                                  bif tkB (34 : Int) a b == decide (a = b) then
                                                                                                                    !tkB (35 : Int) a b == tkB (34 : Int) a b
                                                                                                                  else false then
                                                                                                                decide
                                                                                                                    (IntKind.wrap IntKind.u32
                                                                                                                        (doI (9 : Int) (1 : Int) (2 : Int) (3 : Int) (0 : Int) a b +
                                                                                                                          doI (9 : Int) (1 : Int) (2 : Int) (3 : Int) (0 : Int) b a) =
                                                                                                                      (0 : Int)) ==
                                                                                                                  tkB (34 : Int) a b
                                                                                                              else false then
                                                                                                            decide
                                                                                                              (IntKind.wrap IntKind.u32
                                                                                                                  (doI (9 : Int) (1 : Int) (2 : Int) (3 : Int) (0 : Int) a b +
                                                                                                                    doI (9 : Int) (1 : Int) (2 : Int) (3 : Int) (0 : Int) b a) ≤
                                                                                                                (1 : Int))
                                                                                                          else false then
                                                                                                        decide
                                                                                                            (IntKind.wrap IntKind.u32
                                                                                                                (doI (10 : Int) (1 : Int) (2 : Int) (3 : Int) (0 : Int) a b +
                                                                                                                  doI (10 : Int) (1 : Int) (2 : Int) (3 : Int) (0 : Int) b a) =
                                                                                                              (0 : Int)) ==
                                                                                                          tkB (34 : Int) a b
                                                                                                      else false then
                                                                                                    decide
                                                                                                      (IntKind.wrap IntKind.u32
                                                                                                          (doI (10 : Int) (1 : Int) (2 : Int) (3 : Int) (0 : Int) a b +
                                                                                                            doI (10 : Int) (1 : Int) (2 : Int) (3 : Int) (0 : Int) b a) ≤
                                                                                                        (1 : Int))
                                                                                                  else false then
                                                                                                tkB (36 : Int) a b == decide (doI (9 : Int) (1 : Int) (2 : Int) (3 : Int) (0 : Int) a b = (1 : Int))
                                                                                              else false then
                                                                                        bif
                                                                                            bif decide ((0 : Int) ≤ b) then true
                                                                                            else
                                                                                              !bif
                                                                                                    bif
                                                                                                        bif
                                                                                                            bif
                                                                                                                bif
                                                                                                                    bif tkB (34 : Int) a b == decide (a = b) then
                                                                                                                      !tkB (35 : Int) a b == tkB (34 : Int) a b
                                                                                                                    else false then
                                                                                                                  decide
                                                                                                                      (IntKind.wrap IntKind.u32
                                                                                                                          (doI (9 : Int) (1 : Int) (2 : Int) (3 : Int) (0 : Int) a b +
                                                                                                                            doI (9 : Int) (1 : Int) (2 : Int) (3 : Int) (0 : Int) b a) =
                                                                                                                        (0 : Int)) ==
                                                                                                                    tkB (34 : Int) a b
                                                                                                                else false then
                                                                                                              decide
                                                                                                                (IntKind.wrap IntKind.u32
                                                                                                                    (doI (9 : Int) (1 : Int) (2 : Int) (3 : Int) (0 : Int) a b +
                                                                                                                      doI (9 : Int) (1 : Int) (2 : Int) (3 : Int) (0 : Int) b a) ≤
                                                                                                                  (1 : Int))
                                                                                                            else false then
                                                                                                          decide
                                                                                                              (IntKind.wrap IntKind.u32
                                                                                                                  (doI (10 : Int) (1 : Int) (2 : Int) (3 : Int) (0 : Int) a b +
                                                                                                                    doI (10 : Int) (1 : Int) (2 : Int) (3 : Int) (0 : Int) b a) =
                                                                                                                (0 : Int)) ==
                                                                                                            tkB (34 : Int) a b
                                                                                                        else false then
                                                                                                      decide
                                                                                                        (IntKind.wrap IntKind.u32
                                                                                                            (doI (10 : Int) (1 : Int) (2 : Int) (3 : Int) (0 : Int) a b +
                                                                                                              doI (10 : Int) (1 : Int) (2 : Int) (3 : Int) (0 : Int) b a) ≤
                                                                                                          (1 : Int))
                                                                                                    else false then
                                                                                                  tkB (36 : Int) a b == decide (doI (9 : Int) (1 : Int) (2 : Int) (3 : Int) (0 : Int) a b = (1 : Int))
                                                                                                else false then
                                                                                          bif
                                                                                              bif decide (b ≤ (4294967295 : Int)) then true
                                                                                              else
                                                                                                !bif
                                                                                                      bif
                                                                                                          bif
                                                                                                              bif
                                                                                                                  bif
                                                                                                                      bif tkB (34 : Int) a b == decide (a = b) then
                                                                                                                        !tkB (35 : Int) a b == tkB (34 : Int) a b
                                                                                                                      else false then
                                                                                                                    decide
                                                                                                                        (IntKind.wrap IntKind.u32
                                                                                                                            (doI (9 : Int) (1 : Int) (2 : Int) (3 : Int) (0 : Int) a b +
                                                                                                                              doI (9 : Int) (1 : Int) (2 : Int) (3 : Int) (0 : Int) b a) =
                                                                                                                          (0 : Int)) ==
                                                                                                                      tkB (34 : Int) a b
                                                                                                                  else false then
                                                                                                                decide
                                                                                                                  (IntKind.wrap IntKind.u32
                                                                                                                      (doI (9 : Int) (1 : Int) (2 : Int) (3 : Int) (0 : Int) a b +
                                                                                                                        doI (9 : Int) (1 : Int) (2 : Int) (3 : Int) (0 : Int) b a) ≤
                                                                                                                    (1 : Int))
                                                                                                              else false then
                                                                                                            decide
                                                                                                                (IntKind.wrap IntKind.u32
                                                                                                                    (doI (10 : Int) (1 : Int) (2 : Int) (3 : Int) (0 : Int) a b +
                                                                                                                      doI (10 : Int) (1 : Int) (2 : Int) (3 : Int) (0 : Int) b a) =
                                                                                                                  (0 : Int)) ==
                                                                                                              tkB (34 : Int) a b
                                                                                                          else false then
                                                                                                        decide
                                                                                                          (IntKind.wrap IntKind.u32
                                                                                                              (doI (10 : Int) (1 : Int) (2 : Int) (3 : Int) (0 : Int) a b +
                                                                                                                doI (10 : Int) (1 : Int) (2 : Int) (3 : Int) (0 : Int) b a) ≤
                                                                                                            (1 : Int))
                                                                                                      else false then
                                                                                                    tkB (36 : Int) a b == decide (doI (9 : Int) (1 : Int) (2 : Int) (3 : Int) (0 : Int) a b = (1 : Int))
                                                                                                  else false then
                                                                                            bif
                                                                                                bif
                                                                                                    bif
                                                                                                        bif
                                                                                                            bif
                                                                                                                bif
                                                                                                                    bif
                                                                                                                        bif tkB (34 : Int) a b == decide (a = b) then
                                                                                                                          !tkB (35 : Int) a b == tkB (34 : Int) a b
                                                                                                                        else false then
                                                                                                                      decide
                                                                                                                          (IntKind.wrap IntKind.u32
                                                                                                                              (doI (9 : Int) (1 : Int) (2 : Int) (3 : Int) (0 : Int) a b +
                                                                                                                                doI (9 : Int) (1 : Int) (2 : Int) (3 : Int) (0 : Int) b a) =
                                                                                                                            (0 : Int)) ==
                                                                                                                        tkB (34 : Int) a b
                                                                                                                    else false then
                                                                                                                  decide
                                                                                                                    (IntKind.wrap IntKind.u32
                                                                                                                        (doI (9 : Int) (1 : Int) (2 : Int) (3 : Int) (0 : Int) a b +
                                                                                                                          doI (9 : Int) (1 : Int) (2 : Int) (3 : Int) (0 : Int) b a) ≤
                                                                                                                      (1 : Int))
                                                                                                                else false then
                                                                                                              decide
                                                                                                                  (IntKind.wrap IntKind.u32
                                                                                                                      (doI (10 : Int) (1 : Int) (2 : Int) (3 : Int) (0 : Int) a b +
                                                                                                                        doI (10 : Int) (1 : Int) (2 : Int) (3 : Int) (0 : Int) b a) =
                                                                                                                    (0 : Int)) ==
                                                                                                                tkB (34 : Int) a b
                                                                                                            else false then
                                                                                                          decide
                                                                                                            (IntKind.wrap IntKind.u32
                                                                                                                (doI (10 : Int) (1 : Int) (2 : Int) (3 : Int) (0 : Int) a b +
                                                                                                                  doI (10 : Int) (1 : Int) (2 : Int) (3 : Int) (0 : Int) b a) ≤
                                                                                                              (1 : Int))
                                                                                                        else false then
                                                                                                      tkB (36 : Int) a b ==
                                                                                                        decide (doI (9 : Int) (1 : Int) (2 : Int) (3 : Int) (0 : Int) a b = (1 : Int))
                                                                                                    else false then
                                                                                                  bif
                                                                                                      bif
                                                                                                          bif
                                                                                                              bif
                                                                                                                  bif
                                                                                                                      bif tkB (34 : Int) a b == decide (a = b) then
                                                                                                                        !tkB (35 : Int) a b == tkB (34 : Int) a b
                                                                                                                      else false then
                                                                                                                    decide
                                                                                                                        (IntKind.wrap IntKind.u32
                                                                                                                            (doI (9 : Int) (1 : Int) (2 : Int) (3 : Int) (0 : Int) a b +
                                                                                                                              doI (9 : Int) (1 : Int) (2 : Int) (3 : Int) (0 : Int) b a) =
                                                                                                                          (0 : Int)) ==
                                                                                                                      tkB (34 : Int) a b
                                                                                                                  else false then
                                                                                                                decide
                                                                                                                  (IntKind.wrap IntKind.u32
                                                                                                                      (doI (9 : Int) (1 : Int) (2 : Int) (3 : Int) (0 : Int) a b +
                                                                                                                        doI (9 : Int) (1 : Int) (2 : Int) (3 : Int) (0 : Int) b a) ≤
                                                                                                                    (1 : Int))
                                                                                                              else false then
                                                                                                            decide
                                                                                                                (IntKind.wrap IntKind.u32
                                                                                                                    (doI (10 : Int) (1 : Int) (2 : Int) (3 : Int) (0 : Int) a b +
                                                                                                                      doI (10 : Int) (1 : Int) (2 : Int) (3 : Int) (0 : Int) b a) =
                                                                                                                  (0 : Int)) ==
                                                                                                              tkB (34 : Int) a b
                                                                                                          else false then
                                                                                                        decide
                                                                                                          (IntKind.wrap IntKind.u32
                                                                                                              (doI (10 : Int) (1 : Int) (2 : Int) (3 : Int) (0 : Int) a b +
                                                                                                                doI (10 : Int) (1 : Int) (2 : Int) (3 : Int) (0 : Int) b a) ≤
                                                                                                            (1 : Int))
                                                                                                      else false then
                                                                                                    tkB (36 : Int) a b == decide (doI (9 : Int) (1 : Int) (2 : Int) (3 : Int) (0 : Int) a b = (1 : Int))
                                                                                                  else false
                                                                                                else true then
                                                                                              bif
                                                                                                  bif
                                                                                                      bif
                                                                                                          bif
                                                                                                              bif
                                                                                                                  bif
                                                                                                                      bif
                                                                                                                          bif tkB (34 : Int) a b == decide (a = b) then
                                                                                                                            !tkB (35 : Int) a b == tkB (34 : Int) a b
                                                                                                                          else false then
                                                                                                                        decide
                                                                                                                            (IntKind.wrap IntKind.u32
                                                                                                                                (doI (9 : Int) (1 : Int) (2 : Int) (3 : Int) (0 : Int) a b +
                                                                                                                                  doI (9 : Int) (1 : Int) (2 : Int) (3 : Int) (0 : Int) b a) =
                                                                                                                              (0 : Int)) ==
                                                                                                                          tkB (34 : Int) a b
                                                                                                                      else false then
                                                                                                                    decide
                                                                                                                      (IntKind.wrap IntKind.u32
                                                                                                                          (doI (9 : Int) (1 : Int) (2 : Int) (3 : Int) (0 : Int) a b +
                                                                                                                            doI (9 : Int) (1 : Int) (2 : Int) (3 : Int) (0 : Int) b a) ≤
                                                                                                                        (1 : Int))
                                                                                                                  else false then
                                                                                                                decide
                                                                                                                    (IntKind.wrap IntKind.u32
                                                                                                                        (doI (10 : Int) (1 : Int) (2 : Int) (3 : Int) (0 : Int) a b +
                                                                                                                          doI (10 : Int) (1 : Int) (2 : Int) (3 : Int) (0 : Int) b a) =
                                                                                                                      (0 : Int)) ==
                                                                                                                  tkB (34 : Int) a b
                                                                                                              else false then
                                                                                                            decide
                                                                                                              (IntKind.wrap IntKind.u32
                                                                                                                  (doI (10 : Int) (1 : Int) (2 : Int) (3 : Int) (0 : Int) a b +
                                                                                                                    doI (10 : Int) (1 : Int) (2 : Int) (3 : Int) (0 : Int) b a) ≤
                                                                                                                (1 : Int))
                                                                                                          else false then
                                                                                                        tkB (36 : Int) a b ==
                                                                                                          decide (doI (9 : Int) (1 : Int) (2 : Int) (3 : Int) (0 : Int) a b = (1 : Int))
                                                                                                      else false then
                                                                                                    !tkB (37 : Int) a b == tkB (36 : Int) a b
                                                                                                  else false then
                                                                                                bif decide ((0 : Int) ≤ a) then
                                                                                                  bif decide (a ≤ (4294967295 : Int)) then
                                                                                                    bif decide ((0 : Int) ≤ b) then
                                                                                                      bif decide (b ≤ (4294967295 : Int)) then
                                                                                                        bif decide ((0 : Int) ≤ a) then
                                                                                                          bif decide (a ≤ (4294967295 : Int)) then
                                                                                                            bif decide ((0 : Int) ≤ b) then
                                                                                                              bif decide (b ≤ (4294967295 : Int)) then
                                                                                                                bif
                                                                                                                    bif decide ((0 : Int) ≤ a) then true
                                                                                                                    else
                                                                                                                      !bif
                                                                                                                            bif
                                                                                                                                bif
                                                                                                                                    bif
                                                                                                                                        bif
                                                                                                                                            bif
                                                                                                                                                bif
                                                                                                                                                    bif tkB (34 : Int) a b == decide (a = b) then
                                                                                                                                                      !tkB (35 : Int) a b == tkB (34 : Int) a b
                                                                                                                                                    else false then
                                                                                                                                                  decide
                                                                                                                                                      (IntKind.wrap IntKind.u32
                                                                                                                                                          (doI (9 : Int) (1 : Int) (2 : Int) (3 : Int)
                                                                                                                                                              (0 : Int) a b +
                                                                                                                                                            doI (9 : Int) (1 : Int) (2 : Int) (3 : Int)
                                                                                                                                                              (0 : Int) b a) =
                                                                                                                                                        (0 : Int)) ==
                                                                                                                                                    tkB (34 : Int) a b
                                                                                                                                                else false then
                                                                                                                                              decide
                                                                                                                                                (IntKind.wrap IntKind.u32
                                                                                                                                                    (doI (9 : Int) (1 : Int) (2 : Int) (3 : Int)
                                                                                                                                                        (0 : Int) a b +
                                                                                                                                                      doI (9 : Int) (1 : Int) (2 : Int) (3 : Int)
                                                                                                                                                        (0 : Int) b a) ≤
                                                                                                                                                  (1 : Int))
                                                                                                                                            else false then
                                                                                                                                          decide
                                                                                                                                              (IntKind.wrap IntKind.u32
                                                                                                                                                  (doI (10 : Int) (1 : Int) (2 : Int) (3 : Int)
                                                                                                                                                      (0 : Int) a b +
                                                                                                                                                    doI (10 : Int) (1 : Int) (2 : Int) (3 : Int)
                                                                                                                                                      (0 : Int) b a) =
                                                                                                                                                (0 : Int)) ==
                                                                                                                                            tkB (34 : Int) a b
                                                                                                                                        else false then
                                                                                                                                      decide
                                                                                                                                        (IntKind.wrap IntKind.u32
                                                                                                                                            (doI (10 : Int) (1 : Int) (2 : Int) (3 : Int) (0 : Int) a
                                                                                                                                                b +
                                                                                                                                              doI (10 : Int) (1 : Int) (2 : Int) (3 : Int) (0 : Int) b
                                                                                                                                                a) ≤
                                                                                                                                          (1 : Int))
                                                                                                                                    else false then
                                                                                                                                  tkB (36 : Int) a b ==
                                                                                                                                    decide
                                                                                                                                      (doI (9 : Int) (1 : Int) (2 : Int) (3 : Int) (0 : Int) a b =
                                                                                                                                        (1 : Int))
                                                                                                                                else false then
                                                                                                                              !tkB (37 : Int) a b == tkB (36 : Int) a b
                                                                                                                            else false then
                                                                                                                          tkB (38 : Int) a b ==
                                                                                                                            decide
                                                                                                                              (doI (10 : Int) (1 : Int) (2 : Int) (3 : Int) (0 : Int) a b = (1 : Int))
                                                                                                                        else false then
                                                                                                                  bif
                                                                                                                      bif decide (a ≤ (4294967295 : Int)) then true
                                                                                                                      else
                                                                                                                        !bif
                                                                                                                              bif
                                                                                                                                  bif
                                                                                                                                      bif
                                                                                                                                          bif
                                                                                                                                              bif
                                                                                                                                                  bif
                                                                                                                                                      bif tkB (34 : Int) a b == decide (a = b) then
                                                                                                                                                        !tkB (35 : Int) a b == tkB (34 : Int) a b
                                                                                                                                                      else false then
                                                                                                                                                    decide
                                                                                                                                                        (IntKind.wrap IntKind.u32
                                                                                                                                                            (doI (9 : Int) (1 : Int) (2 : Int) (3 : Int)
                                                                                                                                                                (0 : Int) a b +
                                                                                                                                                              doI (9 : Int) (1 : Int) (2 : Int)
                                                                                                                                                                (3 : Int) (0 : Int) b a) =
                                                                                                                                                          (0 : Int)) ==
                                                                                                                                                      tkB (34 : Int) a b
                                                                                                                                                  else false then
                                                                                                                                                decide
                                                                                                                                                  (IntKind.wrap IntKind.u32
                                                                                                                                                      (doI (9 : Int) (1 : Int) (2 : Int) (3 : Int)
                                                                                                                                                          (0 : Int) a b +
                                                                                                                                                        doI (9 : Int) (1 : Int) (2 : Int) (3 : Int)
                                                                                                                                                          (0 : Int) b a) ≤
                                                                                                                                                    (1 : Int))
                                                                                                                                              else false then
                                                                                                                                            decide
                                                                                                                                                (IntKind.wrap IntKind.u32
                                                                                                                                                    (doI (10 : Int) (1 : Int) (2 : Int) (3 : Int)
                                                                                                                                                        (0 : Int) a b +
                                                                                                                                                      doI (10 : Int) (1 : Int) (2 : Int) (3 : Int)
                                                                                                                                                        (0 : Int) b a) =
                                                                                                                                                  (0 : Int)) ==
                                                                                                                                              tkB (34 : Int) a b
                                                                                                                                          else false then
                                                                                                                                        decide
                                                                                                                                          (IntKind.wrap IntKind.u32
                                                                                                                                              (doI (10 : Int) (1 : Int) (2 : Int) (3 : Int) (0 : Int) a
                                                                                                                                                  b +
                                                                                                                                                doI (10 : Int) (1 : Int) (2 : Int) (3 : Int) (0 : Int) b
                                                                                                                                                  a) ≤
                                                                                                                                            (1 : Int))
                                                                                                                                      else false then
                                                                                                                                    tkB (36 : Int) a b ==
                                                                                                                                      decide
                                                                                                                                        (doI (9 : Int) (1 : Int) (2 : Int) (3 : Int) (0 : Int) a b =
                                                                                                                                          (1 : Int))
                                                                                                                                  else false then
                                                                                                                                !tkB (37 : Int) a b == tkB (36 : Int) a b
                                                                                                                              else false then
                                                                                                                            tkB (38 : Int) a b ==
                                                                                                                              decide
                                                                                                                                (doI (10 : Int) (1 : Int) (2 : Int) (3 : Int) (0 : Int) a b = (1 : Int))
                                                                                                                          else false then
                                                                                                                    bif
                                                                                                                        bif decide ((0 : Int) ≤ b) then true
                                                                                                                        else
                                                                                                                          !bif
                                                                                                                                bif
                                                                                                                                    bif
                                                                                                                                        bif
                                                                                                                                            bif
                                                                                                                                                bif
                                                                                                                                                    bif
                                                                                                                                                        bif tkB (34 : Int) a b == decide (a = b) then
                                                                                                                                                          !tkB (35 : Int) a b == tkB (34 : Int) a b
                                                                                                                                                        else false then
                                                                                                                                                      decide
                                                                                                                                                          (IntKind.wrap IntKind.u32
                                                                                                                                                              (doI (9 : Int) (1 : Int) (2 : Int)
                                                                                                                                                                  (3 : Int) (0 : Int) a b +
                                                                                                                                                                doI (9 : Int) (1 : Int) (2 : Int)
                                                                                                                                                                  (3 : Int) (0 : Int) b a) =
                                                                                                                                                            (0 : Int)) ==
                                                                                                                                                        tkB (34 : Int) a b
                                                                                                                                                    else false then
                                                                                                                                                  decide
                                                                                                                                                    (IntKind.wrap IntKind.u32
                                                                                                                                                        (doI (9 : Int) (1 : Int) (2 : Int) (3 : Int)
                                                                                                                                                            (0 : Int) a b +
                                                                                                                                                          doI (9 : Int) (1 : Int) (2 : Int) (3 : Int)
                                                                                                                                                            (0 : Int) b a) ≤
                                                                                                                                                      (1 : Int))
                                                                                                                                                else false then
                                                                                                                                              decide
                                                                                                                                                  (IntKind.wrap IntKind.u32
                                                                                                                                                      (doI (10 : Int) (1 : Int) (2 : Int) (3 : Int)
                                                                                                                                                          (0 : Int) a b +
                                                                                                                                                        doI (10 : Int) (1 : Int) (2 : Int) (3 : Int)
                                                                                                                                                          (0 : Int) b a) =
                                                                                                                                                    (0 : Int)) ==
                                                                                                                                                tkB (34 : Int) a b
                                                                                                                                            else false then
                                                                                                                                          decide
                                                                                                                                            (IntKind.wrap IntKind.u32
                                                                                                                                                (doI (10 : Int) (1 : Int) (2 : Int) (3 : Int) (0 : Int)
                                                                                                                                                    a b +
                                                                                                                                                  doI (10 : Int) (1 : Int) (2 : Int) (3 : Int) (0 : Int)
                                                                                                                                                    b a) ≤
                                                                                                                                              (1 : Int))
                                                                                                                                        else false then
                                                                                                                                      tkB (36 : Int) a b ==
                                                                                                                                        decide
                                                                                                                                          (doI (9 : Int) (1 : Int) (2 : Int) (3 : Int) (0 : Int) a b =
                                                                                                                                            (1 : Int))
                                                                                                                                    else false then
                                                                                                                                  !tkB (37 : Int) a b == tkB (36 : Int) a b
                                                                                                                                else false then
                                                                                                                              tkB (38 : Int) a b ==
                                                                                                                                decide
                                                                                                                                  (doI (10 : Int) (1 : Int) (2 : Int) (3 : Int) (0 : Int) a b =
                                                                                                                                    (1 : Int))
                                                                                                                            else false then
                                                                                                                      bif
                                                                                                                          bif decide (b ≤ (4294967295 : Int)) then true
                                                                                                                          else
                                                                                                                            !bif
                                                                                                                                  bif
                                                                                                                                      bif
                                                                                                                                          bif
                                                                                                                                              bif
                                                                                                                                                  bif
                                                                                                                                                      bif
                                                                                                                                                          bif tkB (34 : Int) a b == decide (a = b) then
                                                                                                                                                            !tkB (35 : Int) a b == tkB (34 : Int) a b
                                                                                                                                                          else false then
                                                                                                                                                        decide
                                                                                                                                                            (IntKind.wrap IntKind.u32
                                                                                                                                                                (doI (9 : Int) (1 : Int) (2 : Int)
                                                                                                                                                                    (3 : Int) (0 : Int) a b +
                                                                                                                                                                  doI (9 : Int) (1 : Int) (2 : Int)
                                                                                                                                                                    (3 : Int) (0 : Int) b a) =
                                                                                                                                                              (0 : Int)) ==
                                                                                                                                                          tkB (34 : Int) a b
                                                                                                                                                      else false then
                                                                                                                                                    decide
                                                                                                                                                      (IntKind.wrap IntKind.u32
                                                                                                                                                          (doI (9 : Int) (1 : Int) (2 : Int) (3 : Int)
                                                                                                                                                              (0 : Int) a b +
                                                                                                                                                            doI (9 : Int) (1 : Int) (2 : Int) (3 : Int)
                                                                                                                                                              (0 : Int) b a) ≤
                                                                                                                                                        (1 : Int))
                                                                                                                                                  else false then
                                                                                                                                                decide
                                                                                                                                                    (IntKind.wrap IntKind.u32
                                                                                                                                                        (doI (10 : Int) (1 : Int) (2 : Int) (3 : Int)
                                                                                                                                                            (0 : Int) a b +
                                                                                                                                                          doI (10 : Int) (1 : Int) (2 : Int) (3 : Int)
                                                                                                                                                            (0 : Int) b a) =
                                                                                                                                                      (0 : Int)) ==
                                                                                                                                                  tkB (34 : Int) a b
                                                                                                                                              else false then
                                                                                                                                            decide
                                                                                                                                              (IntKind.wrap IntKind.u32
                                                                                                                                                  (doI (10 : Int) (1 : Int) (2 : Int) (3 : Int)
                                                                                                                                                      (0 : Int) a b +
                                                                                                                                                    doI (10 : Int) (1 : Int) (2 : Int) (3 : Int)
                                                                                                                                                      (0 : Int) b a) ≤
                                                                                                                                                (1 : Int))
                                                                                                                                          else false then
                                                                                                                                        tkB (36 : Int) a b ==
                                                                                                                                          decide
                                                                                                                                            (doI (9 : Int) (1 : Int) (2 : Int) (3 : Int) (0 : Int) a b =
                                                                                                                                              (1 : Int))
                                                                                                                                      else false then
                                                                                                                                    !tkB (37 : Int) a b == tkB (36 : Int) a b
                                                                                                                                  else false then
                                                                                                                                tkB (38 : Int) a b ==
                                                                                                                                  decide
                                                                                                                                    (doI (10 : Int) (1 : Int) (2 : Int) (3 : Int) (0 : Int) a b =
                                                                                                                                      (1 : Int))
                                                                                                                              else false then
                                                                                                                        bif
                                                                                                                            bif decide ((0 : Int) ≤ a) then true
                                                                                                                            else
                                                                                                                              !bif
                                                                                                                                    bif
                                                                                                                                        bif
                                                                                                                                            bif
                                                                                                                                                bif
                                                                                                                                                    bif
                                                                                                                                                        bif
                                                                                                                                                            bif
                                                                                                                                                                tkB (34 : Int) a b ==
                                                                                                                                                                  decide (a = b) then
                                                                                                                                                              !tkB (35 : Int) a b == tkB (34 : Int) a b
                                                                                                                                                            else false then
                                                                                                                                                          decide
                                                                                                                                                              (IntKind.wrap IntKind.u32
                                                                                                                                                                  (doI (9 : Int) (1 : Int) (2 : Int)
                                                                                                                                                                      (3 : Int) (0 : Int) a b +
                                                                                                                                                                    doI (9 : Int) (1 : Int) (2 : Int)
                                                                                                                                                                      (3 : Int) (0 : Int) b a) =
                                                                                                                                                                (0 : Int)) ==
                                                                                                                                                            tkB (34 : Int) a b
                                                                                                                                                        else false then
                                                                                                                                                      decide
                                                                                                                                                        (IntKind.wrap IntKind.u32
                                                                                                                                                            (doI (9 : Int) (1 : Int) (2 : Int) (3 : Int)
                                                                                                                                                                (0 : Int) a b +
                                                                                                                                                              doI (9 : Int) (1 : Int) (2 : Int)
                                                                                                                                                                (3 : Int) (0 : Int) b a) ≤
                                                                                                                                                          (1 : Int))
                                                                                                                                                    else false then
                                                                                                                                                  decide
                                                                                                                                                      (IntKind.wrap IntKind.u32
                                                                                                                                                          (doI (10 : Int) (1 : Int) (2 : Int) (3 : Int)
                                                                                                                                                              (0 : Int) a b +
                                                                                                                                                            doI (10 : Int) (1 : Int) (2 : Int) (3 : Int)
                                                                                                                                                              (0 : Int) b a) =
                                                                                                                                                        (0 : Int)) ==
                                                                                                                                                    tkB (34 : Int) a b
                                                                                                                                                else false then
                                                                                                                                              decide
                                                                                                                                                (IntKind.wrap IntKind.u32
                                                                                                                                                    (doI (10 : Int) (1 : Int) (2 : Int) (3 : Int)
                                                                                                                                                        (0 : Int) a b +
                                                                                                                                                      doI (10 : Int) (1 : Int) (2 : Int) (3 : Int)
                                                                                                                                                        (0 : Int) b a) ≤
                                                                                                                                                  (1 : Int))
                                                                                                                                            else false then
                                                                                                                                          tkB (36 : Int) a b ==
                                                                                                                                            decide
                                                                                                                                              (doI (9 : Int) (1 : Int) (2 : Int) (3 : Int) (0 : Int) a
                                                                                                                                                  b =
                                                                                                                                                (1 : Int))
                                                                                                                                        else false then
                                                                                                                                      !tkB (37 : Int) a b == tkB (36 : Int) a b
                                                                                                                                    else false then
                                                                                                                                  tkB (38 : Int) a b ==
                                                                                                                                    decide
                                                                                                                                      (doI (10 : Int) (1 : Int) (2 : Int) (3 : Int) (0 : Int) a b =
                                                                                                                                        (1 : Int))
                                                                                                                                else false then
                                                                                                                          bif
                                                                                                                              bif decide (a ≤ (4294967295 : Int)) then true
                                                                                                                              else
                                                                                                                                !bif
                                                                                                                                      bif
                                                                                                                                          bif
                                                                                                                                              bif
                                                                                                                                                  bif
                                                                                                                                                      bif
                                                                                                                                                          bif
                                                                                                                                                              bif
                                                                                                                                                                  tkB (34 : Int) a b ==
                                                                                                                                                                    decide (a = b) then
                                                                                                                                                                !tkB (35 : Int) a b ==
                                                                                                                                                                    tkB (34 : Int) a b
                                                                                                                                                              else false then
                                                                                                                                                            decide
                                                                                                                                                                (IntKind.wrap IntKind.u32
                                                                                                                                                                    (doI (9 : Int) (1 : Int) (2 : Int)
                                                                                                                                                                        (3 : Int) (0 : Int) a b +
                                                                                                                                                                      doI (9 : Int) (1 : Int) (2 : Int)
                                                                                                                                                                        (3 : Int) (0 : Int) b a) =
                                                                                                                                                                  (0 : Int)) ==
                                                                                                                                                              tkB (34 : Int) a b
                                                                                                                                                          else false then
                                                                                                                                                        decide
                                                                                                                                                          (IntKind.wrap IntKind.u32
                                                                                                                                                              (doI (9 : Int) (1 : Int) (2 : Int)
                                                                                                                                                                  (3 : Int) (0 : Int) a b +
                                                                                                                                                                doI (9 : Int) (1 : Int) (2 : Int)
                                                                                                                                                                  (3 : Int) (0 : Int) b a) ≤
                                                                                                                                                            (1 : Int))
                                                                                                                                                      else false then
                                                                                                                                                    decide
                                                                                                                                                        (IntKind.wrap IntKind.u32
                                                                                                                                                            (doI (10 : Int) (1 : Int) (2 : Int)
                                                                                                                                                                (3 : Int) (0 : Int) a b +
                                                                                                                                                              doI (10 : Int) (1 : Int) (2 : Int)
                                                                                                                                                                (3 : Int) (0 : Int) b a) =
                                                                                                                                                          (0 : Int)) ==
                                                                                                                                                      tkB (34 : Int) a b
                                                                                                                                                  else false then
                                                                                                                                                decide
                                                                                                                                                  (IntKind.wrap IntKind.u32
                                                                                                                                                      (doI (10 : Int) (1 : Int) (2 : Int) (3 : Int)
                                                                                                                                                          (0 : Int) a b +
                                                                                                                                                        doI (10 : Int) (1 : Int) (2 : Int) (3 : Int)
                                                                                                                                                          (0 : Int) b a) ≤
                                                                                                                                                    (1 : Int))
                                                                                                                                              else false then
                                                                                                                                            tkB (36 : Int) a b ==
                                                                                                                                              decide
                                                                                                                                                (doI (9 : Int) (1 : Int) (2 : Int) (3 : Int) (0 : Int) a
                                                                                                                                                    b =
                                                                                                                                                  (1 : Int))
                                                                                                                                          else false then
                                                                                                                                        !tkB (37 : Int) a b == tkB (36 : Int) a b
                                                                                                                                      else false then
                                                                                                                                    tkB (38 : Int) a b ==
                                                                                                                                      decide
                                                                                                                                        (doI (10 : Int) (1 : Int) (2 : Int) (3 : Int) (0 : Int) a b =
                                                                                                                                          (1 : Int))
                                                                                                                                  else false then
                                                                                                                            bif
                                                                                                                                bif decide ((0 : Int) ≤ b) then true
                                                                                                                                else
                                                                                                                                  !bif
                                                                                                                                        bif
                                                                                                                                            bif
                                                                                                                                                bif
                                                                                                                                                    bif
                                                                                                                                                        bif
                                                                                                                                                            bif
                                                                                                                                                                bif
                                                                                                                                                                    tkB (34 : Int) a b ==
                                                                                                                                                                      decide (a = b) then
                                                                                                                                                                  !tkB (35 : Int) a b ==
                                                                                                                                                                      tkB (34 : Int) a b
                                                                                                                                                                else false then
                                                                                                                                                              decide
                                                                                                                                                                  (IntKind.wrap IntKind.u32
                                                                                                                                                                      (doI (9 : Int) (1 : Int) (2 : Int)
                                                                                                                                                                          (3 : Int) (0 : Int) a b +
                                                                                                                                                                        doI (9 : Int) (1 : Int)
                                                                                                                                                                          (2 : Int) (3 : Int) (0 : Int)
                                                                                                                                                                          b a) =
                                                                                                                                                                    (0 : Int)) ==
                                                                                                                                                                tkB (34 : Int) a b
                                                                                                                                                            else false then
                                                                                                                                                          decide
                                                                                                                                                            (IntKind.wrap IntKind.u32
                                                                                                                                                                (doI (9 : Int) (1 : Int) (2 : Int)
                                                                                                                                                                    (3 : Int) (0 : Int) a b +
                                                                                                                                                                  doI (9 : Int) (1 : Int) (2 : Int)
                                                                                                                                                                    (3 : Int) (0 : Int) b a) ≤
                                                                                                                                                              (1 : Int))
                                                                                                                                                        else false then
                                                                                                                                                      decide
                                                                                                                                                          (IntKind.wrap IntKind.u32
                                                                                                                                                              (doI (10 : Int) (1 : Int) (2 : Int)
                                                                                                                                                                  (3 : Int) (0 : Int) a b +
                                                                                                                                                                doI (10 : Int) (1 : Int) (2 : Int)
                                                                                                                                                                  (3 : Int) (0 : Int) b a) =
                                                                                                                                                            (0 : Int)) ==
                                                                                                                                                        tkB (34 : Int) a b
                                                                                                                                                    else false then
                                                                                                                                                  decide
                                                                                                                                                    (IntKind.wrap IntKind.u32
                                                                                                                                                        (doI (10 : Int) (1 : Int) (2 : Int) (3 : Int)
                                                                                                                                                            (0 : Int) a b +
                                                                                                                                                          doI (10 : Int) (1 : Int) (2 : Int) (3 : Int)
                                                                                                                                                            (0 : Int) b a) ≤
                                                                                                                                                      (1 : Int))
                                                                                                                                                else false then
                                                                                                                                              tkB (36 : Int) a b ==
                                                                                                                                                decide
                                                                                                                                                  (doI (9 : Int) (1 : Int) (2 : Int) (3 : Int) (0 : Int)
                                                                                                                                                      a b =
                                                                                                                                                    (1 : Int))
                                                                                                                                            else false then
                                                                                                                                          !tkB (37 : Int) a b == tkB (36 : Int) a b
                                                                                                                                        else false then
                                                                                                                                      tkB (38 : Int) a b ==
                                                                                                                                        decide
                                                                                                                                          (doI (10 : Int) (1 : Int) (2 : Int) (3 : Int) (0 : Int) a b =
                                                                                                                                            (1 : Int))
                                                                                                                                    else false then
                                                                                                                              bif
                                                                                                                                  bif decide (b ≤ (4294967295 : Int)) then true
                                                                                                                                  else
                                                                                                                                    !bif
                                                                                                                                          bif
                                                                                                                                              bif
                                                                                                                                                  bif
                                                                                                                                                      bif
                                                                                                                                                          bif
                                                                                                                                                              bif
                                                                                                                                                                  bif
                                                                                                                                                                      tkB (34 : Int) a b ==
                                                                                                                                                                        decide (a = b) then
                                                                                                                                                                    !tkB (35 : Int) a b ==
                                                                                                                                                                        tkB (34 : Int) a b
                                                                                                                                                                  else false then
                                                                                                                                                                decide
                                                                                                                                                                    (IntKind.wrap IntKind.u32
                                                                                                                                                                        (doI (9 : Int) (1 : Int)
                                                                                                                                                                            (2 : Int) (3 : Int)
                                                                                                                                                                            (0 : Int) a b +
                                                                                                                                                                          doI (9 : Int) (1 : Int)
                                                                                                                                                                            (2 : Int) (3 : Int)
                                                                                                                                                                            (0 : Int) b a) =
                                                                                                                                                                      (0 : Int)) ==
                                                                                                                                                                  tkB (34 : Int) a b
                                                                                                                                                              else false then
                                                                                                                                                            decide
                                                                                                                                                              (IntKind.wrap IntKind.u32
                                                                                                                                                                  (doI (9 : Int) (1 : Int) (2 : Int)
                                                                                                                                                                      (3 : Int) (0 : Int) a b +
                                                                                                                                                                    doI (9 : Int) (1 : Int) (2 : Int)
                                                                                                                                                                      (3 : Int) (0 : Int) b a) ≤
                                                                                                                                                                (1 : Int))
                                                                                                                                                          else false then
                                                                                                                                                        decide
                                                                                                                                                            (IntKind.wrap IntKind.u32
                                                                                                                                                                (doI (10 : Int) (1 : Int) (2 : Int)
                                                                                                                                                                    (3 : Int) (0 : Int) a b +
                                                                                                                                                                  doI (10 : Int) (1 : Int) (2 : Int)
                                                                                                                                                                    (3 : Int) (0 : Int) b a) =
                                                                                                                                                              (0 : Int)) ==
                                                                                                                                                          tkB (34 : Int) a b
                                                                                                                                                      else false then
                                                                                                                                                    decide
                                                                                                                                                      (IntKind.wrap IntKind.u32
                                                                                                                                                          (doI (10 : Int) (1 : Int) (2 : Int) (3 : Int)
                                                                                                                                                              (0 : Int) a b +
                                                                                                                                                            doI (10 : Int) (1 : Int) (2 : Int) (3 : Int)
                                                                                                                                                              (0 : Int) b a) ≤
                                                                                                                                                        (1 : Int))
                                                                                                                                                  else false then
                                                                                                                                                tkB (36 : Int) a b ==
                                                                                                                                                  decide
                                                                                                                                                    (doI (9 : Int) (1 : Int) (2 : Int) (3 : Int)
                                                                                                                                                        (0 : Int) a b =
                                                                                                                                                      (1 : Int))
                                                                                                                                              else false then
                                                                                                                                            !tkB (37 : Int) a b == tkB (36 : Int) a b
                                                                                                                                          else false then
                                                                                                                                        tkB (38 : Int) a b ==
                                                                                                                                          decide
                                                                                                                                            (doI (10 : Int) (1 : Int) (2 : Int) (3 : Int) (0 : Int) a
                                                                                                                                                b =
                                                                                                                                              (1 : Int))
                                                                                                                                      else false then
                                                                                                                                bif
                                                                                                                                    bif
                                                                                                                                        bif
                                                                                                                                            bif
                                                                                                                                                bif
                                                                                                                                                    bif
                                                                                                                                                        bif
                                                                                                                                                            bif
                                                                                                                                                                bif
                                                                                                                                                                    bif
                                                                                                                                                                        tkB (34 : Int) a b ==
                                                                                                                                                                          decide (a = b) then
                                                                                                                                                                      !tkB (35 : Int) a b ==
                                                                                                                                                                          tkB (34 : Int) a b
                                                                                                                                                                    else false then
                                                                                                                                                                  decide
                                                                                                                                                                      (IntKind.wrap IntKind.u32
                                                                                                                                                                          (doI (9 : Int) (1 : Int)
                                                                                                                                                                              (2 : Int) (3 : Int)
                                                                                                                                                                              (0 : Int) a b +
                                                                                                                                                                            doI (9 : Int) (1 : Int)
                                                                                                                                                                              (2 : Int) (3 : Int)
                                                                                                                                                                              (0 : Int) b a) =
                                                                                                                                                                        (0 : Int)) ==
                                                                                                                                                                    tkB (34 : Int) a b
                                                                                                                                                                else false then
                                                                                                                                                              decide
                                                                                                                                                                (IntKind.wrap IntKind.u32
                                                                                                                                                                    (doI (9 : Int) (1 : Int) (2 : Int)
                                                                                                                                                                        (3 : Int) (0 : Int) a b +
                                                                                                                                                                      doI (9 : Int) (1 : Int) (2 : Int)
                                                                                                                                                                        (3 : Int) (0 : Int) b a) ≤
                                                                                                                                                                  (1 : Int))
                                                                                                                                                            else false then
                                                                                                                                                          decide
                                                                                                                                                              (IntKind.wrap IntKind.u32
                                                                                                                                                                  (doI (10 : Int) (1 : Int) (2 : Int)
                                                                                                                                                                      (3 : Int) (0 : Int) a b +
                                                                                                                                                                    doI (10 : Int) (1 : Int) (2 : Int)
                                                                                                                                                                      (3 : Int) (0 : Int) b a) =
                                                                                                                                                                (0 : Int)) ==
                                                                                                                                                            tkB (34 : Int) a b
                                                                                                                                                        else false then
                                                                                                                                                      decide
                                                                                                                                                        (IntKind.wrap IntKind.u32
                                                                                                                                                            (doI (10 : Int) (1 : Int) (2 : Int)
                                                                                                                                                                (3 : Int) (0 : Int) a b +
                                                                                                                                                              doI (10 : Int) (1 : Int) (2 : Int)
                                                                                                                                                                (3 : Int) (0 : Int) b a) ≤
                                                                                                                                                          (1 : Int))
                                                                                                                                                    else false then
                                                                                                                                                  tkB (36 : Int) a b ==
                                                                                                                                                    decide
                                                                                                                                                      (doI (9 : Int) (1 : Int) (2 : Int) (3 : Int)
                                                                                                                                                          (0 : Int) a b =
                                                                                                                                                        (1 : Int))
                                                                                                                                                else false then
                                                                                                                                              !tkB (37 : Int) a b == tkB (36 : Int) a b
                                                                                                                                            else false then
                                                                                                                                          tkB (38 : Int) a b ==
                                                                                                                                            decide
                                                                                                                                              (doI (10 : Int) (1 : Int) (2 : Int) (3 : Int) (0 : Int) a
                                                                                                                                                  b =
                                                                                                                                                (1 : Int))
                                                                                                                                        else false then
                                                                                                                                      bif
                                                                                                                                          bif
                                                                                                                                              bif
                                                                                                                                                  bif
                                                                                                                                                      bif
                                                                                                                                                          bif
                                                                                                                                                              bif
                                                                                                                                                                  bif
                                                                                                                                                                      tkB (34 : Int) a b ==
                                                                                                                                                                        decide (a = b) then
                                                                                                                                                                    !tkB (35 : Int) a b ==
                                                                                                                                                                        tkB (34 : Int) a b
                                                                                                                                                                  else false then
                                                                                                                                                                decide
                                                                                                                                                                    (IntKind.wrap IntKind.u32
                                                                                                                                                                        (doI (9 : Int) (1 : Int)
                                                                                                                                                                            (2 : Int) (3 : Int)
                                                                                                                                                                            (0 : Int) a b +
                                                                                                                                                                          doI (9 : Int) (1 : Int)
                                                                                                                                                                            (2 : Int) (3 : Int)
                                                                                                                                                                            (0 : Int) b a) =
                                                                                                                                                                      (0 : Int)) ==
                                                                                                                                                                  tkB (34 : Int) a b
                                                                                                                                                              else false then
                                                                                                                                                            decide
                                                                                                                                                              (IntKind.wrap IntKind.u32
                                                                                                                                                                  (doI (9 : Int) (1 : Int) (2 : Int)
                                                                                                                                                                      (3 : Int) (0 : Int) a b +
                                                                                                                                                                    doI (9 : Int) (1 : Int) (2 : Int)
                                                                                                                                                                      (3 : Int) (0 : Int) b a) ≤
                                                                                                                                                                (1 : Int))
                                                                                                                                                          else false then
                                                                                                                                                        decide
                                                                                                                                                            (IntKind.wrap IntKind.u32
                                                                                                                                                                (doI (10 : Int) (1 : Int) (2 : Int)
                                                                                                                                                                    (3 : Int) (0 : Int) a b +
                                                                                                                                                                  doI (10 : Int) (1 : Int) (2 : Int)
                                                                                                                                                                    (3 : Int) (0 : Int) b a) =
                                                                                                                                                              (0 : Int)) ==
                                                                                                                                                          tkB (34 : Int) a b
                                                                                                                                                      else false then
                                                                                                                                                    decide
                                                                                                                                                      (IntKind.wrap IntKind.u32
                                                                                                                                                          (doI (10 : Int) (1 : Int) (2 : Int) (3 : Int)
                                                                                                                                                              (0 : Int) a b +
                                                                                                                                                            doI (10 : Int) (1 : Int) (2 : Int) (3 : Int)
                                                                                                                                                              (0 : Int) b a) ≤
                                                                                                                                                        (1 : Int))
                                                                                                                                                  else false then
                                                                                                                                                tkB (36 : Int) a b ==
                                                                                                                                                  decide
                                                                                                                                                    (doI (9 : Int) (1 : Int) (2 : Int) (3 : Int)
                                                                                                                                                        (0 : Int) a b =
                                                                                                                                                      (1 : Int))
                                                                                                                                              else false then
                                                                                                                                            !tkB (37 : Int) a b == tkB (36 : Int) a b
                                                                                                                                          else false then
                                                                                                                                        tkB (38 : Int) a b ==
                                                                                                                                          decide
                                                                                                                                            (doI (10 : Int) (1 : Int) (2 : Int) (3 : Int) (0 : Int) a
                                                                                                                                                b =
                                                                                                                                              (1 : Int))
                                                                                                                                      else false
                                                                                                                                    else true then
                                                                                                                                  K
                                                                                                                                    (XV.bool
                                                                                                                                      (bif
                                                                                                                                          bif
                                                                                                                                              bif
                                                                                                                                                  bif
                                                                                                                                                      bif
                                                                                                                                                          bif
                                                                                                                                                              bif
                                                                                                                                                                  bif
                                                                                                                                                                      bif
                                                                                                                                                                          tkB (34 : Int) a b ==
                                                                                                                                                                            decide (a = b) then
                                                                                                                                                                        !tkB (35 : Int) a b ==
                                                                                                                                                                            tkB (34 : Int) a b
                                                                                                                                                                      else false then
                                                                                                                                                                    decide
                                                                                                                                                                        (IntKind.wrap IntKind.u32
                                                                                                                                                                            (doI (9 : Int) (1 : Int)
                                                                                                                                                                                (2 : Int) (3 : Int)
                                                                                                                                                                                (0 : Int) a b +
                                                                                                                                                                              doI (9 : Int) (1 : Int)
                                                                                                                                                                                (2 : Int) (3 : Int)
                                                                                                                                                                                (0 : Int) b a) =
                                                                                                                                                                          (0 : Int)) ==
                                                                                                                                                                      tkB (34 : Int) a b
                                                                                                                                                                  else false then
                                                                                                                                                                decide
                                                                                                                                                                  (IntKind.wrap IntKind.u32
                                                                                                                                                                      (doI (9 : Int) (1 : Int) (2 : Int)
                                                                                                                                                                          (3 : Int) (0 : Int) a b +
                                                                                                                                                                        doI (9 : Int) (1 : Int)
                                                                                                                                                                          (2 : Int) (3 : Int) (0 : Int)
                                                                                                                                                                          b a) ≤
                                                                                                                                                                    (1 : Int))
                                                                                                                                                              else false then
                                                                                                                                                            decide
                                                                                                                                                                (IntKind.wrap IntKind.u32
                                                                                                                                                                    (doI (10 : Int) (1 : Int) (2 : Int)
                                                                                                                                                                        (3 : Int) (0 : Int) a b +
                                                                                                                                                                      doI (10 : Int) (1 : Int) (2 : Int)
                                                                                                                                                                        (3 : Int) (0 : Int) b a) =
                                                                                                                                                                  (0 : Int)) ==
                                                                                                                                                              tkB (34 : Int) a b
                                                                                                                                                          else false then
                                                                                                                                                        decide
                                                                                                                                                          (IntKind.wrap IntKind.u32
                                                                                                                                                              (doI (10 : Int) (1 : Int) (2 : Int)
                                                                                                                                                                  (3 : Int) (0 : Int) a b +
                                                                                                                                                                doI (10 : Int) (1 : Int) (2 : Int)
                                                                                                                                                                  (3 : Int) (0 : Int) b a) ≤
                                                                                                                                                            (1 : Int))
                                                                                                                                                      else false then
                                                                                                                                                    tkB (36 : Int) a b ==
                                                                                                                                                      decide
                                                                                                                                                        (doI (9 : Int) (1 : Int) (2 : Int) (3 : Int)
                                                                                                                                                            (0 : Int) a b =
                                                                                                                                                          (1 : Int))
                                                                                                                                                  else false then
                                                                                                                                                !tkB (37 : Int) a b == tkB (36 : Int) a b
                                                                                                                                              else false then
                                                                                                                                            tkB (38 : Int) a b ==
                                                                                                                                              decide
                                                                                                                                                (doI (10 : Int) (1 : Int) (2 : Int) (3 : Int) (0 : Int)
                                                                                                                                                    a b =
                                                                                                                                                  (1 : Int))
                                                                                                                                          else false then
                                                                                                                                        !tkB (39 : Int) a b == tkB (38 : Int) a b
                                                                                                                                      else false))
                                                                                                                                else False
                                                                                                                              else False
                                                                                                                            else False
                                                                                                                          else False
                                                                                                                        else False
                                                                                                                      else False
                                                                                                                    else False
                                                                                                                  else False
                                                                                                                else False
                                                                                                              else False
                                                                                                            else False
                                                                                                          else False
                                                                                                        else False
                                                                                                      else False
                                                                                                    else False
                                                                                                  else False
                                                                                                else False
                                                                                              else
                                                                                                bif
                                                                                                    !bif
                                                                                                          bif
                                                                                                              bif
                                                                                                                  bif
                                                                                                                      bif
                                                                                                                          bif
                                                                                                                              bif tkB (34 : Int) a b == decide (a = b) then
                                                                                                                                !tkB (35 : Int) a b == tkB (34 : Int) a b
                                                                                                                              else false then
                                                                                                                            decide
                                                                                                                                (IntKind.wrap IntKind.u32
                                                                                                                                    (doI (9 : Int) (1 : Int) (2 : Int) (3 : Int) (0 : Int) a b +
                                                                                                                                      doI (9 : Int) (1 : Int) (2 : Int) (3 : Int) (0 : Int) b a) =
                                                                                                                                  (0 : Int)) ==
                                                                                                                              tkB (34 : Int) a b
                                                                                                                          else false then
                                                                                                                        decide
                                                                                                                          (IntKind.wrap IntKind.u32
                                                                                                                              (doI (9 : Int) (1 : Int) (2 : Int) (3 : Int) (0 : Int) a b +
                                                                                                                                doI (9 : Int) (1 : Int) (2 : Int) (3 : Int) (0 : Int) b a) ≤
                                                                                                                            (1 : Int))
                                                                                                                      else false then
                                                                                                                    decide
                                                                                                                        (IntKind.wrap IntKind.u32
                                                                                                                            (doI (10 : Int) (1 : Int) (2 : Int) (3 : Int) (0 : Int) a b +
                                                                                                                              doI (10 : Int) (1 : Int) (2 : Int) (3 : Int) (0 : Int) b a) =
                                                                                                                          (0 : Int)) ==
                                                                                                                      tkB (34 : Int) a b
                                                                                                                  else false then
                                                                                                                decide
                                                                                                                  (IntKind.wrap IntKind.u32
                                                                                                                      (doI (10 : Int) (1 : Int) (2 : Int) (3 : Int) (0 : Int) a b +
                                                                                                                        doI (10 : Int) (1 : Int) (2 : Int) (3 : Int) (0 : Int) b a) ≤
                                                                                                                    (1 : Int))
                                                                                                              else false then
                                                                                                            tkB (36 : Int) a b ==
                                                                                                              decide (doI (9 : Int) (1 : Int) (2 : Int) (3 : Int) (0 : Int) a b = (1 : Int))
                                                                                                          else false then
                                                                                                        !tkB (37 : Int) a b == tkB (36 : Int) a b
                                                                                                      else false then
                                                                                                  bif bif decide ((0 : Int) ≤ a) then true else true then
                                                                                                    bif bif decide (a ≤ (4294967295 : Int)) then true else true then
                                                                                                      bif bif decide ((0 : Int) ≤ b) then true else true then
                                                                                                        bif bif decide (b ≤ (4294967295 : Int)) then true else true then
                                                                                                          bif bif decide ((0 : Int) ≤ a) then true else true then
                                                                                                            bif bif decide (a ≤ (4294967295 : Int)) then true else true then
                                                                                                              bif bif decide ((0 : Int) ≤ b) then true else true then
                                                                                                                bif bif decide (b ≤ (4294967295 : Int)) then true else true then K (XV.bool false)
                                                                                                                else False
                                                                                                              else False
                                                                                                            else False
                                                                                                          else False
                                                                                                        else False
                                                                                                      else False
                                                                                                    else False
                                                                                                  else False
                                                                                                else False
                                                                                            else False
                                                                                          else False
                                                                                        else False
                                                                                      else False
                                                                                    else False
                                                                                  else False
                                                                                else False
                                                                              else False
                                                                            else False
                                                                          else False
                                                                        else False
                                                                      else False
                                                                    else False
                                                                  else False
                                                                else False
                                                              else False
                                                            else False
                                                          else
                                                            bif
                                                                !bif
                                                                      bif
                                                                          bif
                                                                              bif bif tkB (34 : Int) a b == decide (a = b) then !tkB (35 : Int) a b == tkB (34 : Int) a b else false then
                                                                                decide
                                                                                    (IntKind.wrap IntKind.u32
                                                                                        (doI (9 : Int) (1 : Int) (2 : Int) (3 : Int) (0 : Int) a b +
                                                                                          doI (9 : Int) (1 : Int) (2 : Int) (3 : Int) (0 : Int) b a) =
                                                                                      (0 : Int)) ==
                                                                                  tkB (34 : Int) a b
                                                                              else false then
                                                                            decide
                                                                              (IntKind.wrap IntKind.u32
                                                                                  (doI (9 : Int) (1 : Int) (2 : Int) (3 : Int) (0 : Int) a b +
                                                                                    doI (9 : Int) (1 : Int) (2 : Int) (3 : Int) (0 : Int) b a) ≤
                                                                                (1 : Int))
                                                                          else false then
                                                                        decide
                                                                            (IntKind.wrap IntKind.u32
                                                                                (doI (10 : Int) (1 : Int) (2 : Int) (3 : Int) (0 : Int) a b +
                                                                                  doI (10 : Int) (1 : Int) (2 : Int) (3 : Int) (0 : Int) b a) =
                                                                              (0 : Int)) ==
                                                                          tkB (34 : Int) a b
                                                                      else false then
                                                                    decide
                                                                      (IntKind.wrap IntKind.u32
                                                                          (doI (10 : Int) (1 : Int) (2 : Int) (3 : Int) (0 : Int) a b + doI (10 : Int) (1 : Int) (2 : Int) (3 : Int) (0 : Int) b a) ≤
                                                                        (1 : Int))
                                                                  else false then
                                                              bif bif decide ((0 : Int) ≤ a) then true else true then
                                                                bif bif decide (a ≤ (4294967295 : Int)) then true else true then
                                                                  bif bif decide ((0 : Int) ≤ b) then true else true then
                                                                    bif bif decide (b ≤ (4294967295 : Int)) then true else true then
                                                                      bif bif decide ((0 : Int) ≤ a) then true else true then
                                                                        bif bif decide (a ≤ (4294967295 : Int)) then true else true then
                                                                          bif bif decide ((0 : Int) ≤ b) then true else true then
                                                                            bif bif decide (b ≤ (4294967295 : Int)) then true else true then
                                                                              bif bif decide ((0 : Int) ≤ a) then true else true then
                                                                                bif bif decide (a ≤ (4294967295 : Int)) then true else true then
                                                                                  bif bif decide ((0 : Int) ≤ b) then true else true then
                                                                                    bif bif decide (b ≤ (4294967295 : Int)) then true else true then
                                                                                      bif bif decide ((0 : Int) ≤ a) then true else true then
                                                                                        bif bif decide (a ≤ (4294967295 : Int)) then true else true then
                                                                                          bif bif decide ((0 : Int) ≤ b) then true else true then
                                                                                            bif bif decide (b ≤ (4294967295 : Int)) then true else true then K (XV.bool false) else False
                                                                                          else False
                                                                                        else False
                                                                                      else False
                                                                                    else False
                                                                                  else False
                                                                                else False
                                                                              else False
                                                                            else False
                                                                          else False
                                                                        else False
                                                                      else False
                                                                    else False
                                                                  else False
                                                                else False
                                                              else False
                                                            else False
                                                        else False
                                                      else False
                                                    else False
                                                  else False
                                                else False
                                              else False
                                            else False
                                          else False
                                        else False
                                      else False
                                    else False
                                  else False
                                else False
                              else False
                            else False
                          else False
                        else False
                      else False
                    else False
                  else False
                else False
              else False
            else False
          else False
        else False
      else False
    else False
  else False
else False) := by kernel_rfl
theorem ord_pure (a b : Int) (h0 : 0 ≤ a) (h1 : a ≤ 4294967295) (h2 : 0 ≤ b) (h3 : b ≤ 4294967295) : Pure Try.prog 7 (cons [.int .u32 a, .int .u32 b]) (con (.bool true)) := by
  refine pureX (u := 80) (k := 20) mix TA3ok ?_
  rw [r_ord]
  have t1 : ∀ a b : Int, tkB 34 a b = decide (a = b) := fun _ _ => rfl
  have t2 : ∀ a b : Int, tkB 35 a b = !decide (a = b) := fun _ _ => rfl
  have t3 : ∀ a b : Int, tkB 36 a b = decide (i32 a < i32 b) := fun _ _ => rfl
  have t4 : ∀ a b : Int, tkB 37 a b = !decide (i32 a < i32 b) := fun _ _ => rfl
  have t5 : ∀ a b : Int, tkB 38 a b = decide (a < b) := fun _ _ => rfl
  have t6 : ∀ a b : Int, tkB 39 a b = !decide (a < b) := fun _ _ => rfl
  have x9 : ∀ a b : Int, alW 9 a b = oneI (decide (i32 a < i32 b)) := fun _ _ => rfl
  have x10 : ∀ a b : Int, alW 10 a b = oneI (decide (a < b)) := fun _ _ => rfl
  have hk : (a = b ∧ ¬ i32 a < i32 b ∧ ¬ i32 b < i32 a ∧ ¬ a < b ∧ ¬ b < a) ∨ (¬ a = b ∧ ((i32 a < i32 b ∧ ¬ i32 b < i32 a) ∨ (¬ i32 a < i32 b ∧ i32 b < i32 a)) ∧ ((a < b ∧ ¬ b < a) ∨ (¬ a < b ∧ b < a))) := by
    unfold i32
    rw [wI32, wI32]
    omega
  simp only [t1, t2, t3, t4, t5, t6, do_9, do_10, x9, x10, h0, h1, h2, h3, decide_true, cond_true, pk_and, pk_or]
  rcases hk with ⟨k1, k2, k3, k4, k5⟩ | ⟨k1, ⟨k2, k3⟩ | ⟨k2, k3⟩, ⟨k4, k5⟩ | ⟨k4, k5⟩⟩
  · subst k1
    simp only [k2, k4, decide_true, decide_false]
    exact Eq.refl (con (.bool true))
  all_goals
    simp only [k1, k2, k3, k4, k5, decide_true, decide_false]
    exact Eq.refl (con (.bool true))
end Go.Proofs.Ytghmogkapedmfaa
namespace Go.Proofs.Ytghmogkapedmfaa.aluOrders
open Go.Ra Go.ChangeShapes Go.WideShapes Go.ChangeAt Go.RowKit
open Go.ChangeMaps (open_string shut_string)
theorem own : ownKnob Try.prog.godebug = none := by kernel_rfl
def Ts : List Ty := [.int .u32, .int .u32]
theorem law (xs : List AV) (h : Ty.hasL Ts xs) : Pure Try.prog 7 xs (.sc (.bool true)) := by
  have h0 := h
  simp only [Ts, Ty.hasL] at h0
  obtain ⟨a, _, rfl, ha, b, _, rfl, hb, rfl⟩ := h0
  exact lawX h (ord_pure _ _ (has_u32 ha).1 (has_u32 ha).2 (has_u32 hb).1 (has_u32 hb).2)
set_option maxRecDepth 100000 in
theorem lifted (os : Os) (started : os.Started) (H : Type) (enc : TypeId × Value → H) :
    ReturnsInHanded {} Try.checked os 7 .any (Rows.aluOrdersSpec.pre6 enc Try.prog Try.f7 Rows.aluOrdersRow.domain false) (Rows.aluOrdersSpec.post enc Try.prog Try.f7 false true false false) := by
  refine returnsInHanded_of_change_sized (C := Try.checked) own started (by kernel_rfl) Try.func7
    (ChangeSpec.witness6 (enc := enc) (C := Try.checked) false ⟨#[], #[.int .u32 0, .int .u32 0], []⟩ 8 (by kernel_rfl) (by kernel_rfl) (by kernel_rfl) (by kernel_rfl)) ?_
  intro W base args ds gs before hval hW hcnd hsz _
  refine law_post (s := Rows.aluOrdersSpec) (n := 60) (Ts := Ts) (ts := [24, 24]) (tb := 4) (by kernel_rfl) rfl rfl Try.underlying4 rfl (by kernel_rfl) (by kernel_rfl) (fun ds hds => ?_) law W base args ds gs before hval hW hsz
  match ds, hds with
  | [d1, d2], _ => exact ⟨rfl, rfl, rfl⟩
theorem over : Rows.aluOrdersRow.holds Try.pinned (OpenSpec.ofChange Rows.aluOrdersSpec) :=
  OpenClaim.holds_of_wide 7 Try.f7 rfl rfl rfl rfl rfl rfl rfl ⟨rfl, rfl, rfl, rfl, rfl⟩ rfl rfl rfl rfl rfl (by kernel_rfl) Try.func7 (by kernel_rfl)
    (of_decide_eq_true (by kernel_rfl)) (by unfold Func.isWrapper; first | (rw [if_pos (by decide +kernel)]; kernel_rfl) | (rw [if_neg (by decide +kernel)]; exact ⟨rfl, rfl⟩))
    (fun os started H enc _ => lifted os started H enc)
theorem proved : Rows.AluOrdersSaid := over
end Go.Proofs.Ytghmogkapedmfaa.aluOrders
namespace Go.Proofs.Ytghmogkapedmfaa
/-- The row, under a short name, for the claim. -/
theorem aluOrders_holds : Rows.AluOrdersSaid := aluOrders.proved
end Go.Proofs.Ytghmogkapedmfaa
#print axioms Go.Proofs.Ytghmogkapedmfaa.aluOrders_holds
