/- A quotient times the divisor, and the rest, are the dividend; the rest is less, with the sign of the dividend; by nought there is none. -/
import Derived.Test.YtghmogkapedmfaaRows
import Derived.Test.YtghmogkapedmfaaAl3
import Derived.WalkKit
import Derived.ProofKit
import Derived.OpenShut
import Derived.ShutString
import Derived.ChangeOld
import Derived.Below
import Derived.SizedLaws
namespace Go.Proofs.Ytghmogkapedmfaa
open Go.Ra
set_option linter.unusedVariables false
set_option linter.unusedSimpArgs false
theorem r_div (a b : Int) (K : XV → Prop) : (quietGo TA3 80 (callI TA3 80 20) 5 [.int .u32 a, .int .u32 b] K) =
    (bif decide ((0 : Int) ≤ a) then
  bif decide (a ≤ (4294967295 : Int)) then
    bif decide ((0 : Int) ≤ b) then
      bif decide (b ≤ (4294967295 : Int)) then
        bif decide ((0 : Int) ≤ a) then
          bif decide (a ≤ (4294967295 : Int)) then
            bif decide ((0 : Int) ≤ b) then
              bif decide (b ≤ (4294967295 : Int)) then
                bif decide ((0 : Int) ≤ a) then
                  bif decide (a ≤ (4294967295 : Int)) then
                    bif decide ((0 : Int) ≤ b) then
                      bif decide (b ≤ (4294967295 : Int)) then
                        bif decide ((0 : Int) ≤ a) then
                          bif decide (a ≤ (4294967295 : Int)) then
                            bif decide ((0 : Int) ≤ b) then
                              bif decide (b ≤ (4294967295 : Int)) then
                                bif decide (b = (0 : Int)) then
                                  bif bif !dkB (13 : Int) (1 : Int) (2 : Int) (3 : Int) (0 : Int) b then !dkB (13 : Int) (1 : Int) (2 : Int) (3 : Int) (0 : Int) b else true then
                                    bif
                                        bif bif !dkB (13 : Int) (1 : Int) (2 : Int) (3 : Int) (0 : Int) b then !dkB (15 : Int) (1 : Int) (2 : Int) (3 : Int) (0 : Int) b else false then
                                          bif !dkB (13 : Int) (1 : Int) (2 : Int) (3 : Int) (0 : Int) b then !dkB (15 : Int) (1 : Int) (2 : Int) (3 : Int) (0 : Int) b else false
                                        else true then
                                      bif
                                          bif
                                              bif bif !dkB (13 : Int) (1 : Int) (2 : Int) (3 : Int) (0 : Int) b then !dkB (15 : Int) (1 : Int) (2 : Int) (3 : Int) (0 : Int) b else false then
                                                !dkB (14 : Int) (1 : Int) (2 : Int) (3 : Int) (0 : Int) b
                                              else false then
                                            bif bif !dkB (13 : Int) (1 : Int) (2 : Int) (3 : Int) (0 : Int) b then !dkB (15 : Int) (1 : Int) (2 : Int) (3 : Int) (0 : Int) b else false then
                                              !dkB (14 : Int) (1 : Int) (2 : Int) (3 : Int) (0 : Int) b
                                            else false
                                          else true then
                                        bif
                                            bif
                                                bif
                                                    bif bif !dkB (13 : Int) (1 : Int) (2 : Int) (3 : Int) (0 : Int) b then !dkB (15 : Int) (1 : Int) (2 : Int) (3 : Int) (0 : Int) b else false then
                                                      !dkB (14 : Int) (1 : Int) (2 : Int) (3 : Int) (0 : Int) b
                                                    else false then
                                                  !dkB (16 : Int) (1 : Int) (2 : Int) (3 : Int) (0 : Int) b
                                                else false then
                                              bif
                                                  bif bif !dkB (13 : Int) (1 : Int) (2 : Int) (3 : Int) (0 : Int) b then !dkB (15 : Int) (1 : Int) (2 : Int) (3 : Int) (0 : Int) b else false then
                                                    !dkB (14 : Int) (1 : Int) (2 : Int) (3 : Int) (0 : Int) b
                                                  else false then
                                                !dkB (16 : Int) (1 : Int) (2 : Int) (3 : Int) (0 : Int) b
                                              else false
                                            else true then
                                          bif
                                              bif
                                                  bif
                                                      bif
                                                          bif
                                                              bif !dkB (13 : Int) (1 : Int) (2 : Int) (3 : Int) (0 : Int) b then !dkB (15 : Int) (1 : Int) (2 : Int) (3 : Int) (0 : Int) b
                                                              else false then
                                                            !dkB (14 : Int) (1 : Int) (2 : Int) (3 : Int) (0 : Int) b
                                                          else false then
                                                        !dkB (16 : Int) (1 : Int) (2 : Int) (3 : Int) (0 : Int) b
                                                      else false then
                                                    decide (doI (13 : Int) (1 : Int) (2 : Int) (3 : Int) (0 : Int) a b = (0 : Int))
                                                  else false then
                                                bif
                                                    bif
                                                        bif bif !dkB (13 : Int) (1 : Int) (2 : Int) (3 : Int) (0 : Int) b then !dkB (15 : Int) (1 : Int) (2 : Int) (3 : Int) (0 : Int) b else false then
                                                          !dkB (14 : Int) (1 : Int) (2 : Int) (3 : Int) (0 : Int) b
                                                        else false then
                                                      !dkB (16 : Int) (1 : Int) (2 : Int) (3 : Int) (0 : Int) b
                                                    else false then
                                                  decide (doI (13 : Int) (1 : Int) (2 : Int) (3 : Int) (0 : Int) a b = (0 : Int))
                                                else false
                                              else true then
                                            bif
                                                bif
                                                    bif
                                                        bif
                                                            bif
                                                                bif
                                                                    bif !dkB (13 : Int) (1 : Int) (2 : Int) (3 : Int) (0 : Int) b then !dkB (15 : Int) (1 : Int) (2 : Int) (3 : Int) (0 : Int) b
                                                                    else false then
                                                                  !dkB (14 : Int) (1 : Int) (2 : Int) (3 : Int) (0 : Int) b
                                                                else false then
                                                              !dkB (16 : Int) (1 : Int) (2 : Int) (3 : Int) (0 : Int) b
                                                            else false then
                                                          decide (doI (13 : Int) (1 : Int) (2 : Int) (3 : Int) (0 : Int) a b = (0 : Int))
                                                        else false then
                                                      decide (doI (15 : Int) (1 : Int) (2 : Int) (3 : Int) (0 : Int) a b = (0 : Int))
                                                    else false then
                                                  bif
                                                      bif
                                                          bif
                                                              bif
                                                                  bif !dkB (13 : Int) (1 : Int) (2 : Int) (3 : Int) (0 : Int) b then !dkB (15 : Int) (1 : Int) (2 : Int) (3 : Int) (0 : Int) b
                                                                  else false then
                                                                !dkB (14 : Int) (1 : Int) (2 : Int) (3 : Int) (0 : Int) b
                                                              else false then
                                                            !dkB (16 : Int) (1 : Int) (2 : Int) (3 : Int) (0 : Int) b
                                                          else false then
                                                        decide (doI (13 : Int) (1 : Int) (2 : Int) (3 : Int) (0 : Int) a b = (0 : Int))
                                                      else false then
                                                    decide (doI (15 : Int) (1 : Int) (2 : Int) (3 : Int) (0 : Int) a b = (0 : Int))
                                                  else false
                                                else true then
                                              bif
                                                  bif
                                                      bif
                                                          bif
                                                              bif
                                                                  bif
                                                                      bif
                                                                          bif !dkB (13 : Int) (1 : Int) (2 : Int) (3 : Int) (0 : Int) b then !dkB (15 : Int) (1 : Int) (2 : Int) (3 : Int) (0 : Int) b
                                                                          else false then
                                                                        !dkB (14 : Int) (1 : Int) (2 : Int) (3 : Int) (0 : Int) b
                                                                      else false then
                                                                    !dkB (16 : Int) (1 : Int) (2 : Int) (3 : Int) (0 : Int) b
                                                                  else false then
                                                                decide (doI (13 : Int) (1 : Int) (2 : Int) (3 : Int) (0 : Int) a b = (0 : Int))
                                                              else false then
                                                            decide (doI (15 : Int) (1 : Int) (2 : Int) (3 : Int) (0 : Int) a b = (0 : Int))
                                                          else false then
                                                        decide (doI (14 : Int) (1 : Int) (2 : Int) (3 : Int) (0 : Int) a b = (0 : Int))
                                                      else false then
                                                    bif
                                                        bif
                                                            bif
                                                                bif
                                                                    bif
                                                                        bif !dkB (13 : Int) (1 : Int) (2 : Int) (3 : Int) (0 : Int) b then !dkB (15 : Int) (1 : Int) (2 : Int) (3 : Int) (0 : Int) b
                                                                        else false then
                                                                      !dkB (14 : Int) (1 : Int) (2 : Int) (3 : Int) (0 : Int) b
                                                                    else false then
                                                                  !dkB (16 : Int) (1 : Int) (2 : Int) (3 : Int) (0 : Int) b
                                                                else false then
                                                              decide (doI (13 : Int) (1 : Int) (2 : Int) (3 : Int) (0 : Int) a b = (0 : Int))
                                                            else false then
                                                          decide (doI (15 : Int) (1 : Int) (2 : Int) (3 : Int) (0 : Int) a b = (0 : Int))
                                                        else false then
                                                      decide (doI (14 : Int) (1 : Int) (2 : Int) (3 : Int) (0 : Int) a b = (0 : Int))
                                                    else false
                                                  else true then
                                                K
                                                  (XV.bool
                                                    (bif
                                                        bif
                                                            bif
                                                                bif
                                                                    bif
                                                                        bif
                                                                            bif !dkB (13 : Int) (1 : Int) (2 : Int) (3 : Int) (0 : Int) b then !dkB (15 : Int) (1 : Int) (2 : Int) (3 : Int) (0 : Int) b
                                                                            else false then
                                                                          !dkB (14 : Int) (1 : Int) (2 : Int) (3 : Int) (0 : Int) b
                                                                        else false then
                                                                      !dkB (16 : Int) (1 : Int) (2 : Int) (3 : Int) (0 : Int) b
                                                                    else false then
                                                                  decide (doI (13 : Int) (1 : Int) (2 : Int) (3 : Int) (0 : Int) a b = (0 : Int))
                                                                else false then
                                                              decide (doI (15 : Int) (1 : Int) (2 : Int) (3 : Int) (0 : Int) a b = (0 : Int))
                                                            else false then
                                                          decide (doI (14 : Int) (1 : Int) (2 : Int) (3 : Int) (0 : Int) a b = (0 : Int))
                                                        else false then
                                                      decide (doI (16 : Int) (1 : Int) (2 : Int) (3 : Int) (0 : Int) a b = (0 : Int))
                                                    else false))
                                              else False
                                            else False
                                          else False
                                        else False
                                      else False
                                    else False
                                  else False
                                else
                                  bif bif !dkB (13 : Int) (1 : Int) (2 : Int) (3 : Int) (0 : Int) b then true else !!dkB (13 : Int) (1 : Int) (2 : Int) (3 : Int) (0 : Int) b then
                                    bif
                                        bif bif !dkB (13 : Int) (1 : Int) (2 : Int) (3 : Int) (0 : Int) b then true else !dkB (15 : Int) (1 : Int) (2 : Int) (3 : Int) (0 : Int) b then true
                                        else !bif !dkB (13 : Int) (1 : Int) (2 : Int) (3 : Int) (0 : Int) b then true else !dkB (15 : Int) (1 : Int) (2 : Int) (3 : Int) (0 : Int) b then
                                      bif
                                          bif
                                              bif bif !dkB (13 : Int) (1 : Int) (2 : Int) (3 : Int) (0 : Int) b then true else !dkB (15 : Int) (1 : Int) (2 : Int) (3 : Int) (0 : Int) b then true
                                              else !dkB (14 : Int) (1 : Int) (2 : Int) (3 : Int) (0 : Int) b then
                                            true
                                          else
                                            !bif bif !dkB (13 : Int) (1 : Int) (2 : Int) (3 : Int) (0 : Int) b then true else !dkB (15 : Int) (1 : Int) (2 : Int) (3 : Int) (0 : Int) b then true
                                              else !dkB (14 : Int) (1 : Int) (2 : Int) (3 : Int) (0 : Int) b then
                                        bif
                                            !bif
                                                  bif bif !dkB (13 : Int) (1 : Int) (2 : Int) (3 : Int) (0 : Int) b then true else !dkB (15 : Int) (1 : Int) (2 : Int) (3 : Int) (0 : Int) b then true
                                                  else !dkB (14 : Int) (1 : Int) (2 : Int) (3 : Int) (0 : Int) b then
                                                true
                                              else !dkB (16 : Int) (1 : Int) (2 : Int) (3 : Int) (0 : Int) b then
                                          bif decide ((0 : Int) ≤ doI (13 : Int) (1 : Int) (2 : Int) (3 : Int) (0 : Int) a b) then
                                            bif decide (doI (13 : Int) (1 : Int) (2 : Int) (3 : Int) (0 : Int) a b ≤ (4294967295 : Int)) then
                                              bif decide ((0 : Int) ≤ b) then
                                                bif decide (b ≤ (4294967295 : Int)) then
                                                  bif decide ((0 : Int) ≤ doI (11 : Int) (1 : Int) (2 : Int) (3 : Int) (0 : Int) (doI (13 : Int) (1 : Int) (2 : Int) (3 : Int) (0 : Int) a b) b) then
                                                    bif
                                                        decide
                                                          (doI (11 : Int) (1 : Int) (2 : Int) (3 : Int) (0 : Int) (doI (13 : Int) (1 : Int) (2 : Int) (3 : Int) (0 : Int) a b) b ≤
                                                            (4294967295 : Int)) then
                                                      bif decide ((0 : Int) ≤ doI (15 : Int) (1 : Int) (2 : Int) (3 : Int) (0 : Int) a b) then
                                                        bif decide (doI (15 : Int) (1 : Int) (2 : Int) (3 : Int) (0 : Int) a b ≤ (4294967295 : Int)) then
                                                          bif
                                                              !bif
                                                                    bif
                                                                        bif
                                                                            bif !dkB (13 : Int) (1 : Int) (2 : Int) (3 : Int) (0 : Int) b then true
                                                                            else !dkB (15 : Int) (1 : Int) (2 : Int) (3 : Int) (0 : Int) b then
                                                                          true
                                                                        else !dkB (14 : Int) (1 : Int) (2 : Int) (3 : Int) (0 : Int) b then
                                                                      true
                                                                    else !dkB (16 : Int) (1 : Int) (2 : Int) (3 : Int) (0 : Int) b then
                                                                  true
                                                                else
                                                                  decide
                                                                    ¬doI (1 : Int) (1 : Int) (2 : Int) (3 : Int) (0 : Int)
                                                                          (doI (11 : Int) (1 : Int) (2 : Int) (3 : Int) (0 : Int) (doI (13 : Int) (1 : Int) (2 : Int) (3 : Int) (0 : Int) a b) b)
                                                                          (doI (15 : Int) (1 : Int) (2 : Int) (3 : Int) (0 : Int) a b) =
                                                                        a then
                                                            bif decide ((0 : Int) ≤ doI (14 : Int) (1 : Int) (2 : Int) (3 : Int) (0 : Int) a b) then
                                                              bif decide (doI (14 : Int) (1 : Int) (2 : Int) (3 : Int) (0 : Int) a b ≤ (4294967295 : Int)) then
                                                                bif decide ((0 : Int) ≤ b) then
                                                                  bif decide (b ≤ (4294967295 : Int)) then
                                                                    bif
                                                                        decide
                                                                          ((0 : Int) ≤
                                                                            doI (11 : Int) (1 : Int) (2 : Int) (3 : Int) (0 : Int) (doI (14 : Int) (1 : Int) (2 : Int) (3 : Int) (0 : Int) a b) b) then
                                                                      bif
                                                                          decide
                                                                            (doI (11 : Int) (1 : Int) (2 : Int) (3 : Int) (0 : Int) (doI (14 : Int) (1 : Int) (2 : Int) (3 : Int) (0 : Int) a b) b ≤
                                                                              (4294967295 : Int)) then
                                                                        bif decide ((0 : Int) ≤ doI (16 : Int) (1 : Int) (2 : Int) (3 : Int) (0 : Int) a b) then
                                                                          bif decide (doI (16 : Int) (1 : Int) (2 : Int) (3 : Int) (0 : Int) a b ≤ (4294967295 : Int)) then
                                                                            bif
                                                                                bif
                                                                                    bif
                                                                                        bif
                                                                                            bif
                                                                                                bif
                                                                                                    bif !dkB (13 : Int) (1 : Int) (2 : Int) (3 : Int) (0 : Int) b then true
                                                                                                    else !dkB (15 : Int) (1 : Int) (2 : Int) (3 : Int) (0 : Int) b then
                                                                                                  true
                                                                                                else !dkB (14 : Int) (1 : Int) (2 : Int) (3 : Int) (0 : Int) b then
                                                                                              true
                                                                                            else !dkB (16 : Int) (1 : Int) (2 : Int) (3 : Int) (0 : Int) b then
                                                                                          true
                                                                                        else
                                                                                          decide
                                                                                            ¬doI (1 : Int) (1 : Int) (2 : Int) (3 : Int) (0 : Int)
                                                                                                  (doI (11 : Int) (1 : Int) (2 : Int) (3 : Int) (0 : Int)
                                                                                                    (doI (13 : Int) (1 : Int) (2 : Int) (3 : Int) (0 : Int) a b) b)
                                                                                                  (doI (15 : Int) (1 : Int) (2 : Int) (3 : Int) (0 : Int) a b) =
                                                                                                a then
                                                                                      true
                                                                                    else
                                                                                      decide
                                                                                        ¬doI (1 : Int) (1 : Int) (2 : Int) (3 : Int) (0 : Int)
                                                                                              (doI (11 : Int) (1 : Int) (2 : Int) (3 : Int) (0 : Int)
                                                                                                (doI (14 : Int) (1 : Int) (2 : Int) (3 : Int) (0 : Int) a b) b)
                                                                                              (doI (16 : Int) (1 : Int) (2 : Int) (3 : Int) (0 : Int) a b) =
                                                                                            a then
                                                                                  true
                                                                                else
                                                                                  !bif
                                                                                        bif
                                                                                            bif
                                                                                                bif
                                                                                                    bif !dkB (13 : Int) (1 : Int) (2 : Int) (3 : Int) (0 : Int) b then true
                                                                                                    else !dkB (15 : Int) (1 : Int) (2 : Int) (3 : Int) (0 : Int) b then
                                                                                                  true
                                                                                                else !dkB (14 : Int) (1 : Int) (2 : Int) (3 : Int) (0 : Int) b then
                                                                                              true
                                                                                            else !dkB (16 : Int) (1 : Int) (2 : Int) (3 : Int) (0 : Int) b then
                                                                                          true
                                                                                        else
                                                                                          decide
                                                                                            ¬doI (1 : Int) (1 : Int) (2 : Int) (3 : Int) (0 : Int)
                                                                                                  (doI (11 : Int) (1 : Int) (2 : Int) (3 : Int) (0 : Int)
                                                                                                    (doI (13 : Int) (1 : Int) (2 : Int) (3 : Int) (0 : Int) a b) b)
                                                                                                  (doI (15 : Int) (1 : Int) (2 : Int) (3 : Int) (0 : Int) a b) =
                                                                                                a then
                                                                                      true
                                                                                    else
                                                                                      decide
                                                                                        ¬doI (1 : Int) (1 : Int) (2 : Int) (3 : Int) (0 : Int)
                                                                                              (doI (11 : Int) (1 : Int) (2 : Int) (3 : Int) (0 : Int)
                                                                                                (doI (14 : Int) (1 : Int) (2 : Int) (3 : Int) (0 : Int) a b) b)
                                                                                              (doI (16 : Int) (1 : Int) (2 : Int) (3 : Int) (0 : Int) a b) =
                                                                                            a then
                                                                              bif
                                                                                  bif
                                                                                      bif
                                                                                          bif
                                                                                              bif
                                                                                                  bif
                                                                                                      bif !dkB (13 : Int) (1 : Int) (2 : Int) (3 : Int) (0 : Int) b then true
                                                                                                      else !dkB (15 : Int) (1 : Int) (2 : Int) (3 : Int) (0 : Int) b then
                                                                                                    true
                                                                                                  else !dkB (14 : Int) (1 : Int) (2 : Int) (3 : Int) (0 : Int) b then
                                                                                                true
                                                                                              else !dkB (16 : Int) (1 : Int) (2 : Int) (3 : Int) (0 : Int) b then
                                                                                            true
                                                                                          else
                                                                                            decide
                                                                                              ¬doI (1 : Int) (1 : Int) (2 : Int) (3 : Int) (0 : Int)
                                                                                                    (doI (11 : Int) (1 : Int) (2 : Int) (3 : Int) (0 : Int)
                                                                                                      (doI (13 : Int) (1 : Int) (2 : Int) (3 : Int) (0 : Int) a b) b)
                                                                                                    (doI (15 : Int) (1 : Int) (2 : Int) (3 : Int) (0 : Int) a b) =
                                                                                                  a then
                                                                                        true
                                                                                      else
                                                                                        decide
                                                                                          ¬doI (1 : Int) (1 : Int) (2 : Int) (3 : Int) (0 : Int)
                                                                                                (doI (11 : Int) (1 : Int) (2 : Int) (3 : Int) (0 : Int)
                                                                                                  (doI (14 : Int) (1 : Int) (2 : Int) (3 : Int) (0 : Int) a b) b)
                                                                                                (doI (16 : Int) (1 : Int) (2 : Int) (3 : Int) (0 : Int) a b) =
                                                                                              a then
                                                                                    true
                                                                                  else decide (doI (16 : Int) (1 : Int) (2 : Int) (3 : Int) (0 : Int) a b ≥ b) then
                                                                                K (XV.bool false)
                                                                              else
                                                                                bif decide ((0 : Int) ≤ doI (15 : Int) (1 : Int) (2 : Int) (3 : Int) (0 : Int) a b) then
                                                                                  bif decide (doI (15 : Int) (1 : Int) (2 : Int) (3 : Int) (0 : Int) a b ≤ (4294967295 : Int)) then
                                                                                    bif decide ((0 : Int) ≤ b) then
                                                                                      bif decide (b ≤ (4294967295 : Int)) then
                                                                                        bif decide (i32 (doI (15 : Int) (1 : Int) (2 : Int) (3 : Int) (0 : Int) a b) < (0 : Int)) then
                                                                                          bif decide (i32 b < (0 : Int)) then
                                                                                            bif
                                                                                                bif
                                                                                                    decide
                                                                                                      (IntKind.wrap IntKind.i64
                                                                                                          ((0 : Int) - i32 (doI (15 : Int) (1 : Int) (2 : Int) (3 : Int) (0 : Int) a b)) <
                                                                                                        IntKind.wrap IntKind.i64 ((0 : Int) - i32 b)) then
                                                                                                  true
                                                                                                else
                                                                                                  !decide
                                                                                                      (IntKind.wrap IntKind.i64
                                                                                                          ((0 : Int) - i32 (doI (15 : Int) (1 : Int) (2 : Int) (3 : Int) (0 : Int) a b)) <
                                                                                                        IntKind.wrap IntKind.i64 ((0 : Int) - i32 b)) then
                                                                                              bif
                                                                                                  bif
                                                                                                      bif decide (doI (15 : Int) (1 : Int) (2 : Int) (3 : Int) (0 : Int) a b = (0 : Int)) then true
                                                                                                      else
                                                                                                        bif
                                                                                                            decide
                                                                                                              (IntKind.wrap IntKind.i64
                                                                                                                  ((0 : Int) - i32 (doI (15 : Int) (1 : Int) (2 : Int) (3 : Int) (0 : Int) a b)) <
                                                                                                                IntKind.wrap IntKind.i64 ((0 : Int) - i32 b)) then
                                                                                                          !decide (doI (15 : Int) (1 : Int) (2 : Int) (3 : Int) (0 : Int) a b = (0 : Int))
                                                                                                        else false then
                                                                                                    true
                                                                                                  else
                                                                                                    !decide
                                                                                                        (IntKind.wrap IntKind.i64
                                                                                                            ((0 : Int) - i32 (doI (15 : Int) (1 : Int) (2 : Int) (3 : Int) (0 : Int) a b)) <
                                                                                                          IntKind.wrap IntKind.i64 ((0 : Int) - i32 b)) then
                                                                                                bif
                                                                                                    bif
                                                                                                        decide
                                                                                                          (IntKind.wrap IntKind.i64
                                                                                                              ((0 : Int) - i32 (doI (15 : Int) (1 : Int) (2 : Int) (3 : Int) (0 : Int) a b)) <
                                                                                                            IntKind.wrap IntKind.i64 ((0 : Int) - i32 b)) then
                                                                                                      decide
                                                                                                        (IntKind.wrap IntKind.i64
                                                                                                            ((0 : Int) - i32 (doI (15 : Int) (1 : Int) (2 : Int) (3 : Int) (0 : Int) a b)) <
                                                                                                          IntKind.wrap IntKind.i64 ((0 : Int) - i32 b))
                                                                                                    else true then
                                                                                                  K
                                                                                                    (XV.bool
                                                                                                      (bif
                                                                                                          decide
                                                                                                            (IntKind.wrap IntKind.i64
                                                                                                                ((0 : Int) - i32 (doI (15 : Int) (1 : Int) (2 : Int) (3 : Int) (0 : Int) a b)) <
                                                                                                              IntKind.wrap IntKind.i64 ((0 : Int) - i32 b)) then
                                                                                                        bif decide (doI (15 : Int) (1 : Int) (2 : Int) (3 : Int) (0 : Int) a b = (0 : Int)) then true
                                                                                                        else
                                                                                                          decide
                                                                                                              (Int.fdiv (doI (15 : Int) (1 : Int) (2 : Int) (3 : Int) (0 : Int) a b)
                                                                                                                  (2147483648 : Int) =
                                                                                                                (1 : Int)) ==
                                                                                                            decide (Int.fdiv a (2147483648 : Int) = (1 : Int))
                                                                                                      else false))
                                                                                                else False
                                                                                              else False
                                                                                            else False
                                                                                          else
                                                                                            bif
                                                                                                bif
                                                                                                    decide
                                                                                                      (IntKind.wrap IntKind.i64
                                                                                                          ((0 : Int) - i32 (doI (15 : Int) (1 : Int) (2 : Int) (3 : Int) (0 : Int) a b)) <
                                                                                                        i32 b) then
                                                                                                  true
                                                                                                else
                                                                                                  !decide
                                                                                                      (IntKind.wrap IntKind.i64
                                                                                                          ((0 : Int) - i32 (doI (15 : Int) (1 : Int) (2 : Int) (3 : Int) (0 : Int) a b)) <
                                                                                                        i32 b) then
                                                                                              bif
                                                                                                  bif
                                                                                                      bif decide (doI (15 : Int) (1 : Int) (2 : Int) (3 : Int) (0 : Int) a b = (0 : Int)) then true
                                                                                                      else
                                                                                                        bif
                                                                                                            decide
                                                                                                              (IntKind.wrap IntKind.i64
                                                                                                                  ((0 : Int) - i32 (doI (15 : Int) (1 : Int) (2 : Int) (3 : Int) (0 : Int) a b)) <
                                                                                                                i32 b) then
                                                                                                          !decide (doI (15 : Int) (1 : Int) (2 : Int) (3 : Int) (0 : Int) a b = (0 : Int))
                                                                                                        else false then
                                                                                                    true
                                                                                                  else
                                                                                                    !decide
                                                                                                        (IntKind.wrap IntKind.i64
                                                                                                            ((0 : Int) - i32 (doI (15 : Int) (1 : Int) (2 : Int) (3 : Int) (0 : Int) a b)) <
                                                                                                          i32 b) then
                                                                                                bif
                                                                                                    bif
                                                                                                        decide
                                                                                                          (IntKind.wrap IntKind.i64
                                                                                                              ((0 : Int) - i32 (doI (15 : Int) (1 : Int) (2 : Int) (3 : Int) (0 : Int) a b)) <
                                                                                                            i32 b) then
                                                                                                      decide
                                                                                                        (IntKind.wrap IntKind.i64
                                                                                                            ((0 : Int) - i32 (doI (15 : Int) (1 : Int) (2 : Int) (3 : Int) (0 : Int) a b)) <
                                                                                                          i32 b)
                                                                                                    else true then
                                                                                                  K
                                                                                                    (XV.bool
                                                                                                      (bif
                                                                                                          decide
                                                                                                            (IntKind.wrap IntKind.i64
                                                                                                                ((0 : Int) - i32 (doI (15 : Int) (1 : Int) (2 : Int) (3 : Int) (0 : Int) a b)) <
                                                                                                              i32 b) then
                                                                                                        bif decide (doI (15 : Int) (1 : Int) (2 : Int) (3 : Int) (0 : Int) a b = (0 : Int)) then true
                                                                                                        else
                                                                                                          decide
                                                                                                              (Int.fdiv (doI (15 : Int) (1 : Int) (2 : Int) (3 : Int) (0 : Int) a b)
                                                                                                                  (2147483648 : Int) =
                                                                                                                (1 : Int)) ==
                                                                                                            decide (Int.fdiv a (2147483648 : Int) = (1 : Int))
                                                                                                      else false))
                                                                                                else False
                                                                                              else False
                                                                                            else False
                                                                                        else
                                                                                          bif decide (i32 b < (0 : Int)) then
                                                                                            bif
                                                                                                bif
                                                                                                    decide
                                                                                                      (i32 (doI (15 : Int) (1 : Int) (2 : Int) (3 : Int) (0 : Int) a b) <
                                                                                                        IntKind.wrap IntKind.i64 ((0 : Int) - i32 b)) then
                                                                                                  true
                                                                                                else
                                                                                                  !decide
                                                                                                      (i32 (doI (15 : Int) (1 : Int) (2 : Int) (3 : Int) (0 : Int) a b) <
                                                                                                        IntKind.wrap IntKind.i64 ((0 : Int) - i32 b)) then
                                                                                              bif
                                                                                                  bif
                                                                                                      bif decide (doI (15 : Int) (1 : Int) (2 : Int) (3 : Int) (0 : Int) a b = (0 : Int)) then true
                                                                                                      else
                                                                                                        bif
                                                                                                            decide
                                                                                                              (i32 (doI (15 : Int) (1 : Int) (2 : Int) (3 : Int) (0 : Int) a b) <
                                                                                                                IntKind.wrap IntKind.i64 ((0 : Int) - i32 b)) then
                                                                                                          !decide (doI (15 : Int) (1 : Int) (2 : Int) (3 : Int) (0 : Int) a b = (0 : Int))
                                                                                                        else false then
                                                                                                    true
                                                                                                  else
                                                                                                    !decide
                                                                                                        (i32 (doI (15 : Int) (1 : Int) (2 : Int) (3 : Int) (0 : Int) a b) <
                                                                                                          IntKind.wrap IntKind.i64 ((0 : Int) - i32 b)) then
                                                                                                bif
                                                                                                    bif
                                                                                                        decide
                                                                                                          (i32 (doI (15 : Int) (1 : Int) (2 : Int) (3 : Int) (0 : Int) a b) <
                                                                                                            IntKind.wrap IntKind.i64 ((0 : Int) - i32 b)) then
                                                                                                      decide
                                                                                                        (i32 (doI (15 : Int) (1 : Int) (2 : Int) (3 : Int) (0 : Int) a b) <
                                                                                                          IntKind.wrap IntKind.i64 ((0 : Int) - i32 b))
                                                                                                    else true then
                                                                                                  K
                                                                                                    (XV.bool
                                                                                                      (bif
                                                                                                          decide
                                                                                                            (i32 (doI (15 : Int) (1 : Int) (2 : Int) (3 : Int) (0 : Int) a b) <
                                                                                                              IntKind.wrap IntKind.i64 ((0 : Int) - i32 b)) then
                                                                                                        bif decide (doI (15 : Int) (1 : Int) (2 : Int) (3 : Int) (0 : Int) a b = (0 : Int)) then true
                                                                                                        else
                                                                                                          decide
                                                                                                              (Int.fdiv (doI (15 : Int) (1 : Int) (2 : Int) (3 : Int) (0 : Int) a b)
                                                                                                                  (2147483648 : Int) =
                                                                                                                (1 : Int)) ==
                                                                                                            decide (Int.fdiv a (2147483648 : Int) = (1 : Int))
                                                                                                      else false))
                                                                                                else False
                                                                                              else False
                                                                                            else False
                                                                                          else
                                                                                            bif
                                                                                                bif decide (i32 (doI (15 : Int) (1 : Int) (2 : Int) (3 : Int) (0 : Int) a b) < i32 b) then true
                                                                                                else !decide (i32 (doI (15 : Int) (1 : Int) (2 : Int) (3 : Int) (0 : Int) a b) < i32 b) then
                                                                                              bif
                                                                                                  bif
                                                                                                      bif decide (doI (15 : Int) (1 : Int) (2 : Int) (3 : Int) (0 : Int) a b = (0 : Int)) then true
                                                                                                      else
                                                                                                        bif decide (i32 (doI (15 : Int) (1 : Int) (2 : Int) (3 : Int) (0 : Int) a b) < i32 b) then
                                                                                                          !decide (doI (15 : Int) (1 : Int) (2 : Int) (3 : Int) (0 : Int) a b = (0 : Int))
                                                                                                        else false then
                                                                                                    true
                                                                                                  else !decide (i32 (doI (15 : Int) (1 : Int) (2 : Int) (3 : Int) (0 : Int) a b) < i32 b) then
                                                                                                bif
                                                                                                    bif decide (i32 (doI (15 : Int) (1 : Int) (2 : Int) (3 : Int) (0 : Int) a b) < i32 b) then
                                                                                                      decide (i32 (doI (15 : Int) (1 : Int) (2 : Int) (3 : Int) (0 : Int) a b) < i32 b)
                                                                                                    else true then
                                                                                                  K
                                                                                                    (XV.bool
                                                                                                      (bif decide (i32 (doI (15 : Int) (1 : Int) (2 : Int) (3 : Int) (0 : Int) a b) < i32 b) then
                                                                                                        bif decide (doI (15 : Int) (1 : Int) (2 : Int) (3 : Int) (0 : Int) a b = (0 : Int)) then true
                                                                                                        else
                                                                                                          decide
                                                                                                              (Int.fdiv (doI (15 : Int) (1 : Int) (2 : Int) (3 : Int) (0 : Int) a b)
                                                                                                                  (2147483648 : Int) =
                                                                                                                (1 : Int)) ==
                                                                                                            decide (Int.fdiv a (2147483648 : Int) = (1 : Int))
                                                                                                      else false))
                                                                                                else False
                                                                                              else False
                                                                                            else False
                                                                                      else False
                                                                                    else False
                                                                                  else False
                                                                                else False
                                                                            else False
                                                                          else False
                                                                        else False
                                                                      else False
                                                                    else False
                                                                  else False
                                                                else False
                                                              else False
                                                            else False
                                                          else
                                                            bif
                                                                bif
                                                                    bif
                                                                        bif
                                                                            bif !dkB (13 : Int) (1 : Int) (2 : Int) (3 : Int) (0 : Int) b then true
                                                                            else !dkB (15 : Int) (1 : Int) (2 : Int) (3 : Int) (0 : Int) b then
                                                                          true
                                                                        else !dkB (14 : Int) (1 : Int) (2 : Int) (3 : Int) (0 : Int) b then
                                                                      true
                                                                    else !dkB (16 : Int) (1 : Int) (2 : Int) (3 : Int) (0 : Int) b then
                                                                  true
                                                                else
                                                                  decide
                                                                    ¬doI (1 : Int) (1 : Int) (2 : Int) (3 : Int) (0 : Int)
                                                                          (doI (11 : Int) (1 : Int) (2 : Int) (3 : Int) (0 : Int) (doI (13 : Int) (1 : Int) (2 : Int) (3 : Int) (0 : Int) a b) b)
                                                                          (doI (15 : Int) (1 : Int) (2 : Int) (3 : Int) (0 : Int) a b) =
                                                                        a then
                                                              K (XV.bool false)
                                                            else False
                                                        else False
                                                      else False
                                                    else False
                                                  else False
                                                else False
                                              else False
                                            else False
                                          else False
                                        else
                                          bif
                                              bif
                                                  bif bif !dkB (13 : Int) (1 : Int) (2 : Int) (3 : Int) (0 : Int) b then true else !dkB (15 : Int) (1 : Int) (2 : Int) (3 : Int) (0 : Int) b then true
                                                  else !dkB (14 : Int) (1 : Int) (2 : Int) (3 : Int) (0 : Int) b then
                                                true
                                              else !dkB (16 : Int) (1 : Int) (2 : Int) (3 : Int) (0 : Int) b then
                                            K (XV.bool false)
                                          else False
                                      else False
                                    else False
                                  else False
                              else False
                            else False
                          else False
                        else False
                      else False
                    else False
                  else False
                else False
              else False
            else False
          else False
        else False
      else False
    else False
  else False
else False) := by kernel_rfl
theorem tmod_small {x y : Int} (hy : y ≠ 0) : -(y.natAbs : Int) < Int.tmod x y ∧ Int.tmod x y < (y.natAbs : Int) := by
  have h : (Int.tmod x y).natAbs = x.natAbs % y.natAbs := Int.natAbs_tmod x y
  have h2 : x.natAbs % y.natAbs < y.natAbs := Nat.mod_lt _ (by omega)
  omega
theorem tmod_sign {x y : Int} : (0 ≤ x → 0 ≤ Int.tmod x y) ∧ (x ≤ 0 → Int.tmod x y ≤ 0) := by
  constructor
  · intro h
    exact Int.tmod_nonneg y h
  · intro h
    have h2 := Int.tmod_nonneg y (show 0 ≤ -x by omega)
    rw [Int.neg_tmod] at h2
    omega
theorem div_pure (a b : Int) (h0 : 0 ≤ a) (h1 : a ≤ 4294967295) (h2 : 0 ≤ b) (h3 : b ≤ 4294967295) : Pure Try.prog 5 (cons [.int .u32 a, .int .u32 b]) (con (.bool true)) := by
  refine pureX (u := 80) (k := 20) mix TA3ok ?_
  rw [r_div]
  simp only [pk3, pk4, decide_true, cond_true, pk_and, pk_or]
  by_cases hb : b = 0
  · subst hb
    have z13 : doI 13 1 2 3 0 a 0 = 0 := by rw [do_13]; rfl
    have z14 : doI 14 1 2 3 0 a 0 = 0 := by rw [do_14]; rfl
    have z15 : doI 15 1 2 3 0 a 0 = 0 := by rw [do_15]; rfl
    have z16 : doI 16 1 2 3 0 a 0 = 0 := by rw [do_16]; rfl
    simp only [z13, z14, z15, z16, dk_13, dk_14, dk_15, dk_16, h0, h1, h2, h3, decide_true, decide_false, cond_true, cond_false, allN_true, Nat.le_refl, Int.toNat_natCast, Nat.beq_refl, pk_and, pk_or, Bool.not_true, Bool.not_false, not_true_eq_false, not_false_eq_true, Bool.and_true, Bool.true_and, Bool.and_self, ge_iff_le, Int.le_refl, if_true, if_false, reduceCtorEq, eq_self, BEq.rfl]
  have d13 : dkB 13 1 2 3 0 b = true := by rw [dk_13, decide_eq_false hb]; rfl
  have d14 : dkB 14 1 2 3 0 b = true := by rw [dk_14, decide_eq_false hb]; rfl
  have d15 : dkB 15 1 2 3 0 b = true := by rw [dk_15, decide_eq_false hb]; rfl
  have d16 : dkB 16 1 2 3 0 b = true := by rw [dk_16, decide_eq_false hb]; rfl
  have x1 : ∀ a b : Int, alW 1 a b = (a + b) % 4294967296 := fun _ _ => rfl
  have x11 : ∀ a b : Int, alW 11 a b = (a * b) % 4294967296 := fun _ _ => rfl
  have x13 : alW 13 a b = (Int.tdiv (i32 a) (i32 b)) % 4294967296 := by simp [alW, hb]
  have x14 : alW 14 a b = a / b := by simp [alW, hb]
  have x15 : alW 15 a b = (Int.tmod (i32 a) (i32 b)) % 4294967296 := by simp [alW, hb]
  have x16 : alW 16 a b = a % b := by simp [alW, hb]
  have y0 : i32 b ≠ 0 := fun h => hb ((i32_0 h2 h3).1 h)
  have ra := i32_rng a
  have rb := i32_rng b
  have sm := tmod_small (x := i32 a) y0
  obtain ⟨sg1, sg2⟩ := tmod_sign (x := i32 a) (y := i32 b)
  have hs : doI 1 1 2 3 0 (doI 11 1 2 3 0 (doI 13 1 2 3 0 a b) b) (doI 15 1 2 3 0 a b) = a := by
    rw [do_1, do_11, do_13, do_15, x1, x11, x13, x15]
    have e : i32 b * Int.tdiv (i32 a) (i32 b) + Int.tmod (i32 a) (i32 b) = i32 a := Int.mul_tdiv_add_tmod _ _
    have e2 : (Int.tdiv (i32 a) (i32 b) % 4294967296 * b) % 4294967296 = (i32 b * Int.tdiv (i32 a) (i32 b)) % 4294967296 := by
      rw [Int.mul_comm (i32 b), Int.mul_emod, Int.emod_emod, ← i32_mod b, ← Int.mul_emod]
      rfl
    rw [e2]
    have e3 : i32 a % 4294967296 = a % 4294967296 := i32_mod a
    generalize i32 b * Int.tdiv (i32 a) (i32 b) = p at *
    generalize Int.tmod (i32 a) (i32 b) = q at *
    omega
  have hu : doI 1 1 2 3 0 (doI 11 1 2 3 0 (doI 14 1 2 3 0 a b) b) (doI 16 1 2 3 0 a b) = a := by
    rw [do_1, do_11, do_14, do_16, x1, x11, x14, x16]
    have e : b * (a / b) + a % b = a := Int.mul_ediv_add_emod a b
    rw [Int.mul_comm b] at e
    generalize a / b * b = p at *
    generalize a % b = q at *
    omega
  have h16 : ¬ (b ≤ doI 16 1 2 3 0 a b) := by
    rw [do_16, x16]
    have := Int.emod_lt_of_pos a (show 0 < b by omega)
    omega
  obtain ⟨t, ht⟩ : ∃ t, t = Int.tmod (i32 a) (i32 b) := ⟨_, rfl⟩
  rw [← ht] at sm sg1 sg2 x15
  have hi : i32 (doI 15 1 2 3 0 a b) = t := by
    rw [do_15, x15]
    unfold i32
    rw [wI32]
    unfold i32 at sm
    omega
  have r13 := do_rng 13 1 2 3 0 h0 h1 h2 h3
  have r14 := do_rng 14 1 2 3 0 h0 h1 h2 h3
  have r15 := do_rng 15 1 2 3 0 h0 h1 h2 h3
  have r16 := do_rng 16 1 2 3 0 h0 h1 h2 h3
  have r11 := do_rng 11 1 2 3 0 r13.1 r13.2 h2 h3
  have r11' := do_rng 11 1 2 3 0 r14.1 r14.2 h2 h3
  have hR : doI 15 1 2 3 0 a b = t % 4294967296 := by rw [do_15, x15]
  have hlast : doI 15 1 2 3 0 a b = 0 ∨ (decide (Int.fdiv (doI 15 1 2 3 0 a b) 2147483648 = 1) == decide (Int.fdiv a 2147483648 = 1)) = true := by
    rw [Int.fdiv_eq_ediv_of_nonneg _ (by omega), Int.fdiv_eq_ediv_of_nonneg _ (by omega), hR]
    by_cases g : t = 0
    · exact .inl (by omega)
    · refine .inr ?_
      rw [beq_iff_eq, decide_eq_decide]
      unfold i32 at sg1 sg2 sm
      rw [wI32] at sg1 sg2 sm
      omega
  have ny : -2147483648 ≤ i32 b ∧ i32 b ≤ 2147483647 := rb
  have w1 : IntKind.i64.wrap (0 - t) = -t := by rw [wrap_i64 (by omega) (by omega)]; omega
  have w2 : IntKind.i64.wrap (0 - i32 b) = -i32 b := by rw [wrap_i64 (by omega) (by omega)]; omega
  simp only [hs, hu, h16, hi, w1, w2, d13, d14, d15, d16, r13.1, r13.2, r14.1, r14.2, r15.1, r15.2, r16.1, r16.2, r11.1, r11.2, r11'.1, r11'.2, h0, h1, h2, h3, hb, decide_true, decide_false, cond_true, cond_false, allN_true, Nat.le_refl, Int.toNat_natCast, Nat.beq_refl, pk_and, pk_or, Bool.not_true, Bool.not_false, not_true_eq_false, not_false_eq_true, Bool.and_true, Bool.true_and, Bool.and_self, ge_iff_le, Int.le_refl, if_true, if_false, reduceCtorEq, eq_self, BEq.rfl]
  by_cases c1 : t < 0 <;> by_cases c2 : i32 b < 0
  · have c3 : -t < -i32 b := by omega
    rcases hlast with g | g <;> simp [c1, c2, c3, g]
  · have c3 : -t < i32 b := by omega
    rcases hlast with g | g <;> simp [c1, c2, c3, g]
  · have c3 : t < -i32 b := by omega
    rcases hlast with g | g <;> simp [c1, c2, c3, g]
  · have c3 : t < i32 b := by omega
    rcases hlast with g | g <;> simp [c1, c2, c3, g]
end Go.Proofs.Ytghmogkapedmfaa
namespace Go.Proofs.Ytghmogkapedmfaa.aluDivides
open Go.Ra Go.ChangeShapes Go.WideShapes Go.ChangeAt Go.RowKit
open Go.ChangeMaps (open_string shut_string)
theorem own : ownKnob Try.prog.godebug = none := by kernel_rfl
def Ts : List Ty := [.int .u32, .int .u32]
theorem law (xs : List AV) (h : Ty.hasL Ts xs) : Pure Try.prog 5 xs (.sc (.bool true)) := by
  have h0 := h
  simp only [Ts, Ty.hasL] at h0
  obtain ⟨a, _, rfl, ha, b, _, rfl, hb, rfl⟩ := h0
  exact lawX h (div_pure _ _ (has_u32 ha).1 (has_u32 ha).2 (has_u32 hb).1 (has_u32 hb).2)
set_option maxRecDepth 100000 in
theorem lifted (os : Os) (started : os.Started) (H : Type) (enc : TypeId × Value → H) :
    ReturnsInHanded {} Try.checked os 5 .any (Rows.aluDividesSpec.pre6 enc Try.prog Try.f5 Rows.aluDividesRow.domain false) (Rows.aluDividesSpec.post enc Try.prog Try.f5 false true false false) := by
  refine returnsInHanded_of_change_sized (C := Try.checked) own started (by kernel_rfl) Try.func5
    (ChangeSpec.witness6 (enc := enc) (C := Try.checked) false ⟨#[], #[.int .u32 0, .int .u32 0], []⟩ 8 (by kernel_rfl) (by kernel_rfl) (by kernel_rfl) (by kernel_rfl)) ?_
  intro W base args ds gs before hval hW hcnd hsz _
  refine law_post (s := Rows.aluDividesSpec) (n := 60) (Ts := Ts) (ts := [24, 24]) (tb := 4) (by kernel_rfl) rfl rfl Try.underlying4 rfl (by kernel_rfl) (by kernel_rfl) (fun ds hds => ?_) law W base args ds gs before hval hW hsz
  match ds, hds with
  | [d1, d2], _ => exact ⟨rfl, rfl, rfl⟩
theorem over : Rows.aluDividesRow.holds Try.pinned (OpenSpec.ofChange Rows.aluDividesSpec) :=
  OpenClaim.holds_of_wide 5 Try.f5 rfl rfl rfl rfl rfl rfl rfl ⟨rfl, rfl, rfl, rfl, rfl⟩ rfl rfl rfl rfl rfl (by kernel_rfl) Try.func5 (by kernel_rfl)
    (of_decide_eq_true (by kernel_rfl)) (by unfold Func.isWrapper; first | (rw [if_pos (by decide +kernel)]; kernel_rfl) | (rw [if_neg (by decide +kernel)]; exact ⟨rfl, rfl⟩))
    (fun os started H enc _ => lifted os started H enc)
theorem proved : Rows.AluDividesSaid := over
end Go.Proofs.Ytghmogkapedmfaa.aluDivides
namespace Go.Proofs.Ytghmogkapedmfaa
/-- The row, under a short name, for the claim. -/
theorem aluDivides_holds : Rows.AluDividesSaid := aluDivides.proved
end Go.Proofs.Ytghmogkapedmfaa
#print axioms Go.Proofs.Ytghmogkapedmfaa.aluDivides_holds
