/- Which addresses are the last that may be, and which the first that may not. -/
import Derived.Test.YtihhfmdihhmbdaaRows
import Derived.Test.YtihhfmdihhmbdaaBy4
import Derived.Test.YtihhfmdihhmbdaaKlaw5
import Derived.WalkKit
import Derived.ProofKit
import Derived.OpenShut
import Derived.ShutString
import Derived.ChangeOld
import Derived.Below
import Derived.SizedLaws
namespace Go.Proofs.Ytihhfmdihhmbdaa
open Go.Ra
set_option linter.unusedVariables false
set_option linter.unusedSimpArgs false
def TBe : Tab := mkT qq (cl_law5 ++ cl_bytes ++ cl_ref1 ++ cl_slices) [(30, chkSp)] gl_slices
theorem TBeok : TabOk Try.prog TBe := mkT_ok (((clok_law5.app clok_bytes).app clok_ref1).app clok_slices) ⟨sp_check1, trivial⟩ glok_slices
theorem r_edg0 (n : Int) (K : XV → Prop) : (quietGo TBe 80 (callI TBe 80 20) 12 [.int .i64 n, .int .i64 0] K) =
    (bif bif decide (n < (0 : Int)) then true else !decide (n < (0 : Int)) then
  bif bif bif decide (n < (0 : Int)) then true else decide (n > (65536 : Int)) then true else !bif decide (n < (0 : Int)) then true else decide (n > (65536 : Int)) then
    bif
        bif bif bif decide (n < (0 : Int)) then true else decide (n > (65536 : Int)) then true else false then true
        else !bif bif decide (n < (0 : Int)) then true else decide (n > (65536 : Int)) then true else false then
      bif bif bif bif decide (n < (0 : Int)) then true else decide (n > (65536 : Int)) then true else false then true else false then K (XV.bool true)
      else
        bif
            bif decide (IntKind.wrap IntKind.i64 (IntKind.wrap IntKind.i64 (IntKind.wrap IntKind.i64 (Int.tdiv n (1 : Int)) * (1 : Int)) - (1 : Int)) ≥ (0 : Int)) then
              decide (IntKind.wrap IntKind.i64 (IntKind.wrap IntKind.i64 (IntKind.wrap IntKind.i64 (Int.tdiv n (1 : Int)) * (1 : Int)) - (1 : Int)) ≥ (0 : Int))
            else true then
          bif
              bif decide (IntKind.wrap IntKind.i64 (IntKind.wrap IntKind.i64 (IntKind.wrap IntKind.i64 (Int.tdiv n (1 : Int)) * (1 : Int)) - (1 : Int)) ≥ (0 : Int)) then
                decide
                  ¬chkI (1 : Int) (IntKind.wrap IntKind.u32 (IntKind.wrap IntKind.i64 (IntKind.wrap IntKind.i64 (IntKind.wrap IntKind.i64 (Int.tdiv n (1 : Int)) * (1 : Int)) - (1 : Int)))) n =
                      (0 : Int)
              else false then
            K (XV.bool false)
          else
            bif
                bif
                    decide
                      (chkI (1 : Int)
                          (IntKind.wrap IntKind.u32
                            (IntKind.wrap IntKind.i64 (IntKind.wrap IntKind.i64 (IntKind.wrap IntKind.i64 (IntKind.wrap IntKind.i64 (Int.tdiv n (1 : Int)) * (1 : Int)) - (1 : Int)) + (1 : Int))))
                          n =
                        (2 : Int)) then
                  true
                else
                  !decide
                      (chkI (1 : Int)
                          (IntKind.wrap IntKind.u32
                            (IntKind.wrap IntKind.i64 (IntKind.wrap IntKind.i64 (IntKind.wrap IntKind.i64 (IntKind.wrap IntKind.i64 (Int.tdiv n (1 : Int)) * (1 : Int)) - (1 : Int)) + (1 : Int))))
                          n =
                        (2 : Int)) then
              bif
                  bif
                      decide
                        (chkI (1 : Int)
                            (IntKind.wrap IntKind.u32
                              (IntKind.wrap IntKind.i64 (IntKind.wrap IntKind.i64 (IntKind.wrap IntKind.i64 (IntKind.wrap IntKind.i64 (Int.tdiv n (1 : Int)) * (1 : Int)) - (1 : Int)) + (1 : Int))))
                            n =
                          (2 : Int)) then
                    decide
                      (chkI (1 : Int)
                          (IntKind.wrap IntKind.u32
                            (IntKind.wrap IntKind.i64 (IntKind.wrap IntKind.i64 (IntKind.wrap IntKind.i64 (IntKind.wrap IntKind.i64 (Int.tdiv n (1 : Int)) * (1 : Int)) - (1 : Int)) + (1 : Int))))
                          n =
                        (2 : Int))
                  else true then
                bif
                    bif
                        bif
                            decide
                              (chkI (1 : Int)
                                  (IntKind.wrap IntKind.u32
                                    (IntKind.wrap IntKind.i64
                                      (IntKind.wrap IntKind.i64 (IntKind.wrap IntKind.i64 (IntKind.wrap IntKind.i64 (Int.tdiv n (1 : Int)) * (1 : Int)) - (1 : Int)) + (1 : Int))))
                                  n =
                                (2 : Int)) then
                          true
                        else false then
                      bif
                          decide
                            (chkI (1 : Int)
                                (IntKind.wrap IntKind.u32
                                  (IntKind.wrap IntKind.i64
                                    (IntKind.wrap IntKind.i64 (IntKind.wrap IntKind.i64 (IntKind.wrap IntKind.i64 (Int.tdiv n (1 : Int)) * (1 : Int)) - (1 : Int)) + (1 : Int))))
                                n =
                              (2 : Int)) then
                        true
                      else false
                    else true then
                  K
                    (XV.bool
                      (bif
                          bif
                              decide
                                (chkI (1 : Int)
                                    (IntKind.wrap IntKind.u32
                                      (IntKind.wrap IntKind.i64
                                        (IntKind.wrap IntKind.i64 (IntKind.wrap IntKind.i64 (IntKind.wrap IntKind.i64 (Int.tdiv n (1 : Int)) * (1 : Int)) - (1 : Int)) + (1 : Int))))
                                    n =
                                  (2 : Int)) then
                            true
                          else false then
                        decide (chkI (1 : Int) (4294967292 : Int) n = (2 : Int))
                      else false))
                else False
              else False
            else False
        else False
    else False
  else False
 else False) := by kernel_rfl
theorem r_edg1 (n : Int) (K : XV → Prop) : (quietGo TBe 80 (callI TBe 80 20) 12 [.int .i64 n, .int .i64 1] K) =
    (bif bif decide (n < (0 : Int)) then true else !decide (n < (0 : Int)) then
  bif bif bif decide (n < (0 : Int)) then true else decide (n > (65536 : Int)) then true else !bif decide (n < (0 : Int)) then true else decide (n > (65536 : Int)) then
    bif
        bif bif bif decide (n < (0 : Int)) then true else decide (n > (65536 : Int)) then true else false then true
        else !bif bif decide (n < (0 : Int)) then true else decide (n > (65536 : Int)) then true else false then
      bif bif bif bif decide (n < (0 : Int)) then true else decide (n > (65536 : Int)) then true else false then true else false then K (XV.bool true)
      else
        bif
            bif decide (IntKind.wrap IntKind.i64 (IntKind.wrap IntKind.i64 (IntKind.wrap IntKind.i64 (Int.tdiv n (2 : Int)) * (2 : Int)) - (2 : Int)) ≥ (0 : Int)) then
              decide (IntKind.wrap IntKind.i64 (IntKind.wrap IntKind.i64 (IntKind.wrap IntKind.i64 (Int.tdiv n (2 : Int)) * (2 : Int)) - (2 : Int)) ≥ (0 : Int))
            else true then
          bif
              bif decide (IntKind.wrap IntKind.i64 (IntKind.wrap IntKind.i64 (IntKind.wrap IntKind.i64 (Int.tdiv n (2 : Int)) * (2 : Int)) - (2 : Int)) ≥ (0 : Int)) then
                decide
                  ¬chkI (2 : Int) (IntKind.wrap IntKind.u32 (IntKind.wrap IntKind.i64 (IntKind.wrap IntKind.i64 (IntKind.wrap IntKind.i64 (Int.tdiv n (2 : Int)) * (2 : Int)) - (2 : Int)))) n =
                      (0 : Int)
              else false then
            K (XV.bool false)
          else
            bif
                bif
                    decide
                      (chkI (2 : Int)
                          (IntKind.wrap IntKind.u32
                            (IntKind.wrap IntKind.i64 (IntKind.wrap IntKind.i64 (IntKind.wrap IntKind.i64 (IntKind.wrap IntKind.i64 (Int.tdiv n (2 : Int)) * (2 : Int)) - (2 : Int)) + (2 : Int))))
                          n =
                        (2 : Int)) then
                  true
                else
                  !decide
                      (chkI (2 : Int)
                          (IntKind.wrap IntKind.u32
                            (IntKind.wrap IntKind.i64 (IntKind.wrap IntKind.i64 (IntKind.wrap IntKind.i64 (IntKind.wrap IntKind.i64 (Int.tdiv n (2 : Int)) * (2 : Int)) - (2 : Int)) + (2 : Int))))
                          n =
                        (2 : Int)) then
              bif
                  bif
                      bif
                          decide
                            (chkI (2 : Int)
                                (IntKind.wrap IntKind.u32
                                  (IntKind.wrap IntKind.i64
                                    (IntKind.wrap IntKind.i64 (IntKind.wrap IntKind.i64 (IntKind.wrap IntKind.i64 (Int.tdiv n (2 : Int)) * (2 : Int)) - (2 : Int)) + (2 : Int))))
                                n =
                              (2 : Int)) then
                        true
                      else false then
                    true
                  else
                    !decide
                        (chkI (2 : Int)
                            (IntKind.wrap IntKind.u32
                              (IntKind.wrap IntKind.i64 (IntKind.wrap IntKind.i64 (IntKind.wrap IntKind.i64 (IntKind.wrap IntKind.i64 (Int.tdiv n (2 : Int)) * (2 : Int)) - (2 : Int)) + (2 : Int))))
                            n =
                          (2 : Int)) then
                bif
                    bif
                        decide
                          (chkI (2 : Int)
                              (IntKind.wrap IntKind.u32
                                (IntKind.wrap IntKind.i64 (IntKind.wrap IntKind.i64 (IntKind.wrap IntKind.i64 (IntKind.wrap IntKind.i64 (Int.tdiv n (2 : Int)) * (2 : Int)) - (2 : Int)) + (2 : Int))))
                              n =
                            (2 : Int)) then
                      decide
                        (chkI (2 : Int)
                            (IntKind.wrap IntKind.u32
                              (IntKind.wrap IntKind.i64 (IntKind.wrap IntKind.i64 (IntKind.wrap IntKind.i64 (IntKind.wrap IntKind.i64 (Int.tdiv n (2 : Int)) * (2 : Int)) - (2 : Int)) + (2 : Int))))
                            n =
                          (2 : Int))
                    else true then
                  bif
                      bif
                          bif
                              decide
                                (chkI (2 : Int)
                                    (IntKind.wrap IntKind.u32
                                      (IntKind.wrap IntKind.i64
                                        (IntKind.wrap IntKind.i64 (IntKind.wrap IntKind.i64 (IntKind.wrap IntKind.i64 (Int.tdiv n (2 : Int)) * (2 : Int)) - (2 : Int)) + (2 : Int))))
                                    n =
                                  (2 : Int)) then
                            decide
                              (chkI (2 : Int)
                                  (IntKind.wrap IntKind.u32
                                    (IntKind.wrap IntKind.i64
                                      (IntKind.wrap IntKind.i64
                                          (IntKind.wrap IntKind.i64 (IntKind.wrap IntKind.i64 (IntKind.wrap IntKind.i64 (Int.tdiv n (2 : Int)) * (2 : Int)) - (2 : Int)) + (2 : Int)) +
                                        (1 : Int))))
                                  n =
                                (1 : Int))
                          else false then
                        bif
                            decide
                              (chkI (2 : Int)
                                  (IntKind.wrap IntKind.u32
                                    (IntKind.wrap IntKind.i64
                                      (IntKind.wrap IntKind.i64 (IntKind.wrap IntKind.i64 (IntKind.wrap IntKind.i64 (Int.tdiv n (2 : Int)) * (2 : Int)) - (2 : Int)) + (2 : Int))))
                                  n =
                                (2 : Int)) then
                          decide
                            (chkI (2 : Int)
                                (IntKind.wrap IntKind.u32
                                  (IntKind.wrap IntKind.i64
                                    (IntKind.wrap IntKind.i64
                                        (IntKind.wrap IntKind.i64 (IntKind.wrap IntKind.i64 (IntKind.wrap IntKind.i64 (Int.tdiv n (2 : Int)) * (2 : Int)) - (2 : Int)) + (2 : Int)) +
                                      (1 : Int))))
                                n =
                              (1 : Int))
                        else false
                      else true then
                    K
                      (XV.bool
                        (bif
                            bif
                                decide
                                  (chkI (2 : Int)
                                      (IntKind.wrap IntKind.u32
                                        (IntKind.wrap IntKind.i64
                                          (IntKind.wrap IntKind.i64 (IntKind.wrap IntKind.i64 (IntKind.wrap IntKind.i64 (Int.tdiv n (2 : Int)) * (2 : Int)) - (2 : Int)) + (2 : Int))))
                                      n =
                                    (2 : Int)) then
                              decide
                                (chkI (2 : Int)
                                    (IntKind.wrap IntKind.u32
                                      (IntKind.wrap IntKind.i64
                                        (IntKind.wrap IntKind.i64
                                            (IntKind.wrap IntKind.i64 (IntKind.wrap IntKind.i64 (IntKind.wrap IntKind.i64 (Int.tdiv n (2 : Int)) * (2 : Int)) - (2 : Int)) + (2 : Int)) +
                                          (1 : Int))))
                                    n =
                                  (1 : Int))
                            else false then
                          decide (chkI (2 : Int) (4294967292 : Int) n = (2 : Int))
                        else false))
                  else False
                else False
              else False
            else False
        else False
    else False
  else False
 else False) := by kernel_rfl
theorem r_edg2 (n : Int) (K : XV → Prop) : (quietGo TBe 80 (callI TBe 80 20) 12 [.int .i64 n, .int .i64 2] K) =
    (bif bif decide (n < (0 : Int)) then true else !decide (n < (0 : Int)) then
  bif bif bif decide (n < (0 : Int)) then true else decide (n > (65536 : Int)) then true else !bif decide (n < (0 : Int)) then true else decide (n > (65536 : Int)) then
    bif
        bif bif bif decide (n < (0 : Int)) then true else decide (n > (65536 : Int)) then true else false then true
        else !bif bif decide (n < (0 : Int)) then true else decide (n > (65536 : Int)) then true else false then
      bif bif bif bif decide (n < (0 : Int)) then true else decide (n > (65536 : Int)) then true else false then true else false then K (XV.bool true)
      else
        bif
            bif decide (IntKind.wrap IntKind.i64 (IntKind.wrap IntKind.i64 (IntKind.wrap IntKind.i64 (Int.tdiv n (4 : Int)) * (4 : Int)) - (4 : Int)) ≥ (0 : Int)) then
              decide (IntKind.wrap IntKind.i64 (IntKind.wrap IntKind.i64 (IntKind.wrap IntKind.i64 (Int.tdiv n (4 : Int)) * (4 : Int)) - (4 : Int)) ≥ (0 : Int))
            else true then
          bif
              bif decide (IntKind.wrap IntKind.i64 (IntKind.wrap IntKind.i64 (IntKind.wrap IntKind.i64 (Int.tdiv n (4 : Int)) * (4 : Int)) - (4 : Int)) ≥ (0 : Int)) then
                decide
                  ¬chkI (4 : Int) (IntKind.wrap IntKind.u32 (IntKind.wrap IntKind.i64 (IntKind.wrap IntKind.i64 (IntKind.wrap IntKind.i64 (Int.tdiv n (4 : Int)) * (4 : Int)) - (4 : Int)))) n =
                      (0 : Int)
              else false then
            K (XV.bool false)
          else
            bif
                bif
                    decide
                      (chkI (4 : Int)
                          (IntKind.wrap IntKind.u32
                            (IntKind.wrap IntKind.i64 (IntKind.wrap IntKind.i64 (IntKind.wrap IntKind.i64 (IntKind.wrap IntKind.i64 (Int.tdiv n (4 : Int)) * (4 : Int)) - (4 : Int)) + (4 : Int))))
                          n =
                        (2 : Int)) then
                  true
                else
                  !decide
                      (chkI (4 : Int)
                          (IntKind.wrap IntKind.u32
                            (IntKind.wrap IntKind.i64 (IntKind.wrap IntKind.i64 (IntKind.wrap IntKind.i64 (IntKind.wrap IntKind.i64 (Int.tdiv n (4 : Int)) * (4 : Int)) - (4 : Int)) + (4 : Int))))
                          n =
                        (2 : Int)) then
              bif
                  bif
                      bif
                          decide
                            (chkI (4 : Int)
                                (IntKind.wrap IntKind.u32
                                  (IntKind.wrap IntKind.i64
                                    (IntKind.wrap IntKind.i64 (IntKind.wrap IntKind.i64 (IntKind.wrap IntKind.i64 (Int.tdiv n (4 : Int)) * (4 : Int)) - (4 : Int)) + (4 : Int))))
                                n =
                              (2 : Int)) then
                        true
                      else false then
                    true
                  else
                    !decide
                        (chkI (4 : Int)
                            (IntKind.wrap IntKind.u32
                              (IntKind.wrap IntKind.i64 (IntKind.wrap IntKind.i64 (IntKind.wrap IntKind.i64 (IntKind.wrap IntKind.i64 (Int.tdiv n (4 : Int)) * (4 : Int)) - (4 : Int)) + (4 : Int))))
                            n =
                          (2 : Int)) then
                bif
                    bif
                        decide
                          (chkI (4 : Int)
                              (IntKind.wrap IntKind.u32
                                (IntKind.wrap IntKind.i64 (IntKind.wrap IntKind.i64 (IntKind.wrap IntKind.i64 (IntKind.wrap IntKind.i64 (Int.tdiv n (4 : Int)) * (4 : Int)) - (4 : Int)) + (4 : Int))))
                              n =
                            (2 : Int)) then
                      decide
                        (chkI (4 : Int)
                            (IntKind.wrap IntKind.u32
                              (IntKind.wrap IntKind.i64 (IntKind.wrap IntKind.i64 (IntKind.wrap IntKind.i64 (IntKind.wrap IntKind.i64 (Int.tdiv n (4 : Int)) * (4 : Int)) - (4 : Int)) + (4 : Int))))
                            n =
                          (2 : Int))
                    else true then
                  bif
                      bif
                          bif
                              decide
                                (chkI (4 : Int)
                                    (IntKind.wrap IntKind.u32
                                      (IntKind.wrap IntKind.i64
                                        (IntKind.wrap IntKind.i64 (IntKind.wrap IntKind.i64 (IntKind.wrap IntKind.i64 (Int.tdiv n (4 : Int)) * (4 : Int)) - (4 : Int)) + (4 : Int))))
                                    n =
                                  (2 : Int)) then
                            decide
                              (chkI (4 : Int)
                                  (IntKind.wrap IntKind.u32
                                    (IntKind.wrap IntKind.i64
                                      (IntKind.wrap IntKind.i64
                                          (IntKind.wrap IntKind.i64 (IntKind.wrap IntKind.i64 (IntKind.wrap IntKind.i64 (Int.tdiv n (4 : Int)) * (4 : Int)) - (4 : Int)) + (4 : Int)) +
                                        (1 : Int))))
                                  n =
                                (1 : Int))
                          else false then
                        bif
                            decide
                              (chkI (4 : Int)
                                  (IntKind.wrap IntKind.u32
                                    (IntKind.wrap IntKind.i64
                                      (IntKind.wrap IntKind.i64 (IntKind.wrap IntKind.i64 (IntKind.wrap IntKind.i64 (Int.tdiv n (4 : Int)) * (4 : Int)) - (4 : Int)) + (4 : Int))))
                                  n =
                                (2 : Int)) then
                          decide
                            (chkI (4 : Int)
                                (IntKind.wrap IntKind.u32
                                  (IntKind.wrap IntKind.i64
                                    (IntKind.wrap IntKind.i64
                                        (IntKind.wrap IntKind.i64 (IntKind.wrap IntKind.i64 (IntKind.wrap IntKind.i64 (Int.tdiv n (4 : Int)) * (4 : Int)) - (4 : Int)) + (4 : Int)) +
                                      (1 : Int))))
                                n =
                              (1 : Int))
                        else false
                      else true then
                    K
                      (XV.bool
                        (bif
                            bif
                                decide
                                  (chkI (4 : Int)
                                      (IntKind.wrap IntKind.u32
                                        (IntKind.wrap IntKind.i64
                                          (IntKind.wrap IntKind.i64 (IntKind.wrap IntKind.i64 (IntKind.wrap IntKind.i64 (Int.tdiv n (4 : Int)) * (4 : Int)) - (4 : Int)) + (4 : Int))))
                                      n =
                                    (2 : Int)) then
                              decide
                                (chkI (4 : Int)
                                    (IntKind.wrap IntKind.u32
                                      (IntKind.wrap IntKind.i64
                                        (IntKind.wrap IntKind.i64
                                            (IntKind.wrap IntKind.i64 (IntKind.wrap IntKind.i64 (IntKind.wrap IntKind.i64 (Int.tdiv n (4 : Int)) * (4 : Int)) - (4 : Int)) + (4 : Int)) +
                                          (1 : Int))))
                                    n =
                                  (1 : Int))
                            else false then
                          decide (chkI (4 : Int) (4294967292 : Int) n = (2 : Int))
                        else false))
                  else False
                else False
              else False
            else False
        else False
    else False
  else False
 else False) := by kernel_rfl
theorem chk_v {s a n : Int} (hs : s = 1 ∨ s = 2 ∨ s = 4) (h0 : 0 ≤ a) (h1 : a ≤ 4294967295) (hn : 0 ≤ n) (hn2 : n ≤ 1099511627776) : chkI s a n = if a % s = 0 then (if a + s ≤ n then 0 else 2) else 1 := by
  unfold chkI
  have h4 : IntKind.i64.wrap a = a := wrap_i64 (by omega) (by omega)
  have h5 : IntKind.i64.wrap (n - s) = n - s := wrap_i64 (by omega) (by omega)
  rw [h4, h5, Int.tmod_eq_emod_of_nonneg h0]
  by_cases h6 : a % s = 0
  · rw [if_neg (by rintro ⟨_, h⟩; exact h h6), if_pos h6]
    by_cases h7 : a + s ≤ n
    · rw [if_pos h7, if_neg (by rintro (⟨_, h | h⟩ | ⟨h, _⟩) <;> omega)]
    · rw [if_neg h7, if_pos (.inl ⟨by omega, by omega⟩)]
  · rw [if_pos ⟨by omega, h6⟩, if_neg h6]
theorem edgP0 (n : Int) : Pure Try.prog 12 (cons [.int .i64 n, .int .i64 0]) (con (.bool true)) := by
  refine pureX (u := 80) (k := 20) mix TBeok ?_
  rw [r_edg0]
  simp only [pk_or, pk_and, cond_true]
  by_cases h1 : n < 0
  · simp [h1]
  by_cases h2 : n > 65536
  · simp [h1, h2]
  obtain ⟨m, hm⟩ : ∃ m, m = n / 1 * 1 := ⟨_, rfl⟩
  have e1 : IntKind.i64.wrap (IntKind.i64.wrap (IntKind.i64.wrap (Int.tdiv n 1) * 1) - 1) = m - 1 := by
    rw [Int.tdiv_eq_ediv_of_nonneg (by omega), wrap_i64 (x := n / 1) (by omega) (by omega), wrap_i64 (x := n / 1 * 1) (by omega) (by omega), wrap_i64 (by omega) (by omega), hm]
  have e2 : IntKind.i64.wrap (m - 1 + 1) = m := by rw [wrap_i64 (by omega) (by omega)]; omega
  have e3 : IntKind.i64.wrap (m + 1) = m + 1 := wrap_i64 (by omega) (by omega)
  have e4 : IntKind.u32.wrap m = m := wrap_u32 (by omega) (by omega)
  have e5 : IntKind.u32.wrap (m + 1) = m + 1 := wrap_u32 (by omega) (by omega)
  have c2 : chkI 1 m n = 2 := by
    rw [chk_v (by omega) (by omega) (by omega) (by omega) (by omega), if_pos (by omega), if_neg (by omega)]
  have c4 : chkI 1 4294967292 n = 2 := by
    rw [chk_v (by omega) (by omega) (by omega) (by omega) (by omega), if_pos (by omega), if_neg (by omega)]
  have c1 : m - 1 ≥ 0 → chkI 1 (IntKind.u32.wrap (m - 1)) n = 0 := fun h => by
    rw [wrap_u32 (by omega) (by omega), chk_v (by omega) (by omega) (by omega) (by omega) (by omega), if_pos (by omega), if_pos (by omega)]
  simp only [e1, e2, e3, e4, e5]
  by_cases h3 : m - 1 ≥ 0
  · have c1' := c1 h3
    simp only [c1', c2, c4]
    simp [h1, h2]
  · simp only [c2, c4]
    have h4 : ¬ (1 ≤ m) := by omega
    simp [h1, h2, h3, h4]
theorem edgP1 (n : Int) : Pure Try.prog 12 (cons [.int .i64 n, .int .i64 1]) (con (.bool true)) := by
  refine pureX (u := 80) (k := 20) mix TBeok ?_
  rw [r_edg1]
  simp only [pk_or, pk_and, cond_true]
  by_cases h1 : n < 0
  · simp [h1]
  by_cases h2 : n > 65536
  · simp [h1, h2]
  obtain ⟨m, hm⟩ : ∃ m, m = n / 2 * 2 := ⟨_, rfl⟩
  have e1 : IntKind.i64.wrap (IntKind.i64.wrap (IntKind.i64.wrap (Int.tdiv n 2) * 2) - 2) = m - 2 := by
    rw [Int.tdiv_eq_ediv_of_nonneg (by omega), wrap_i64 (x := n / 2) (by omega) (by omega), wrap_i64 (x := n / 2 * 2) (by omega) (by omega), wrap_i64 (by omega) (by omega), hm]
  have e2 : IntKind.i64.wrap (m - 2 + 2) = m := by rw [wrap_i64 (by omega) (by omega)]; omega
  have e3 : IntKind.i64.wrap (m + 1) = m + 1 := wrap_i64 (by omega) (by omega)
  have e4 : IntKind.u32.wrap m = m := wrap_u32 (by omega) (by omega)
  have e5 : IntKind.u32.wrap (m + 1) = m + 1 := wrap_u32 (by omega) (by omega)
  have c2 : chkI 2 m n = 2 := by
    rw [chk_v (by omega) (by omega) (by omega) (by omega) (by omega), if_pos (by omega), if_neg (by omega)]
  have c4 : chkI 2 4294967292 n = 2 := by
    rw [chk_v (by omega) (by omega) (by omega) (by omega) (by omega), if_pos (by omega), if_neg (by omega)]
  have c3 : chkI 2 (m + 1) n = 1 := by
    rw [chk_v (by omega) (by omega) (by omega) (by omega) (by omega), if_neg (by omega)]
  have c1 : m - 2 ≥ 0 → chkI 2 (IntKind.u32.wrap (m - 2)) n = 0 := fun h => by
    rw [wrap_u32 (by omega) (by omega), chk_v (by omega) (by omega) (by omega) (by omega) (by omega), if_pos (by omega), if_pos (by omega)]
  simp only [e1, e2, e3, e4, e5]
  by_cases h3 : m - 2 ≥ 0
  · have c1' := c1 h3
    simp only [c1', c2, c4, c3]
    simp [h1, h2]
  · simp only [c2, c4, c3]
    have h4 : ¬ (2 ≤ m) := by omega
    simp [h1, h2, h3, h4]
theorem edgP2 (n : Int) : Pure Try.prog 12 (cons [.int .i64 n, .int .i64 2]) (con (.bool true)) := by
  refine pureX (u := 80) (k := 20) mix TBeok ?_
  rw [r_edg2]
  simp only [pk_or, pk_and, cond_true]
  by_cases h1 : n < 0
  · simp [h1]
  by_cases h2 : n > 65536
  · simp [h1, h2]
  obtain ⟨m, hm⟩ : ∃ m, m = n / 4 * 4 := ⟨_, rfl⟩
  have e1 : IntKind.i64.wrap (IntKind.i64.wrap (IntKind.i64.wrap (Int.tdiv n 4) * 4) - 4) = m - 4 := by
    rw [Int.tdiv_eq_ediv_of_nonneg (by omega), wrap_i64 (x := n / 4) (by omega) (by omega), wrap_i64 (x := n / 4 * 4) (by omega) (by omega), wrap_i64 (by omega) (by omega), hm]
  have e2 : IntKind.i64.wrap (m - 4 + 4) = m := by rw [wrap_i64 (by omega) (by omega)]; omega
  have e3 : IntKind.i64.wrap (m + 1) = m + 1 := wrap_i64 (by omega) (by omega)
  have e4 : IntKind.u32.wrap m = m := wrap_u32 (by omega) (by omega)
  have e5 : IntKind.u32.wrap (m + 1) = m + 1 := wrap_u32 (by omega) (by omega)
  have c2 : chkI 4 m n = 2 := by
    rw [chk_v (by omega) (by omega) (by omega) (by omega) (by omega), if_pos (by omega), if_neg (by omega)]
  have c4 : chkI 4 4294967292 n = 2 := by
    rw [chk_v (by omega) (by omega) (by omega) (by omega) (by omega), if_pos (by omega), if_neg (by omega)]
  have c3 : chkI 4 (m + 1) n = 1 := by
    rw [chk_v (by omega) (by omega) (by omega) (by omega) (by omega), if_neg (by omega)]
  have c1 : m - 4 ≥ 0 → chkI 4 (IntKind.u32.wrap (m - 4)) n = 0 := fun h => by
    rw [wrap_u32 (by omega) (by omega), chk_v (by omega) (by omega) (by omega) (by omega) (by omega), if_pos (by omega), if_pos (by omega)]
  simp only [e1, e2, e3, e4, e5]
  by_cases h3 : m - 4 ≥ 0
  · have c1' := c1 h3
    simp only [c1', c2, c4, c3]
    simp [h1, h2]
  · simp only [c2, c4, c3]
    have h4 : ¬ (4 ≤ m) := by omega
    simp [h1, h2, h3, h4]
theorem r_edgx (n w : Int) (K : XV → Prop) : (quietGo TBe 80 (callI TBe 80 20) 12 [.int .i64 n, .int .i64 w] K) =
    (bif bif decide (n < (0 : Int)) then true else !decide (n < (0 : Int)) then
  bif bif bif decide (n < (0 : Int)) then true else decide (n > (65536 : Int)) then true else !bif decide (n < (0 : Int)) then true else decide (n > (65536 : Int)) then
    bif
        bif bif bif decide (n < (0 : Int)) then true else decide (n > (65536 : Int)) then true else decide (w < (0 : Int)) then true
        else !bif bif decide (n < (0 : Int)) then true else decide (n > (65536 : Int)) then true else decide (w < (0 : Int)) then
      bif bif bif bif decide (n < (0 : Int)) then true else decide (n > (65536 : Int)) then true else decide (w < (0 : Int)) then true else decide (w > (2 : Int)) then K (XV.bool true)
      else
        bif decide ((0 : Int) ≤ w) then
          bif decide (w < (3 : Int)) then
            bif !decide ((bif Nat.beq (Int.toNat w) (0 : Nat) then (1 : Int) else bif Nat.beq (Int.toNat w - (1 : Nat)) (0 : Nat) then (2 : Int) else (4 : Int)) = (0 : Int)) then
              bif
                  bif
                      decide
                        (IntKind.wrap IntKind.i64
                            (IntKind.wrap IntKind.i64
                                (IntKind.wrap IntKind.i64
                                    (Int.tdiv n (bif Nat.beq (Int.toNat w) (0 : Nat) then (1 : Int) else bif Nat.beq (Int.toNat w - (1 : Nat)) (0 : Nat) then (2 : Int) else (4 : Int))) *
                                  bif Nat.beq (Int.toNat w) (0 : Nat) then (1 : Int) else bif Nat.beq (Int.toNat w - (1 : Nat)) (0 : Nat) then (2 : Int) else (4 : Int)) -
                              bif Nat.beq (Int.toNat w) (0 : Nat) then (1 : Int) else bif Nat.beq (Int.toNat w - (1 : Nat)) (0 : Nat) then (2 : Int) else (4 : Int)) ≥
                          (0 : Int)) then
                    decide
                      (IntKind.wrap IntKind.i64
                          (IntKind.wrap IntKind.i64
                              (IntKind.wrap IntKind.i64
                                  (Int.tdiv n (bif Nat.beq (Int.toNat w) (0 : Nat) then (1 : Int) else bif Nat.beq (Int.toNat w - (1 : Nat)) (0 : Nat) then (2 : Int) else (4 : Int))) *
                                bif Nat.beq (Int.toNat w) (0 : Nat) then (1 : Int) else bif Nat.beq (Int.toNat w - (1 : Nat)) (0 : Nat) then (2 : Int) else (4 : Int)) -
                            bif Nat.beq (Int.toNat w) (0 : Nat) then (1 : Int) else bif Nat.beq (Int.toNat w - (1 : Nat)) (0 : Nat) then (2 : Int) else (4 : Int)) ≥
                        (0 : Int))
                  else true then
                bif
                    bif
                        decide
                          (IntKind.wrap IntKind.i64
                              (IntKind.wrap IntKind.i64
                                  (IntKind.wrap IntKind.i64
                                      (Int.tdiv n (bif Nat.beq (Int.toNat w) (0 : Nat) then (1 : Int) else bif Nat.beq (Int.toNat w - (1 : Nat)) (0 : Nat) then (2 : Int) else (4 : Int))) *
                                    bif Nat.beq (Int.toNat w) (0 : Nat) then (1 : Int) else bif Nat.beq (Int.toNat w - (1 : Nat)) (0 : Nat) then (2 : Int) else (4 : Int)) -
                                bif Nat.beq (Int.toNat w) (0 : Nat) then (1 : Int) else bif Nat.beq (Int.toNat w - (1 : Nat)) (0 : Nat) then (2 : Int) else (4 : Int)) ≥
                            (0 : Int)) then
                      decide
                        ¬chkI (bif Nat.beq (Int.toNat w) (0 : Nat) then (1 : Int) else bif Nat.beq (Int.toNat w - (1 : Nat)) (0 : Nat) then (2 : Int) else (4 : Int))
                              (IntKind.wrap IntKind.u32
                                (IntKind.wrap IntKind.i64
                                  (IntKind.wrap IntKind.i64
                                      (IntKind.wrap IntKind.i64
                                          (Int.tdiv n (bif Nat.beq (Int.toNat w) (0 : Nat) then (1 : Int) else bif Nat.beq (Int.toNat w - (1 : Nat)) (0 : Nat) then (2 : Int) else (4 : Int))) *
                                        bif Nat.beq (Int.toNat w) (0 : Nat) then (1 : Int) else bif Nat.beq (Int.toNat w - (1 : Nat)) (0 : Nat) then (2 : Int) else (4 : Int)) -
                                    bif Nat.beq (Int.toNat w) (0 : Nat) then (1 : Int) else bif Nat.beq (Int.toNat w - (1 : Nat)) (0 : Nat) then (2 : Int) else (4 : Int))))
                              n =
                            (0 : Int)
                    else false then
                  K (XV.bool false)
                else
                  bif
                      bif
                          decide
                            (chkI (bif Nat.beq (Int.toNat w) (0 : Nat) then (1 : Int) else bif Nat.beq (Int.toNat w - (1 : Nat)) (0 : Nat) then (2 : Int) else (4 : Int))
                                (IntKind.wrap IntKind.u32
                                  (IntKind.wrap IntKind.i64
                                    (IntKind.wrap IntKind.i64
                                        (IntKind.wrap IntKind.i64
                                            (IntKind.wrap IntKind.i64
                                                (Int.tdiv n (bif Nat.beq (Int.toNat w) (0 : Nat) then (1 : Int) else bif Nat.beq (Int.toNat w - (1 : Nat)) (0 : Nat) then (2 : Int) else (4 : Int))) *
                                              bif Nat.beq (Int.toNat w) (0 : Nat) then (1 : Int) else bif Nat.beq (Int.toNat w - (1 : Nat)) (0 : Nat) then (2 : Int) else (4 : Int)) -
                                          bif Nat.beq (Int.toNat w) (0 : Nat) then (1 : Int) else bif Nat.beq (Int.toNat w - (1 : Nat)) (0 : Nat) then (2 : Int) else (4 : Int)) +
                                      bif Nat.beq (Int.toNat w) (0 : Nat) then (1 : Int) else bif Nat.beq (Int.toNat w - (1 : Nat)) (0 : Nat) then (2 : Int) else (4 : Int))))
                                n =
                              (2 : Int)) then
                        true
                      else
                        !decide
                            (chkI (bif Nat.beq (Int.toNat w) (0 : Nat) then (1 : Int) else bif Nat.beq (Int.toNat w - (1 : Nat)) (0 : Nat) then (2 : Int) else (4 : Int))
                                (IntKind.wrap IntKind.u32
                                  (IntKind.wrap IntKind.i64
                                    (IntKind.wrap IntKind.i64
                                        (IntKind.wrap IntKind.i64
                                            (IntKind.wrap IntKind.i64
                                                (Int.tdiv n (bif Nat.beq (Int.toNat w) (0 : Nat) then (1 : Int) else bif Nat.beq (Int.toNat w - (1 : Nat)) (0 : Nat) then (2 : Int) else (4 : Int))) *
                                              bif Nat.beq (Int.toNat w) (0 : Nat) then (1 : Int) else bif Nat.beq (Int.toNat w - (1 : Nat)) (0 : Nat) then (2 : Int) else (4 : Int)) -
                                          bif Nat.beq (Int.toNat w) (0 : Nat) then (1 : Int) else bif Nat.beq (Int.toNat w - (1 : Nat)) (0 : Nat) then (2 : Int) else (4 : Int)) +
                                      bif Nat.beq (Int.toNat w) (0 : Nat) then (1 : Int) else bif Nat.beq (Int.toNat w - (1 : Nat)) (0 : Nat) then (2 : Int) else (4 : Int))))
                                n =
                              (2 : Int)) then
                    bif
                        bif
                            bif decide ((bif Nat.beq (Int.toNat w) (0 : Nat) then (1 : Int) else bif Nat.beq (Int.toNat w - (1 : Nat)) (0 : Nat) then (2 : Int) else (4 : Int)) = (1 : Int)) then true
                            else
                              bif
                                  decide
                                    (chkI (bif Nat.beq (Int.toNat w) (0 : Nat) then (1 : Int) else bif Nat.beq (Int.toNat w - (1 : Nat)) (0 : Nat) then (2 : Int) else (4 : Int))
                                        (IntKind.wrap IntKind.u32
                                          (IntKind.wrap IntKind.i64
                                            (IntKind.wrap IntKind.i64
                                                (IntKind.wrap IntKind.i64
                                                    (IntKind.wrap IntKind.i64
                                                        (Int.tdiv n
                                                          (bif Nat.beq (Int.toNat w) (0 : Nat) then (1 : Int) else bif Nat.beq (Int.toNat w - (1 : Nat)) (0 : Nat) then (2 : Int) else (4 : Int))) *
                                                      bif Nat.beq (Int.toNat w) (0 : Nat) then (1 : Int) else bif Nat.beq (Int.toNat w - (1 : Nat)) (0 : Nat) then (2 : Int) else (4 : Int)) -
                                                  bif Nat.beq (Int.toNat w) (0 : Nat) then (1 : Int) else bif Nat.beq (Int.toNat w - (1 : Nat)) (0 : Nat) then (2 : Int) else (4 : Int)) +
                                              bif Nat.beq (Int.toNat w) (0 : Nat) then (1 : Int) else bif Nat.beq (Int.toNat w - (1 : Nat)) (0 : Nat) then (2 : Int) else (4 : Int))))
                                        n =
                                      (2 : Int)) then
                                !decide ((bif Nat.beq (Int.toNat w) (0 : Nat) then (1 : Int) else bif Nat.beq (Int.toNat w - (1 : Nat)) (0 : Nat) then (2 : Int) else (4 : Int)) = (1 : Int))
                              else false then
                          true
                        else
                          !decide
                              (chkI (bif Nat.beq (Int.toNat w) (0 : Nat) then (1 : Int) else bif Nat.beq (Int.toNat w - (1 : Nat)) (0 : Nat) then (2 : Int) else (4 : Int))
                                  (IntKind.wrap IntKind.u32
                                    (IntKind.wrap IntKind.i64
                                      (IntKind.wrap IntKind.i64
                                          (IntKind.wrap IntKind.i64
                                              (IntKind.wrap IntKind.i64
                                                  (Int.tdiv n (bif Nat.beq (Int.toNat w) (0 : Nat) then (1 : Int) else bif Nat.beq (Int.toNat w - (1 : Nat)) (0 : Nat) then (2 : Int) else (4 : Int))) *
                                                bif Nat.beq (Int.toNat w) (0 : Nat) then (1 : Int) else bif Nat.beq (Int.toNat w - (1 : Nat)) (0 : Nat) then (2 : Int) else (4 : Int)) -
                                            bif Nat.beq (Int.toNat w) (0 : Nat) then (1 : Int) else bif Nat.beq (Int.toNat w - (1 : Nat)) (0 : Nat) then (2 : Int) else (4 : Int)) +
                                        bif Nat.beq (Int.toNat w) (0 : Nat) then (1 : Int) else bif Nat.beq (Int.toNat w - (1 : Nat)) (0 : Nat) then (2 : Int) else (4 : Int))))
                                  n =
                                (2 : Int)) then
                      bif
                          bif
                              decide
                                (chkI (bif Nat.beq (Int.toNat w) (0 : Nat) then (1 : Int) else bif Nat.beq (Int.toNat w - (1 : Nat)) (0 : Nat) then (2 : Int) else (4 : Int))
                                    (IntKind.wrap IntKind.u32
                                      (IntKind.wrap IntKind.i64
                                        (IntKind.wrap IntKind.i64
                                            (IntKind.wrap IntKind.i64
                                                (IntKind.wrap IntKind.i64
                                                    (Int.tdiv n
                                                      (bif Nat.beq (Int.toNat w) (0 : Nat) then (1 : Int) else bif Nat.beq (Int.toNat w - (1 : Nat)) (0 : Nat) then (2 : Int) else (4 : Int))) *
                                                  bif Nat.beq (Int.toNat w) (0 : Nat) then (1 : Int) else bif Nat.beq (Int.toNat w - (1 : Nat)) (0 : Nat) then (2 : Int) else (4 : Int)) -
                                              bif Nat.beq (Int.toNat w) (0 : Nat) then (1 : Int) else bif Nat.beq (Int.toNat w - (1 : Nat)) (0 : Nat) then (2 : Int) else (4 : Int)) +
                                          bif Nat.beq (Int.toNat w) (0 : Nat) then (1 : Int) else bif Nat.beq (Int.toNat w - (1 : Nat)) (0 : Nat) then (2 : Int) else (4 : Int))))
                                    n =
                                  (2 : Int)) then
                            decide
                              (chkI (bif Nat.beq (Int.toNat w) (0 : Nat) then (1 : Int) else bif Nat.beq (Int.toNat w - (1 : Nat)) (0 : Nat) then (2 : Int) else (4 : Int))
                                  (IntKind.wrap IntKind.u32
                                    (IntKind.wrap IntKind.i64
                                      (IntKind.wrap IntKind.i64
                                          (IntKind.wrap IntKind.i64
                                              (IntKind.wrap IntKind.i64
                                                  (Int.tdiv n (bif Nat.beq (Int.toNat w) (0 : Nat) then (1 : Int) else bif Nat.beq (Int.toNat w - (1 : Nat)) (0 : Nat) then (2 : Int) else (4 : Int))) *
                                                bif Nat.beq (Int.toNat w) (0 : Nat) then (1 : Int) else bif Nat.beq (Int.toNat w - (1 : Nat)) (0 : Nat) then (2 : Int) else (4 : Int)) -
                                            bif Nat.beq (Int.toNat w) (0 : Nat) then (1 : Int) else bif Nat.beq (Int.toNat w - (1 : Nat)) (0 : Nat) then (2 : Int) else (4 : Int)) +
                                        bif Nat.beq (Int.toNat w) (0 : Nat) then (1 : Int) else bif Nat.beq (Int.toNat w - (1 : Nat)) (0 : Nat) then (2 : Int) else (4 : Int))))
                                  n =
                                (2 : Int))
                          else true then
                        bif
                            bif
                                bif
                                    decide
                                      (chkI (bif Nat.beq (Int.toNat w) (0 : Nat) then (1 : Int) else bif Nat.beq (Int.toNat w - (1 : Nat)) (0 : Nat) then (2 : Int) else (4 : Int))
                                          (IntKind.wrap IntKind.u32
                                            (IntKind.wrap IntKind.i64
                                              (IntKind.wrap IntKind.i64
                                                  (IntKind.wrap IntKind.i64
                                                      (IntKind.wrap IntKind.i64
                                                          (Int.tdiv n
                                                            (bif Nat.beq (Int.toNat w) (0 : Nat) then (1 : Int) else bif Nat.beq (Int.toNat w - (1 : Nat)) (0 : Nat) then (2 : Int) else (4 : Int))) *
                                                        bif Nat.beq (Int.toNat w) (0 : Nat) then (1 : Int) else bif Nat.beq (Int.toNat w - (1 : Nat)) (0 : Nat) then (2 : Int) else (4 : Int)) -
                                                    bif Nat.beq (Int.toNat w) (0 : Nat) then (1 : Int) else bif Nat.beq (Int.toNat w - (1 : Nat)) (0 : Nat) then (2 : Int) else (4 : Int)) +
                                                bif Nat.beq (Int.toNat w) (0 : Nat) then (1 : Int) else bif Nat.beq (Int.toNat w - (1 : Nat)) (0 : Nat) then (2 : Int) else (4 : Int))))
                                          n =
                                        (2 : Int)) then
                                  bif decide ((bif Nat.beq (Int.toNat w) (0 : Nat) then (1 : Int) else bif Nat.beq (Int.toNat w - (1 : Nat)) (0 : Nat) then (2 : Int) else (4 : Int)) = (1 : Int)) then
                                    true
                                  else
                                    decide
                                      (chkI (bif Nat.beq (Int.toNat w) (0 : Nat) then (1 : Int) else bif Nat.beq (Int.toNat w - (1 : Nat)) (0 : Nat) then (2 : Int) else (4 : Int))
                                          (IntKind.wrap IntKind.u32
                                            (IntKind.wrap IntKind.i64
                                              (IntKind.wrap IntKind.i64
                                                  (IntKind.wrap IntKind.i64
                                                      (IntKind.wrap IntKind.i64
                                                          (IntKind.wrap IntKind.i64
                                                              (Int.tdiv n
                                                                (bif Nat.beq (Int.toNat w) (0 : Nat) then (1 : Int)
                                                                else bif Nat.beq (Int.toNat w - (1 : Nat)) (0 : Nat) then (2 : Int) else (4 : Int))) *
                                                            bif Nat.beq (Int.toNat w) (0 : Nat) then (1 : Int) else bif Nat.beq (Int.toNat w - (1 : Nat)) (0 : Nat) then (2 : Int) else (4 : Int)) -
                                                        bif Nat.beq (Int.toNat w) (0 : Nat) then (1 : Int) else bif Nat.beq (Int.toNat w - (1 : Nat)) (0 : Nat) then (2 : Int) else (4 : Int)) +
                                                    bif Nat.beq (Int.toNat w) (0 : Nat) then (1 : Int) else bif Nat.beq (Int.toNat w - (1 : Nat)) (0 : Nat) then (2 : Int) else (4 : Int)) +
                                                (1 : Int))))
                                          n =
                                        (1 : Int))
                                else false then
                              bif
                                  decide
                                    (chkI (bif Nat.beq (Int.toNat w) (0 : Nat) then (1 : Int) else bif Nat.beq (Int.toNat w - (1 : Nat)) (0 : Nat) then (2 : Int) else (4 : Int))
                                        (IntKind.wrap IntKind.u32
                                          (IntKind.wrap IntKind.i64
                                            (IntKind.wrap IntKind.i64
                                                (IntKind.wrap IntKind.i64
                                                    (IntKind.wrap IntKind.i64
                                                        (Int.tdiv n
                                                          (bif Nat.beq (Int.toNat w) (0 : Nat) then (1 : Int) else bif Nat.beq (Int.toNat w - (1 : Nat)) (0 : Nat) then (2 : Int) else (4 : Int))) *
                                                      bif Nat.beq (Int.toNat w) (0 : Nat) then (1 : Int) else bif Nat.beq (Int.toNat w - (1 : Nat)) (0 : Nat) then (2 : Int) else (4 : Int)) -
                                                  bif Nat.beq (Int.toNat w) (0 : Nat) then (1 : Int) else bif Nat.beq (Int.toNat w - (1 : Nat)) (0 : Nat) then (2 : Int) else (4 : Int)) +
                                              bif Nat.beq (Int.toNat w) (0 : Nat) then (1 : Int) else bif Nat.beq (Int.toNat w - (1 : Nat)) (0 : Nat) then (2 : Int) else (4 : Int))))
                                        n =
                                      (2 : Int)) then
                                bif decide ((bif Nat.beq (Int.toNat w) (0 : Nat) then (1 : Int) else bif Nat.beq (Int.toNat w - (1 : Nat)) (0 : Nat) then (2 : Int) else (4 : Int)) = (1 : Int)) then
                                  true
                                else
                                  decide
                                    (chkI (bif Nat.beq (Int.toNat w) (0 : Nat) then (1 : Int) else bif Nat.beq (Int.toNat w - (1 : Nat)) (0 : Nat) then (2 : Int) else (4 : Int))
                                        (IntKind.wrap IntKind.u32
                                          (IntKind.wrap IntKind.i64
                                            (IntKind.wrap IntKind.i64
                                                (IntKind.wrap IntKind.i64
                                                    (IntKind.wrap IntKind.i64
                                                        (IntKind.wrap IntKind.i64
                                                            (Int.tdiv n
                                                              (bif Nat.beq (Int.toNat w) (0 : Nat) then (1 : Int) else bif Nat.beq (Int.toNat w - (1 : Nat)) (0 : Nat) then (2 : Int) else (4 : Int))) *
                                                          bif Nat.beq (Int.toNat w) (0 : Nat) then (1 : Int) else bif Nat.beq (Int.toNat w - (1 : Nat)) (0 : Nat) then (2 : Int) else (4 : Int)) -
                                                      bif Nat.beq (Int.toNat w) (0 : Nat) then (1 : Int) else bif Nat.beq (Int.toNat w - (1 : Nat)) (0 : Nat) then (2 : Int) else (4 : Int)) +
                                                  bif Nat.beq (Int.toNat w) (0 : Nat) then (1 : Int) else bif Nat.beq (Int.toNat w - (1 : Nat)) (0 : Nat) then (2 : Int) else (4 : Int)) +
                                              (1 : Int))))
                                        n =
                                      (1 : Int))
                              else false
                            else true then
                          K
                            (XV.bool
                              (bif
                                  bif
                                      decide
                                        (chkI (bif Nat.beq (Int.toNat w) (0 : Nat) then (1 : Int) else bif Nat.beq (Int.toNat w - (1 : Nat)) (0 : Nat) then (2 : Int) else (4 : Int))
                                            (IntKind.wrap IntKind.u32
                                              (IntKind.wrap IntKind.i64
                                                (IntKind.wrap IntKind.i64
                                                    (IntKind.wrap IntKind.i64
                                                        (IntKind.wrap IntKind.i64
                                                            (Int.tdiv n
                                                              (bif Nat.beq (Int.toNat w) (0 : Nat) then (1 : Int) else bif Nat.beq (Int.toNat w - (1 : Nat)) (0 : Nat) then (2 : Int) else (4 : Int))) *
                                                          bif Nat.beq (Int.toNat w) (0 : Nat) then (1 : Int) else bif Nat.beq (Int.toNat w - (1 : Nat)) (0 : Nat) then (2 : Int) else (4 : Int)) -
                                                      bif Nat.beq (Int.toNat w) (0 : Nat) then (1 : Int) else bif Nat.beq (Int.toNat w - (1 : Nat)) (0 : Nat) then (2 : Int) else (4 : Int)) +
                                                  bif Nat.beq (Int.toNat w) (0 : Nat) then (1 : Int) else bif Nat.beq (Int.toNat w - (1 : Nat)) (0 : Nat) then (2 : Int) else (4 : Int))))
                                            n =
                                          (2 : Int)) then
                                    bif
                                        decide
                                          ((bif Nat.beq (Int.toNat w) (0 : Nat) then (1 : Int) else bif Nat.beq (Int.toNat w - (1 : Nat)) (0 : Nat) then (2 : Int) else (4 : Int)) = (1 : Int)) then
                                      true
                                    else
                                      decide
                                        (chkI (bif Nat.beq (Int.toNat w) (0 : Nat) then (1 : Int) else bif Nat.beq (Int.toNat w - (1 : Nat)) (0 : Nat) then (2 : Int) else (4 : Int))
                                            (IntKind.wrap IntKind.u32
                                              (IntKind.wrap IntKind.i64
                                                (IntKind.wrap IntKind.i64
                                                    (IntKind.wrap IntKind.i64
                                                        (IntKind.wrap IntKind.i64
                                                            (IntKind.wrap IntKind.i64
                                                                (Int.tdiv n
                                                                  (bif Nat.beq (Int.toNat w) (0 : Nat) then (1 : Int)
                                                                  else bif Nat.beq (Int.toNat w - (1 : Nat)) (0 : Nat) then (2 : Int) else (4 : Int))) *
                                                              bif Nat.beq (Int.toNat w) (0 : Nat) then (1 : Int) else bif Nat.beq (Int.toNat w - (1 : Nat)) (0 : Nat) then (2 : Int) else (4 : Int)) -
                                                          bif Nat.beq (Int.toNat w) (0 : Nat) then (1 : Int) else bif Nat.beq (Int.toNat w - (1 : Nat)) (0 : Nat) then (2 : Int) else (4 : Int)) +
                                                      bif Nat.beq (Int.toNat w) (0 : Nat) then (1 : Int) else bif Nat.beq (Int.toNat w - (1 : Nat)) (0 : Nat) then (2 : Int) else (4 : Int)) +
                                                  (1 : Int))))
                                            n =
                                          (1 : Int))
                                  else false then
                                decide
                                  (chkI (bif Nat.beq (Int.toNat w) (0 : Nat) then (1 : Int) else bif Nat.beq (Int.toNat w - (1 : Nat)) (0 : Nat) then (2 : Int) else (4 : Int)) (4294967292 : Int) n =
                                    (2 : Int))
                              else false))
                        else False
                      else False
                    else False
                  else False
              else False
            else False
          else False
        else False
    else False
  else False
 else False) := by kernel_rfl
theorem edges_pure (n w : Int) : Pure Try.prog 12 (cons [.int .i64 n, .int .i64 w]) (con (.bool true)) := by
  by_cases a0 : w = 0
  · subst a0; exact edgP0 n
  by_cases a1 : w = 1
  · subst a1; exact edgP1 n
  by_cases a2 : w = 2
  · subst a2; exact edgP2 n
  refine pureX (u := 80) (k := 20) mix TBeok ?_
  rw [r_edgx]
  by_cases h1 : n < 0
  · simp [h1]
  by_cases h2 : n > 65536
  · simp [h1, h2]
  by_cases h3 : w < 0
  · simp [h1, h2, h3]
  · have h4 : w > 2 := by omega
    simp [h1, h2, h3, h4]
end Go.Proofs.Ytihhfmdihhmbdaa
namespace Go.Proofs.Ytihhfmdihhmbdaa.bytesEdges
open Go.Ra Go.ChangeShapes Go.WideShapes Go.ChangeAt Go.RowKit
open Go.ChangeMaps (open_string shut_string)
theorem own : ownKnob Try.prog.godebug = none := by kernel_rfl
def Ts : List Ty := [.int .i64, .int .i64]
theorem law (xs : List AV) (h : Ty.hasL Ts xs) : Pure Try.prog 12 xs (.sc (.bool true)) := by
  have h0 := h
  simp only [Ts, Ty.hasL] at h0
  obtain ⟨a, _, rfl, _, b, _, rfl, _, rfl⟩ := h0
  exact lawX h (edges_pure _ _)
set_option maxRecDepth 100000 in
theorem lifted (os : Os) (started : os.Started) (H : Type) (enc : TypeId × Value → H) :
    ReturnsInHanded {} Try.checked os 12 .any (Rows.bytesEdgesSpec.pre6 enc Try.prog Try.f12 Rows.bytesEdgesRow.domain false) (Rows.bytesEdgesSpec.post enc Try.prog Try.f12 false true false false) := by
  refine returnsInHanded_of_change_sized (C := Try.checked) own started (by kernel_rfl) Try.func12
    (ChangeSpec.witness6 (enc := enc) (C := Try.checked) false ⟨#[], #[.int .i64 0, .int .i64 0], []⟩ 8 (by kernel_rfl) (by kernel_rfl) (by kernel_rfl) (by kernel_rfl)) ?_
  intro W base args ds gs before hval hW hcnd hsz _
  refine law_post (s := Rows.bytesEdgesSpec) (n := 60) (Ts := Ts) (ts := [3, 3]) (tb := 4) (by kernel_rfl) rfl rfl Try.underlying4 rfl (by kernel_rfl) (by kernel_rfl) (fun ds hds => ?_) law W base args ds gs before hval hW hsz
  match ds, hds with
  | [d1, d2], _ => exact ⟨rfl, rfl, rfl⟩
theorem over : Rows.bytesEdgesRow.holds Try.pinned (OpenSpec.ofChange Rows.bytesEdgesSpec) :=
  OpenClaim.holds_of_wide 12 Try.f12 rfl rfl rfl rfl rfl rfl rfl ⟨rfl, rfl, rfl, rfl, rfl⟩ rfl rfl rfl rfl rfl (by kernel_rfl) Try.func12 (by kernel_rfl)
    (of_decide_eq_true (by kernel_rfl)) (by unfold Func.isWrapper; first | (rw [if_pos (by decide +kernel)]; kernel_rfl) | (rw [if_neg (by decide +kernel)]; exact ⟨rfl, rfl⟩))
    (fun os started H enc _ => lifted os started H enc)
theorem proved : Rows.BytesEdgesSaid := over
end Go.Proofs.Ytihhfmdihhmbdaa.bytesEdges
namespace Go.Proofs.Ytihhfmdihhmbdaa
/-- The row, under a short name, for the claim. -/
theorem bytesEdges_holds : Rows.BytesEdgesSaid := bytesEdges.proved
end Go.Proofs.Ytihhfmdihhmbdaa
#print axioms Go.Proofs.Ytihhfmdihhmbdaa.bytesEdges_holds
