/- What stores give. -/
import Derived.Test.YtihhfmdihhmbdaaBy2
namespace Go.Proofs.Ytihhfmdihhmbdaa
open Go.Ra
set_option linter.unusedVariables false
set_option linter.unusedSimpArgs false
def TB3 : Tab := mkT qq (cl_bytes ++ cl_ref1 ++ cl_slices) [(30, chkSp), (17, chkSp)] gl_slices
/-- May so many bytes be written there? -/
def okW (n : Nat) (a s : Int) : Bool := decide ((s = 1 ∨ s = 2 ∨ s = 4) ∧ 0 ≤ a ∧ a ≤ 4294967295 ∧ chkI s a n = 0)
/-- Memory with so many bytes of a word written into it. -/
def o_sto (c : Bool) (f : Nat → XV) (a s : Nat) (v : Int) (i : Nat) : XV := .int .u8 (bif (c && (decide (a ≤ i) && decide (i < a + s))) then v / 2 ^ (8 * (i - a)) % 256 else asN (f i))
def stoG (n : Nat) (f : Nat → XV) : List XV → Option (List Bool × XV)
  | [.agg 3 [.int .i64 a, .int .i64 s, .int .u32 v]] => some ([], .row false 1 n (o_sto (okW n a s) f a.toNat s.toNat v))
  | _ => none
def stoSp := rowKSp 1 (.i .u8) 1099511627776 stoG
theorem TB3ok : TabOk Try.prog TB3 := mkT_ok ((clok_bytes.app clok_ref1).app clok_slices) ⟨sp_check1, sp_check2, trivial⟩ glok_slices
theorem okW_iff {n : Nat} {a s : Int} : okW n a s = true ↔ (s = 1 ∨ s = 2 ∨ s = 4) ∧ 0 ≤ a ∧ a ≤ 4294967295 ∧ chkI s a n = 0 := by simp [okW]
theorem okW_not {n : Nat} {a s : Int} (hs : s = 1 ∨ s = 2 ∨ s = 4) (h : okW n a s = false) : (bif bif decide (a < 0) then true else decide (a > 4294967295) then true else decide (¬ chkI s (IntKind.u32.wrap a) n = 0)) = true := by
  by_cases h1 : a < 0
  · simp [h1]
  · by_cases h2 : a > 4294967295
    · simp [h1, h2]
    · have h3 : IntKind.u32.wrap a = a := wrap_u32 (by omega) (by omega)
      have h4 : ¬ chkI s a n = 0 := fun h4 => by
        have : okW n a s = true := okW_iff.2 ⟨hs, by omega, by omega, h4⟩
        rw [h] at this; cases this
      rw [h3]
      simp [h4]
theorem sto_false {f : Nat → XV} {a s : Nat} {v : Int} {i : Nat} : o_sto false f a s v i = .int .u8 (asN (f i)) := rfl
theorem sto_in {f : Nat → XV} {a s : Nat} {v : Int} {i j : Nat} (hj : j < s) (hi : i = a + j) : o_sto true f a s v i = .int .u8 (v / 2 ^ (8 * j) % 256) := by
  subst hi
  simp only [o_sto]
  rw [show (true && (decide (a ≤ a + j) && decide (a + j < a + s))) = true by simp; omega, show a + j - a = j by omega]
  rfl
theorem sto_out {f : Nat → XV} {a s : Nat} {v : Int} {i : Nat} (h : i < a ∨ a + s ≤ i) : o_sto true f a s v i = .int .u8 (asN (f i)) := by
  simp only [o_sto]
  rw [show (true && (decide (a ≤ i) && decide (i < a + s))) = false by simp; omega]
  rfl
theorem r_sto0 (x : Bool) (n : Nat) (f : Nat → XV) (a s v : Int) (K : XV → Prop) : (quietGo TB3 5 (callI TB3 5 20) 32 [.row x 1 n (o_by f), .agg 3 [.int .i64 a, .int .i64 s, .int .u32 v]] K) =
    (bif decide (n * (1 : Nat) ≤ (140737488355328 : Nat)) then
  bif allN (fun (i : Nat) => true) n then
    bif bif decide ¬s = (1 : Int) then decide ¬s = (1 : Int) else true then
      bif bif bif decide ¬s = (1 : Int) then decide ¬s = (2 : Int) else false then bif decide ¬s = (1 : Int) then decide ¬s = (2 : Int) else false else true then
        bif
            bif bif bif decide ¬s = (1 : Int) then decide ¬s = (2 : Int) else false then decide ¬s = (4 : Int) else false then true
            else !bif bif decide ¬s = (1 : Int) then decide ¬s = (2 : Int) else false then decide ¬s = (4 : Int) else false then
          bif
              bif bif bif bif decide ¬s = (1 : Int) then decide ¬s = (2 : Int) else false then decide ¬s = (4 : Int) else false then true else decide (a < (0 : Int)) then true
              else !bif bif bif decide ¬s = (1 : Int) then decide ¬s = (2 : Int) else false then decide ¬s = (4 : Int) else false then true else decide (a < (0 : Int)) then
            bif
                bif
                    bif bif bif bif decide ¬s = (1 : Int) then decide ¬s = (2 : Int) else false then decide ¬s = (4 : Int) else false then true else decide (a < (0 : Int)) then true
                    else decide (a > (4294967295 : Int)) then
                  true
                else
                  !bif bif bif bif decide ¬s = (1 : Int) then decide ¬s = (2 : Int) else false then decide ¬s = (4 : Int) else false then true else decide (a < (0 : Int)) then true
                    else decide (a > (4294967295 : Int)) then
              bif
                  bif
                      bif bif bif bif decide ¬s = (1 : Int) then decide ¬s = (2 : Int) else false then decide ¬s = (4 : Int) else false then true else decide (a < (0 : Int)) then true
                      else decide (a > (4294967295 : Int)) then
                    true
                  else decide ¬chkI s (IntKind.wrap IntKind.u32 a) (↑n : Int) = (0 : Int) then
                bif decide (n ≤ n) then K (XV.row false (1 : Nat) n fun (i : Nat) => XV.int IntKind.u8 (asN (f i))) else False
              else
                bif decide ((0 : Int) < s) then
                  bif decide ((0 : Int) ≤ IntKind.wrap IntKind.i64 (a + (0 : Int))) then
                    bif decide (IntKind.wrap IntKind.i64 (a + (0 : Int)) < (↑n : Int)) then
                      bif Nat.beq (Int.toNat (IntKind.wrap IntKind.i64 (a + (0 : Int))) * (1 : Nat)) (Int.toNat (IntKind.wrap IntKind.i64 (a + (0 : Int))) * (1 : Nat)) then
                        bif decide (Int.toNat (IntKind.wrap IntKind.i64 (a + (0 : Int))) < n) then
                          bif decide (Int.toNat (IntKind.wrap IntKind.i64 (a + (0 : Int))) < n) then
                            bif decide ((1 : Int) < s) then
                              bif decide ((0 : Int) ≤ IntKind.wrap IntKind.i64 (a + (1 : Int))) then
                                bif decide (IntKind.wrap IntKind.i64 (a + (1 : Int)) < (↑n : Int)) then
                                  bif Nat.beq (Int.toNat (IntKind.wrap IntKind.i64 (a + (1 : Int))) * (1 : Nat)) (Int.toNat (IntKind.wrap IntKind.i64 (a + (1 : Int))) * (1 : Nat)) then
                                    bif decide (Int.toNat (IntKind.wrap IntKind.i64 (a + (1 : Int))) < n) then
                                      bif decide (Int.toNat (IntKind.wrap IntKind.i64 (a + (1 : Int))) < n) then
                                        bif decide ((2 : Int) < s) then
                                          bif decide ((0 : Int) ≤ IntKind.wrap IntKind.i64 (a + (2 : Int))) then
                                            bif decide (IntKind.wrap IntKind.i64 (a + (2 : Int)) < (↑n : Int)) then
                                              bif Nat.beq (Int.toNat (IntKind.wrap IntKind.i64 (a + (2 : Int))) * (1 : Nat)) (Int.toNat (IntKind.wrap IntKind.i64 (a + (2 : Int))) * (1 : Nat)) then
                                                bif decide (Int.toNat (IntKind.wrap IntKind.i64 (a + (2 : Int))) < n) then
                                                  bif decide (Int.toNat (IntKind.wrap IntKind.i64 (a + (2 : Int))) < n) then
                                                    bif decide ((3 : Int) < s) then
                                                      bif decide ((0 : Int) ≤ IntKind.wrap IntKind.i64 (a + (3 : Int))) then
                                                        bif decide (IntKind.wrap IntKind.i64 (a + (3 : Int)) < (↑n : Int)) then
                                                          bif
                                                              Nat.beq (Int.toNat (IntKind.wrap IntKind.i64 (a + (3 : Int))) * (1 : Nat))
                                                                (Int.toNat (IntKind.wrap IntKind.i64 (a + (3 : Int))) * (1 : Nat)) then
                                                            bif decide (Int.toNat (IntKind.wrap IntKind.i64 (a + (3 : Int))) < n) then
                                                              bif decide (Int.toNat (IntKind.wrap IntKind.i64 (a + (3 : Int))) < n) then
                                                                bif decide ((4 : Int) < s) then
                                                                  bif decide ((0 : Int) ≤ IntKind.wrap IntKind.i64 (a + (4 : Int))) then
                                                                    bif decide (IntKind.wrap IntKind.i64 (a + (4 : Int)) < (↑n : Int)) then
                                                                      bif
                                                                          Nat.beq (Int.toNat (IntKind.wrap IntKind.i64 (a + (4 : Int))) * (1 : Nat))
                                                                            (Int.toNat (IntKind.wrap IntKind.i64 (a + (4 : Int))) * (1 : Nat)) then
                                                                        bif decide (Int.toNat (IntKind.wrap IntKind.i64 (a + (4 : Int))) < n) then
                                                                          bif decide (Int.toNat (IntKind.wrap IntKind.i64 (a + (4 : Int))) < n) then False else False
                                                                        else False
                                                                      else False
                                                                    else False
                                                                  else False
                                                                else
                                                                  bif decide (n ≤ n) then
                                                                    K
                                                                      (XV.row false (1 : Nat) n fun (i : Nat) =>
                                                                        XV.int IntKind.u8
                                                                          (bif Nat.beq i (Int.toNat (IntKind.wrap IntKind.i64 (a + (3 : Int)))) then
                                                                            IntKind.wrap IntKind.u8 (Int.fdiv v (16777216 : Int))
                                                                          else
                                                                            bif Nat.beq i (Int.toNat (IntKind.wrap IntKind.i64 (a + (2 : Int)))) then IntKind.wrap IntKind.u8 (Int.fdiv v (65536 : Int))
                                                                            else
                                                                              bif Nat.beq i (Int.toNat (IntKind.wrap IntKind.i64 (a + (1 : Int)))) then IntKind.wrap IntKind.u8 (Int.fdiv v (256 : Int))
                                                                              else
                                                                                bif Nat.beq i (Int.toNat (IntKind.wrap IntKind.i64 (a + (0 : Int)))) then IntKind.wrap IntKind.u8 (Int.fdiv v (1 : Int))
                                                                                else asN (f i)))
                                                                  else False
                                                              else False
                                                            else False
                                                          else False
                                                        else False
                                                      else False
                                                    else
                                                      bif decide (n ≤ n) then
                                                        K
                                                          (XV.row false (1 : Nat) n fun (i : Nat) =>
                                                            XV.int IntKind.u8
                                                              (bif Nat.beq i (Int.toNat (IntKind.wrap IntKind.i64 (a + (2 : Int)))) then IntKind.wrap IntKind.u8 (Int.fdiv v (65536 : Int))
                                                              else
                                                                bif Nat.beq i (Int.toNat (IntKind.wrap IntKind.i64 (a + (1 : Int)))) then IntKind.wrap IntKind.u8 (Int.fdiv v (256 : Int))
                                                                else
                                                                  bif Nat.beq i (Int.toNat (IntKind.wrap IntKind.i64 (a + (0 : Int)))) then IntKind.wrap IntKind.u8 (Int.fdiv v (1 : Int))
                                                                  else asN (f i)))
                                                      else False
                                                  else False
                                                else False
                                              else False
                                            else False
                                          else False
                                        else
                                          bif decide (n ≤ n) then
                                            K
                                              (XV.row false (1 : Nat) n fun (i : Nat) =>
                                                XV.int IntKind.u8
                                                  (bif Nat.beq i (Int.toNat (IntKind.wrap IntKind.i64 (a + (1 : Int)))) then IntKind.wrap IntKind.u8 (Int.fdiv v (256 : Int))
                                                  else bif Nat.beq i (Int.toNat (IntKind.wrap IntKind.i64 (a + (0 : Int)))) then IntKind.wrap IntKind.u8 (Int.fdiv v (1 : Int)) else asN (f i)))
                                          else False
                                      else False
                                    else False
                                  else False
                                else False
                              else False
                            else
                              bif decide (n ≤ n) then
                                K
                                  (XV.row false (1 : Nat) n fun (i : Nat) =>
                                    XV.int IntKind.u8 (bif Nat.beq i (Int.toNat (IntKind.wrap IntKind.i64 (a + (0 : Int)))) then IntKind.wrap IntKind.u8 (Int.fdiv v (1 : Int)) else asN (f i)))
                              else False
                          else False
                        else False
                      else False
                    else False
                  else False
                else bif decide (n ≤ n) then K (XV.row false (1 : Nat) n fun (i : Nat) => XV.int IntKind.u8 (asN (f i))) else False
            else False
          else False
        else False
      else False
    else False
  else False
 else False) := by kernel_rfl
theorem r_sto1 (x : Bool) (n : Nat) (f : Nat → XV) (a v : Int) (K : XV → Prop) : (quietGo TB3 5 (callI TB3 5 20) 32 [.row x 1 n (o_by f), .agg 3 [.int .i64 a, .int .i64 1, .int .u32 v]] K) =
    (bif decide (n * (1 : Nat) ≤ (140737488355328 : Nat)) then
  bif allN (fun (i : Nat) => true) n then
    bif bif decide (a < (0 : Int)) then true else !decide (a < (0 : Int)) then
      bif bif bif decide (a < (0 : Int)) then true else decide (a > (4294967295 : Int)) then true else !bif decide (a < (0 : Int)) then true else decide (a > (4294967295 : Int)) then
        bif bif bif decide (a < (0 : Int)) then true else decide (a > (4294967295 : Int)) then true else decide ¬chkI (1 : Int) (IntKind.wrap IntKind.u32 a) (↑n : Int) = (0 : Int) then
          bif decide (n ≤ n) then K (XV.row false (1 : Nat) n fun (i : Nat) => XV.int IntKind.u8 (asN (f i))) else False
        else
          bif decide ((0 : Int) ≤ IntKind.wrap IntKind.i64 (a + (0 : Int))) then
            bif decide (IntKind.wrap IntKind.i64 (a + (0 : Int)) < (↑n : Int)) then
              bif Nat.beq (Int.toNat (IntKind.wrap IntKind.i64 (a + (0 : Int))) * (1 : Nat)) (Int.toNat (IntKind.wrap IntKind.i64 (a + (0 : Int))) * (1 : Nat)) then
                bif decide (Int.toNat (IntKind.wrap IntKind.i64 (a + (0 : Int))) < n) then
                  bif decide (Int.toNat (IntKind.wrap IntKind.i64 (a + (0 : Int))) < n) then
                    bif decide (n ≤ n) then
                      K
                        (XV.row false (1 : Nat) n fun (i : Nat) =>
                          XV.int IntKind.u8 (bif Nat.beq i (Int.toNat (IntKind.wrap IntKind.i64 (a + (0 : Int)))) then IntKind.wrap IntKind.u8 (Int.fdiv v (1 : Int)) else asN (f i)))
                    else False
                  else False
                else False
              else False
            else False
          else False
      else False
    else False
  else False
 else False) := by kernel_rfl
theorem r_sto2 (x : Bool) (n : Nat) (f : Nat → XV) (a v : Int) (K : XV → Prop) : (quietGo TB3 5 (callI TB3 5 20) 32 [.row x 1 n (o_by f), .agg 3 [.int .i64 a, .int .i64 2, .int .u32 v]] K) =
    (bif decide (n * (1 : Nat) ≤ (140737488355328 : Nat)) then
  bif allN (fun (i : Nat) => true) n then
    bif bif decide (a < (0 : Int)) then true else !decide (a < (0 : Int)) then
      bif bif bif decide (a < (0 : Int)) then true else decide (a > (4294967295 : Int)) then true else !bif decide (a < (0 : Int)) then true else decide (a > (4294967295 : Int)) then
        bif bif bif decide (a < (0 : Int)) then true else decide (a > (4294967295 : Int)) then true else decide ¬chkI (2 : Int) (IntKind.wrap IntKind.u32 a) (↑n : Int) = (0 : Int) then
          bif decide (n ≤ n) then K (XV.row false (1 : Nat) n fun (i : Nat) => XV.int IntKind.u8 (asN (f i))) else False
        else
          bif decide ((0 : Int) ≤ IntKind.wrap IntKind.i64 (a + (0 : Int))) then
            bif decide (IntKind.wrap IntKind.i64 (a + (0 : Int)) < (↑n : Int)) then
              bif Nat.beq (Int.toNat (IntKind.wrap IntKind.i64 (a + (0 : Int))) * (1 : Nat)) (Int.toNat (IntKind.wrap IntKind.i64 (a + (0 : Int))) * (1 : Nat)) then
                bif decide (Int.toNat (IntKind.wrap IntKind.i64 (a + (0 : Int))) < n) then
                  bif decide (Int.toNat (IntKind.wrap IntKind.i64 (a + (0 : Int))) < n) then
                    bif decide ((0 : Int) ≤ IntKind.wrap IntKind.i64 (a + (1 : Int))) then
                      bif decide (IntKind.wrap IntKind.i64 (a + (1 : Int)) < (↑n : Int)) then
                        bif Nat.beq (Int.toNat (IntKind.wrap IntKind.i64 (a + (1 : Int))) * (1 : Nat)) (Int.toNat (IntKind.wrap IntKind.i64 (a + (1 : Int))) * (1 : Nat)) then
                          bif decide (Int.toNat (IntKind.wrap IntKind.i64 (a + (1 : Int))) < n) then
                            bif decide (Int.toNat (IntKind.wrap IntKind.i64 (a + (1 : Int))) < n) then
                              bif decide (n ≤ n) then
                                K
                                  (XV.row false (1 : Nat) n fun (i : Nat) =>
                                    XV.int IntKind.u8
                                      (bif Nat.beq i (Int.toNat (IntKind.wrap IntKind.i64 (a + (1 : Int)))) then IntKind.wrap IntKind.u8 (Int.fdiv v (256 : Int))
                                      else bif Nat.beq i (Int.toNat (IntKind.wrap IntKind.i64 (a + (0 : Int)))) then IntKind.wrap IntKind.u8 (Int.fdiv v (1 : Int)) else asN (f i)))
                              else False
                            else False
                          else False
                        else False
                      else False
                    else False
                  else False
                else False
              else False
            else False
          else False
      else False
    else False
  else False
 else False) := by kernel_rfl
theorem r_sto4 (x : Bool) (n : Nat) (f : Nat → XV) (a v : Int) (K : XV → Prop) : (quietGo TB3 5 (callI TB3 5 20) 32 [.row x 1 n (o_by f), .agg 3 [.int .i64 a, .int .i64 4, .int .u32 v]] K) =
    (bif decide (n * (1 : Nat) ≤ (140737488355328 : Nat)) then
  bif allN (fun (i : Nat) => true) n then
    bif bif decide (a < (0 : Int)) then true else !decide (a < (0 : Int)) then
      bif bif bif decide (a < (0 : Int)) then true else decide (a > (4294967295 : Int)) then true else !bif decide (a < (0 : Int)) then true else decide (a > (4294967295 : Int)) then
        bif bif bif decide (a < (0 : Int)) then true else decide (a > (4294967295 : Int)) then true else decide ¬chkI (4 : Int) (IntKind.wrap IntKind.u32 a) (↑n : Int) = (0 : Int) then
          bif decide (n ≤ n) then K (XV.row false (1 : Nat) n fun (i : Nat) => XV.int IntKind.u8 (asN (f i))) else False
        else
          bif decide ((0 : Int) ≤ IntKind.wrap IntKind.i64 (a + (0 : Int))) then
            bif decide (IntKind.wrap IntKind.i64 (a + (0 : Int)) < (↑n : Int)) then
              bif Nat.beq (Int.toNat (IntKind.wrap IntKind.i64 (a + (0 : Int))) * (1 : Nat)) (Int.toNat (IntKind.wrap IntKind.i64 (a + (0 : Int))) * (1 : Nat)) then
                bif decide (Int.toNat (IntKind.wrap IntKind.i64 (a + (0 : Int))) < n) then
                  bif decide (Int.toNat (IntKind.wrap IntKind.i64 (a + (0 : Int))) < n) then
                    bif decide ((0 : Int) ≤ IntKind.wrap IntKind.i64 (a + (1 : Int))) then
                      bif decide (IntKind.wrap IntKind.i64 (a + (1 : Int)) < (↑n : Int)) then
                        bif Nat.beq (Int.toNat (IntKind.wrap IntKind.i64 (a + (1 : Int))) * (1 : Nat)) (Int.toNat (IntKind.wrap IntKind.i64 (a + (1 : Int))) * (1 : Nat)) then
                          bif decide (Int.toNat (IntKind.wrap IntKind.i64 (a + (1 : Int))) < n) then
                            bif decide (Int.toNat (IntKind.wrap IntKind.i64 (a + (1 : Int))) < n) then
                              bif decide ((0 : Int) ≤ IntKind.wrap IntKind.i64 (a + (2 : Int))) then
                                bif decide (IntKind.wrap IntKind.i64 (a + (2 : Int)) < (↑n : Int)) then
                                  bif Nat.beq (Int.toNat (IntKind.wrap IntKind.i64 (a + (2 : Int))) * (1 : Nat)) (Int.toNat (IntKind.wrap IntKind.i64 (a + (2 : Int))) * (1 : Nat)) then
                                    bif decide (Int.toNat (IntKind.wrap IntKind.i64 (a + (2 : Int))) < n) then
                                      bif decide (Int.toNat (IntKind.wrap IntKind.i64 (a + (2 : Int))) < n) then
                                        bif decide ((0 : Int) ≤ IntKind.wrap IntKind.i64 (a + (3 : Int))) then
                                          bif decide (IntKind.wrap IntKind.i64 (a + (3 : Int)) < (↑n : Int)) then
                                            bif Nat.beq (Int.toNat (IntKind.wrap IntKind.i64 (a + (3 : Int))) * (1 : Nat)) (Int.toNat (IntKind.wrap IntKind.i64 (a + (3 : Int))) * (1 : Nat)) then
                                              bif decide (Int.toNat (IntKind.wrap IntKind.i64 (a + (3 : Int))) < n) then
                                                bif decide (Int.toNat (IntKind.wrap IntKind.i64 (a + (3 : Int))) < n) then
                                                  bif decide (n ≤ n) then
                                                    K
                                                      (XV.row false (1 : Nat) n fun (i : Nat) =>
                                                        XV.int IntKind.u8
                                                          (bif Nat.beq i (Int.toNat (IntKind.wrap IntKind.i64 (a + (3 : Int)))) then IntKind.wrap IntKind.u8 (Int.fdiv v (16777216 : Int))
                                                          else
                                                            bif Nat.beq i (Int.toNat (IntKind.wrap IntKind.i64 (a + (2 : Int)))) then IntKind.wrap IntKind.u8 (Int.fdiv v (65536 : Int))
                                                            else
                                                              bif Nat.beq i (Int.toNat (IntKind.wrap IntKind.i64 (a + (1 : Int)))) then IntKind.wrap IntKind.u8 (Int.fdiv v (256 : Int))
                                                              else
                                                                bif Nat.beq i (Int.toNat (IntKind.wrap IntKind.i64 (a + (0 : Int)))) then IntKind.wrap IntKind.u8 (Int.fdiv v (1 : Int))
                                                                else asN (f i)))
                                                  else False
                                                else False
                                              else False
                                            else False
                                          else False
                                        else False
                                      else False
                                    else False
                                  else False
                                else False
                              else False
                            else False
                          else False
                        else False
                      else False
                    else False
                  else False
                else False
              else False
            else False
          else False
      else False
    else False
  else False
 else False) := by kernel_rfl
theorem r_rsto0 (x : Bool) (n : Nat) (f : Nat → XV) (a s v : Int) (K : XV → Prop) : (quietGo TB3 5 (callI TB3 5 20) 18 [.row x 1 n (o_by f), .agg 3 [.int .i64 a, .int .i64 s, .int .u32 v]] K) =
    (bif decide (n * (1 : Nat) ≤ (140737488355328 : Nat)) then
  bif bif decide ¬s = (1 : Int) then decide ¬s = (1 : Int) else true then
    bif bif bif decide ¬s = (1 : Int) then decide ¬s = (2 : Int) else false then bif decide ¬s = (1 : Int) then decide ¬s = (2 : Int) else false else true then
      bif
          bif bif bif decide ¬s = (1 : Int) then decide ¬s = (2 : Int) else false then decide ¬s = (4 : Int) else false then true
          else !bif bif decide ¬s = (1 : Int) then decide ¬s = (2 : Int) else false then decide ¬s = (4 : Int) else false then
        bif
            bif bif bif bif decide ¬s = (1 : Int) then decide ¬s = (2 : Int) else false then decide ¬s = (4 : Int) else false then true else decide (a < (0 : Int)) then true
            else !bif bif bif decide ¬s = (1 : Int) then decide ¬s = (2 : Int) else false then decide ¬s = (4 : Int) else false then true else decide (a < (0 : Int)) then
          bif
              bif
                  bif bif bif bif decide ¬s = (1 : Int) then decide ¬s = (2 : Int) else false then decide ¬s = (4 : Int) else false then true else decide (a < (0 : Int)) then true
                  else decide (a > (4294967295 : Int)) then
                true
              else
                !bif bif bif bif decide ¬s = (1 : Int) then decide ¬s = (2 : Int) else false then decide ¬s = (4 : Int) else false then true else decide (a < (0 : Int)) then true
                  else decide (a > (4294967295 : Int)) then
            bif
                bif
                    bif bif bif bif decide ¬s = (1 : Int) then decide ¬s = (2 : Int) else false then decide ¬s = (4 : Int) else false then true else decide (a < (0 : Int)) then true
                    else decide (a > (4294967295 : Int)) then
                  true
                else decide ¬chkI s (IntKind.wrap IntKind.u32 a) (↑n : Int) = (0 : Int) then
              bif decide (n ≤ n) then K (XV.row false (1 : Nat) n fun (i : Nat) => XV.int IntKind.u8 (asN (f i))) else False
            else
              bif decide ((0 : Int) < s) then
                bif decide ((0 : Int) ≤ IntKind.wrap IntKind.i64 (a + (0 : Int))) then
                  bif decide (IntKind.wrap IntKind.i64 (a + (0 : Int)) < (↑n : Int)) then
                    bif Nat.beq (Int.toNat (IntKind.wrap IntKind.i64 (a + (0 : Int))) * (1 : Nat)) (Int.toNat (IntKind.wrap IntKind.i64 (a + (0 : Int))) * (1 : Nat)) then
                      bif decide (Int.toNat (IntKind.wrap IntKind.i64 (a + (0 : Int))) < n) then
                        bif decide (Int.toNat (IntKind.wrap IntKind.i64 (a + (0 : Int))) < n) then
                          bif decide ((1 : Int) < s) then
                            bif decide ((0 : Int) ≤ IntKind.wrap IntKind.i64 (a + (1 : Int))) then
                              bif decide (IntKind.wrap IntKind.i64 (a + (1 : Int)) < (↑n : Int)) then
                                bif Nat.beq (Int.toNat (IntKind.wrap IntKind.i64 (a + (1 : Int))) * (1 : Nat)) (Int.toNat (IntKind.wrap IntKind.i64 (a + (1 : Int))) * (1 : Nat)) then
                                  bif decide (Int.toNat (IntKind.wrap IntKind.i64 (a + (1 : Int))) < n) then
                                    bif decide (Int.toNat (IntKind.wrap IntKind.i64 (a + (1 : Int))) < n) then
                                      bif decide ((2 : Int) < s) then
                                        bif decide ((0 : Int) ≤ IntKind.wrap IntKind.i64 (a + (2 : Int))) then
                                          bif decide (IntKind.wrap IntKind.i64 (a + (2 : Int)) < (↑n : Int)) then
                                            bif Nat.beq (Int.toNat (IntKind.wrap IntKind.i64 (a + (2 : Int))) * (1 : Nat)) (Int.toNat (IntKind.wrap IntKind.i64 (a + (2 : Int))) * (1 : Nat)) then
                                              bif decide (Int.toNat (IntKind.wrap IntKind.i64 (a + (2 : Int))) < n) then
                                                bif decide (Int.toNat (IntKind.wrap IntKind.i64 (a + (2 : Int))) < n) then
                                                  bif decide ((3 : Int) < s) then
                                                    bif decide ((0 : Int) ≤ IntKind.wrap IntKind.i64 (a + (3 : Int))) then
                                                      bif decide (IntKind.wrap IntKind.i64 (a + (3 : Int)) < (↑n : Int)) then
                                                        bif
                                                            Nat.beq (Int.toNat (IntKind.wrap IntKind.i64 (a + (3 : Int))) * (1 : Nat))
                                                              (Int.toNat (IntKind.wrap IntKind.i64 (a + (3 : Int))) * (1 : Nat)) then
                                                          bif decide (Int.toNat (IntKind.wrap IntKind.i64 (a + (3 : Int))) < n) then
                                                            bif decide (Int.toNat (IntKind.wrap IntKind.i64 (a + (3 : Int))) < n) then
                                                              bif decide ((4 : Int) < s) then
                                                                bif decide ((0 : Int) ≤ IntKind.wrap IntKind.i64 (a + (4 : Int))) then
                                                                  bif decide (IntKind.wrap IntKind.i64 (a + (4 : Int)) < (↑n : Int)) then
                                                                    bif
                                                                        Nat.beq (Int.toNat (IntKind.wrap IntKind.i64 (a + (4 : Int))) * (1 : Nat))
                                                                          (Int.toNat (IntKind.wrap IntKind.i64 (a + (4 : Int))) * (1 : Nat)) then
                                                                      bif decide (Int.toNat (IntKind.wrap IntKind.i64 (a + (4 : Int))) < n) then
                                                                        bif decide (Int.toNat (IntKind.wrap IntKind.i64 (a + (4 : Int))) < n) then False else False
                                                                      else False
                                                                    else False
                                                                  else False
                                                                else False
                                                              else
                                                                bif decide (n ≤ n) then
                                                                  K
                                                                    (XV.row false (1 : Nat) n fun (i : Nat) =>
                                                                      XV.int IntKind.u8
                                                                        (bif Nat.beq i (Int.toNat (IntKind.wrap IntKind.i64 (a + (3 : Int)))) then IntKind.wrap IntKind.u8 (Int.fdiv v (16777216 : Int))
                                                                        else
                                                                          bif Nat.beq i (Int.toNat (IntKind.wrap IntKind.i64 (a + (2 : Int)))) then IntKind.wrap IntKind.u8 (Int.fdiv v (65536 : Int))
                                                                          else
                                                                            bif Nat.beq i (Int.toNat (IntKind.wrap IntKind.i64 (a + (1 : Int)))) then IntKind.wrap IntKind.u8 (Int.fdiv v (256 : Int))
                                                                            else
                                                                              bif Nat.beq i (Int.toNat (IntKind.wrap IntKind.i64 (a + (0 : Int)))) then IntKind.wrap IntKind.u8 (Int.fdiv v (1 : Int))
                                                                              else asN (f i)))
                                                                else False
                                                            else False
                                                          else False
                                                        else False
                                                      else False
                                                    else False
                                                  else
                                                    bif decide (n ≤ n) then
                                                      K
                                                        (XV.row false (1 : Nat) n fun (i : Nat) =>
                                                          XV.int IntKind.u8
                                                            (bif Nat.beq i (Int.toNat (IntKind.wrap IntKind.i64 (a + (2 : Int)))) then IntKind.wrap IntKind.u8 (Int.fdiv v (65536 : Int))
                                                            else
                                                              bif Nat.beq i (Int.toNat (IntKind.wrap IntKind.i64 (a + (1 : Int)))) then IntKind.wrap IntKind.u8 (Int.fdiv v (256 : Int))
                                                              else
                                                                bif Nat.beq i (Int.toNat (IntKind.wrap IntKind.i64 (a + (0 : Int)))) then IntKind.wrap IntKind.u8 (Int.fdiv v (1 : Int))
                                                                else asN (f i)))
                                                    else False
                                                else False
                                              else False
                                            else False
                                          else False
                                        else False
                                      else
                                        bif decide (n ≤ n) then
                                          K
                                            (XV.row false (1 : Nat) n fun (i : Nat) =>
                                              XV.int IntKind.u8
                                                (bif Nat.beq i (Int.toNat (IntKind.wrap IntKind.i64 (a + (1 : Int)))) then IntKind.wrap IntKind.u8 (Int.fdiv v (256 : Int))
                                                else bif Nat.beq i (Int.toNat (IntKind.wrap IntKind.i64 (a + (0 : Int)))) then IntKind.wrap IntKind.u8 (Int.fdiv v (1 : Int)) else asN (f i)))
                                        else False
                                    else False
                                  else False
                                else False
                              else False
                            else False
                          else
                            bif decide (n ≤ n) then
                              K
                                (XV.row false (1 : Nat) n fun (i : Nat) =>
                                  XV.int IntKind.u8 (bif Nat.beq i (Int.toNat (IntKind.wrap IntKind.i64 (a + (0 : Int)))) then IntKind.wrap IntKind.u8 (Int.fdiv v (1 : Int)) else asN (f i)))
                            else False
                        else False
                      else False
                    else False
                  else False
                else False
              else bif decide (n ≤ n) then K (XV.row false (1 : Nat) n fun (i : Nat) => XV.int IntKind.u8 (asN (f i))) else False
          else False
        else False
      else False
    else False
  else False
 else False) := by kernel_rfl
theorem r_rsto1 (x : Bool) (n : Nat) (f : Nat → XV) (a v : Int) (K : XV → Prop) : (quietGo TB3 5 (callI TB3 5 20) 18 [.row x 1 n (o_by f), .agg 3 [.int .i64 a, .int .i64 1, .int .u32 v]] K) =
    (bif decide (n * (1 : Nat) ≤ (140737488355328 : Nat)) then
  bif bif decide (a < (0 : Int)) then true else !decide (a < (0 : Int)) then
    bif bif bif decide (a < (0 : Int)) then true else decide (a > (4294967295 : Int)) then true else !bif decide (a < (0 : Int)) then true else decide (a > (4294967295 : Int)) then
      bif bif bif decide (a < (0 : Int)) then true else decide (a > (4294967295 : Int)) then true else decide ¬chkI (1 : Int) (IntKind.wrap IntKind.u32 a) (↑n : Int) = (0 : Int) then
        bif decide (n ≤ n) then K (XV.row false (1 : Nat) n fun (i : Nat) => XV.int IntKind.u8 (asN (f i))) else False
      else
        bif decide ((0 : Int) ≤ IntKind.wrap IntKind.i64 (a + (0 : Int))) then
          bif decide (IntKind.wrap IntKind.i64 (a + (0 : Int)) < (↑n : Int)) then
            bif Nat.beq (Int.toNat (IntKind.wrap IntKind.i64 (a + (0 : Int))) * (1 : Nat)) (Int.toNat (IntKind.wrap IntKind.i64 (a + (0 : Int))) * (1 : Nat)) then
              bif decide (Int.toNat (IntKind.wrap IntKind.i64 (a + (0 : Int))) < n) then
                bif decide (Int.toNat (IntKind.wrap IntKind.i64 (a + (0 : Int))) < n) then
                  bif decide (n ≤ n) then
                    K
                      (XV.row false (1 : Nat) n fun (i : Nat) =>
                        XV.int IntKind.u8 (bif Nat.beq i (Int.toNat (IntKind.wrap IntKind.i64 (a + (0 : Int)))) then IntKind.wrap IntKind.u8 (Int.fdiv v (1 : Int)) else asN (f i)))
                  else False
                else False
              else False
            else False
          else False
        else False
    else False
  else False
 else False) := by kernel_rfl
theorem r_rsto2 (x : Bool) (n : Nat) (f : Nat → XV) (a v : Int) (K : XV → Prop) : (quietGo TB3 5 (callI TB3 5 20) 18 [.row x 1 n (o_by f), .agg 3 [.int .i64 a, .int .i64 2, .int .u32 v]] K) =
    (bif decide (n * (1 : Nat) ≤ (140737488355328 : Nat)) then
  bif bif decide (a < (0 : Int)) then true else !decide (a < (0 : Int)) then
    bif bif bif decide (a < (0 : Int)) then true else decide (a > (4294967295 : Int)) then true else !bif decide (a < (0 : Int)) then true else decide (a > (4294967295 : Int)) then
      bif bif bif decide (a < (0 : Int)) then true else decide (a > (4294967295 : Int)) then true else decide ¬chkI (2 : Int) (IntKind.wrap IntKind.u32 a) (↑n : Int) = (0 : Int) then
        bif decide (n ≤ n) then K (XV.row false (1 : Nat) n fun (i : Nat) => XV.int IntKind.u8 (asN (f i))) else False
      else
        bif decide ((0 : Int) ≤ IntKind.wrap IntKind.i64 (a + (0 : Int))) then
          bif decide (IntKind.wrap IntKind.i64 (a + (0 : Int)) < (↑n : Int)) then
            bif Nat.beq (Int.toNat (IntKind.wrap IntKind.i64 (a + (0 : Int))) * (1 : Nat)) (Int.toNat (IntKind.wrap IntKind.i64 (a + (0 : Int))) * (1 : Nat)) then
              bif decide (Int.toNat (IntKind.wrap IntKind.i64 (a + (0 : Int))) < n) then
                bif decide (Int.toNat (IntKind.wrap IntKind.i64 (a + (0 : Int))) < n) then
                  bif decide ((0 : Int) ≤ IntKind.wrap IntKind.i64 (a + (1 : Int))) then
                    bif decide (IntKind.wrap IntKind.i64 (a + (1 : Int)) < (↑n : Int)) then
                      bif Nat.beq (Int.toNat (IntKind.wrap IntKind.i64 (a + (1 : Int))) * (1 : Nat)) (Int.toNat (IntKind.wrap IntKind.i64 (a + (1 : Int))) * (1 : Nat)) then
                        bif decide (Int.toNat (IntKind.wrap IntKind.i64 (a + (1 : Int))) < n) then
                          bif decide (Int.toNat (IntKind.wrap IntKind.i64 (a + (1 : Int))) < n) then
                            bif decide (n ≤ n) then
                              K
                                (XV.row false (1 : Nat) n fun (i : Nat) =>
                                  XV.int IntKind.u8
                                    (bif Nat.beq i (Int.toNat (IntKind.wrap IntKind.i64 (a + (1 : Int)))) then IntKind.wrap IntKind.u8 (Int.fdiv v (256 : Int))
                                    else bif Nat.beq i (Int.toNat (IntKind.wrap IntKind.i64 (a + (0 : Int)))) then IntKind.wrap IntKind.u8 (Int.fdiv v (1 : Int)) else asN (f i)))
                            else False
                          else False
                        else False
                      else False
                    else False
                  else False
                else False
              else False
            else False
          else False
        else False
    else False
  else False
 else False) := by kernel_rfl
theorem r_rsto4 (x : Bool) (n : Nat) (f : Nat → XV) (a v : Int) (K : XV → Prop) : (quietGo TB3 5 (callI TB3 5 20) 18 [.row x 1 n (o_by f), .agg 3 [.int .i64 a, .int .i64 4, .int .u32 v]] K) =
    (bif decide (n * (1 : Nat) ≤ (140737488355328 : Nat)) then
  bif bif decide (a < (0 : Int)) then true else !decide (a < (0 : Int)) then
    bif bif bif decide (a < (0 : Int)) then true else decide (a > (4294967295 : Int)) then true else !bif decide (a < (0 : Int)) then true else decide (a > (4294967295 : Int)) then
      bif bif bif decide (a < (0 : Int)) then true else decide (a > (4294967295 : Int)) then true else decide ¬chkI (4 : Int) (IntKind.wrap IntKind.u32 a) (↑n : Int) = (0 : Int) then
        bif decide (n ≤ n) then K (XV.row false (1 : Nat) n fun (i : Nat) => XV.int IntKind.u8 (asN (f i))) else False
      else
        bif decide ((0 : Int) ≤ IntKind.wrap IntKind.i64 (a + (0 : Int))) then
          bif decide (IntKind.wrap IntKind.i64 (a + (0 : Int)) < (↑n : Int)) then
            bif Nat.beq (Int.toNat (IntKind.wrap IntKind.i64 (a + (0 : Int))) * (1 : Nat)) (Int.toNat (IntKind.wrap IntKind.i64 (a + (0 : Int))) * (1 : Nat)) then
              bif decide (Int.toNat (IntKind.wrap IntKind.i64 (a + (0 : Int))) < n) then
                bif decide (Int.toNat (IntKind.wrap IntKind.i64 (a + (0 : Int))) < n) then
                  bif decide ((0 : Int) ≤ IntKind.wrap IntKind.i64 (a + (1 : Int))) then
                    bif decide (IntKind.wrap IntKind.i64 (a + (1 : Int)) < (↑n : Int)) then
                      bif Nat.beq (Int.toNat (IntKind.wrap IntKind.i64 (a + (1 : Int))) * (1 : Nat)) (Int.toNat (IntKind.wrap IntKind.i64 (a + (1 : Int))) * (1 : Nat)) then
                        bif decide (Int.toNat (IntKind.wrap IntKind.i64 (a + (1 : Int))) < n) then
                          bif decide (Int.toNat (IntKind.wrap IntKind.i64 (a + (1 : Int))) < n) then
                            bif decide ((0 : Int) ≤ IntKind.wrap IntKind.i64 (a + (2 : Int))) then
                              bif decide (IntKind.wrap IntKind.i64 (a + (2 : Int)) < (↑n : Int)) then
                                bif Nat.beq (Int.toNat (IntKind.wrap IntKind.i64 (a + (2 : Int))) * (1 : Nat)) (Int.toNat (IntKind.wrap IntKind.i64 (a + (2 : Int))) * (1 : Nat)) then
                                  bif decide (Int.toNat (IntKind.wrap IntKind.i64 (a + (2 : Int))) < n) then
                                    bif decide (Int.toNat (IntKind.wrap IntKind.i64 (a + (2 : Int))) < n) then
                                      bif decide ((0 : Int) ≤ IntKind.wrap IntKind.i64 (a + (3 : Int))) then
                                        bif decide (IntKind.wrap IntKind.i64 (a + (3 : Int)) < (↑n : Int)) then
                                          bif Nat.beq (Int.toNat (IntKind.wrap IntKind.i64 (a + (3 : Int))) * (1 : Nat)) (Int.toNat (IntKind.wrap IntKind.i64 (a + (3 : Int))) * (1 : Nat)) then
                                            bif decide (Int.toNat (IntKind.wrap IntKind.i64 (a + (3 : Int))) < n) then
                                              bif decide (Int.toNat (IntKind.wrap IntKind.i64 (a + (3 : Int))) < n) then
                                                bif decide (n ≤ n) then
                                                  K
                                                    (XV.row false (1 : Nat) n fun (i : Nat) =>
                                                      XV.int IntKind.u8
                                                        (bif Nat.beq i (Int.toNat (IntKind.wrap IntKind.i64 (a + (3 : Int)))) then IntKind.wrap IntKind.u8 (Int.fdiv v (16777216 : Int))
                                                        else
                                                          bif Nat.beq i (Int.toNat (IntKind.wrap IntKind.i64 (a + (2 : Int)))) then IntKind.wrap IntKind.u8 (Int.fdiv v (65536 : Int))
                                                          else
                                                            bif Nat.beq i (Int.toNat (IntKind.wrap IntKind.i64 (a + (1 : Int)))) then IntKind.wrap IntKind.u8 (Int.fdiv v (256 : Int))
                                                            else
                                                              bif Nat.beq i (Int.toNat (IntKind.wrap IntKind.i64 (a + (0 : Int)))) then IntKind.wrap IntKind.u8 (Int.fdiv v (1 : Int)) else asN (f i)))
                                                else False
                                              else False
                                            else False
                                          else False
                                        else False
                                      else False
                                    else False
                                  else False
                                else False
                              else False
                            else False
                          else False
                        else False
                      else False
                    else False
                  else False
                else False
              else False
            else False
          else False
        else False
    else False
  else False
 else False) := by kernel_rfl
theorem r_sto1p (x : Bool) (n : Nat) (f : Nat → XV) (a v : Int) (hn : n ≤ 1099511627776) : quietGo TB3 5 (callI TB3 5 20) 32 [.row x 1 n (o_by f), .agg 3 [.int .i64 a, .int .i64 1, .int .u32 v]] (fun u => con u = con (.row false 1 n (o_sto (okW n a 1) f a.toNat 1 v))) := by
  rw [r_sto1]
  have hb : n * 1 ≤ 140737488355328 := by omega
  simp only [hb, decide_true, decide_false, cond_true, cond_false, allN_true, Nat.le_refl, Int.toNat_natCast, Nat.beq_refl, pk_and, pk_or, Bool.not_true, Bool.not_false, not_true_eq_false, not_false_eq_true, Bool.and_true, Bool.true_and, Bool.and_self, ge_iff_le, Int.le_refl, if_true, if_false, reduceCtorEq, eq_self, BEq.rfl]
  cases hok : okW n a 1 with
  | false =>
    rw [okW_not (by omega) hok]
    simp only [cond_true]
    exact con_row fun i hi => by rw [sto_false]
  | true =>
    obtain ⟨hs, ha, ha2, hch⟩ := okW_iff.1 hok
    obtain ⟨hin, _⟩ := chk_in hs ha ha2 hn hch
    have h1 : ¬ a < 0 := by omega
    have h2 : ¬ a > 4294967295 := by omega
    have h3 : IntKind.u32.wrap a = a := wrap_u32 ha ha2
    have hc : (bif bif decide (a < 0) then true else decide (a > 4294967295) then true else decide (¬ chkI 1 (IntKind.u32.wrap a) n = 0)) = false := by rw [h3]; simp [h1, h2, hch]
    have e0 : (IntKind.i64.wrap (a + 0)).toNat = a.toNat + 0 := by rw [wrap_i64 (by omega) (by omega)]; omega
    have z0 : (0 : Int) ≤ IntKind.i64.wrap (a + 0) := by rw [wrap_i64 (by omega) (by omega)]; omega
    have y0 : IntKind.i64.wrap (a + 0) < n := by rw [wrap_i64 (by omega) (by omega)]; omega
    have x0 : a.toNat + 0 < n := by omega
    simp only [hc, e0, z0, y0, x0, decide_true, decide_false, cond_true, cond_false, allN_true, Nat.le_refl, Int.toNat_natCast, Nat.beq_refl, pk_and, pk_or, Bool.not_true, Bool.not_false, not_true_eq_false, not_false_eq_true, Bool.and_true, Bool.true_and, Bool.and_self, ge_iff_le, Int.le_refl, if_true, if_false, reduceCtorEq, eq_self, BEq.rfl]
    refine con_row fun i hi => ?_
    by_cases h0 : i = a.toNat + 0
    · rw [sto_in (j := 0) (by omega) h0]
      simp only [h0, Nat.beq_refl, cond_true, cond_false]
      rw [fdivE (by omega), wU8]
      rfl
    rw [sto_out (by omega)]
    simp only [beq_ne h0, cond_false]
theorem r_sto2p (x : Bool) (n : Nat) (f : Nat → XV) (a v : Int) (hn : n ≤ 1099511627776) : quietGo TB3 5 (callI TB3 5 20) 32 [.row x 1 n (o_by f), .agg 3 [.int .i64 a, .int .i64 2, .int .u32 v]] (fun u => con u = con (.row false 1 n (o_sto (okW n a 2) f a.toNat 2 v))) := by
  rw [r_sto2]
  have hb : n * 1 ≤ 140737488355328 := by omega
  simp only [hb, decide_true, decide_false, cond_true, cond_false, allN_true, Nat.le_refl, Int.toNat_natCast, Nat.beq_refl, pk_and, pk_or, Bool.not_true, Bool.not_false, not_true_eq_false, not_false_eq_true, Bool.and_true, Bool.true_and, Bool.and_self, ge_iff_le, Int.le_refl, if_true, if_false, reduceCtorEq, eq_self, BEq.rfl]
  cases hok : okW n a 2 with
  | false =>
    rw [okW_not (by omega) hok]
    simp only [cond_true]
    exact con_row fun i hi => by rw [sto_false]
  | true =>
    obtain ⟨hs, ha, ha2, hch⟩ := okW_iff.1 hok
    obtain ⟨hin, _⟩ := chk_in hs ha ha2 hn hch
    have h1 : ¬ a < 0 := by omega
    have h2 : ¬ a > 4294967295 := by omega
    have h3 : IntKind.u32.wrap a = a := wrap_u32 ha ha2
    have hc : (bif bif decide (a < 0) then true else decide (a > 4294967295) then true else decide (¬ chkI 2 (IntKind.u32.wrap a) n = 0)) = false := by rw [h3]; simp [h1, h2, hch]
    have e0 : (IntKind.i64.wrap (a + 0)).toNat = a.toNat + 0 := by rw [wrap_i64 (by omega) (by omega)]; omega
    have z0 : (0 : Int) ≤ IntKind.i64.wrap (a + 0) := by rw [wrap_i64 (by omega) (by omega)]; omega
    have y0 : IntKind.i64.wrap (a + 0) < n := by rw [wrap_i64 (by omega) (by omega)]; omega
    have x0 : a.toNat + 0 < n := by omega
    have e1 : (IntKind.i64.wrap (a + 1)).toNat = a.toNat + 1 := by rw [wrap_i64 (by omega) (by omega)]; omega
    have z1 : (0 : Int) ≤ IntKind.i64.wrap (a + 1) := by rw [wrap_i64 (by omega) (by omega)]; omega
    have y1 : IntKind.i64.wrap (a + 1) < n := by rw [wrap_i64 (by omega) (by omega)]; omega
    have x1 : a.toNat + 1 < n := by omega
    simp only [hc, e0, z0, y0, x0, e1, z1, y1, x1, decide_true, decide_false, cond_true, cond_false, allN_true, Nat.le_refl, Int.toNat_natCast, Nat.beq_refl, pk_and, pk_or, Bool.not_true, Bool.not_false, not_true_eq_false, not_false_eq_true, Bool.and_true, Bool.true_and, Bool.and_self, ge_iff_le, Int.le_refl, if_true, if_false, reduceCtorEq, eq_self, BEq.rfl]
    refine con_row fun i hi => ?_
    by_cases h0 : i = a.toNat + 0
    · rw [sto_in (j := 0) (by omega) h0]
      simp only [h0, Nat.beq_refl, beq_ne (show ¬ a.toNat + 0 = a.toNat + 1 by omega), cond_true, cond_false]
      rw [fdivE (by omega), wU8]
      rfl
    by_cases h1 : i = a.toNat + 1
    · rw [sto_in (j := 1) (by omega) h1]
      simp only [h1, Nat.beq_refl, cond_true, cond_false]
      rw [fdivE (by omega), wU8]
      rfl
    rw [sto_out (by omega)]
    simp only [beq_ne h0, beq_ne h1, cond_false]
theorem r_sto4p (x : Bool) (n : Nat) (f : Nat → XV) (a v : Int) (hn : n ≤ 1099511627776) : quietGo TB3 5 (callI TB3 5 20) 32 [.row x 1 n (o_by f), .agg 3 [.int .i64 a, .int .i64 4, .int .u32 v]] (fun u => con u = con (.row false 1 n (o_sto (okW n a 4) f a.toNat 4 v))) := by
  rw [r_sto4]
  have hb : n * 1 ≤ 140737488355328 := by omega
  simp only [hb, decide_true, decide_false, cond_true, cond_false, allN_true, Nat.le_refl, Int.toNat_natCast, Nat.beq_refl, pk_and, pk_or, Bool.not_true, Bool.not_false, not_true_eq_false, not_false_eq_true, Bool.and_true, Bool.true_and, Bool.and_self, ge_iff_le, Int.le_refl, if_true, if_false, reduceCtorEq, eq_self, BEq.rfl]
  cases hok : okW n a 4 with
  | false =>
    rw [okW_not (by omega) hok]
    simp only [cond_true]
    exact con_row fun i hi => by rw [sto_false]
  | true =>
    obtain ⟨hs, ha, ha2, hch⟩ := okW_iff.1 hok
    obtain ⟨hin, _⟩ := chk_in hs ha ha2 hn hch
    have h1 : ¬ a < 0 := by omega
    have h2 : ¬ a > 4294967295 := by omega
    have h3 : IntKind.u32.wrap a = a := wrap_u32 ha ha2
    have hc : (bif bif decide (a < 0) then true else decide (a > 4294967295) then true else decide (¬ chkI 4 (IntKind.u32.wrap a) n = 0)) = false := by rw [h3]; simp [h1, h2, hch]
    have e0 : (IntKind.i64.wrap (a + 0)).toNat = a.toNat + 0 := by rw [wrap_i64 (by omega) (by omega)]; omega
    have z0 : (0 : Int) ≤ IntKind.i64.wrap (a + 0) := by rw [wrap_i64 (by omega) (by omega)]; omega
    have y0 : IntKind.i64.wrap (a + 0) < n := by rw [wrap_i64 (by omega) (by omega)]; omega
    have x0 : a.toNat + 0 < n := by omega
    have e1 : (IntKind.i64.wrap (a + 1)).toNat = a.toNat + 1 := by rw [wrap_i64 (by omega) (by omega)]; omega
    have z1 : (0 : Int) ≤ IntKind.i64.wrap (a + 1) := by rw [wrap_i64 (by omega) (by omega)]; omega
    have y1 : IntKind.i64.wrap (a + 1) < n := by rw [wrap_i64 (by omega) (by omega)]; omega
    have x1 : a.toNat + 1 < n := by omega
    have e2 : (IntKind.i64.wrap (a + 2)).toNat = a.toNat + 2 := by rw [wrap_i64 (by omega) (by omega)]; omega
    have z2 : (0 : Int) ≤ IntKind.i64.wrap (a + 2) := by rw [wrap_i64 (by omega) (by omega)]; omega
    have y2 : IntKind.i64.wrap (a + 2) < n := by rw [wrap_i64 (by omega) (by omega)]; omega
    have x2 : a.toNat + 2 < n := by omega
    have e3 : (IntKind.i64.wrap (a + 3)).toNat = a.toNat + 3 := by rw [wrap_i64 (by omega) (by omega)]; omega
    have z3 : (0 : Int) ≤ IntKind.i64.wrap (a + 3) := by rw [wrap_i64 (by omega) (by omega)]; omega
    have y3 : IntKind.i64.wrap (a + 3) < n := by rw [wrap_i64 (by omega) (by omega)]; omega
    have x3 : a.toNat + 3 < n := by omega
    simp only [hc, e0, z0, y0, x0, e1, z1, y1, x1, e2, z2, y2, x2, e3, z3, y3, x3, decide_true, decide_false, cond_true, cond_false, allN_true, Nat.le_refl, Int.toNat_natCast, Nat.beq_refl, pk_and, pk_or, Bool.not_true, Bool.not_false, not_true_eq_false, not_false_eq_true, Bool.and_true, Bool.true_and, Bool.and_self, ge_iff_le, Int.le_refl, if_true, if_false, reduceCtorEq, eq_self, BEq.rfl]
    refine con_row fun i hi => ?_
    by_cases h0 : i = a.toNat + 0
    · rw [sto_in (j := 0) (by omega) h0]
      simp only [h0, Nat.beq_refl, beq_ne (show ¬ a.toNat + 0 = a.toNat + 1 by omega), beq_ne (show ¬ a.toNat + 0 = a.toNat + 2 by omega), beq_ne (show ¬ a.toNat + 0 = a.toNat + 3 by omega), cond_true, cond_false]
      rw [fdivE (by omega), wU8]
      rfl
    by_cases h1 : i = a.toNat + 1
    · rw [sto_in (j := 1) (by omega) h1]
      simp only [h1, Nat.beq_refl, beq_ne (show ¬ a.toNat + 1 = a.toNat + 2 by omega), beq_ne (show ¬ a.toNat + 1 = a.toNat + 3 by omega), cond_true, cond_false]
      rw [fdivE (by omega), wU8]
      rfl
    by_cases h2 : i = a.toNat + 2
    · rw [sto_in (j := 2) (by omega) h2]
      simp only [h2, Nat.beq_refl, beq_ne (show ¬ a.toNat + 2 = a.toNat + 3 by omega), cond_true, cond_false]
      rw [fdivE (by omega), wU8]
      rfl
    by_cases h3 : i = a.toNat + 3
    · rw [sto_in (j := 3) (by omega) h3]
      simp only [h3, Nat.beq_refl, cond_true, cond_false]
      rw [fdivE (by omega), wU8]
      rfl
    rw [sto_out (by omega)]
    simp only [beq_ne h0, beq_ne h1, beq_ne h2, beq_ne h3, cond_false]
theorem sp_sto : SpOk Try.prog (32, stoSp) := rowKSp_ok fun x n f rest nd v hn hg hnd => by
  unfold stoG at hg
  split at hg <;> simp only [Option.some.injEq, Prod.mk.injEq, reduceCtorEq] at hg
  obtain ⟨rfl, rfl⟩ := hg
  rename_i a s w
  clear hnd
  refine pureX (u := 5) (k := 20) mix TB3ok ?_
  by_cases h1 : s = 1
  · subst h1; exact r_sto1p x n f a w hn
  by_cases h2 : s = 2
  · subst h2; exact r_sto2p x n f a w hn
  by_cases h4 : s = 4
  · subst h4; exact r_sto4p x n f a w hn
  have hok : okW n a s = false := by
    rw [← Bool.not_eq_true]
    intro h
    have := (okW_iff.1 h).1
    omega
  rw [hok]
  refine Eq.mpr (r_sto0 x n f a s w _) ?_
  have hb : n * 1 ≤ 140737488355328 := by omega
  simp only [hb, h1, h2, h4, decide_true, decide_false, cond_true, cond_false, allN_true, Nat.le_refl, Int.toNat_natCast, Nat.beq_refl, pk_and, pk_or, Bool.not_true, Bool.not_false, not_true_eq_false, not_false_eq_true, Bool.and_true, Bool.true_and, Bool.and_self, ge_iff_le, Int.le_refl, if_true, if_false, reduceCtorEq, eq_self, BEq.rfl]
  exact con_row fun i hi => by rw [sto_false]
theorem r_rsto1p (x : Bool) (n : Nat) (f : Nat → XV) (a v : Int) (hn : n ≤ 1099511627776) : quietGo TB3 5 (callI TB3 5 20) 18 [.row x 1 n (o_by f), .agg 3 [.int .i64 a, .int .i64 1, .int .u32 v]] (fun u => con u = con (.row false 1 n (o_sto (okW n a 1) f a.toNat 1 v))) := by
  rw [r_rsto1]
  have hb : n * 1 ≤ 140737488355328 := by omega
  simp only [hb, decide_true, decide_false, cond_true, cond_false, allN_true, Nat.le_refl, Int.toNat_natCast, Nat.beq_refl, pk_and, pk_or, Bool.not_true, Bool.not_false, not_true_eq_false, not_false_eq_true, Bool.and_true, Bool.true_and, Bool.and_self, ge_iff_le, Int.le_refl, if_true, if_false, reduceCtorEq, eq_self, BEq.rfl]
  cases hok : okW n a 1 with
  | false =>
    rw [okW_not (by omega) hok]
    simp only [cond_true]
    exact con_row fun i hi => by rw [sto_false]
  | true =>
    obtain ⟨hs, ha, ha2, hch⟩ := okW_iff.1 hok
    obtain ⟨hin, _⟩ := chk_in hs ha ha2 hn hch
    have h1 : ¬ a < 0 := by omega
    have h2 : ¬ a > 4294967295 := by omega
    have h3 : IntKind.u32.wrap a = a := wrap_u32 ha ha2
    have hc : (bif bif decide (a < 0) then true else decide (a > 4294967295) then true else decide (¬ chkI 1 (IntKind.u32.wrap a) n = 0)) = false := by rw [h3]; simp [h1, h2, hch]
    have e0 : (IntKind.i64.wrap (a + 0)).toNat = a.toNat + 0 := by rw [wrap_i64 (by omega) (by omega)]; omega
    have z0 : (0 : Int) ≤ IntKind.i64.wrap (a + 0) := by rw [wrap_i64 (by omega) (by omega)]; omega
    have y0 : IntKind.i64.wrap (a + 0) < n := by rw [wrap_i64 (by omega) (by omega)]; omega
    have x0 : a.toNat + 0 < n := by omega
    simp only [hc, e0, z0, y0, x0, decide_true, decide_false, cond_true, cond_false, allN_true, Nat.le_refl, Int.toNat_natCast, Nat.beq_refl, pk_and, pk_or, Bool.not_true, Bool.not_false, not_true_eq_false, not_false_eq_true, Bool.and_true, Bool.true_and, Bool.and_self, ge_iff_le, Int.le_refl, if_true, if_false, reduceCtorEq, eq_self, BEq.rfl]
    refine con_row fun i hi => ?_
    by_cases h0 : i = a.toNat + 0
    · rw [sto_in (j := 0) (by omega) h0]
      simp only [h0, Nat.beq_refl, cond_true, cond_false]
      rw [fdivE (by omega), wU8]
      rfl
    rw [sto_out (by omega)]
    simp only [beq_ne h0, cond_false]
theorem r_rsto2p (x : Bool) (n : Nat) (f : Nat → XV) (a v : Int) (hn : n ≤ 1099511627776) : quietGo TB3 5 (callI TB3 5 20) 18 [.row x 1 n (o_by f), .agg 3 [.int .i64 a, .int .i64 2, .int .u32 v]] (fun u => con u = con (.row false 1 n (o_sto (okW n a 2) f a.toNat 2 v))) := by
  rw [r_rsto2]
  have hb : n * 1 ≤ 140737488355328 := by omega
  simp only [hb, decide_true, decide_false, cond_true, cond_false, allN_true, Nat.le_refl, Int.toNat_natCast, Nat.beq_refl, pk_and, pk_or, Bool.not_true, Bool.not_false, not_true_eq_false, not_false_eq_true, Bool.and_true, Bool.true_and, Bool.and_self, ge_iff_le, Int.le_refl, if_true, if_false, reduceCtorEq, eq_self, BEq.rfl]
  cases hok : okW n a 2 with
  | false =>
    rw [okW_not (by omega) hok]
    simp only [cond_true]
    exact con_row fun i hi => by rw [sto_false]
  | true =>
    obtain ⟨hs, ha, ha2, hch⟩ := okW_iff.1 hok
    obtain ⟨hin, _⟩ := chk_in hs ha ha2 hn hch
    have h1 : ¬ a < 0 := by omega
    have h2 : ¬ a > 4294967295 := by omega
    have h3 : IntKind.u32.wrap a = a := wrap_u32 ha ha2
    have hc : (bif bif decide (a < 0) then true else decide (a > 4294967295) then true else decide (¬ chkI 2 (IntKind.u32.wrap a) n = 0)) = false := by rw [h3]; simp [h1, h2, hch]
    have e0 : (IntKind.i64.wrap (a + 0)).toNat = a.toNat + 0 := by rw [wrap_i64 (by omega) (by omega)]; omega
    have z0 : (0 : Int) ≤ IntKind.i64.wrap (a + 0) := by rw [wrap_i64 (by omega) (by omega)]; omega
    have y0 : IntKind.i64.wrap (a + 0) < n := by rw [wrap_i64 (by omega) (by omega)]; omega
    have x0 : a.toNat + 0 < n := by omega
    have e1 : (IntKind.i64.wrap (a + 1)).toNat = a.toNat + 1 := by rw [wrap_i64 (by omega) (by omega)]; omega
    have z1 : (0 : Int) ≤ IntKind.i64.wrap (a + 1) := by rw [wrap_i64 (by omega) (by omega)]; omega
    have y1 : IntKind.i64.wrap (a + 1) < n := by rw [wrap_i64 (by omega) (by omega)]; omega
    have x1 : a.toNat + 1 < n := by omega
    simp only [hc, e0, z0, y0, x0, e1, z1, y1, x1, decide_true, decide_false, cond_true, cond_false, allN_true, Nat.le_refl, Int.toNat_natCast, Nat.beq_refl, pk_and, pk_or, Bool.not_true, Bool.not_false, not_true_eq_false, not_false_eq_true, Bool.and_true, Bool.true_and, Bool.and_self, ge_iff_le, Int.le_refl, if_true, if_false, reduceCtorEq, eq_self, BEq.rfl]
    refine con_row fun i hi => ?_
    by_cases h0 : i = a.toNat + 0
    · rw [sto_in (j := 0) (by omega) h0]
      simp only [h0, Nat.beq_refl, beq_ne (show ¬ a.toNat + 0 = a.toNat + 1 by omega), cond_true, cond_false]
      rw [fdivE (by omega), wU8]
      rfl
    by_cases h1 : i = a.toNat + 1
    · rw [sto_in (j := 1) (by omega) h1]
      simp only [h1, Nat.beq_refl, cond_true, cond_false]
      rw [fdivE (by omega), wU8]
      rfl
    rw [sto_out (by omega)]
    simp only [beq_ne h0, beq_ne h1, cond_false]
theorem r_rsto4p (x : Bool) (n : Nat) (f : Nat → XV) (a v : Int) (hn : n ≤ 1099511627776) : quietGo TB3 5 (callI TB3 5 20) 18 [.row x 1 n (o_by f), .agg 3 [.int .i64 a, .int .i64 4, .int .u32 v]] (fun u => con u = con (.row false 1 n (o_sto (okW n a 4) f a.toNat 4 v))) := by
  rw [r_rsto4]
  have hb : n * 1 ≤ 140737488355328 := by omega
  simp only [hb, decide_true, decide_false, cond_true, cond_false, allN_true, Nat.le_refl, Int.toNat_natCast, Nat.beq_refl, pk_and, pk_or, Bool.not_true, Bool.not_false, not_true_eq_false, not_false_eq_true, Bool.and_true, Bool.true_and, Bool.and_self, ge_iff_le, Int.le_refl, if_true, if_false, reduceCtorEq, eq_self, BEq.rfl]
  cases hok : okW n a 4 with
  | false =>
    rw [okW_not (by omega) hok]
    simp only [cond_true]
    exact con_row fun i hi => by rw [sto_false]
  | true =>
    obtain ⟨hs, ha, ha2, hch⟩ := okW_iff.1 hok
    obtain ⟨hin, _⟩ := chk_in hs ha ha2 hn hch
    have h1 : ¬ a < 0 := by omega
    have h2 : ¬ a > 4294967295 := by omega
    have h3 : IntKind.u32.wrap a = a := wrap_u32 ha ha2
    have hc : (bif bif decide (a < 0) then true else decide (a > 4294967295) then true else decide (¬ chkI 4 (IntKind.u32.wrap a) n = 0)) = false := by rw [h3]; simp [h1, h2, hch]
    have e0 : (IntKind.i64.wrap (a + 0)).toNat = a.toNat + 0 := by rw [wrap_i64 (by omega) (by omega)]; omega
    have z0 : (0 : Int) ≤ IntKind.i64.wrap (a + 0) := by rw [wrap_i64 (by omega) (by omega)]; omega
    have y0 : IntKind.i64.wrap (a + 0) < n := by rw [wrap_i64 (by omega) (by omega)]; omega
    have x0 : a.toNat + 0 < n := by omega
    have e1 : (IntKind.i64.wrap (a + 1)).toNat = a.toNat + 1 := by rw [wrap_i64 (by omega) (by omega)]; omega
    have z1 : (0 : Int) ≤ IntKind.i64.wrap (a + 1) := by rw [wrap_i64 (by omega) (by omega)]; omega
    have y1 : IntKind.i64.wrap (a + 1) < n := by rw [wrap_i64 (by omega) (by omega)]; omega
    have x1 : a.toNat + 1 < n := by omega
    have e2 : (IntKind.i64.wrap (a + 2)).toNat = a.toNat + 2 := by rw [wrap_i64 (by omega) (by omega)]; omega
    have z2 : (0 : Int) ≤ IntKind.i64.wrap (a + 2) := by rw [wrap_i64 (by omega) (by omega)]; omega
    have y2 : IntKind.i64.wrap (a + 2) < n := by rw [wrap_i64 (by omega) (by omega)]; omega
    have x2 : a.toNat + 2 < n := by omega
    have e3 : (IntKind.i64.wrap (a + 3)).toNat = a.toNat + 3 := by rw [wrap_i64 (by omega) (by omega)]; omega
    have z3 : (0 : Int) ≤ IntKind.i64.wrap (a + 3) := by rw [wrap_i64 (by omega) (by omega)]; omega
    have y3 : IntKind.i64.wrap (a + 3) < n := by rw [wrap_i64 (by omega) (by omega)]; omega
    have x3 : a.toNat + 3 < n := by omega
    simp only [hc, e0, z0, y0, x0, e1, z1, y1, x1, e2, z2, y2, x2, e3, z3, y3, x3, decide_true, decide_false, cond_true, cond_false, allN_true, Nat.le_refl, Int.toNat_natCast, Nat.beq_refl, pk_and, pk_or, Bool.not_true, Bool.not_false, not_true_eq_false, not_false_eq_true, Bool.and_true, Bool.true_and, Bool.and_self, ge_iff_le, Int.le_refl, if_true, if_false, reduceCtorEq, eq_self, BEq.rfl]
    refine con_row fun i hi => ?_
    by_cases h0 : i = a.toNat + 0
    · rw [sto_in (j := 0) (by omega) h0]
      simp only [h0, Nat.beq_refl, beq_ne (show ¬ a.toNat + 0 = a.toNat + 1 by omega), beq_ne (show ¬ a.toNat + 0 = a.toNat + 2 by omega), beq_ne (show ¬ a.toNat + 0 = a.toNat + 3 by omega), cond_true, cond_false]
      rw [fdivE (by omega), wU8]
      rfl
    by_cases h1 : i = a.toNat + 1
    · rw [sto_in (j := 1) (by omega) h1]
      simp only [h1, Nat.beq_refl, beq_ne (show ¬ a.toNat + 1 = a.toNat + 2 by omega), beq_ne (show ¬ a.toNat + 1 = a.toNat + 3 by omega), cond_true, cond_false]
      rw [fdivE (by omega), wU8]
      rfl
    by_cases h2 : i = a.toNat + 2
    · rw [sto_in (j := 2) (by omega) h2]
      simp only [h2, Nat.beq_refl, beq_ne (show ¬ a.toNat + 2 = a.toNat + 3 by omega), cond_true, cond_false]
      rw [fdivE (by omega), wU8]
      rfl
    by_cases h3 : i = a.toNat + 3
    · rw [sto_in (j := 3) (by omega) h3]
      simp only [h3, Nat.beq_refl, cond_true, cond_false]
      rw [fdivE (by omega), wU8]
      rfl
    rw [sto_out (by omega)]
    simp only [beq_ne h0, beq_ne h1, beq_ne h2, beq_ne h3, cond_false]
theorem sp_rsto : SpOk Try.prog (18, stoSp) := rowKSp_ok fun x n f rest nd v hn hg hnd => by
  unfold stoG at hg
  split at hg <;> simp only [Option.some.injEq, Prod.mk.injEq, reduceCtorEq] at hg
  obtain ⟨rfl, rfl⟩ := hg
  rename_i a s w
  clear hnd
  refine pureX (u := 5) (k := 20) mix TB3ok ?_
  by_cases h1 : s = 1
  · subst h1; exact r_rsto1p x n f a w hn
  by_cases h2 : s = 2
  · subst h2; exact r_rsto2p x n f a w hn
  by_cases h4 : s = 4
  · subst h4; exact r_rsto4p x n f a w hn
  have hok : okW n a s = false := by
    rw [← Bool.not_eq_true]
    intro h
    have := (okW_iff.1 h).1
    omega
  rw [hok]
  refine Eq.mpr (r_rsto0 x n f a s w _) ?_
  have hb : n * 1 ≤ 140737488355328 := by omega
  simp only [hb, h1, h2, h4, decide_true, decide_false, cond_true, cond_false, allN_true, Nat.le_refl, Int.toNat_natCast, Nat.beq_refl, pk_and, pk_or, Bool.not_true, Bool.not_false, not_true_eq_false, not_false_eq_true, Bool.and_true, Bool.true_and, Bool.and_self, ge_iff_le, Int.le_refl, if_true, if_false, reduceCtorEq, eq_self, BEq.rfl]
  exact con_row fun i hi => by rw [sto_false]
end Go.Proofs.Ytihhfmdihhmbdaa
