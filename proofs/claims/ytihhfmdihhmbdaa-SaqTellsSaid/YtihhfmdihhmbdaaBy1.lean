/- What the small functions on bytes give, and the document's. -/
import Derived.Test.YtihhfmdihhmbdaaKbytes
import Derived.Test.YtihhfmdihhmbdaaKref1
import Derived.Test.YtihhfmdihhmbdaaKslices
import Derived.Test.YtihhfmdihhmbdaaRaZg
namespace Go.Proofs.Ytihhfmdihhmbdaa
open Go.Ra
set_option linter.unusedVariables false
set_option linter.unusedSimpArgs false
def TB1 : Tab := mkT qq (cl_bytes ++ cl_ref1 ++ cl_slices) [] gl_slices
/-- How many bytes an operation has. -/
def szI (op : Int) : Int := if op = 26 ∨ op = 31 then 4 else if op = 27 ∨ op = 28 ∨ op = 32 then 2 else if op = 29 ∨ op = 30 ∨ op = 33 then 1 else 0
def szSp : List XV → Option (List Bool × XV)
  | [.int .i64 op] => some ([], .int .i64 (szI op))
  | _ => none
/-- What is wrong with so many bytes at an address. -/
def chkI (s a n : Int) : Int := if s ≥ 1 ∧ ¬ (IntKind.i64.wrap a).tmod s = 0 then 1 else if (s > 0 ∧ (s > n ∨ IntKind.i64.wrap a > IntKind.i64.wrap (n - s))) ∨ (s ≤ 0 ∧ IntKind.i64.wrap (IntKind.i64.wrap a + s) > n) then 2 else 0
def chkSp : List XV → Option (List Bool × XV)
  | [.int .i64 s, .int .u32 a, .int .i64 n] => some ([], .int .i64 (chkI s a n))
  | _ => none
/-- A word's lowest bytes with their sign. -/
def extI (op w : Int) : Int := if op = 27 then (if w % 65536 ≥ 32768 then w % 65536 + 4294901760 else w % 65536) else if op = 29 then (if w % 256 ≥ 128 then w % 256 + 4294967040 else w % 256) else w
def extSp : List XV → Option (List Bool × XV)
  | [.int .i64 op, .int .u32 w] => some ([decide (0 ≤ w), decide (w ≤ 4294967295)], .int .u32 (extI op w))
  | _ => none
/-- A word's lowest bytes. -/
def mskI (w n : Int) : Int := if n = 1 then bitsI .and .u32 w 255 else if n = 2 then bitsI .and .u32 w 65535 else if n = 4 then w else 0
def mskSp : List XV → Option (List Bool × XV)
  | [.int .u32 w, .int .i64 n] => some ([], .int .u32 (mskI w n))
  | _ => none
/-- Is b one of the n from a on? -/
def befB (a n b : Int) : Bool := bif decide (a ≤ b) then decide (IntKind.u64.wrap (IntKind.u64.wrap b - IntKind.u64.wrap a) < IntKind.u64.wrap n) else false
def befSp : List XV → Option (List Bool × XV)
  | [.int .i64 a, .int .i64 n, .int .i64 b] => some ([], .bool (befB a n b))
  | _ => none
/-- The form of an operation. -/
def formI (op : Int) : Int := if op < 1 ∨ op > 41 then 0 else if op ≤ 16 then 1 else if op ≤ 24 then 2 else if op = 25 then 3 else if op ≤ 30 then 4 else if op ≤ 33 then 5 else if op ≤ 39 then 6 else if op = 40 then 7 else 8
def formSp : List XV → Option (List Bool × XV)
  | [.int .i64 op] => some ([], .int .i64 (formI op))
  | _ => none
theorem TB1ok : TabOk Try.prog TB1 := mkT_ok ((clok_bytes.app clok_ref1).app clok_slices) trivial glok_slices
theorem r_size1 (op : Int) (K : XV → Prop) : (quietGo TB1 80 (callI TB1 80 20) 29 [.int .i64 op] K) =
    (bif decide (op = (26 : Int)) then
  bif decide (op = (26 : Int)) then K (XV.int IntKind.i64 (4 : Int))
  else
    bif decide (op = (27 : Int)) then
      bif decide (op = (27 : Int)) then K (XV.int IntKind.i64 (2 : Int))
      else
        bif decide (op = (29 : Int)) then bif decide (op = (29 : Int)) then K (XV.int IntKind.i64 (1 : Int)) else K (XV.int IntKind.i64 (0 : Int))
        else
          bif decide (op = (30 : Int)) then bif decide (op = (30 : Int)) then K (XV.int IntKind.i64 (1 : Int)) else K (XV.int IntKind.i64 (0 : Int))
          else bif decide (op = (33 : Int)) then K (XV.int IntKind.i64 (1 : Int)) else K (XV.int IntKind.i64 (0 : Int))
    else
      bif decide (op = (28 : Int)) then
        bif decide (op = (28 : Int)) then K (XV.int IntKind.i64 (2 : Int))
        else
          bif decide (op = (29 : Int)) then bif decide (op = (29 : Int)) then K (XV.int IntKind.i64 (1 : Int)) else K (XV.int IntKind.i64 (0 : Int))
          else
            bif decide (op = (30 : Int)) then bif decide (op = (30 : Int)) then K (XV.int IntKind.i64 (1 : Int)) else K (XV.int IntKind.i64 (0 : Int))
            else bif decide (op = (33 : Int)) then K (XV.int IntKind.i64 (1 : Int)) else K (XV.int IntKind.i64 (0 : Int))
      else
        bif decide (op = (32 : Int)) then K (XV.int IntKind.i64 (2 : Int))
        else
          bif decide (op = (29 : Int)) then bif decide (op = (29 : Int)) then K (XV.int IntKind.i64 (1 : Int)) else K (XV.int IntKind.i64 (0 : Int))
          else
            bif decide (op = (30 : Int)) then bif decide (op = (30 : Int)) then K (XV.int IntKind.i64 (1 : Int)) else K (XV.int IntKind.i64 (0 : Int))
            else bif decide (op = (33 : Int)) then K (XV.int IntKind.i64 (1 : Int)) else K (XV.int IntKind.i64 (0 : Int))
 else
   bif decide (op = (31 : Int)) then K (XV.int IntKind.i64 (4 : Int))
   else
     bif decide (op = (27 : Int)) then
       bif decide (op = (27 : Int)) then K (XV.int IntKind.i64 (2 : Int))
       else
         bif decide (op = (29 : Int)) then bif decide (op = (29 : Int)) then K (XV.int IntKind.i64 (1 : Int)) else K (XV.int IntKind.i64 (0 : Int))
         else
           bif decide (op = (30 : Int)) then bif decide (op = (30 : Int)) then K (XV.int IntKind.i64 (1 : Int)) else K (XV.int IntKind.i64 (0 : Int))
           else bif decide (op = (33 : Int)) then K (XV.int IntKind.i64 (1 : Int)) else K (XV.int IntKind.i64 (0 : Int))
     else
       bif decide (op = (28 : Int)) then
         bif decide (op = (28 : Int)) then K (XV.int IntKind.i64 (2 : Int))
         else
           bif decide (op = (29 : Int)) then bif decide (op = (29 : Int)) then K (XV.int IntKind.i64 (1 : Int)) else K (XV.int IntKind.i64 (0 : Int))
           else
             bif decide (op = (30 : Int)) then bif decide (op = (30 : Int)) then K (XV.int IntKind.i64 (1 : Int)) else K (XV.int IntKind.i64 (0 : Int))
             else bif decide (op = (33 : Int)) then K (XV.int IntKind.i64 (1 : Int)) else K (XV.int IntKind.i64 (0 : Int))
       else
         bif decide (op = (32 : Int)) then K (XV.int IntKind.i64 (2 : Int))
         else
           bif decide (op = (29 : Int)) then bif decide (op = (29 : Int)) then K (XV.int IntKind.i64 (1 : Int)) else K (XV.int IntKind.i64 (0 : Int))
           else
             bif decide (op = (30 : Int)) then bif decide (op = (30 : Int)) then K (XV.int IntKind.i64 (1 : Int)) else K (XV.int IntKind.i64 (0 : Int))
             else bif decide (op = (33 : Int)) then K (XV.int IntKind.i64 (1 : Int)) else K (XV.int IntKind.i64 (0 : Int))) := by kernel_rfl
theorem r_size2 (op : Int) (K : XV → Prop) : (quietGo TB1 80 (callI TB1 80 20) 20 [.int .i64 op] K) =
    (bif decide (op = (26 : Int)) then
  bif decide (op = (26 : Int)) then K (XV.int IntKind.i64 (4 : Int))
  else
    bif decide (op = (27 : Int)) then
      bif decide (op = (27 : Int)) then K (XV.int IntKind.i64 (2 : Int))
      else
        bif decide (op = (29 : Int)) then bif decide (op = (29 : Int)) then K (XV.int IntKind.i64 (1 : Int)) else K (XV.int IntKind.i64 (0 : Int))
        else
          bif decide (op = (30 : Int)) then bif decide (op = (30 : Int)) then K (XV.int IntKind.i64 (1 : Int)) else K (XV.int IntKind.i64 (0 : Int))
          else bif decide (op = (33 : Int)) then K (XV.int IntKind.i64 (1 : Int)) else K (XV.int IntKind.i64 (0 : Int))
    else
      bif decide (op = (28 : Int)) then
        bif decide (op = (28 : Int)) then K (XV.int IntKind.i64 (2 : Int))
        else
          bif decide (op = (29 : Int)) then bif decide (op = (29 : Int)) then K (XV.int IntKind.i64 (1 : Int)) else K (XV.int IntKind.i64 (0 : Int))
          else
            bif decide (op = (30 : Int)) then bif decide (op = (30 : Int)) then K (XV.int IntKind.i64 (1 : Int)) else K (XV.int IntKind.i64 (0 : Int))
            else bif decide (op = (33 : Int)) then K (XV.int IntKind.i64 (1 : Int)) else K (XV.int IntKind.i64 (0 : Int))
      else
        bif decide (op = (32 : Int)) then K (XV.int IntKind.i64 (2 : Int))
        else
          bif decide (op = (29 : Int)) then bif decide (op = (29 : Int)) then K (XV.int IntKind.i64 (1 : Int)) else K (XV.int IntKind.i64 (0 : Int))
          else
            bif decide (op = (30 : Int)) then bif decide (op = (30 : Int)) then K (XV.int IntKind.i64 (1 : Int)) else K (XV.int IntKind.i64 (0 : Int))
            else bif decide (op = (33 : Int)) then K (XV.int IntKind.i64 (1 : Int)) else K (XV.int IntKind.i64 (0 : Int))
 else
   bif decide (op = (31 : Int)) then K (XV.int IntKind.i64 (4 : Int))
   else
     bif decide (op = (27 : Int)) then
       bif decide (op = (27 : Int)) then K (XV.int IntKind.i64 (2 : Int))
       else
         bif decide (op = (29 : Int)) then bif decide (op = (29 : Int)) then K (XV.int IntKind.i64 (1 : Int)) else K (XV.int IntKind.i64 (0 : Int))
         else
           bif decide (op = (30 : Int)) then bif decide (op = (30 : Int)) then K (XV.int IntKind.i64 (1 : Int)) else K (XV.int IntKind.i64 (0 : Int))
           else bif decide (op = (33 : Int)) then K (XV.int IntKind.i64 (1 : Int)) else K (XV.int IntKind.i64 (0 : Int))
     else
       bif decide (op = (28 : Int)) then
         bif decide (op = (28 : Int)) then K (XV.int IntKind.i64 (2 : Int))
         else
           bif decide (op = (29 : Int)) then bif decide (op = (29 : Int)) then K (XV.int IntKind.i64 (1 : Int)) else K (XV.int IntKind.i64 (0 : Int))
           else
             bif decide (op = (30 : Int)) then bif decide (op = (30 : Int)) then K (XV.int IntKind.i64 (1 : Int)) else K (XV.int IntKind.i64 (0 : Int))
             else bif decide (op = (33 : Int)) then K (XV.int IntKind.i64 (1 : Int)) else K (XV.int IntKind.i64 (0 : Int))
       else
         bif decide (op = (32 : Int)) then K (XV.int IntKind.i64 (2 : Int))
         else
           bif decide (op = (29 : Int)) then bif decide (op = (29 : Int)) then K (XV.int IntKind.i64 (1 : Int)) else K (XV.int IntKind.i64 (0 : Int))
           else
             bif decide (op = (30 : Int)) then bif decide (op = (30 : Int)) then K (XV.int IntKind.i64 (1 : Int)) else K (XV.int IntKind.i64 (0 : Int))
             else bif decide (op = (33 : Int)) then K (XV.int IntKind.i64 (1 : Int)) else K (XV.int IntKind.i64 (0 : Int))) := by kernel_rfl
theorem r_check1 (s a n : Int) (K : XV → Prop) : (quietGo TB1 80 (callI TB1 80 20) 30 [.int .i64 s, .int .u32 a, .int .i64 n] K) =
    (bif bif !decide (s = (0 : Int)) then true else !decide (s ≥ (1 : Int)) then
  bif bif decide (s ≥ (1 : Int)) then decide (s ≥ (1 : Int)) else true then
    bif bif decide (s ≥ (1 : Int)) then decide ¬Int.tmod (IntKind.wrap IntKind.i64 a) s = (0 : Int) else false then K (XV.int IntKind.i64 (1 : Int))
    else
      bif bif decide (s > (0 : Int)) then true else !decide (s > (0 : Int)) then
        bif bif bif decide (s > n) then true else bif decide (s > (0 : Int)) then !decide (s > n) else false then true else !decide (s > (0 : Int)) then
          bif bif decide (s > (0 : Int)) then decide (s > (0 : Int)) else true then
            bif
                bif !bif decide (s > (0 : Int)) then bif decide (s > n) then true else decide (IntKind.wrap IntKind.i64 a > IntKind.wrap IntKind.i64 (n - s)) else false then true
                else !!bif decide (s > (0 : Int)) then bif decide (s > n) then true else decide (IntKind.wrap IntKind.i64 a > IntKind.wrap IntKind.i64 (n - s)) else false then
              bif
                  bif
                      bif decide (s ≤ (0 : Int)) then
                        bif !bif decide (s > (0 : Int)) then bif decide (s > n) then true else decide (IntKind.wrap IntKind.i64 a > IntKind.wrap IntKind.i64 (n - s)) else false then
                          decide (s ≤ (0 : Int))
                        else false
                      else true then
                    true
                  else !!bif decide (s > (0 : Int)) then bif decide (s > n) then true else decide (IntKind.wrap IntKind.i64 a > IntKind.wrap IntKind.i64 (n - s)) else false then
                bif
                    bif bif decide (s > (0 : Int)) then bif decide (s > n) then true else decide (IntKind.wrap IntKind.i64 a > IntKind.wrap IntKind.i64 (n - s)) else false then true
                    else !bif decide (s > (0 : Int)) then bif decide (s > n) then true else decide (IntKind.wrap IntKind.i64 a > IntKind.wrap IntKind.i64 (n - s)) else false then
                  bif
                      bif bif decide (s > (0 : Int)) then bif decide (s > n) then true else decide (IntKind.wrap IntKind.i64 a > IntKind.wrap IntKind.i64 (n - s)) else false then true
                      else bif decide (s ≤ (0 : Int)) then decide (IntKind.wrap IntKind.i64 (IntKind.wrap IntKind.i64 a + s) > n) else false then
                    K (XV.int IntKind.i64 (2 : Int))
                  else K (XV.int IntKind.i64 (0 : Int))
                else False
              else False
            else False
          else False
        else False
      else False
  else False
 else False) := by kernel_rfl
theorem r_check2 (s a n : Int) (K : XV → Prop) : (quietGo TB1 80 (callI TB1 80 20) 17 [.int .i64 s, .int .u32 a, .int .i64 n] K) =
    (bif bif !decide (s = (0 : Int)) then true else !decide (s ≥ (1 : Int)) then
  bif bif decide (s ≥ (1 : Int)) then decide (s ≥ (1 : Int)) else true then
    bif bif decide (s ≥ (1 : Int)) then decide ¬Int.tmod (IntKind.wrap IntKind.i64 a) s = (0 : Int) else false then K (XV.int IntKind.i64 (1 : Int))
    else
      bif bif decide (s > (0 : Int)) then true else !decide (s > (0 : Int)) then
        bif bif bif decide (n < s) then true else bif decide (s > (0 : Int)) then !decide (n < s) else false then true else !decide (s > (0 : Int)) then
          bif bif decide (s > (0 : Int)) then decide (s > (0 : Int)) else true then
            bif
                bif !bif decide (s > (0 : Int)) then bif decide (n < s) then true else decide (IntKind.wrap IntKind.i64 a > IntKind.wrap IntKind.i64 (n - s)) else false then true
                else !!bif decide (s > (0 : Int)) then bif decide (n < s) then true else decide (IntKind.wrap IntKind.i64 a > IntKind.wrap IntKind.i64 (n - s)) else false then
              bif
                  bif
                      bif decide (s ≤ (0 : Int)) then
                        bif !bif decide (s > (0 : Int)) then bif decide (n < s) then true else decide (IntKind.wrap IntKind.i64 a > IntKind.wrap IntKind.i64 (n - s)) else false then
                          decide (s ≤ (0 : Int))
                        else false
                      else true then
                    true
                  else !!bif decide (s > (0 : Int)) then bif decide (n < s) then true else decide (IntKind.wrap IntKind.i64 a > IntKind.wrap IntKind.i64 (n - s)) else false then
                bif
                    bif bif decide (s > (0 : Int)) then bif decide (n < s) then true else decide (IntKind.wrap IntKind.i64 a > IntKind.wrap IntKind.i64 (n - s)) else false then true
                    else !bif decide (s > (0 : Int)) then bif decide (n < s) then true else decide (IntKind.wrap IntKind.i64 a > IntKind.wrap IntKind.i64 (n - s)) else false then
                  bif
                      bif bif decide (s > (0 : Int)) then bif decide (n < s) then true else decide (IntKind.wrap IntKind.i64 a > IntKind.wrap IntKind.i64 (n - s)) else false then true
                      else bif decide (s ≤ (0 : Int)) then decide (n < IntKind.wrap IntKind.i64 (IntKind.wrap IntKind.i64 a + s)) else false then
                    K (XV.int IntKind.i64 (2 : Int))
                  else K (XV.int IntKind.i64 (0 : Int))
                else False
              else False
            else False
          else False
        else False
      else False
  else False
 else False) := by kernel_rfl
theorem r_sign1 (op w : Int) (K : XV → Prop) : (quietGo TB1 80 (callI TB1 80 20) 35 [.int .i64 op, .int .u32 w] K) =
    (bif decide (op = (27 : Int)) then K (XV.int IntKind.u32 (IntKind.wrap IntKind.u32 (IntKind.wrap IntKind.i32 (IntKind.wrap IntKind.i16 w))))
 else bif decide (op = (29 : Int)) then K (XV.int IntKind.u32 (IntKind.wrap IntKind.u32 (IntKind.wrap IntKind.i32 (IntKind.wrap IntKind.i8 w)))) else K (XV.int IntKind.u32 w)) := by kernel_rfl
theorem r_sign2 (op w : Int) (K : XV → Prop) : (quietGo TB1 80 (callI TB1 80 20) 36 [.int .i64 op, .int .u32 w] K) =
    (bif decide (op = (27 : Int)) then
  bif decide (IntKind.wrap IntKind.i64 (IntKind.wrap IntKind.u32 (w * (65536 : Int))) ≥ (2147483648 : Int)) then
    K (XV.int IntKind.u32 (IntKind.wrap IntKind.u32 (Int.fdiv (IntKind.wrap IntKind.i64 (IntKind.wrap IntKind.i64 (IntKind.wrap IntKind.u32 (w * (65536 : Int))) - (4294967296 : Int))) (65536 : Int))))
  else K (XV.int IntKind.u32 (IntKind.wrap IntKind.u32 (Int.fdiv (IntKind.wrap IntKind.i64 (IntKind.wrap IntKind.u32 (w * (65536 : Int)))) (65536 : Int))))
 else
   bif decide (op = (29 : Int)) then
     bif decide (IntKind.wrap IntKind.i64 (IntKind.wrap IntKind.u32 (w * (16777216 : Int))) ≥ (2147483648 : Int)) then
       K
         (XV.int IntKind.u32
           (IntKind.wrap IntKind.u32 (Int.fdiv (IntKind.wrap IntKind.i64 (IntKind.wrap IntKind.i64 (IntKind.wrap IntKind.u32 (w * (16777216 : Int))) - (4294967296 : Int))) (16777216 : Int))))
     else K (XV.int IntKind.u32 (IntKind.wrap IntKind.u32 (Int.fdiv (IntKind.wrap IntKind.i64 (IntKind.wrap IntKind.u32 (w * (16777216 : Int)))) (16777216 : Int))))
   else K (XV.int IntKind.u32 w)) := by kernel_rfl
theorem r_mask (a n : Int) (K : XV → Prop) : (quietGo TB1 80 (callI TB1 80 20) 27 [.int .u32 a, .int .i64 n] K) =
    (bif decide (n = (1 : Int)) then K (XV.int IntKind.u32 (bitsI BinOp.and IntKind.u32 a (255 : Int)))
 else
   bif decide (n = (2 : Int)) then K (XV.int IntKind.u32 (bitsI BinOp.and IntKind.u32 a (65535 : Int)))
   else bif decide (n = (4 : Int)) then K (XV.int IntKind.u32 a) else K (XV.int IntKind.u32 (0 : Int))) := by kernel_rfl
theorem r_bef (a n b : Int) (K : XV → Prop) : (quietGo TB1 80 (callI TB1 80 20) 41 [.int .i64 a, .int .i64 n, .int .i64 b] K) =
    (bif bif decide (a ≤ b) then decide (a ≤ b) else true then
  K (XV.bool (bif decide (a ≤ b) then decide (IntKind.wrap IntKind.u64 (IntKind.wrap IntKind.u64 b - IntKind.wrap IntKind.u64 a) < IntKind.wrap IntKind.u64 n) else false))
 else False) := by kernel_rfl
theorem r_form (a : Int) (K : XV → Prop) : (quietGo TB1 80 (callI TB1 80 20) 21 [.int .i64 a] K) =
    (bif bif decide (a < (1 : Int)) then true else !decide (a < (1 : Int)) then
  bif bif decide (a < (1 : Int)) then true else decide (a > (41 : Int)) then K (XV.int IntKind.i64 (0 : Int))
  else
    bif decide (a ≤ (16 : Int)) then K (XV.int IntKind.i64 (1 : Int))
    else
      bif decide (a ≤ (24 : Int)) then K (XV.int IntKind.i64 (2 : Int))
      else
        bif decide (a = (25 : Int)) then K (XV.int IntKind.i64 (3 : Int))
        else
          bif decide (a ≤ (30 : Int)) then K (XV.int IntKind.i64 (4 : Int))
          else
            bif decide (a ≤ (33 : Int)) then K (XV.int IntKind.i64 (5 : Int))
            else bif decide (a ≤ (39 : Int)) then K (XV.int IntKind.i64 (6 : Int)) else bif decide (a = (40 : Int)) then K (XV.int IntKind.i64 (7 : Int)) else K (XV.int IntKind.i64 (8 : Int))
 else False) := by kernel_rfl
theorem size1 (op : Int) : Pure Try.prog 29 (cons [.int .i64 op]) (con (.int .i64 (szI op))) := by
  refine pureX (u := 80) (k := 20) mix TB1ok ?_
  rw [r_size1]
  unfold szI
  by_cases h1 : op = 26
  · subst h1; simp
  by_cases h2 : op = 27
  · subst h2; simp
  by_cases h3 : op = 28
  · subst h3; simp
  by_cases h4 : op = 29
  · subst h4; simp
  by_cases h5 : op = 30
  · subst h5; simp
  by_cases h6 : op = 31
  · subst h6; simp
  by_cases h7 : op = 32
  · subst h7; simp
  by_cases h8 : op = 33
  · subst h8; simp
  simp [h1, h2, h3, h4, h5, h6, h7, h8]
theorem sp_size1 : SpOk Try.prog (29, szSp) := by
  intro args nd v ha hn
  simp only [szSp] at ha
  split at ha <;> simp only [Option.some.injEq, Prod.mk.injEq, reduceCtorEq] at ha
  obtain ⟨hnd, rfl⟩ := ha
  clear hnd hn
  exact size1 _
theorem sp_size2 : SpOk Try.prog (20, szSp) := by
  intro args nd v ha hn
  simp only [szSp] at ha
  split at ha <;> simp only [Option.some.injEq, Prod.mk.injEq, reduceCtorEq] at ha
  obtain ⟨hnd, rfl⟩ := ha
  clear hnd hn
  rename_i op
  refine pureX (u := 80) (k := 20) mix TB1ok ?_
  rw [r_size2]
  unfold szI
  by_cases h1 : op = 26
  · subst h1; simp
  by_cases h2 : op = 27
  · subst h2; simp
  by_cases h3 : op = 28
  · subst h3; simp
  by_cases h4 : op = 29
  · subst h4; simp
  by_cases h5 : op = 30
  · subst h5; simp
  by_cases h6 : op = 31
  · subst h6; simp
  by_cases h7 : op = 32
  · subst h7; simp
  by_cases h8 : op = 33
  · subst h8; simp
  simp [h1, h2, h3, h4, h5, h6, h7, h8]
theorem check_res (s a n : Int) : quietGo TB1 80 (callI TB1 80 20) 30 [.int .i64 s, .int .u32 a, .int .i64 n] (fun v => con v = con (.int .i64 (chkI s a n))) := by
  rw [r_check1]
  unfold chkI
  by_cases h1 : s ≥ 1
  · have h0 : ¬ s = 0 := by omega
    have h2 : s > 0 := by omega
    have h3 : ¬ s ≤ 0 := by omega
    by_cases h4 : (IntKind.i64.wrap a).tmod s = 0
    · by_cases h5 : s > n
      · simp [h0, h1, h2, h3, h4, h5]
      · by_cases h6 : IntKind.i64.wrap a > IntKind.i64.wrap (n - s)
        · simp [h0, h1, h2, h3, h4, h5, h6]
        · simp [h0, h1, h2, h3, h4, h5, h6]
    · simp [h0, h1, h2, h3, h4]
  · have h2 : ¬ s > 0 := by omega
    have h3 : s ≤ 0 := by omega
    by_cases h6 : IntKind.i64.wrap (IntKind.i64.wrap a + s) > n
    · simp [h1, h2, h3, h6]
    · simp [h1, h2, h3, h6]
theorem sp_check1 : SpOk Try.prog (30, chkSp) := by
  intro args nd v ha hn
  simp only [chkSp] at ha
  split at ha <;> simp only [Option.some.injEq, Prod.mk.injEq, reduceCtorEq] at ha
  obtain ⟨hnd, rfl⟩ := ha
  clear hnd hn
  exact pureX mix TB1ok (check_res _ _ _)
theorem sp_check2 : SpOk Try.prog (17, chkSp) := by
  intro args nd v ha hn
  simp only [chkSp] at ha
  split at ha <;> simp only [Option.some.injEq, Prod.mk.injEq, reduceCtorEq] at ha
  obtain ⟨hnd, rfl⟩ := ha
  clear hnd hn
  rename_i s a n
  refine pureX (u := 80) (k := 20) mix TB1ok ?_
  have h := check_res s a n
  rw [r_check1] at h
  rw [r_check2]
  exact h
theorem sp_sign : SpOk Try.prog (35, extSp) := by
  intro args nd v ha hn
  simp only [extSp] at ha
  split at ha <;> simp only [Option.some.injEq, Prod.mk.injEq, reduceCtorEq] at ha
  obtain ⟨rfl, rfl⟩ := ha
  simp only [allT_cons, decide_eq_true_eq] at hn
  obtain ⟨h1, h2, hnil⟩ := hn
  refine pureX (u := 80) (k := 20) mix TB1ok ?_
  rw [r_sign1]
  unfold extI
  rename_i op w
  by_cases ho : op = 27
  · simp only [ho, decide_true, cond_true, if_true, wU32, wI32, wI16]
    refine conI ?_
    split <;> omega
  · by_cases ho2 : op = 29
    · simp only [ho, ho2, decide_true, decide_false, cond_true, cond_false, if_true, if_false, wU32, wI32, wI8]
      refine conI ?_
      split <;> omega
    · simp only [ho, ho2, decide_false, cond_false, if_false]
theorem sp_ext : SpOk Try.prog (36, extSp) := by
  intro args nd v ha hn
  simp only [extSp] at ha
  split at ha <;> simp only [Option.some.injEq, Prod.mk.injEq, reduceCtorEq] at ha
  obtain ⟨rfl, rfl⟩ := ha
  simp only [allT_cons, decide_eq_true_eq] at hn
  obtain ⟨h1, h2, hnil⟩ := hn
  refine pureX (u := 80) (k := 20) mix TB1ok ?_
  rw [r_sign2]
  unfold extI
  rename_i op w
  by_cases ho : op = 27
  · simp only [ho, decide_true, cond_true, if_true, wU32, wI64]
    rw [fdivE (by omega), fdivE (by omega)]
    refine cnd2 (fun h => ?_) (fun h => ?_) <;> simp only [decide_eq_true_eq, decide_eq_false_iff_not] at h <;> refine conI ?_ <;> split <;> omega
  · by_cases ho2 : op = 29
    · subst ho2
      simp only [show ¬ (29 : Int) = 27 by decide, decide_true, decide_false, cond_true, cond_false, if_true, if_false, wU32, wI64]
      rw [fdivE (by omega), fdivE (by omega)]
      refine cnd2 (fun h => ?_) (fun h => ?_) <;> simp only [decide_eq_true_eq, decide_eq_false_iff_not] at h <;> refine conI ?_ <;> split <;> omega
    · simp only [ho, ho2, decide_false, cond_false, if_false]
theorem sp_mask : SpOk Try.prog (27, mskSp) := by
  intro args nd v ha hn
  simp only [mskSp] at ha
  split at ha <;> simp only [Option.some.injEq, Prod.mk.injEq, reduceCtorEq] at ha
  obtain ⟨hnd, rfl⟩ := ha
  clear hnd hn
  rename_i w n
  refine pureX (u := 80) (k := 20) mix TB1ok ?_
  rw [r_mask]
  unfold mskI
  by_cases h1 : n = 1
  · subst h1; simp
  by_cases h2 : n = 2
  · subst h2; simp
  by_cases h3 : n = 4
  · subst h3; simp
  simp [h1, h2, h3]
theorem sp_bef : SpOk Try.prog (41, befSp) := by
  intro args nd v ha hn
  simp only [befSp] at ha
  split at ha <;> simp only [Option.some.injEq, Prod.mk.injEq, reduceCtorEq] at ha
  obtain ⟨hnd, rfl⟩ := ha
  clear hnd hn
  rename_i a n b
  refine pureX (u := 80) (k := 20) mix TB1ok ?_
  rw [r_bef]
  simp only [pk_and, cond_true]
  rfl
theorem form_res (op : Int) : quietGo TB1 80 (callI TB1 80 20) 21 [.int .i64 op] (fun v => con v = con (.int .i64 (formI op))) := by
  rw [r_form]
  unfold formI
  simp only [pk_or, cond_true]
  by_cases h0 : op < 1 ∨ op > 41
  · rw [if_pos h0]
    rcases h0 with h | h <;> simp [h]
  · rw [if_neg h0]
    have h1 : ¬ op < 1 := fun h => h0 (.inl h)
    have h2 : ¬ op > 41 := fun h => h0 (.inr h)
    simp only [h1, h2, decide_false, cond_false]
    by_cases h3 : op ≤ 16
    · simp only [h3, decide_true, cond_true, if_true]
    simp only [h3, decide_false, cond_false, if_false]
    by_cases h4 : op ≤ 24
    · simp only [h4, decide_true, cond_true, if_true]
    simp only [h4, decide_false, cond_false, if_false]
    by_cases h5 : op = 25
    · simp only [h5, decide_true, cond_true, if_true]
    simp only [h5, decide_false, cond_false, if_false]
    by_cases h6 : op ≤ 30
    · simp only [h6, decide_true, cond_true, if_true]
    simp only [h6, decide_false, cond_false, if_false]
    by_cases h7 : op ≤ 33
    · simp only [h7, decide_true, cond_true, if_true]
    simp only [h7, decide_false, cond_false, if_false]
    by_cases h8 : op ≤ 39
    · simp only [h8, decide_true, cond_true, if_true]
    simp only [h8, decide_false, cond_false, if_false]
    by_cases h9 : op = 40
    · simp only [h9, decide_true, cond_true, if_true]
    simp only [h9, decide_false, cond_false, if_false]
theorem sp_form : SpOk Try.prog (21, formSp) := by
  intro args nd v ha hn
  simp only [formSp] at ha
  split at ha <;> simp only [Option.some.injEq, Prod.mk.injEq, reduceCtorEq] at ha
  obtain ⟨hnd, rfl⟩ := ha
  exact pureX mix TB1ok (form_res _)
end Go.Proofs.Ytihhfmdihhmbdaa
