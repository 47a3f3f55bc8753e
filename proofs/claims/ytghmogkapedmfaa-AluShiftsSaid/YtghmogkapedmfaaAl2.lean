/- What instructions reckon: the program's function, and the document's. -/
import Derived.Test.YtghmogkapedmfaaAl1
namespace Go.Proofs.Ytghmogkapedmfaa
open Go.Ra
set_option linter.unusedVariables false
set_option linter.unusedSimpArgs false
def i32 (a : Int) : Int := IntKind.i32.wrap a
def intSp : List XV → Option (List Bool × XV)
  | [.int .u32 w] => some ([decide (0 ≤ w), decide (w ≤ 4294967295)], .int .i64 (i32 w))
  | _ => none
/-- What an operation of two words gives. -/
def alW (p a b : Int) : Int :=
  if p = 1 then (a + b) % 4294967296
  else if p = 2 then (a - b) % 4294967296
  else if p = 3 then bitsI .and .u32 a b
  else if p = 4 then bitsI .or .u32 a b
  else if p = 5 then bitsI .xor .u32 a b
  else if p = 6 then (a * 2 ^ (b % 32).toNat) % 4294967296
  else if p = 7 then a / 2 ^ (b % 32).toNat
  else if p = 8 then (i32 a / 2 ^ (b % 32).toNat) % 4294967296
  else if p = 9 then oneI (decide (i32 a < i32 b))
  else if p = 10 then oneI (decide (a < b))
  else if p = 11 then (a * b) % 4294967296
  else if p = 12 then ((i32 a * i32 b) / 4294967296) % 4294967296
  else if b = 0 then 0
  else if p = 13 then (Int.tdiv (i32 a) (i32 b)) % 4294967296
  else if p = 14 then a / b
  else if p = 15 then (Int.tmod (i32 a) (i32 b)) % 4294967296
  else a % b
/-- The operation that one with a number is like. -/
def plI (op : Int) : Int := if op = 17 then 1 else if op = 18 then 3 else if op = 19 then 4 else if op = 20 then 5 else if op = 21 then 9 else if op = 22 then 6 else if op = 23 then 7 else if op = 24 then 8 else op
def doI (op d x y m a b : Int) : Int := if rtB op d x y m = false ∨ fmI op > 3 then 0 else if op = 25 then (m * 262144) % 4294967296 else if fmI op = 2 then alW (plI op) a (m % 4294967296) else alW op a b
def dkB (op d x y m b : Int) : Bool := if rtB op d x y m = false ∨ fmI op > 3 then true else !decide (13 ≤ op ∧ op ≤ 16 ∧ b = 0)
def doSp : List XV → Option (List Bool × XV)
  | [.agg 5 [.int .i64 op, .int .i64 d, .int .i64 x, .int .i64 y, .int .i64 m], .int .u32 a, .int .u32 b] => some ([decide (0 ≤ a), decide (a ≤ 4294967295), decide (0 ≤ b), decide (b ≤ 4294967295)], .tup [.int .u32 (doI op d x y m a b), .bool (dkB op d x y m b)])
  | _ => none
def TA2 (f : Int) : Tab := mkT qq (cl_alu ++ cl_isa ++ cl_word ++ cl_ref1 ++ cl_math) [(24, fmSpF f), (22, fmSpF f), (25, rtSp), (23, rtSp), (38, oneSp), (29, oneSp), (21, intSp)] []
theorem r_int (a : Int) (K : XV → Prop) : (quietGo TA0 80 (callI TA0 80 20) 21 [.int .u32 a] K) =
    (bif decide (IntKind.wrap IntKind.i64 a ≥ (2147483648 : Int)) then K (XV.int IntKind.i64 (IntKind.wrap IntKind.i64 (IntKind.wrap IntKind.i64 a - (4294967296 : Int))))
else K (XV.int IntKind.i64 (IntKind.wrap IntKind.i64 a))) := by kernel_rfl
theorem r_do1_1 (d x y m a b : Int) (K : XV → Prop) : (quietGo (TA2 1) 80 (callI (TA2 1) 80 20) 13 [.agg 5 [.int .i64 1, .int .i64 d, .int .i64 x, .int .i64 y, .int .i64 m], .int .u32 a, .int .u32 b] K) =
    (bif bif !rtB (1 : Int) d x y m then true else !!rtB (1 : Int) d x y m then
  bif bif !rtB (1 : Int) d x y m then true else false then K (XV.tup [XV.int IntKind.u32 (0 : Int), XV.bool true]) else K (XV.tup [XV.int IntKind.u32 (IntKind.wrap IntKind.u32 (a + b)), XV.bool true])
else False) := by kernel_rfl
theorem r_do1_2 (d x y m a b : Int) (K : XV → Prop) : (quietGo (TA2 1) 80 (callI (TA2 1) 80 20) 13 [.agg 5 [.int .i64 2, .int .i64 d, .int .i64 x, .int .i64 y, .int .i64 m], .int .u32 a, .int .u32 b] K) =
    (bif bif !rtB (2 : Int) d x y m then true else !!rtB (2 : Int) d x y m then
  bif bif !rtB (2 : Int) d x y m then true else false then K (XV.tup [XV.int IntKind.u32 (0 : Int), XV.bool true]) else K (XV.tup [XV.int IntKind.u32 (IntKind.wrap IntKind.u32 (a - b)), XV.bool true])
else False) := by kernel_rfl
theorem r_do1_3 (d x y m a b : Int) (K : XV → Prop) : (quietGo (TA2 1) 80 (callI (TA2 1) 80 20) 13 [.agg 5 [.int .i64 3, .int .i64 d, .int .i64 x, .int .i64 y, .int .i64 m], .int .u32 a, .int .u32 b] K) =
    (bif bif !rtB (3 : Int) d x y m then true else !!rtB (3 : Int) d x y m then
  bif bif !rtB (3 : Int) d x y m then true else false then K (XV.tup [XV.int IntKind.u32 (0 : Int), XV.bool true]) else K (XV.tup [XV.int IntKind.u32 (bitsI BinOp.and IntKind.u32 a b), XV.bool true])
else False) := by kernel_rfl
theorem r_do1_4 (d x y m a b : Int) (K : XV → Prop) : (quietGo (TA2 1) 80 (callI (TA2 1) 80 20) 13 [.agg 5 [.int .i64 4, .int .i64 d, .int .i64 x, .int .i64 y, .int .i64 m], .int .u32 a, .int .u32 b] K) =
    (bif bif !rtB (4 : Int) d x y m then true else !!rtB (4 : Int) d x y m then
  bif bif !rtB (4 : Int) d x y m then true else false then K (XV.tup [XV.int IntKind.u32 (0 : Int), XV.bool true]) else K (XV.tup [XV.int IntKind.u32 (bitsI BinOp.or IntKind.u32 a b), XV.bool true])
else False) := by kernel_rfl
theorem r_do1_5 (d x y m a b : Int) (K : XV → Prop) : (quietGo (TA2 1) 80 (callI (TA2 1) 80 20) 13 [.agg 5 [.int .i64 5, .int .i64 d, .int .i64 x, .int .i64 y, .int .i64 m], .int .u32 a, .int .u32 b] K) =
    (bif bif !rtB (5 : Int) d x y m then true else !!rtB (5 : Int) d x y m then
  bif bif !rtB (5 : Int) d x y m then true else false then K (XV.tup [XV.int IntKind.u32 (0 : Int), XV.bool true]) else K (XV.tup [XV.int IntKind.u32 (bitsI BinOp.xor IntKind.u32 a b), XV.bool true])
else False) := by kernel_rfl
theorem r_do1_6 (d x y m a b : Int) (K : XV → Prop) : (quietGo (TA2 1) 80 (callI (TA2 1) 80 20) 13 [.agg 5 [.int .i64 6, .int .i64 d, .int .i64 x, .int .i64 y, .int .i64 m], .int .u32 a, .int .u32 b] K) =
    (bif bif !rtB (6 : Int) d x y m then true else !!rtB (6 : Int) d x y m then
  bif bif !rtB (6 : Int) d x y m then true else false then K (XV.tup [XV.int IntKind.u32 (0 : Int), XV.bool true])
  else K (XV.tup [XV.int IntKind.u32 (IntKind.wrap IntKind.u32 (a * (2 : Int) ^ Nat.min (Int.toNat (bitsI BinOp.and IntKind.u32 b (31 : Int))) (32 : Nat))), XV.bool true])
else False) := by kernel_rfl
theorem r_do1_7 (d x y m a b : Int) (K : XV → Prop) : (quietGo (TA2 1) 80 (callI (TA2 1) 80 20) 13 [.agg 5 [.int .i64 7, .int .i64 d, .int .i64 x, .int .i64 y, .int .i64 m], .int .u32 a, .int .u32 b] K) =
    (bif bif !rtB (7 : Int) d x y m then true else !!rtB (7 : Int) d x y m then
  bif bif !rtB (7 : Int) d x y m then true else false then K (XV.tup [XV.int IntKind.u32 (0 : Int), XV.bool true])
  else K (XV.tup [XV.int IntKind.u32 (Int.fdiv a ((2 : Int) ^ Nat.min (Int.toNat (bitsI BinOp.and IntKind.u32 b (31 : Int))) (32 : Nat))), XV.bool true])
else False) := by kernel_rfl
theorem r_do1_8 (d x y m a b : Int) (K : XV → Prop) : (quietGo (TA2 1) 80 (callI (TA2 1) 80 20) 13 [.agg 5 [.int .i64 8, .int .i64 d, .int .i64 x, .int .i64 y, .int .i64 m], .int .u32 a, .int .u32 b] K) =
    (bif bif !rtB (8 : Int) d x y m then true else !!rtB (8 : Int) d x y m then
  bif bif !rtB (8 : Int) d x y m then true else false then K (XV.tup [XV.int IntKind.u32 (0 : Int), XV.bool true])
  else
    K
      (XV.tup
        [XV.int IntKind.u32 (IntKind.wrap IntKind.u32 (Int.fdiv (IntKind.wrap IntKind.i32 a) ((2 : Int) ^ Nat.min (Int.toNat (bitsI BinOp.and IntKind.u32 b (31 : Int))) (32 : Nat)))), XV.bool true])
else False) := by kernel_rfl
theorem r_do1_9 (d x y m a b : Int) (K : XV → Prop) : (quietGo (TA2 1) 80 (callI (TA2 1) 80 20) 13 [.agg 5 [.int .i64 9, .int .i64 d, .int .i64 x, .int .i64 y, .int .i64 m], .int .u32 a, .int .u32 b] K) =
    (bif bif !rtB (9 : Int) d x y m then true else !!rtB (9 : Int) d x y m then
  bif bif !rtB (9 : Int) d x y m then true else false then K (XV.tup [XV.int IntKind.u32 (0 : Int), XV.bool true])
  else K (XV.tup [XV.int IntKind.u32 (oneI (decide (IntKind.wrap IntKind.i32 a < IntKind.wrap IntKind.i32 b))), XV.bool true])
else False) := by kernel_rfl
theorem r_do1_10 (d x y m a b : Int) (K : XV → Prop) : (quietGo (TA2 1) 80 (callI (TA2 1) 80 20) 13 [.agg 5 [.int .i64 10, .int .i64 d, .int .i64 x, .int .i64 y, .int .i64 m], .int .u32 a, .int .u32 b] K) =
    (bif bif !rtB (10 : Int) d x y m then true else !!rtB (10 : Int) d x y m then
  bif bif !rtB (10 : Int) d x y m then true else false then K (XV.tup [XV.int IntKind.u32 (0 : Int), XV.bool true]) else K (XV.tup [XV.int IntKind.u32 (oneI (decide (a < b))), XV.bool true])
else False) := by kernel_rfl
theorem r_do1_11 (d x y m a b : Int) (K : XV → Prop) : (quietGo (TA2 1) 80 (callI (TA2 1) 80 20) 13 [.agg 5 [.int .i64 11, .int .i64 d, .int .i64 x, .int .i64 y, .int .i64 m], .int .u32 a, .int .u32 b] K) =
    (bif bif !rtB (11 : Int) d x y m then true else !!rtB (11 : Int) d x y m then
  bif bif !rtB (11 : Int) d x y m then true else false then K (XV.tup [XV.int IntKind.u32 (0 : Int), XV.bool true])
  else K (XV.tup [XV.int IntKind.u32 (IntKind.wrap IntKind.u32 (a * b)), XV.bool true])
else False) := by kernel_rfl
theorem r_do1_12 (d x y m a b : Int) (K : XV → Prop) : (quietGo (TA2 1) 80 (callI (TA2 1) 80 20) 13 [.agg 5 [.int .i64 12, .int .i64 d, .int .i64 x, .int .i64 y, .int .i64 m], .int .u32 a, .int .u32 b] K) =
    (bif bif !rtB (12 : Int) d x y m then true else !!rtB (12 : Int) d x y m then
  bif bif !rtB (12 : Int) d x y m then true else false then K (XV.tup [XV.int IntKind.u32 (0 : Int), XV.bool true])
  else
    K
      (XV.tup
        [XV.int IntKind.u32
            (IntKind.wrap IntKind.u32
              (Int.fdiv (IntKind.wrap IntKind.i64 (IntKind.wrap IntKind.i64 (IntKind.wrap IntKind.i32 a) * IntKind.wrap IntKind.i64 (IntKind.wrap IntKind.i32 b))) (4294967296 : Int))),
          XV.bool true])
else False) := by kernel_rfl
theorem r_do1_13 (d x y m a b : Int) (K : XV → Prop) : (quietGo (TA2 1) 80 (callI (TA2 1) 80 20) 13 [.agg 5 [.int .i64 13, .int .i64 d, .int .i64 x, .int .i64 y, .int .i64 m], .int .u32 a, .int .u32 b] K) =
    (bif bif !rtB (13 : Int) d x y m then true else !!rtB (13 : Int) d x y m then
  bif bif !rtB (13 : Int) d x y m then true else false then K (XV.tup [XV.int IntKind.u32 (0 : Int), XV.bool true])
  else
    bif decide (b = (0 : Int)) then K (XV.tup [XV.int IntKind.u32 (0 : Int), XV.bool false])
    else
      bif bif decide (IntKind.wrap IntKind.i32 a = (-2147483648 : Int)) then decide (IntKind.wrap IntKind.i32 a = (-2147483648 : Int)) else true then
        bif bif decide (IntKind.wrap IntKind.i32 a = (-2147483648 : Int)) then decide (IntKind.wrap IntKind.i32 b = (-1 : Int)) else false then K (XV.tup [XV.int IntKind.u32 a, XV.bool true])
        else
          bif !decide (IntKind.wrap IntKind.i32 b = (0 : Int)) then
            K (XV.tup [XV.int IntKind.u32 (IntKind.wrap IntKind.u32 (IntKind.wrap IntKind.i32 (Int.tdiv (IntKind.wrap IntKind.i32 a) (IntKind.wrap IntKind.i32 b)))), XV.bool true])
          else False
      else False
else False) := by kernel_rfl
theorem r_do1_14 (d x y m a b : Int) (K : XV → Prop) : (quietGo (TA2 1) 80 (callI (TA2 1) 80 20) 13 [.agg 5 [.int .i64 14, .int .i64 d, .int .i64 x, .int .i64 y, .int .i64 m], .int .u32 a, .int .u32 b] K) =
    (bif bif !rtB (14 : Int) d x y m then true else !!rtB (14 : Int) d x y m then
  bif bif !rtB (14 : Int) d x y m then true else false then K (XV.tup [XV.int IntKind.u32 (0 : Int), XV.bool true])
  else
    bif decide (b = (0 : Int)) then K (XV.tup [XV.int IntKind.u32 (0 : Int), XV.bool false])
    else
      bif bif decide (IntKind.wrap IntKind.i32 a = (-2147483648 : Int)) then decide (IntKind.wrap IntKind.i32 a = (-2147483648 : Int)) else true then
        bif bif decide ¬b = (0 : Int) then decide ¬b = (0 : Int) else true then
          bif bif decide ¬b = (0 : Int) then decide (b ≤ (0 : Int)) else false then False
          else
            bif !decide (IntKind.wrap IntKind.u64 b = (0 : Int)) then
              bif !decide (IntKind.wrap IntKind.u64 b = (0 : Int)) then
                K
                  (XV.tup
                    [XV.int IntKind.u32
                        (IntKind.wrap IntKind.u32 (IntKind.wrap IntKind.u64 (Int.tdiv (bitsI BinOp.or IntKind.u64 (0 : Int) (IntKind.wrap IntKind.u64 a)) (IntKind.wrap IntKind.u64 b)))),
                      XV.bool true])
              else False
            else False
        else False
      else False
else False) := by kernel_rfl
theorem r_do1_15 (d x y m a b : Int) (K : XV → Prop) : (quietGo (TA2 1) 80 (callI (TA2 1) 80 20) 13 [.agg 5 [.int .i64 15, .int .i64 d, .int .i64 x, .int .i64 y, .int .i64 m], .int .u32 a, .int .u32 b] K) =
    (bif bif !rtB (15 : Int) d x y m then true else !!rtB (15 : Int) d x y m then
  bif bif !rtB (15 : Int) d x y m then true else false then K (XV.tup [XV.int IntKind.u32 (0 : Int), XV.bool true])
  else
    bif decide (b = (0 : Int)) then K (XV.tup [XV.int IntKind.u32 (0 : Int), XV.bool false])
    else
      bif bif decide (IntKind.wrap IntKind.i32 a = (-2147483648 : Int)) then decide (IntKind.wrap IntKind.i32 a = (-2147483648 : Int)) else true then
        bif bif decide (IntKind.wrap IntKind.i32 a = (-2147483648 : Int)) then decide (IntKind.wrap IntKind.i32 b = (-1 : Int)) else false then K (XV.tup [XV.int IntKind.u32 (0 : Int), XV.bool true])
        else
          bif !decide (IntKind.wrap IntKind.i32 b = (0 : Int)) then
            K (XV.tup [XV.int IntKind.u32 (IntKind.wrap IntKind.u32 (Int.tmod (IntKind.wrap IntKind.i32 a) (IntKind.wrap IntKind.i32 b))), XV.bool true])
          else False
      else False
else False) := by kernel_rfl
theorem r_do1_16 (d x y m a b : Int) (K : XV → Prop) : (quietGo (TA2 1) 80 (callI (TA2 1) 80 20) 13 [.agg 5 [.int .i64 16, .int .i64 d, .int .i64 x, .int .i64 y, .int .i64 m], .int .u32 a, .int .u32 b] K) =
    (bif bif !rtB (16 : Int) d x y m then true else !!rtB (16 : Int) d x y m then
  bif bif !rtB (16 : Int) d x y m then true else false then K (XV.tup [XV.int IntKind.u32 (0 : Int), XV.bool true])
  else
    bif decide (b = (0 : Int)) then K (XV.tup [XV.int IntKind.u32 (0 : Int), XV.bool false])
    else
      bif bif decide (IntKind.wrap IntKind.i32 a = (-2147483648 : Int)) then decide (IntKind.wrap IntKind.i32 a = (-2147483648 : Int)) else true then
        bif !decide (IntKind.wrap IntKind.u64 b = (0 : Int)) then
          K (XV.tup [XV.int IntKind.u32 (IntKind.wrap IntKind.u32 (Int.tmod (bitsI BinOp.or IntKind.u64 (0 : Int) (IntKind.wrap IntKind.u64 a)) (IntKind.wrap IntKind.u64 b))), XV.bool true])
        else False
      else False
else False) := by kernel_rfl
theorem r_do1_17 (d x y m a b : Int) (K : XV → Prop) : (quietGo (TA2 2) 80 (callI (TA2 2) 80 20) 13 [.agg 5 [.int .i64 17, .int .i64 d, .int .i64 x, .int .i64 y, .int .i64 m], .int .u32 a, .int .u32 b] K) =
    (bif bif !rtB (17 : Int) d x y m then true else !!rtB (17 : Int) d x y m then
  bif bif !rtB (17 : Int) d x y m then true else false then K (XV.tup [XV.int IntKind.u32 (0 : Int), XV.bool true])
  else K (XV.tup [XV.int IntKind.u32 (IntKind.wrap IntKind.u32 (a + IntKind.wrap IntKind.u32 m)), XV.bool true])
else False) := by kernel_rfl
theorem r_do1_18 (d x y m a b : Int) (K : XV → Prop) : (quietGo (TA2 2) 80 (callI (TA2 2) 80 20) 13 [.agg 5 [.int .i64 18, .int .i64 d, .int .i64 x, .int .i64 y, .int .i64 m], .int .u32 a, .int .u32 b] K) =
    (bif bif !rtB (18 : Int) d x y m then true else !!rtB (18 : Int) d x y m then
  bif bif !rtB (18 : Int) d x y m then true else false then K (XV.tup [XV.int IntKind.u32 (0 : Int), XV.bool true])
  else K (XV.tup [XV.int IntKind.u32 (bitsI BinOp.and IntKind.u32 a (IntKind.wrap IntKind.u32 m)), XV.bool true])
else False) := by kernel_rfl
theorem r_do1_19 (d x y m a b : Int) (K : XV → Prop) : (quietGo (TA2 2) 80 (callI (TA2 2) 80 20) 13 [.agg 5 [.int .i64 19, .int .i64 d, .int .i64 x, .int .i64 y, .int .i64 m], .int .u32 a, .int .u32 b] K) =
    (bif bif !rtB (19 : Int) d x y m then true else !!rtB (19 : Int) d x y m then
  bif bif !rtB (19 : Int) d x y m then true else false then K (XV.tup [XV.int IntKind.u32 (0 : Int), XV.bool true])
  else K (XV.tup [XV.int IntKind.u32 (bitsI BinOp.or IntKind.u32 a (IntKind.wrap IntKind.u32 m)), XV.bool true])
else False) := by kernel_rfl
theorem r_do1_20 (d x y m a b : Int) (K : XV → Prop) : (quietGo (TA2 2) 80 (callI (TA2 2) 80 20) 13 [.agg 5 [.int .i64 20, .int .i64 d, .int .i64 x, .int .i64 y, .int .i64 m], .int .u32 a, .int .u32 b] K) =
    (bif bif !rtB (20 : Int) d x y m then true else !!rtB (20 : Int) d x y m then
  bif bif !rtB (20 : Int) d x y m then true else false then K (XV.tup [XV.int IntKind.u32 (0 : Int), XV.bool true])
  else K (XV.tup [XV.int IntKind.u32 (bitsI BinOp.xor IntKind.u32 a (IntKind.wrap IntKind.u32 m)), XV.bool true])
else False) := by kernel_rfl
theorem r_do1_21 (d x y m a b : Int) (K : XV → Prop) : (quietGo (TA2 2) 80 (callI (TA2 2) 80 20) 13 [.agg 5 [.int .i64 21, .int .i64 d, .int .i64 x, .int .i64 y, .int .i64 m], .int .u32 a, .int .u32 b] K) =
    (bif bif !rtB (21 : Int) d x y m then true else !!rtB (21 : Int) d x y m then
  bif bif !rtB (21 : Int) d x y m then true else false then K (XV.tup [XV.int IntKind.u32 (0 : Int), XV.bool true])
  else K (XV.tup [XV.int IntKind.u32 (oneI (decide (IntKind.wrap IntKind.i32 a < IntKind.wrap IntKind.i32 (IntKind.wrap IntKind.u32 m)))), XV.bool true])
else False) := by kernel_rfl
theorem r_do1_22 (d x y m a b : Int) (K : XV → Prop) : (quietGo (TA2 2) 80 (callI (TA2 2) 80 20) 13 [.agg 5 [.int .i64 22, .int .i64 d, .int .i64 x, .int .i64 y, .int .i64 m], .int .u32 a, .int .u32 b] K) =
    (bif bif !rtB (22 : Int) d x y m then true else !!rtB (22 : Int) d x y m then
  bif bif !rtB (22 : Int) d x y m then true else false then K (XV.tup [XV.int IntKind.u32 (0 : Int), XV.bool true])
  else K (XV.tup [XV.int IntKind.u32 (IntKind.wrap IntKind.u32 (a * (2 : Int) ^ Nat.min (Int.toNat (bitsI BinOp.and IntKind.u32 (IntKind.wrap IntKind.u32 m) (31 : Int))) (32 : Nat))), XV.bool true])
else False) := by kernel_rfl
theorem r_do1_23 (d x y m a b : Int) (K : XV → Prop) : (quietGo (TA2 2) 80 (callI (TA2 2) 80 20) 13 [.agg 5 [.int .i64 23, .int .i64 d, .int .i64 x, .int .i64 y, .int .i64 m], .int .u32 a, .int .u32 b] K) =
    (bif bif !rtB (23 : Int) d x y m then true else !!rtB (23 : Int) d x y m then
  bif bif !rtB (23 : Int) d x y m then true else false then K (XV.tup [XV.int IntKind.u32 (0 : Int), XV.bool true])
  else K (XV.tup [XV.int IntKind.u32 (Int.fdiv a ((2 : Int) ^ Nat.min (Int.toNat (bitsI BinOp.and IntKind.u32 (IntKind.wrap IntKind.u32 m) (31 : Int))) (32 : Nat))), XV.bool true])
else False) := by kernel_rfl
theorem r_do1_24 (d x y m a b : Int) (K : XV → Prop) : (quietGo (TA2 2) 80 (callI (TA2 2) 80 20) 13 [.agg 5 [.int .i64 24, .int .i64 d, .int .i64 x, .int .i64 y, .int .i64 m], .int .u32 a, .int .u32 b] K) =
    (bif bif !rtB (24 : Int) d x y m then true else !!rtB (24 : Int) d x y m then
  bif bif !rtB (24 : Int) d x y m then true else false then K (XV.tup [XV.int IntKind.u32 (0 : Int), XV.bool true])
  else
    K
      (XV.tup
        [XV.int IntKind.u32
            (IntKind.wrap IntKind.u32 (Int.fdiv (IntKind.wrap IntKind.i32 a) ((2 : Int) ^ Nat.min (Int.toNat (bitsI BinOp.and IntKind.u32 (IntKind.wrap IntKind.u32 m) (31 : Int))) (32 : Nat)))),
          XV.bool true])
else False) := by kernel_rfl
theorem r_do1_25 (d x y m a b : Int) (K : XV → Prop) : (quietGo (TA2 3) 80 (callI (TA2 3) 80 20) 13 [.agg 5 [.int .i64 25, .int .i64 d, .int .i64 x, .int .i64 y, .int .i64 m], .int .u32 a, .int .u32 b] K) =
    (bif bif !rtB (25 : Int) d x y m then true else !!rtB (25 : Int) d x y m then
  bif bif !rtB (25 : Int) d x y m then true else false then K (XV.tup [XV.int IntKind.u32 (0 : Int), XV.bool true])
  else K (XV.tup [XV.int IntKind.u32 (IntKind.wrap IntKind.u32 (IntKind.wrap IntKind.i64 (m * (262144 : Int)))), XV.bool true])
else False) := by kernel_rfl
theorem r_dox1_0 (op d x y m a b : Int) (K : XV → Prop) : (quietGo (TA2 0) 80 (callI (TA2 0) 80 20) 13 [.agg 5 [.int .i64 op, .int .i64 d, .int .i64 x, .int .i64 y, .int .i64 m], .int .u32 a, .int .u32 b] K) =
    (bif decide (fmI op = (0 : Int)) then
  bif bif !rtB op d x y m then true else !!rtB op d x y m then
    bif bif !rtB op d x y m then true else false then K (XV.tup [XV.int IntKind.u32 (0 : Int), XV.bool true])
    else
      bif decide (op = (17 : Int)) then K (XV.tup [XV.int IntKind.u32 (IntKind.wrap IntKind.u32 (a + b)), XV.bool true])
      else
        bif decide (op = (18 : Int)) then K (XV.tup [XV.int IntKind.u32 (bitsI BinOp.and IntKind.u32 a b), XV.bool true])
        else
          bif decide (op = (19 : Int)) then K (XV.tup [XV.int IntKind.u32 (bitsI BinOp.or IntKind.u32 a b), XV.bool true])
          else
            bif decide (op = (20 : Int)) then K (XV.tup [XV.int IntKind.u32 (bitsI BinOp.xor IntKind.u32 a b), XV.bool true])
            else
              bif decide (op = (21 : Int)) then K (XV.tup [XV.int IntKind.u32 (oneI (decide (IntKind.wrap IntKind.i32 a < IntKind.wrap IntKind.i32 b))), XV.bool true])
              else
                bif decide (op = (22 : Int)) then
                  K (XV.tup [XV.int IntKind.u32 (IntKind.wrap IntKind.u32 (a * (2 : Int) ^ Nat.min (Int.toNat (bitsI BinOp.and IntKind.u32 b (31 : Int))) (32 : Nat))), XV.bool true])
                else
                  bif decide (op = (23 : Int)) then K (XV.tup [XV.int IntKind.u32 (Int.fdiv a ((2 : Int) ^ Nat.min (Int.toNat (bitsI BinOp.and IntKind.u32 b (31 : Int))) (32 : Nat))), XV.bool true])
                  else
                    bif decide (op = (24 : Int)) then
                      K
                        (XV.tup
                          [XV.int IntKind.u32
                              (IntKind.wrap IntKind.u32 (Int.fdiv (IntKind.wrap IntKind.i32 a) ((2 : Int) ^ Nat.min (Int.toNat (bitsI BinOp.and IntKind.u32 b (31 : Int))) (32 : Nat)))),
                            XV.bool true])
                    else
                      bif decide (op = (1 : Int)) then K (XV.tup [XV.int IntKind.u32 (IntKind.wrap IntKind.u32 (a + b)), XV.bool true])
                      else
                        bif decide (op = (2 : Int)) then K (XV.tup [XV.int IntKind.u32 (IntKind.wrap IntKind.u32 (a - b)), XV.bool true])
                        else
                          bif decide (op = (3 : Int)) then K (XV.tup [XV.int IntKind.u32 (bitsI BinOp.and IntKind.u32 a b), XV.bool true])
                          else
                            bif decide (op = (4 : Int)) then K (XV.tup [XV.int IntKind.u32 (bitsI BinOp.or IntKind.u32 a b), XV.bool true])
                            else
                              bif decide (op = (5 : Int)) then K (XV.tup [XV.int IntKind.u32 (bitsI BinOp.xor IntKind.u32 a b), XV.bool true])
                              else
                                bif decide (op = (6 : Int)) then
                                  K (XV.tup [XV.int IntKind.u32 (IntKind.wrap IntKind.u32 (a * (2 : Int) ^ Nat.min (Int.toNat (bitsI BinOp.and IntKind.u32 b (31 : Int))) (32 : Nat))), XV.bool true])
                                else
                                  bif decide (op = (7 : Int)) then
                                    K (XV.tup [XV.int IntKind.u32 (Int.fdiv a ((2 : Int) ^ Nat.min (Int.toNat (bitsI BinOp.and IntKind.u32 b (31 : Int))) (32 : Nat))), XV.bool true])
                                  else
                                    bif decide (op = (8 : Int)) then
                                      K
                                        (XV.tup
                                          [XV.int IntKind.u32
                                              (IntKind.wrap IntKind.u32
                                                (Int.fdiv (IntKind.wrap IntKind.i32 a) ((2 : Int) ^ Nat.min (Int.toNat (bitsI BinOp.and IntKind.u32 b (31 : Int))) (32 : Nat)))),
                                            XV.bool true])
                                    else
                                      bif decide (op = (9 : Int)) then K (XV.tup [XV.int IntKind.u32 (oneI (decide (IntKind.wrap IntKind.i32 a < IntKind.wrap IntKind.i32 b))), XV.bool true])
                                      else
                                        bif decide (op = (10 : Int)) then K (XV.tup [XV.int IntKind.u32 (oneI (decide (a < b))), XV.bool true])
                                        else
                                          bif decide (op = (11 : Int)) then K (XV.tup [XV.int IntKind.u32 (IntKind.wrap IntKind.u32 (a * b)), XV.bool true])
                                          else
                                            bif decide (op = (12 : Int)) then
                                              K
                                                (XV.tup
                                                  [XV.int IntKind.u32
                                                      (IntKind.wrap IntKind.u32
                                                        (Int.fdiv
                                                          (IntKind.wrap IntKind.i64 (IntKind.wrap IntKind.i64 (IntKind.wrap IntKind.i32 a) * IntKind.wrap IntKind.i64 (IntKind.wrap IntKind.i32 b)))
                                                          (4294967296 : Int))),
                                                    XV.bool true])
                                            else
                                              bif decide (b = (0 : Int)) then K (XV.tup [XV.int IntKind.u32 (0 : Int), XV.bool false])
                                              else
                                                bif bif decide (IntKind.wrap IntKind.i32 a = (-2147483648 : Int)) then decide (IntKind.wrap IntKind.i32 a = (-2147483648 : Int)) else true then
                                                  bif decide (op = (14 : Int)) then
                                                    bif bif decide ¬b = (0 : Int) then decide ¬b = (0 : Int) else true then
                                                      bif bif decide ¬b = (0 : Int) then decide (b ≤ (0 : Int)) else false then False
                                                      else
                                                        bif !decide (IntKind.wrap IntKind.u64 b = (0 : Int)) then
                                                          bif !decide (IntKind.wrap IntKind.u64 b = (0 : Int)) then
                                                            K
                                                              (XV.tup
                                                                [XV.int IntKind.u32
                                                                    (IntKind.wrap IntKind.u32
                                                                      (IntKind.wrap IntKind.u64
                                                                        (Int.tdiv (bitsI BinOp.or IntKind.u64 (0 : Int) (IntKind.wrap IntKind.u64 a)) (IntKind.wrap IntKind.u64 b)))),
                                                                  XV.bool true])
                                                          else False
                                                        else False
                                                    else False
                                                  else
                                                    bif decide (op = (16 : Int)) then
                                                      bif !decide (IntKind.wrap IntKind.u64 b = (0 : Int)) then
                                                        K
                                                          (XV.tup
                                                            [XV.int IntKind.u32
                                                                (IntKind.wrap IntKind.u32 (Int.tmod (bitsI BinOp.or IntKind.u64 (0 : Int) (IntKind.wrap IntKind.u64 a)) (IntKind.wrap IntKind.u64 b))),
                                                              XV.bool true])
                                                      else False
                                                    else
                                                      bif bif decide (op = (13 : Int)) then decide (op = (13 : Int)) else true then
                                                        bif
                                                            bif decide (op = (13 : Int)) then
                                                              bif decide (IntKind.wrap IntKind.i32 a = (-2147483648 : Int)) then decide (IntKind.wrap IntKind.i32 b = (-1 : Int)) else false
                                                            else false then
                                                          K (XV.tup [XV.int IntKind.u32 a, XV.bool true])
                                                        else
                                                          bif decide (op = (13 : Int)) then
                                                            bif !decide (IntKind.wrap IntKind.i32 b = (0 : Int)) then
                                                              K
                                                                (XV.tup
                                                                  [XV.int IntKind.u32
                                                                      (IntKind.wrap IntKind.u32 (IntKind.wrap IntKind.i32 (Int.tdiv (IntKind.wrap IntKind.i32 a) (IntKind.wrap IntKind.i32 b)))),
                                                                    XV.bool true])
                                                            else False
                                                          else
                                                            bif bif decide (IntKind.wrap IntKind.i32 a = (-2147483648 : Int)) then decide (IntKind.wrap IntKind.i32 b = (-1 : Int)) else false then
                                                              K (XV.tup [XV.int IntKind.u32 (0 : Int), XV.bool true])
                                                            else
                                                              bif !decide (IntKind.wrap IntKind.i32 b = (0 : Int)) then
                                                                K
                                                                  (XV.tup
                                                                    [XV.int IntKind.u32 (IntKind.wrap IntKind.u32 (Int.tmod (IntKind.wrap IntKind.i32 a) (IntKind.wrap IntKind.i32 b))), XV.bool true])
                                                              else False
                                                      else False
                                                else False
  else False
else False) := by kernel_rfl
theorem r_dox1_4 (op d x y m a b : Int) (K : XV → Prop) : (quietGo (TA2 4) 80 (callI (TA2 4) 80 20) 13 [.agg 5 [.int .i64 op, .int .i64 d, .int .i64 x, .int .i64 y, .int .i64 m], .int .u32 a, .int .u32 b] K) =
    (bif decide (fmI op = (4 : Int)) then
  bif bif !rtB op d x y m then true else !!rtB op d x y m then
    bif bif !rtB op d x y m then true else true then K (XV.tup [XV.int IntKind.u32 (0 : Int), XV.bool true])
    else
      bif decide (op = (17 : Int)) then K (XV.tup [XV.int IntKind.u32 (IntKind.wrap IntKind.u32 (a + b)), XV.bool true])
      else
        bif decide (op = (18 : Int)) then K (XV.tup [XV.int IntKind.u32 (bitsI BinOp.and IntKind.u32 a b), XV.bool true])
        else
          bif decide (op = (19 : Int)) then K (XV.tup [XV.int IntKind.u32 (bitsI BinOp.or IntKind.u32 a b), XV.bool true])
          else
            bif decide (op = (20 : Int)) then K (XV.tup [XV.int IntKind.u32 (bitsI BinOp.xor IntKind.u32 a b), XV.bool true])
            else
              bif decide (op = (21 : Int)) then K (XV.tup [XV.int IntKind.u32 (oneI (decide (IntKind.wrap IntKind.i32 a < IntKind.wrap IntKind.i32 b))), XV.bool true])
              else
                bif decide (op = (22 : Int)) then
                  K (XV.tup [XV.int IntKind.u32 (IntKind.wrap IntKind.u32 (a * (2 : Int) ^ Nat.min (Int.toNat (bitsI BinOp.and IntKind.u32 b (31 : Int))) (32 : Nat))), XV.bool true])
                else
                  bif decide (op = (23 : Int)) then K (XV.tup [XV.int IntKind.u32 (Int.fdiv a ((2 : Int) ^ Nat.min (Int.toNat (bitsI BinOp.and IntKind.u32 b (31 : Int))) (32 : Nat))), XV.bool true])
                  else
                    bif decide (op = (24 : Int)) then
                      K
                        (XV.tup
                          [XV.int IntKind.u32
                              (IntKind.wrap IntKind.u32 (Int.fdiv (IntKind.wrap IntKind.i32 a) ((2 : Int) ^ Nat.min (Int.toNat (bitsI BinOp.and IntKind.u32 b (31 : Int))) (32 : Nat)))),
                            XV.bool true])
                    else
                      bif decide (op = (1 : Int)) then K (XV.tup [XV.int IntKind.u32 (IntKind.wrap IntKind.u32 (a + b)), XV.bool true])
                      else
                        bif decide (op = (2 : Int)) then K (XV.tup [XV.int IntKind.u32 (IntKind.wrap IntKind.u32 (a - b)), XV.bool true])
                        else
                          bif decide (op = (3 : Int)) then K (XV.tup [XV.int IntKind.u32 (bitsI BinOp.and IntKind.u32 a b), XV.bool true])
                          else
                            bif decide (op = (4 : Int)) then K (XV.tup [XV.int IntKind.u32 (bitsI BinOp.or IntKind.u32 a b), XV.bool true])
                            else
                              bif decide (op = (5 : Int)) then K (XV.tup [XV.int IntKind.u32 (bitsI BinOp.xor IntKind.u32 a b), XV.bool true])
                              else
                                bif decide (op = (6 : Int)) then
                                  K (XV.tup [XV.int IntKind.u32 (IntKind.wrap IntKind.u32 (a * (2 : Int) ^ Nat.min (Int.toNat (bitsI BinOp.and IntKind.u32 b (31 : Int))) (32 : Nat))), XV.bool true])
                                else
                                  bif decide (op = (7 : Int)) then
                                    K (XV.tup [XV.int IntKind.u32 (Int.fdiv a ((2 : Int) ^ Nat.min (Int.toNat (bitsI BinOp.and IntKind.u32 b (31 : Int))) (32 : Nat))), XV.bool true])
                                  else
                                    bif decide (op = (8 : Int)) then
                                      K
                                        (XV.tup
                                          [XV.int IntKind.u32
                                              (IntKind.wrap IntKind.u32
                                                (Int.fdiv (IntKind.wrap IntKind.i32 a) ((2 : Int) ^ Nat.min (Int.toNat (bitsI BinOp.and IntKind.u32 b (31 : Int))) (32 : Nat)))),
                                            XV.bool true])
                                    else
                                      bif decide (op = (9 : Int)) then K (XV.tup [XV.int IntKind.u32 (oneI (decide (IntKind.wrap IntKind.i32 a < IntKind.wrap IntKind.i32 b))), XV.bool true])
                                      else
                                        bif decide (op = (10 : Int)) then K (XV.tup [XV.int IntKind.u32 (oneI (decide (a < b))), XV.bool true])
                                        else
                                          bif decide (op = (11 : Int)) then K (XV.tup [XV.int IntKind.u32 (IntKind.wrap IntKind.u32 (a * b)), XV.bool true])
                                          else
                                            bif decide (op = (12 : Int)) then
                                              K
                                                (XV.tup
                                                  [XV.int IntKind.u32
                                                      (IntKind.wrap IntKind.u32
                                                        (Int.fdiv
                                                          (IntKind.wrap IntKind.i64 (IntKind.wrap IntKind.i64 (IntKind.wrap IntKind.i32 a) * IntKind.wrap IntKind.i64 (IntKind.wrap IntKind.i32 b)))
                                                          (4294967296 : Int))),
                                                    XV.bool true])
                                            else
                                              bif decide (b = (0 : Int)) then K (XV.tup [XV.int IntKind.u32 (0 : Int), XV.bool false])
                                              else
                                                bif bif decide (IntKind.wrap IntKind.i32 a = (-2147483648 : Int)) then decide (IntKind.wrap IntKind.i32 a = (-2147483648 : Int)) else true then
                                                  bif decide (op = (14 : Int)) then
                                                    bif bif decide ¬b = (0 : Int) then decide ¬b = (0 : Int) else true then
                                                      bif bif decide ¬b = (0 : Int) then decide (b ≤ (0 : Int)) else false then False
                                                      else
                                                        bif !decide (IntKind.wrap IntKind.u64 b = (0 : Int)) then
                                                          bif !decide (IntKind.wrap IntKind.u64 b = (0 : Int)) then
                                                            K
                                                              (XV.tup
                                                                [XV.int IntKind.u32
                                                                    (IntKind.wrap IntKind.u32
                                                                      (IntKind.wrap IntKind.u64
                                                                        (Int.tdiv (bitsI BinOp.or IntKind.u64 (0 : Int) (IntKind.wrap IntKind.u64 a)) (IntKind.wrap IntKind.u64 b)))),
                                                                  XV.bool true])
                                                          else False
                                                        else False
                                                    else False
                                                  else
                                                    bif decide (op = (16 : Int)) then
                                                      bif !decide (IntKind.wrap IntKind.u64 b = (0 : Int)) then
                                                        K
                                                          (XV.tup
                                                            [XV.int IntKind.u32
                                                                (IntKind.wrap IntKind.u32 (Int.tmod (bitsI BinOp.or IntKind.u64 (0 : Int) (IntKind.wrap IntKind.u64 a)) (IntKind.wrap IntKind.u64 b))),
                                                              XV.bool true])
                                                      else False
                                                    else
                                                      bif bif decide (op = (13 : Int)) then decide (op = (13 : Int)) else true then
                                                        bif
                                                            bif decide (op = (13 : Int)) then
                                                              bif decide (IntKind.wrap IntKind.i32 a = (-2147483648 : Int)) then decide (IntKind.wrap IntKind.i32 b = (-1 : Int)) else false
                                                            else false then
                                                          K (XV.tup [XV.int IntKind.u32 a, XV.bool true])
                                                        else
                                                          bif decide (op = (13 : Int)) then
                                                            bif !decide (IntKind.wrap IntKind.i32 b = (0 : Int)) then
                                                              K
                                                                (XV.tup
                                                                  [XV.int IntKind.u32
                                                                      (IntKind.wrap IntKind.u32 (IntKind.wrap IntKind.i32 (Int.tdiv (IntKind.wrap IntKind.i32 a) (IntKind.wrap IntKind.i32 b)))),
                                                                    XV.bool true])
                                                            else False
                                                          else
                                                            bif bif decide (IntKind.wrap IntKind.i32 a = (-2147483648 : Int)) then decide (IntKind.wrap IntKind.i32 b = (-1 : Int)) else false then
                                                              K (XV.tup [XV.int IntKind.u32 (0 : Int), XV.bool true])
                                                            else
                                                              bif !decide (IntKind.wrap IntKind.i32 b = (0 : Int)) then
                                                                K
                                                                  (XV.tup
                                                                    [XV.int IntKind.u32 (IntKind.wrap IntKind.u32 (Int.tmod (IntKind.wrap IntKind.i32 a) (IntKind.wrap IntKind.i32 b))), XV.bool true])
                                                              else False
                                                      else False
                                                else False
  else False
else False) := by kernel_rfl
theorem r_dox1_5 (op d x y m a b : Int) (K : XV → Prop) : (quietGo (TA2 5) 80 (callI (TA2 5) 80 20) 13 [.agg 5 [.int .i64 op, .int .i64 d, .int .i64 x, .int .i64 y, .int .i64 m], .int .u32 a, .int .u32 b] K) =
    (bif decide (fmI op = (5 : Int)) then
  bif bif !rtB op d x y m then true else !!rtB op d x y m then
    bif bif !rtB op d x y m then true else true then K (XV.tup [XV.int IntKind.u32 (0 : Int), XV.bool true])
    else
      bif decide (op = (17 : Int)) then K (XV.tup [XV.int IntKind.u32 (IntKind.wrap IntKind.u32 (a + b)), XV.bool true])
      else
        bif decide (op = (18 : Int)) then K (XV.tup [XV.int IntKind.u32 (bitsI BinOp.and IntKind.u32 a b), XV.bool true])
        else
          bif decide (op = (19 : Int)) then K (XV.tup [XV.int IntKind.u32 (bitsI BinOp.or IntKind.u32 a b), XV.bool true])
          else
            bif decide (op = (20 : Int)) then K (XV.tup [XV.int IntKind.u32 (bitsI BinOp.xor IntKind.u32 a b), XV.bool true])
            else
              bif decide (op = (21 : Int)) then K (XV.tup [XV.int IntKind.u32 (oneI (decide (IntKind.wrap IntKind.i32 a < IntKind.wrap IntKind.i32 b))), XV.bool true])
              else
                bif decide (op = (22 : Int)) then
                  K (XV.tup [XV.int IntKind.u32 (IntKind.wrap IntKind.u32 (a * (2 : Int) ^ Nat.min (Int.toNat (bitsI BinOp.and IntKind.u32 b (31 : Int))) (32 : Nat))), XV.bool true])
                else
                  bif decide (op = (23 : Int)) then K (XV.tup [XV.int IntKind.u32 (Int.fdiv a ((2 : Int) ^ Nat.min (Int.toNat (bitsI BinOp.and IntKind.u32 b (31 : Int))) (32 : Nat))), XV.bool true])
                  else
                    bif decide (op = (24 : Int)) then
                      K
                        (XV.tup
                          [XV.int IntKind.u32
                              (IntKind.wrap IntKind.u32 (Int.fdiv (IntKind.wrap IntKind.i32 a) ((2 : Int) ^ Nat.min (Int.toNat (bitsI BinOp.and IntKind.u32 b (31 : Int))) (32 : Nat)))),
                            XV.bool true])
                    else
                      bif decide (op = (1 : Int)) then K (XV.tup [XV.int IntKind.u32 (IntKind.wrap IntKind.u32 (a + b)), XV.bool true])
                      else
                        bif decide (op = (2 : Int)) then K (XV.tup [XV.int IntKind.u32 (IntKind.wrap IntKind.u32 (a - b)), XV.bool true])
                        else
                          bif decide (op = (3 : Int)) then K (XV.tup [XV.int IntKind.u32 (bitsI BinOp.and IntKind.u32 a b), XV.bool true])
                          else
                            bif decide (op = (4 : Int)) then K (XV.tup [XV.int IntKind.u32 (bitsI BinOp.or IntKind.u32 a b), XV.bool true])
                            else
                              bif decide (op = (5 : Int)) then K (XV.tup [XV.int IntKind.u32 (bitsI BinOp.xor IntKind.u32 a b), XV.bool true])
                              else
                                bif decide (op = (6 : Int)) then
                                  K (XV.tup [XV.int IntKind.u32 (IntKind.wrap IntKind.u32 (a * (2 : Int) ^ Nat.min (Int.toNat (bitsI BinOp.and IntKind.u32 b (31 : Int))) (32 : Nat))), XV.bool true])
                                else
                                  bif decide (op = (7 : Int)) then
                                    K (XV.tup [XV.int IntKind.u32 (Int.fdiv a ((2 : Int) ^ Nat.min (Int.toNat (bitsI BinOp.and IntKind.u32 b (31 : Int))) (32 : Nat))), XV.bool true])
                                  else
                                    bif decide (op = (8 : Int)) then
                                      K
                                        (XV.tup
                                          [XV.int IntKind.u32
                                              (IntKind.wrap IntKind.u32
                                                (Int.fdiv (IntKind.wrap IntKind.i32 a) ((2 : Int) ^ Nat.min (Int.toNat (bitsI BinOp.and IntKind.u32 b (31 : Int))) (32 : Nat)))),
                                            XV.bool true])
                                    else
                                      bif decide (op = (9 : Int)) then K (XV.tup [XV.int IntKind.u32 (oneI (decide (IntKind.wrap IntKind.i32 a < IntKind.wrap IntKind.i32 b))), XV.bool true])
                                      else
                                        bif decide (op = (10 : Int)) then K (XV.tup [XV.int IntKind.u32 (oneI (decide (a < b))), XV.bool true])
                                        else
                                          bif decide (op = (11 : Int)) then K (XV.tup [XV.int IntKind.u32 (IntKind.wrap IntKind.u32 (a * b)), XV.bool true])
                                          else
                                            bif decide (op = (12 : Int)) then
                                              K
                                                (XV.tup
                                                  [XV.int IntKind.u32
                                                      (IntKind.wrap IntKind.u32
                                                        (Int.fdiv
                                                          (IntKind.wrap IntKind.i64 (IntKind.wrap IntKind.i64 (IntKind.wrap IntKind.i32 a) * IntKind.wrap IntKind.i64 (IntKind.wrap IntKind.i32 b)))
                                                          (4294967296 : Int))),
                                                    XV.bool true])
                                            else
                                              bif decide (b = (0 : Int)) then K (XV.tup [XV.int IntKind.u32 (0 : Int), XV.bool false])
                                              else
                                                bif bif decide (IntKind.wrap IntKind.i32 a = (-2147483648 : Int)) then decide (IntKind.wrap IntKind.i32 a = (-2147483648 : Int)) else true then
                                                  bif decide (op = (14 : Int)) then
                                                    bif bif decide ¬b = (0 : Int) then decide ¬b = (0 : Int) else true then
                                                      bif bif decide ¬b = (0 : Int) then decide (b ≤ (0 : Int)) else false then False
                                                      else
                                                        bif !decide (IntKind.wrap IntKind.u64 b = (0 : Int)) then
                                                          bif !decide (IntKind.wrap IntKind.u64 b = (0 : Int)) then
                                                            K
                                                              (XV.tup
                                                                [XV.int IntKind.u32
                                                                    (IntKind.wrap IntKind.u32
                                                                      (IntKind.wrap IntKind.u64
                                                                        (Int.tdiv (bitsI BinOp.or IntKind.u64 (0 : Int) (IntKind.wrap IntKind.u64 a)) (IntKind.wrap IntKind.u64 b)))),
                                                                  XV.bool true])
                                                          else False
                                                        else False
                                                    else False
                                                  else
                                                    bif decide (op = (16 : Int)) then
                                                      bif !decide (IntKind.wrap IntKind.u64 b = (0 : Int)) then
                                                        K
                                                          (XV.tup
                                                            [XV.int IntKind.u32
                                                                (IntKind.wrap IntKind.u32 (Int.tmod (bitsI BinOp.or IntKind.u64 (0 : Int) (IntKind.wrap IntKind.u64 a)) (IntKind.wrap IntKind.u64 b))),
                                                              XV.bool true])
                                                      else False
                                                    else
                                                      bif bif decide (op = (13 : Int)) then decide (op = (13 : Int)) else true then
                                                        bif
                                                            bif decide (op = (13 : Int)) then
                                                              bif decide (IntKind.wrap IntKind.i32 a = (-2147483648 : Int)) then decide (IntKind.wrap IntKind.i32 b = (-1 : Int)) else false
                                                            else false then
                                                          K (XV.tup [XV.int IntKind.u32 a, XV.bool true])
                                                        else
                                                          bif decide (op = (13 : Int)) then
                                                            bif !decide (IntKind.wrap IntKind.i32 b = (0 : Int)) then
                                                              K
                                                                (XV.tup
                                                                  [XV.int IntKind.u32
                                                                      (IntKind.wrap IntKind.u32 (IntKind.wrap IntKind.i32 (Int.tdiv (IntKind.wrap IntKind.i32 a) (IntKind.wrap IntKind.i32 b)))),
                                                                    XV.bool true])
                                                            else False
                                                          else
                                                            bif bif decide (IntKind.wrap IntKind.i32 a = (-2147483648 : Int)) then decide (IntKind.wrap IntKind.i32 b = (-1 : Int)) else false then
                                                              K (XV.tup [XV.int IntKind.u32 (0 : Int), XV.bool true])
                                                            else
                                                              bif !decide (IntKind.wrap IntKind.i32 b = (0 : Int)) then
                                                                K
                                                                  (XV.tup
                                                                    [XV.int IntKind.u32 (IntKind.wrap IntKind.u32 (Int.tmod (IntKind.wrap IntKind.i32 a) (IntKind.wrap IntKind.i32 b))), XV.bool true])
                                                              else False
                                                      else False
                                                else False
  else False
else False) := by kernel_rfl
theorem r_dox1_6 (op d x y m a b : Int) (K : XV → Prop) : (quietGo (TA2 6) 80 (callI (TA2 6) 80 20) 13 [.agg 5 [.int .i64 op, .int .i64 d, .int .i64 x, .int .i64 y, .int .i64 m], .int .u32 a, .int .u32 b] K) =
    (bif decide (fmI op = (6 : Int)) then
  bif bif !rtB op d x y m then true else !!rtB op d x y m then
    bif bif !rtB op d x y m then true else true then K (XV.tup [XV.int IntKind.u32 (0 : Int), XV.bool true])
    else
      bif decide (op = (17 : Int)) then K (XV.tup [XV.int IntKind.u32 (IntKind.wrap IntKind.u32 (a + b)), XV.bool true])
      else
        bif decide (op = (18 : Int)) then K (XV.tup [XV.int IntKind.u32 (bitsI BinOp.and IntKind.u32 a b), XV.bool true])
        else
          bif decide (op = (19 : Int)) then K (XV.tup [XV.int IntKind.u32 (bitsI BinOp.or IntKind.u32 a b), XV.bool true])
          else
            bif decide (op = (20 : Int)) then K (XV.tup [XV.int IntKind.u32 (bitsI BinOp.xor IntKind.u32 a b), XV.bool true])
            else
              bif decide (op = (21 : Int)) then K (XV.tup [XV.int IntKind.u32 (oneI (decide (IntKind.wrap IntKind.i32 a < IntKind.wrap IntKind.i32 b))), XV.bool true])
              else
                bif decide (op = (22 : Int)) then
                  K (XV.tup [XV.int IntKind.u32 (IntKind.wrap IntKind.u32 (a * (2 : Int) ^ Nat.min (Int.toNat (bitsI BinOp.and IntKind.u32 b (31 : Int))) (32 : Nat))), XV.bool true])
                else
                  bif decide (op = (23 : Int)) then K (XV.tup [XV.int IntKind.u32 (Int.fdiv a ((2 : Int) ^ Nat.min (Int.toNat (bitsI BinOp.and IntKind.u32 b (31 : Int))) (32 : Nat))), XV.bool true])
                  else
                    bif decide (op = (24 : Int)) then
                      K
                        (XV.tup
                          [XV.int IntKind.u32
                              (IntKind.wrap IntKind.u32 (Int.fdiv (IntKind.wrap IntKind.i32 a) ((2 : Int) ^ Nat.min (Int.toNat (bitsI BinOp.and IntKind.u32 b (31 : Int))) (32 : Nat)))),
                            XV.bool true])
                    else
                      bif decide (op = (1 : Int)) then K (XV.tup [XV.int IntKind.u32 (IntKind.wrap IntKind.u32 (a + b)), XV.bool true])
                      else
                        bif decide (op = (2 : Int)) then K (XV.tup [XV.int IntKind.u32 (IntKind.wrap IntKind.u32 (a - b)), XV.bool true])
                        else
                          bif decide (op = (3 : Int)) then K (XV.tup [XV.int IntKind.u32 (bitsI BinOp.and IntKind.u32 a b), XV.bool true])
                          else
                            bif decide (op = (4 : Int)) then K (XV.tup [XV.int IntKind.u32 (bitsI BinOp.or IntKind.u32 a b), XV.bool true])
                            else
                              bif decide (op = (5 : Int)) then K (XV.tup [XV.int IntKind.u32 (bitsI BinOp.xor IntKind.u32 a b), XV.bool true])
                              else
                                bif decide (op = (6 : Int)) then
                                  K (XV.tup [XV.int IntKind.u32 (IntKind.wrap IntKind.u32 (a * (2 : Int) ^ Nat.min (Int.toNat (bitsI BinOp.and IntKind.u32 b (31 : Int))) (32 : Nat))), XV.bool true])
                                else
                                  bif decide (op = (7 : Int)) then
                                    K (XV.tup [XV.int IntKind.u32 (Int.fdiv a ((2 : Int) ^ Nat.min (Int.toNat (bitsI BinOp.and IntKind.u32 b (31 : Int))) (32 : Nat))), XV.bool true])
                                  else
                                    bif decide (op = (8 : Int)) then
                                      K
                                        (XV.tup
                                          [XV.int IntKind.u32
                                              (IntKind.wrap IntKind.u32
                                                (Int.fdiv (IntKind.wrap IntKind.i32 a) ((2 : Int) ^ Nat.min (Int.toNat (bitsI BinOp.and IntKind.u32 b (31 : Int))) (32 : Nat)))),
                                            XV.bool true])
                                    else
                                      bif decide (op = (9 : Int)) then K (XV.tup [XV.int IntKind.u32 (oneI (decide (IntKind.wrap IntKind.i32 a < IntKind.wrap IntKind.i32 b))), XV.bool true])
                                      else
                                        bif decide (op = (10 : Int)) then K (XV.tup [XV.int IntKind.u32 (oneI (decide (a < b))), XV.bool true])
                                        else
                                          bif decide (op = (11 : Int)) then K (XV.tup [XV.int IntKind.u32 (IntKind.wrap IntKind.u32 (a * b)), XV.bool true])
                                          else
                                            bif decide (op = (12 : Int)) then
                                              K
                                                (XV.tup
                                                  [XV.int IntKind.u32
                                                      (IntKind.wrap IntKind.u32
                                                        (Int.fdiv
                                                          (IntKind.wrap IntKind.i64 (IntKind.wrap IntKind.i64 (IntKind.wrap IntKind.i32 a) * IntKind.wrap IntKind.i64 (IntKind.wrap IntKind.i32 b)))
                                                          (4294967296 : Int))),
                                                    XV.bool true])
                                            else
                                              bif decide (b = (0 : Int)) then K (XV.tup [XV.int IntKind.u32 (0 : Int), XV.bool false])
                                              else
                                                bif bif decide (IntKind.wrap IntKind.i32 a = (-2147483648 : Int)) then decide (IntKind.wrap IntKind.i32 a = (-2147483648 : Int)) else true then
                                                  bif decide (op = (14 : Int)) then
                                                    bif bif decide ¬b = (0 : Int) then decide ¬b = (0 : Int) else true then
                                                      bif bif decide ¬b = (0 : Int) then decide (b ≤ (0 : Int)) else false then False
                                                      else
                                                        bif !decide (IntKind.wrap IntKind.u64 b = (0 : Int)) then
                                                          bif !decide (IntKind.wrap IntKind.u64 b = (0 : Int)) then
                                                            K
                                                              (XV.tup
                                                                [XV.int IntKind.u32
                                                                    (IntKind.wrap IntKind.u32
                                                                      (IntKind.wrap IntKind.u64
                                                                        (Int.tdiv (bitsI BinOp.or IntKind.u64 (0 : Int) (IntKind.wrap IntKind.u64 a)) (IntKind.wrap IntKind.u64 b)))),
                                                                  XV.bool true])
                                                          else False
                                                        else False
                                                    else False
                                                  else
                                                    bif decide (op = (16 : Int)) then
                                                      bif !decide (IntKind.wrap IntKind.u64 b = (0 : Int)) then
                                                        K
                                                          (XV.tup
                                                            [XV.int IntKind.u32
                                                                (IntKind.wrap IntKind.u32 (Int.tmod (bitsI BinOp.or IntKind.u64 (0 : Int) (IntKind.wrap IntKind.u64 a)) (IntKind.wrap IntKind.u64 b))),
                                                              XV.bool true])
                                                      else False
                                                    else
                                                      bif bif decide (op = (13 : Int)) then decide (op = (13 : Int)) else true then
                                                        bif
                                                            bif decide (op = (13 : Int)) then
                                                              bif decide (IntKind.wrap IntKind.i32 a = (-2147483648 : Int)) then decide (IntKind.wrap IntKind.i32 b = (-1 : Int)) else false
                                                            else false then
                                                          K (XV.tup [XV.int IntKind.u32 a, XV.bool true])
                                                        else
                                                          bif decide (op = (13 : Int)) then
                                                            bif !decide (IntKind.wrap IntKind.i32 b = (0 : Int)) then
                                                              K
                                                                (XV.tup
                                                                  [XV.int IntKind.u32
                                                                      (IntKind.wrap IntKind.u32 (IntKind.wrap IntKind.i32 (Int.tdiv (IntKind.wrap IntKind.i32 a) (IntKind.wrap IntKind.i32 b)))),
                                                                    XV.bool true])
                                                            else False
                                                          else
                                                            bif bif decide (IntKind.wrap IntKind.i32 a = (-2147483648 : Int)) then decide (IntKind.wrap IntKind.i32 b = (-1 : Int)) else false then
                                                              K (XV.tup [XV.int IntKind.u32 (0 : Int), XV.bool true])
                                                            else
                                                              bif !decide (IntKind.wrap IntKind.i32 b = (0 : Int)) then
                                                                K
                                                                  (XV.tup
                                                                    [XV.int IntKind.u32 (IntKind.wrap IntKind.u32 (Int.tmod (IntKind.wrap IntKind.i32 a) (IntKind.wrap IntKind.i32 b))), XV.bool true])
                                                              else False
                                                      else False
                                                else False
  else False
else False) := by kernel_rfl
theorem r_dox1_7 (op d x y m a b : Int) (K : XV → Prop) : (quietGo (TA2 7) 80 (callI (TA2 7) 80 20) 13 [.agg 5 [.int .i64 op, .int .i64 d, .int .i64 x, .int .i64 y, .int .i64 m], .int .u32 a, .int .u32 b] K) =
    (bif decide (fmI op = (7 : Int)) then
  bif bif !rtB op d x y m then true else !!rtB op d x y m then
    bif bif !rtB op d x y m then true else true then K (XV.tup [XV.int IntKind.u32 (0 : Int), XV.bool true])
    else
      bif decide (op = (17 : Int)) then K (XV.tup [XV.int IntKind.u32 (IntKind.wrap IntKind.u32 (a + b)), XV.bool true])
      else
        bif decide (op = (18 : Int)) then K (XV.tup [XV.int IntKind.u32 (bitsI BinOp.and IntKind.u32 a b), XV.bool true])
        else
          bif decide (op = (19 : Int)) then K (XV.tup [XV.int IntKind.u32 (bitsI BinOp.or IntKind.u32 a b), XV.bool true])
          else
            bif decide (op = (20 : Int)) then K (XV.tup [XV.int IntKind.u32 (bitsI BinOp.xor IntKind.u32 a b), XV.bool true])
            else
              bif decide (op = (21 : Int)) then K (XV.tup [XV.int IntKind.u32 (oneI (decide (IntKind.wrap IntKind.i32 a < IntKind.wrap IntKind.i32 b))), XV.bool true])
              else
                bif decide (op = (22 : Int)) then
                  K (XV.tup [XV.int IntKind.u32 (IntKind.wrap IntKind.u32 (a * (2 : Int) ^ Nat.min (Int.toNat (bitsI BinOp.and IntKind.u32 b (31 : Int))) (32 : Nat))), XV.bool true])
                else
                  bif decide (op = (23 : Int)) then K (XV.tup [XV.int IntKind.u32 (Int.fdiv a ((2 : Int) ^ Nat.min (Int.toNat (bitsI BinOp.and IntKind.u32 b (31 : Int))) (32 : Nat))), XV.bool true])
                  else
                    bif decide (op = (24 : Int)) then
                      K
                        (XV.tup
                          [XV.int IntKind.u32
                              (IntKind.wrap IntKind.u32 (Int.fdiv (IntKind.wrap IntKind.i32 a) ((2 : Int) ^ Nat.min (Int.toNat (bitsI BinOp.and IntKind.u32 b (31 : Int))) (32 : Nat)))),
                            XV.bool true])
                    else
                      bif decide (op = (1 : Int)) then K (XV.tup [XV.int IntKind.u32 (IntKind.wrap IntKind.u32 (a + b)), XV.bool true])
                      else
                        bif decide (op = (2 : Int)) then K (XV.tup [XV.int IntKind.u32 (IntKind.wrap IntKind.u32 (a - b)), XV.bool true])
                        else
                          bif decide (op = (3 : Int)) then K (XV.tup [XV.int IntKind.u32 (bitsI BinOp.and IntKind.u32 a b), XV.bool true])
                          else
                            bif decide (op = (4 : Int)) then K (XV.tup [XV.int IntKind.u32 (bitsI BinOp.or IntKind.u32 a b), XV.bool true])
                            else
                              bif decide (op = (5 : Int)) then K (XV.tup [XV.int IntKind.u32 (bitsI BinOp.xor IntKind.u32 a b), XV.bool true])
                              else
                                bif decide (op = (6 : Int)) then
                                  K (XV.tup [XV.int IntKind.u32 (IntKind.wrap IntKind.u32 (a * (2 : Int) ^ Nat.min (Int.toNat (bitsI BinOp.and IntKind.u32 b (31 : Int))) (32 : Nat))), XV.bool true])
                                else
                                  bif decide (op = (7 : Int)) then
                                    K (XV.tup [XV.int IntKind.u32 (Int.fdiv a ((2 : Int) ^ Nat.min (Int.toNat (bitsI BinOp.and IntKind.u32 b (31 : Int))) (32 : Nat))), XV.bool true])
                                  else
                                    bif decide (op = (8 : Int)) then
                                      K
                                        (XV.tup
                                          [XV.int IntKind.u32
                                              (IntKind.wrap IntKind.u32
                                                (Int.fdiv (IntKind.wrap IntKind.i32 a) ((2 : Int) ^ Nat.min (Int.toNat (bitsI BinOp.and IntKind.u32 b (31 : Int))) (32 : Nat)))),
                                            XV.bool true])
                                    else
                                      bif decide (op = (9 : Int)) then K (XV.tup [XV.int IntKind.u32 (oneI (decide (IntKind.wrap IntKind.i32 a < IntKind.wrap IntKind.i32 b))), XV.bool true])
                                      else
                                        bif decide (op = (10 : Int)) then K (XV.tup [XV.int IntKind.u32 (oneI (decide (a < b))), XV.bool true])
                                        else
                                          bif decide (op = (11 : Int)) then K (XV.tup [XV.int IntKind.u32 (IntKind.wrap IntKind.u32 (a * b)), XV.bool true])
                                          else
                                            bif decide (op = (12 : Int)) then
                                              K
                                                (XV.tup
                                                  [XV.int IntKind.u32
                                                      (IntKind.wrap IntKind.u32
                                                        (Int.fdiv
                                                          (IntKind.wrap IntKind.i64 (IntKind.wrap IntKind.i64 (IntKind.wrap IntKind.i32 a) * IntKind.wrap IntKind.i64 (IntKind.wrap IntKind.i32 b)))
                                                          (4294967296 : Int))),
                                                    XV.bool true])
                                            else
                                              bif decide (b = (0 : Int)) then K (XV.tup [XV.int IntKind.u32 (0 : Int), XV.bool false])
                                              else
                                                bif bif decide (IntKind.wrap IntKind.i32 a = (-2147483648 : Int)) then decide (IntKind.wrap IntKind.i32 a = (-2147483648 : Int)) else true then
                                                  bif decide (op = (14 : Int)) then
                                                    bif bif decide ¬b = (0 : Int) then decide ¬b = (0 : Int) else true then
                                                      bif bif decide ¬b = (0 : Int) then decide (b ≤ (0 : Int)) else false then False
                                                      else
                                                        bif !decide (IntKind.wrap IntKind.u64 b = (0 : Int)) then
                                                          bif !decide (IntKind.wrap IntKind.u64 b = (0 : Int)) then
                                                            K
                                                              (XV.tup
                                                                [XV.int IntKind.u32
                                                                    (IntKind.wrap IntKind.u32
                                                                      (IntKind.wrap IntKind.u64
                                                                        (Int.tdiv (bitsI BinOp.or IntKind.u64 (0 : Int) (IntKind.wrap IntKind.u64 a)) (IntKind.wrap IntKind.u64 b)))),
                                                                  XV.bool true])
                                                          else False
                                                        else False
                                                    else False
                                                  else
                                                    bif decide (op = (16 : Int)) then
                                                      bif !decide (IntKind.wrap IntKind.u64 b = (0 : Int)) then
                                                        K
                                                          (XV.tup
                                                            [XV.int IntKind.u32
                                                                (IntKind.wrap IntKind.u32 (Int.tmod (bitsI BinOp.or IntKind.u64 (0 : Int) (IntKind.wrap IntKind.u64 a)) (IntKind.wrap IntKind.u64 b))),
                                                              XV.bool true])
                                                      else False
                                                    else
                                                      bif bif decide (op = (13 : Int)) then decide (op = (13 : Int)) else true then
                                                        bif
                                                            bif decide (op = (13 : Int)) then
                                                              bif decide (IntKind.wrap IntKind.i32 a = (-2147483648 : Int)) then decide (IntKind.wrap IntKind.i32 b = (-1 : Int)) else false
                                                            else false then
                                                          K (XV.tup [XV.int IntKind.u32 a, XV.bool true])
                                                        else
                                                          bif decide (op = (13 : Int)) then
                                                            bif !decide (IntKind.wrap IntKind.i32 b = (0 : Int)) then
                                                              K
                                                                (XV.tup
                                                                  [XV.int IntKind.u32
                                                                      (IntKind.wrap IntKind.u32 (IntKind.wrap IntKind.i32 (Int.tdiv (IntKind.wrap IntKind.i32 a) (IntKind.wrap IntKind.i32 b)))),
                                                                    XV.bool true])
                                                            else False
                                                          else
                                                            bif bif decide (IntKind.wrap IntKind.i32 a = (-2147483648 : Int)) then decide (IntKind.wrap IntKind.i32 b = (-1 : Int)) else false then
                                                              K (XV.tup [XV.int IntKind.u32 (0 : Int), XV.bool true])
                                                            else
                                                              bif !decide (IntKind.wrap IntKind.i32 b = (0 : Int)) then
                                                                K
                                                                  (XV.tup
                                                                    [XV.int IntKind.u32 (IntKind.wrap IntKind.u32 (Int.tmod (IntKind.wrap IntKind.i32 a) (IntKind.wrap IntKind.i32 b))), XV.bool true])
                                                              else False
                                                      else False
                                                else False
  else False
else False) := by kernel_rfl
theorem r_dox1_8 (op d x y m a b : Int) (K : XV → Prop) : (quietGo (TA2 8) 80 (callI (TA2 8) 80 20) 13 [.agg 5 [.int .i64 op, .int .i64 d, .int .i64 x, .int .i64 y, .int .i64 m], .int .u32 a, .int .u32 b] K) =
    (bif decide (fmI op = (8 : Int)) then
  bif bif !rtB op d x y m then true else !!rtB op d x y m then
    bif bif !rtB op d x y m then true else true then K (XV.tup [XV.int IntKind.u32 (0 : Int), XV.bool true])
    else
      bif decide (op = (17 : Int)) then K (XV.tup [XV.int IntKind.u32 (IntKind.wrap IntKind.u32 (a + b)), XV.bool true])
      else
        bif decide (op = (18 : Int)) then K (XV.tup [XV.int IntKind.u32 (bitsI BinOp.and IntKind.u32 a b), XV.bool true])
        else
          bif decide (op = (19 : Int)) then K (XV.tup [XV.int IntKind.u32 (bitsI BinOp.or IntKind.u32 a b), XV.bool true])
          else
            bif decide (op = (20 : Int)) then K (XV.tup [XV.int IntKind.u32 (bitsI BinOp.xor IntKind.u32 a b), XV.bool true])
            else
              bif decide (op = (21 : Int)) then K (XV.tup [XV.int IntKind.u32 (oneI (decide (IntKind.wrap IntKind.i32 a < IntKind.wrap IntKind.i32 b))), XV.bool true])
              else
                bif decide (op = (22 : Int)) then
                  K (XV.tup [XV.int IntKind.u32 (IntKind.wrap IntKind.u32 (a * (2 : Int) ^ Nat.min (Int.toNat (bitsI BinOp.and IntKind.u32 b (31 : Int))) (32 : Nat))), XV.bool true])
                else
                  bif decide (op = (23 : Int)) then K (XV.tup [XV.int IntKind.u32 (Int.fdiv a ((2 : Int) ^ Nat.min (Int.toNat (bitsI BinOp.and IntKind.u32 b (31 : Int))) (32 : Nat))), XV.bool true])
                  else
                    bif decide (op = (24 : Int)) then
                      K
                        (XV.tup
                          [XV.int IntKind.u32
                              (IntKind.wrap IntKind.u32 (Int.fdiv (IntKind.wrap IntKind.i32 a) ((2 : Int) ^ Nat.min (Int.toNat (bitsI BinOp.and IntKind.u32 b (31 : Int))) (32 : Nat)))),
                            XV.bool true])
                    else
                      bif decide (op = (1 : Int)) then K (XV.tup [XV.int IntKind.u32 (IntKind.wrap IntKind.u32 (a + b)), XV.bool true])
                      else
                        bif decide (op = (2 : Int)) then K (XV.tup [XV.int IntKind.u32 (IntKind.wrap IntKind.u32 (a - b)), XV.bool true])
                        else
                          bif decide (op = (3 : Int)) then K (XV.tup [XV.int IntKind.u32 (bitsI BinOp.and IntKind.u32 a b), XV.bool true])
                          else
                            bif decide (op = (4 : Int)) then K (XV.tup [XV.int IntKind.u32 (bitsI BinOp.or IntKind.u32 a b), XV.bool true])
                            else
                              bif decide (op = (5 : Int)) then K (XV.tup [XV.int IntKind.u32 (bitsI BinOp.xor IntKind.u32 a b), XV.bool true])
                              else
                                bif decide (op = (6 : Int)) then
                                  K (XV.tup [XV.int IntKind.u32 (IntKind.wrap IntKind.u32 (a * (2 : Int) ^ Nat.min (Int.toNat (bitsI BinOp.and IntKind.u32 b (31 : Int))) (32 : Nat))), XV.bool true])
                                else
                                  bif decide (op = (7 : Int)) then
                                    K (XV.tup [XV.int IntKind.u32 (Int.fdiv a ((2 : Int) ^ Nat.min (Int.toNat (bitsI BinOp.and IntKind.u32 b (31 : Int))) (32 : Nat))), XV.bool true])
                                  else
                                    bif decide (op = (8 : Int)) then
                                      K
                                        (XV.tup
                                          [XV.int IntKind.u32
                                              (IntKind.wrap IntKind.u32
                                                (Int.fdiv (IntKind.wrap IntKind.i32 a) ((2 : Int) ^ Nat.min (Int.toNat (bitsI BinOp.and IntKind.u32 b (31 : Int))) (32 : Nat)))),
                                            XV.bool true])
                                    else
                                      bif decide (op = (9 : Int)) then K (XV.tup [XV.int IntKind.u32 (oneI (decide (IntKind.wrap IntKind.i32 a < IntKind.wrap IntKind.i32 b))), XV.bool true])
                                      else
                                        bif decide (op = (10 : Int)) then K (XV.tup [XV.int IntKind.u32 (oneI (decide (a < b))), XV.bool true])
                                        else
                                          bif decide (op = (11 : Int)) then K (XV.tup [XV.int IntKind.u32 (IntKind.wrap IntKind.u32 (a * b)), XV.bool true])
                                          else
                                            bif decide (op = (12 : Int)) then
                                              K
                                                (XV.tup
                                                  [XV.int IntKind.u32
                                                      (IntKind.wrap IntKind.u32
                                                        (Int.fdiv
                                                          (IntKind.wrap IntKind.i64 (IntKind.wrap IntKind.i64 (IntKind.wrap IntKind.i32 a) * IntKind.wrap IntKind.i64 (IntKind.wrap IntKind.i32 b)))
                                                          (4294967296 : Int))),
                                                    XV.bool true])
                                            else
                                              bif decide (b = (0 : Int)) then K (XV.tup [XV.int IntKind.u32 (0 : Int), XV.bool false])
                                              else
                                                bif bif decide (IntKind.wrap IntKind.i32 a = (-2147483648 : Int)) then decide (IntKind.wrap IntKind.i32 a = (-2147483648 : Int)) else true then
                                                  bif decide (op = (14 : Int)) then
                                                    bif bif decide ¬b = (0 : Int) then decide ¬b = (0 : Int) else true then
                                                      bif bif decide ¬b = (0 : Int) then decide (b ≤ (0 : Int)) else false then False
                                                      else
                                                        bif !decide (IntKind.wrap IntKind.u64 b = (0 : Int)) then
                                                          bif !decide (IntKind.wrap IntKind.u64 b = (0 : Int)) then
                                                            K
                                                              (XV.tup
                                                                [XV.int IntKind.u32
                                                                    (IntKind.wrap IntKind.u32
                                                                      (IntKind.wrap IntKind.u64
                                                                        (Int.tdiv (bitsI BinOp.or IntKind.u64 (0 : Int) (IntKind.wrap IntKind.u64 a)) (IntKind.wrap IntKind.u64 b)))),
                                                                  XV.bool true])
                                                          else False
                                                        else False
                                                    else False
                                                  else
                                                    bif decide (op = (16 : Int)) then
                                                      bif !decide (IntKind.wrap IntKind.u64 b = (0 : Int)) then
                                                        K
                                                          (XV.tup
                                                            [XV.int IntKind.u32
                                                                (IntKind.wrap IntKind.u32 (Int.tmod (bitsI BinOp.or IntKind.u64 (0 : Int) (IntKind.wrap IntKind.u64 a)) (IntKind.wrap IntKind.u64 b))),
                                                              XV.bool true])
                                                      else False
                                                    else
                                                      bif bif decide (op = (13 : Int)) then decide (op = (13 : Int)) else true then
                                                        bif
                                                            bif decide (op = (13 : Int)) then
                                                              bif decide (IntKind.wrap IntKind.i32 a = (-2147483648 : Int)) then decide (IntKind.wrap IntKind.i32 b = (-1 : Int)) else false
                                                            else false then
                                                          K (XV.tup [XV.int IntKind.u32 a, XV.bool true])
                                                        else
                                                          bif decide (op = (13 : Int)) then
                                                            bif !decide (IntKind.wrap IntKind.i32 b = (0 : Int)) then
                                                              K
                                                                (XV.tup
                                                                  [XV.int IntKind.u32
                                                                      (IntKind.wrap IntKind.u32 (IntKind.wrap IntKind.i32 (Int.tdiv (IntKind.wrap IntKind.i32 a) (IntKind.wrap IntKind.i32 b)))),
                                                                    XV.bool true])
                                                            else False
                                                          else
                                                            bif bif decide (IntKind.wrap IntKind.i32 a = (-2147483648 : Int)) then decide (IntKind.wrap IntKind.i32 b = (-1 : Int)) else false then
                                                              K (XV.tup [XV.int IntKind.u32 (0 : Int), XV.bool true])
                                                            else
                                                              bif !decide (IntKind.wrap IntKind.i32 b = (0 : Int)) then
                                                                K
                                                                  (XV.tup
                                                                    [XV.int IntKind.u32 (IntKind.wrap IntKind.u32 (Int.tmod (IntKind.wrap IntKind.i32 a) (IntKind.wrap IntKind.i32 b))), XV.bool true])
                                                              else False
                                                      else False
                                                else False
  else False
else False) := by kernel_rfl
theorem r_do2_1 (d x y m a b : Int) (K : XV → Prop) : (quietGo (TA2 1) 80 (callI (TA2 1) 80 20) 14 [.agg 5 [.int .i64 1, .int .i64 d, .int .i64 x, .int .i64 y, .int .i64 m], .int .u32 a, .int .u32 b] K) =
    (bif bif !rtB (1 : Int) d x y m then true else !!rtB (1 : Int) d x y m then
  bif bif bif !rtB (1 : Int) d x y m then true else false then true else !bif !rtB (1 : Int) d x y m then true else false then
    bif bif bif !rtB (1 : Int) d x y m then true else false then true else false then K (XV.tup [XV.int IntKind.u32 (0 : Int), XV.bool true])
    else
      bif decide ((0 : Int) ≤ a) then
        bif decide (a ≤ (4294967295 : Int)) then
          bif decide ((0 : Int) ≤ b) then bif decide (b ≤ (4294967295 : Int)) then K (XV.tup [XV.int IntKind.u32 (IntKind.wrap IntKind.u32 (a + b)), XV.bool true]) else False else False
        else False
      else False
  else False
else False) := by kernel_rfl
theorem r_do2_2 (d x y m a b : Int) (K : XV → Prop) : (quietGo (TA2 1) 80 (callI (TA2 1) 80 20) 14 [.agg 5 [.int .i64 2, .int .i64 d, .int .i64 x, .int .i64 y, .int .i64 m], .int .u32 a, .int .u32 b] K) =
    (bif bif !rtB (2 : Int) d x y m then true else !!rtB (2 : Int) d x y m then
  bif bif bif !rtB (2 : Int) d x y m then true else false then true else !bif !rtB (2 : Int) d x y m then true else false then
    bif bif bif !rtB (2 : Int) d x y m then true else false then true else false then K (XV.tup [XV.int IntKind.u32 (0 : Int), XV.bool true])
    else
      bif decide ((0 : Int) ≤ a) then
        bif decide (a ≤ (4294967295 : Int)) then
          bif decide ((0 : Int) ≤ b) then bif decide (b ≤ (4294967295 : Int)) then K (XV.tup [XV.int IntKind.u32 (IntKind.wrap IntKind.u32 (a - b)), XV.bool true]) else False else False
        else False
      else False
  else False
else False) := by kernel_rfl
theorem r_do2_3 (d x y m a b : Int) (K : XV → Prop) : (quietGo (TA2 1) 80 (callI (TA2 1) 80 20) 14 [.agg 5 [.int .i64 3, .int .i64 d, .int .i64 x, .int .i64 y, .int .i64 m], .int .u32 a, .int .u32 b] K) =
    (bif bif !rtB (3 : Int) d x y m then true else !!rtB (3 : Int) d x y m then
  bif bif bif !rtB (3 : Int) d x y m then true else false then true else !bif !rtB (3 : Int) d x y m then true else false then
    bif bif bif !rtB (3 : Int) d x y m then true else false then true else false then K (XV.tup [XV.int IntKind.u32 (0 : Int), XV.bool true])
    else
      bif decide ((0 : Int) ≤ a) then
        bif decide (a ≤ (4294967295 : Int)) then
          bif decide ((0 : Int) ≤ b) then bif decide (b ≤ (4294967295 : Int)) then K (XV.tup [XV.int IntKind.u32 (bitsI BinOp.and IntKind.u32 a b), XV.bool true]) else False else False
        else False
      else False
  else False
else False) := by kernel_rfl
theorem r_do2_4 (d x y m a b : Int) (K : XV → Prop) : (quietGo (TA2 1) 80 (callI (TA2 1) 80 20) 14 [.agg 5 [.int .i64 4, .int .i64 d, .int .i64 x, .int .i64 y, .int .i64 m], .int .u32 a, .int .u32 b] K) =
    (bif bif !rtB (4 : Int) d x y m then true else !!rtB (4 : Int) d x y m then
  bif bif bif !rtB (4 : Int) d x y m then true else false then true else !bif !rtB (4 : Int) d x y m then true else false then
    bif bif bif !rtB (4 : Int) d x y m then true else false then true else false then K (XV.tup [XV.int IntKind.u32 (0 : Int), XV.bool true])
    else
      bif decide ((0 : Int) ≤ a) then
        bif decide (a ≤ (4294967295 : Int)) then
          bif decide ((0 : Int) ≤ b) then bif decide (b ≤ (4294967295 : Int)) then K (XV.tup [XV.int IntKind.u32 (bitsI BinOp.or IntKind.u32 a b), XV.bool true]) else False else False
        else False
      else False
  else False
else False) := by kernel_rfl
theorem r_do2_5 (d x y m a b : Int) (K : XV → Prop) : (quietGo (TA2 1) 80 (callI (TA2 1) 80 20) 14 [.agg 5 [.int .i64 5, .int .i64 d, .int .i64 x, .int .i64 y, .int .i64 m], .int .u32 a, .int .u32 b] K) =
    (bif bif !rtB (5 : Int) d x y m then true else !!rtB (5 : Int) d x y m then
  bif bif bif !rtB (5 : Int) d x y m then true else false then true else !bif !rtB (5 : Int) d x y m then true else false then
    bif bif bif !rtB (5 : Int) d x y m then true else false then true else false then K (XV.tup [XV.int IntKind.u32 (0 : Int), XV.bool true])
    else
      bif decide ((0 : Int) ≤ a) then
        bif decide (a ≤ (4294967295 : Int)) then
          bif decide ((0 : Int) ≤ b) then bif decide (b ≤ (4294967295 : Int)) then K (XV.tup [XV.int IntKind.u32 (bitsI BinOp.xor IntKind.u32 a b), XV.bool true]) else False else False
        else False
      else False
  else False
else False) := by kernel_rfl
theorem r_do2_6 (d x y m a b : Int) (K : XV → Prop) : (quietGo (TA2 1) 80 (callI (TA2 1) 80 20) 14 [.agg 5 [.int .i64 6, .int .i64 d, .int .i64 x, .int .i64 y, .int .i64 m], .int .u32 a, .int .u32 b] K) =
    (bif bif !rtB (6 : Int) d x y m then true else !!rtB (6 : Int) d x y m then
  bif bif bif !rtB (6 : Int) d x y m then true else false then true else !bif !rtB (6 : Int) d x y m then true else false then
    bif bif bif !rtB (6 : Int) d x y m then true else false then true else false then K (XV.tup [XV.int IntKind.u32 (0 : Int), XV.bool true])
    else
      bif decide ((0 : Int) ≤ a) then
        bif decide (a ≤ (4294967295 : Int)) then
          bif decide ((0 : Int) ≤ b) then
            bif decide (b ≤ (4294967295 : Int)) then
              K (XV.tup [XV.int IntKind.u32 (IntKind.wrap IntKind.u32 (a * (2 : Int) ^ Nat.min (Int.toNat (bitsI BinOp.and IntKind.u32 b (31 : Int))) (32 : Nat))), XV.bool true])
            else False
          else False
        else False
      else False
  else False
else False) := by kernel_rfl
theorem r_do2_7 (d x y m a b : Int) (K : XV → Prop) : (quietGo (TA2 1) 80 (callI (TA2 1) 80 20) 14 [.agg 5 [.int .i64 7, .int .i64 d, .int .i64 x, .int .i64 y, .int .i64 m], .int .u32 a, .int .u32 b] K) =
    (bif bif !rtB (7 : Int) d x y m then true else !!rtB (7 : Int) d x y m then
  bif bif bif !rtB (7 : Int) d x y m then true else false then true else !bif !rtB (7 : Int) d x y m then true else false then
    bif bif bif !rtB (7 : Int) d x y m then true else false then true else false then K (XV.tup [XV.int IntKind.u32 (0 : Int), XV.bool true])
    else
      bif decide ((0 : Int) ≤ a) then
        bif decide (a ≤ (4294967295 : Int)) then
          bif decide ((0 : Int) ≤ b) then
            bif decide (b ≤ (4294967295 : Int)) then K (XV.tup [XV.int IntKind.u32 (Int.fdiv a ((2 : Int) ^ Nat.min (Int.toNat (bitsI BinOp.and IntKind.u32 b (31 : Int))) (32 : Nat))), XV.bool true])
            else False
          else False
        else False
      else False
  else False
else False) := by kernel_rfl
theorem r_do2_8 (d x y m a b : Int) (K : XV → Prop) : (quietGo (TA2 1) 80 (callI (TA2 1) 80 20) 14 [.agg 5 [.int .i64 8, .int .i64 d, .int .i64 x, .int .i64 y, .int .i64 m], .int .u32 a, .int .u32 b] K) =
    (bif bif !rtB (8 : Int) d x y m then true else !!rtB (8 : Int) d x y m then
  bif bif bif !rtB (8 : Int) d x y m then true else false then true else !bif !rtB (8 : Int) d x y m then true else false then
    bif bif bif !rtB (8 : Int) d x y m then true else false then true else false then K (XV.tup [XV.int IntKind.u32 (0 : Int), XV.bool true])
    else
      bif decide ((0 : Int) ≤ a) then
        bif decide (a ≤ (4294967295 : Int)) then
          bif decide ((0 : Int) ≤ b) then
            bif decide (b ≤ (4294967295 : Int)) then
              K (XV.tup [XV.int IntKind.u32 (IntKind.wrap IntKind.u32 (Int.fdiv (i32 a) ((2 : Int) ^ Nat.min (Int.toNat (bitsI BinOp.and IntKind.u32 b (31 : Int))) (64 : Nat)))), XV.bool true])
            else False
          else False
        else False
      else False
  else False
else False) := by kernel_rfl
theorem r_do2_9 (d x y m a b : Int) (K : XV → Prop) : (quietGo (TA2 1) 80 (callI (TA2 1) 80 20) 14 [.agg 5 [.int .i64 9, .int .i64 d, .int .i64 x, .int .i64 y, .int .i64 m], .int .u32 a, .int .u32 b] K) =
    (bif bif !rtB (9 : Int) d x y m then true else !!rtB (9 : Int) d x y m then
  bif bif bif !rtB (9 : Int) d x y m then true else false then true else !bif !rtB (9 : Int) d x y m then true else false then
    bif bif bif !rtB (9 : Int) d x y m then true else false then true else false then K (XV.tup [XV.int IntKind.u32 (0 : Int), XV.bool true])
    else
      bif decide ((0 : Int) ≤ a) then
        bif decide (a ≤ (4294967295 : Int)) then
          bif decide ((0 : Int) ≤ b) then bif decide (b ≤ (4294967295 : Int)) then K (XV.tup [XV.int IntKind.u32 (oneI (decide (i32 a < i32 b))), XV.bool true]) else False else False
        else False
      else False
  else False
else False) := by kernel_rfl
theorem r_do2_10 (d x y m a b : Int) (K : XV → Prop) : (quietGo (TA2 1) 80 (callI (TA2 1) 80 20) 14 [.agg 5 [.int .i64 10, .int .i64 d, .int .i64 x, .int .i64 y, .int .i64 m], .int .u32 a, .int .u32 b] K) =
    (bif bif !rtB (10 : Int) d x y m then true else !!rtB (10 : Int) d x y m then
  bif bif bif !rtB (10 : Int) d x y m then true else false then true else !bif !rtB (10 : Int) d x y m then true else false then
    bif bif bif !rtB (10 : Int) d x y m then true else false then true else false then K (XV.tup [XV.int IntKind.u32 (0 : Int), XV.bool true])
    else
      bif decide ((0 : Int) ≤ a) then
        bif decide (a ≤ (4294967295 : Int)) then
          bif decide ((0 : Int) ≤ b) then bif decide (b ≤ (4294967295 : Int)) then K (XV.tup [XV.int IntKind.u32 (oneI (decide (a < b))), XV.bool true]) else False else False
        else False
      else False
  else False
else False) := by kernel_rfl
theorem r_do2_11 (d x y m a b : Int) (K : XV → Prop) : (quietGo (TA2 1) 80 (callI (TA2 1) 80 20) 14 [.agg 5 [.int .i64 11, .int .i64 d, .int .i64 x, .int .i64 y, .int .i64 m], .int .u32 a, .int .u32 b] K) =
    (bif bif !rtB (11 : Int) d x y m then true else !!rtB (11 : Int) d x y m then
  bif bif bif !rtB (11 : Int) d x y m then true else false then true else !bif !rtB (11 : Int) d x y m then true else false then
    bif bif bif !rtB (11 : Int) d x y m then true else false then true else false then K (XV.tup [XV.int IntKind.u32 (0 : Int), XV.bool true])
    else
      bif decide ((0 : Int) ≤ a) then
        bif decide (a ≤ (4294967295 : Int)) then
          bif decide ((0 : Int) ≤ b) then
            bif decide (b ≤ (4294967295 : Int)) then K (XV.tup [XV.int IntKind.u32 (IntKind.wrap IntKind.u32 (IntKind.wrap IntKind.i64 (i32 a * i32 b))), XV.bool true]) else False
          else False
        else False
      else False
  else False
else False) := by kernel_rfl
theorem r_do2_12 (d x y m a b : Int) (K : XV → Prop) : (quietGo (TA2 1) 80 (callI (TA2 1) 80 20) 14 [.agg 5 [.int .i64 12, .int .i64 d, .int .i64 x, .int .i64 y, .int .i64 m], .int .u32 a, .int .u32 b] K) =
    (bif bif !rtB (12 : Int) d x y m then true else !!rtB (12 : Int) d x y m then
  bif bif bif !rtB (12 : Int) d x y m then true else false then true else !bif !rtB (12 : Int) d x y m then true else false then
    bif bif bif !rtB (12 : Int) d x y m then true else false then true else false then K (XV.tup [XV.int IntKind.u32 (0 : Int), XV.bool true])
    else
      bif decide ((0 : Int) ≤ a) then
        bif decide (a ≤ (4294967295 : Int)) then
          bif decide ((0 : Int) ≤ b) then
            bif decide (b ≤ (4294967295 : Int)) then K (XV.tup [XV.int IntKind.u32 (IntKind.wrap IntKind.u32 (Int.fdiv (IntKind.wrap IntKind.i64 (i32 a * i32 b)) (4294967296 : Int))), XV.bool true])
            else False
          else False
        else False
      else False
  else False
else False) := by kernel_rfl
theorem r_do2_13 (d x y m a b : Int) (K : XV → Prop) : (quietGo (TA2 1) 80 (callI (TA2 1) 80 20) 14 [.agg 5 [.int .i64 13, .int .i64 d, .int .i64 x, .int .i64 y, .int .i64 m], .int .u32 a, .int .u32 b] K) =
    (bif bif !rtB (13 : Int) d x y m then true else !!rtB (13 : Int) d x y m then
  bif bif bif !rtB (13 : Int) d x y m then true else false then true else !bif !rtB (13 : Int) d x y m then true else false then
    bif bif bif !rtB (13 : Int) d x y m then true else false then true else false then K (XV.tup [XV.int IntKind.u32 (0 : Int), XV.bool true])
    else
      bif decide ((0 : Int) ≤ a) then
        bif decide (a ≤ (4294967295 : Int)) then
          bif decide ((0 : Int) ≤ b) then
            bif decide (b ≤ (4294967295 : Int)) then
              bif decide (b = (0 : Int)) then K (XV.tup [XV.int IntKind.u32 (0 : Int), XV.bool false])
              else
                bif !decide (i32 b = (0 : Int)) then
                  bif !decide (i32 b = (0 : Int)) then K (XV.tup [XV.int IntKind.u32 (IntKind.wrap IntKind.u32 (IntKind.wrap IntKind.i64 (Int.tdiv (i32 a) (i32 b)))), XV.bool true]) else False
                else False
            else False
          else False
        else False
      else False
  else False
else False) := by kernel_rfl
theorem r_do2_14 (d x y m a b : Int) (K : XV → Prop) : (quietGo (TA2 1) 80 (callI (TA2 1) 80 20) 14 [.agg 5 [.int .i64 14, .int .i64 d, .int .i64 x, .int .i64 y, .int .i64 m], .int .u32 a, .int .u32 b] K) =
    (bif bif !rtB (14 : Int) d x y m then true else !!rtB (14 : Int) d x y m then
  bif bif bif !rtB (14 : Int) d x y m then true else false then true else !bif !rtB (14 : Int) d x y m then true else false then
    bif bif bif !rtB (14 : Int) d x y m then true else false then true else false then K (XV.tup [XV.int IntKind.u32 (0 : Int), XV.bool true])
    else
      bif decide ((0 : Int) ≤ a) then
        bif decide (a ≤ (4294967295 : Int)) then
          bif decide ((0 : Int) ≤ b) then
            bif decide (b ≤ (4294967295 : Int)) then
              bif decide (b = (0 : Int)) then K (XV.tup [XV.int IntKind.u32 (0 : Int), XV.bool false])
              else
                bif !decide (i32 b = (0 : Int)) then
                  bif !decide (i32 b = (0 : Int)) then bif !decide (b = (0 : Int)) then K (XV.tup [XV.int IntKind.u32 (IntKind.wrap IntKind.u32 (Int.tdiv a b)), XV.bool true]) else False else False
                else False
            else False
          else False
        else False
      else False
  else False
else False) := by kernel_rfl
theorem r_do2_15 (d x y m a b : Int) (K : XV → Prop) : (quietGo (TA2 1) 80 (callI (TA2 1) 80 20) 14 [.agg 5 [.int .i64 15, .int .i64 d, .int .i64 x, .int .i64 y, .int .i64 m], .int .u32 a, .int .u32 b] K) =
    (bif bif !rtB (15 : Int) d x y m then true else !!rtB (15 : Int) d x y m then
  bif bif bif !rtB (15 : Int) d x y m then true else false then true else !bif !rtB (15 : Int) d x y m then true else false then
    bif bif bif !rtB (15 : Int) d x y m then true else false then true else false then K (XV.tup [XV.int IntKind.u32 (0 : Int), XV.bool true])
    else
      bif decide ((0 : Int) ≤ a) then
        bif decide (a ≤ (4294967295 : Int)) then
          bif decide ((0 : Int) ≤ b) then
            bif decide (b ≤ (4294967295 : Int)) then
              bif decide (b = (0 : Int)) then K (XV.tup [XV.int IntKind.u32 (0 : Int), XV.bool false])
              else
                bif !decide (i32 b = (0 : Int)) then bif !decide (i32 b = (0 : Int)) then K (XV.tup [XV.int IntKind.u32 (IntKind.wrap IntKind.u32 (Int.tmod (i32 a) (i32 b))), XV.bool true]) else False
                else False
            else False
          else False
        else False
      else False
  else False
else False) := by kernel_rfl
theorem r_do2_16 (d x y m a b : Int) (K : XV → Prop) : (quietGo (TA2 1) 80 (callI (TA2 1) 80 20) 14 [.agg 5 [.int .i64 16, .int .i64 d, .int .i64 x, .int .i64 y, .int .i64 m], .int .u32 a, .int .u32 b] K) =
    (bif bif !rtB (16 : Int) d x y m then true else !!rtB (16 : Int) d x y m then
  bif bif bif !rtB (16 : Int) d x y m then true else false then true else !bif !rtB (16 : Int) d x y m then true else false then
    bif bif bif !rtB (16 : Int) d x y m then true else false then true else false then K (XV.tup [XV.int IntKind.u32 (0 : Int), XV.bool true])
    else
      bif decide ((0 : Int) ≤ a) then
        bif decide (a ≤ (4294967295 : Int)) then
          bif decide ((0 : Int) ≤ b) then
            bif decide (b ≤ (4294967295 : Int)) then
              bif decide (b = (0 : Int)) then K (XV.tup [XV.int IntKind.u32 (0 : Int), XV.bool false])
              else
                bif !decide (i32 b = (0 : Int)) then
                  bif !decide (i32 b = (0 : Int)) then bif !decide (b = (0 : Int)) then K (XV.tup [XV.int IntKind.u32 (Int.tmod a b), XV.bool true]) else False else False
                else False
            else False
          else False
        else False
      else False
  else False
else False) := by kernel_rfl
theorem r_do2_17 (d x y m a b : Int) (K : XV → Prop) : (quietGo (TA2 2) 80 (callI (TA2 2) 80 20) 14 [.agg 5 [.int .i64 17, .int .i64 d, .int .i64 x, .int .i64 y, .int .i64 m], .int .u32 a, .int .u32 b] K) =
    (bif bif !rtB (17 : Int) d x y m then true else !!rtB (17 : Int) d x y m then
  bif bif bif !rtB (17 : Int) d x y m then true else false then true else !bif !rtB (17 : Int) d x y m then true else false then
    bif bif bif !rtB (17 : Int) d x y m then true else false then true else false then K (XV.tup [XV.int IntKind.u32 (0 : Int), XV.bool true])
    else
      bif decide ((0 : Int) ≤ a) then
        bif decide (a ≤ (4294967295 : Int)) then
          bif decide ((0 : Int) ≤ IntKind.wrap IntKind.u32 m) then
            bif decide (IntKind.wrap IntKind.u32 m ≤ (4294967295 : Int)) then K (XV.tup [XV.int IntKind.u32 (IntKind.wrap IntKind.u32 (a + IntKind.wrap IntKind.u32 m)), XV.bool true]) else False
          else False
        else False
      else False
  else False
else False) := by kernel_rfl
theorem r_do2_18 (d x y m a b : Int) (K : XV → Prop) : (quietGo (TA2 2) 80 (callI (TA2 2) 80 20) 14 [.agg 5 [.int .i64 18, .int .i64 d, .int .i64 x, .int .i64 y, .int .i64 m], .int .u32 a, .int .u32 b] K) =
    (bif bif !rtB (18 : Int) d x y m then true else !!rtB (18 : Int) d x y m then
  bif bif bif !rtB (18 : Int) d x y m then true else false then true else !bif !rtB (18 : Int) d x y m then true else false then
    bif bif bif !rtB (18 : Int) d x y m then true else false then true else false then K (XV.tup [XV.int IntKind.u32 (0 : Int), XV.bool true])
    else
      bif decide ((0 : Int) ≤ a) then
        bif decide (a ≤ (4294967295 : Int)) then
          bif decide ((0 : Int) ≤ IntKind.wrap IntKind.u32 m) then
            bif decide (IntKind.wrap IntKind.u32 m ≤ (4294967295 : Int)) then K (XV.tup [XV.int IntKind.u32 (bitsI BinOp.and IntKind.u32 a (IntKind.wrap IntKind.u32 m)), XV.bool true]) else False
          else False
        else False
      else False
  else False
else False) := by kernel_rfl
theorem r_do2_19 (d x y m a b : Int) (K : XV → Prop) : (quietGo (TA2 2) 80 (callI (TA2 2) 80 20) 14 [.agg 5 [.int .i64 19, .int .i64 d, .int .i64 x, .int .i64 y, .int .i64 m], .int .u32 a, .int .u32 b] K) =
    (bif bif !rtB (19 : Int) d x y m then true else !!rtB (19 : Int) d x y m then
  bif bif bif !rtB (19 : Int) d x y m then true else false then true else !bif !rtB (19 : Int) d x y m then true else false then
    bif bif bif !rtB (19 : Int) d x y m then true else false then true else false then K (XV.tup [XV.int IntKind.u32 (0 : Int), XV.bool true])
    else
      bif decide ((0 : Int) ≤ a) then
        bif decide (a ≤ (4294967295 : Int)) then
          bif decide ((0 : Int) ≤ IntKind.wrap IntKind.u32 m) then
            bif decide (IntKind.wrap IntKind.u32 m ≤ (4294967295 : Int)) then K (XV.tup [XV.int IntKind.u32 (bitsI BinOp.or IntKind.u32 a (IntKind.wrap IntKind.u32 m)), XV.bool true]) else False
          else False
        else False
      else False
  else False
else False) := by kernel_rfl
theorem r_do2_20 (d x y m a b : Int) (K : XV → Prop) : (quietGo (TA2 2) 80 (callI (TA2 2) 80 20) 14 [.agg 5 [.int .i64 20, .int .i64 d, .int .i64 x, .int .i64 y, .int .i64 m], .int .u32 a, .int .u32 b] K) =
    (bif bif !rtB (20 : Int) d x y m then true else !!rtB (20 : Int) d x y m then
  bif bif bif !rtB (20 : Int) d x y m then true else false then true else !bif !rtB (20 : Int) d x y m then true else false then
    bif bif bif !rtB (20 : Int) d x y m then true else false then true else false then K (XV.tup [XV.int IntKind.u32 (0 : Int), XV.bool true])
    else
      bif decide ((0 : Int) ≤ a) then
        bif decide (a ≤ (4294967295 : Int)) then
          bif decide ((0 : Int) ≤ IntKind.wrap IntKind.u32 m) then
            bif decide (IntKind.wrap IntKind.u32 m ≤ (4294967295 : Int)) then K (XV.tup [XV.int IntKind.u32 (bitsI BinOp.xor IntKind.u32 a (IntKind.wrap IntKind.u32 m)), XV.bool true]) else False
          else False
        else False
      else False
  else False
else False) := by kernel_rfl
theorem r_do2_21 (d x y m a b : Int) (K : XV → Prop) : (quietGo (TA2 2) 80 (callI (TA2 2) 80 20) 14 [.agg 5 [.int .i64 21, .int .i64 d, .int .i64 x, .int .i64 y, .int .i64 m], .int .u32 a, .int .u32 b] K) =
    (bif bif !rtB (21 : Int) d x y m then true else !!rtB (21 : Int) d x y m then
  bif bif bif !rtB (21 : Int) d x y m then true else false then true else !bif !rtB (21 : Int) d x y m then true else false then
    bif bif bif !rtB (21 : Int) d x y m then true else false then true else false then K (XV.tup [XV.int IntKind.u32 (0 : Int), XV.bool true])
    else
      bif decide ((0 : Int) ≤ a) then
        bif decide (a ≤ (4294967295 : Int)) then
          bif decide ((0 : Int) ≤ IntKind.wrap IntKind.u32 m) then
            bif decide (IntKind.wrap IntKind.u32 m ≤ (4294967295 : Int)) then K (XV.tup [XV.int IntKind.u32 (oneI (decide (i32 a < i32 (IntKind.wrap IntKind.u32 m)))), XV.bool true]) else False
          else False
        else False
      else False
  else False
else False) := by kernel_rfl
theorem r_do2_22 (d x y m a b : Int) (K : XV → Prop) : (quietGo (TA2 2) 80 (callI (TA2 2) 80 20) 14 [.agg 5 [.int .i64 22, .int .i64 d, .int .i64 x, .int .i64 y, .int .i64 m], .int .u32 a, .int .u32 b] K) =
    (bif bif !rtB (22 : Int) d x y m then true else !!rtB (22 : Int) d x y m then
  bif bif bif !rtB (22 : Int) d x y m then true else false then true else !bif !rtB (22 : Int) d x y m then true else false then
    bif bif bif !rtB (22 : Int) d x y m then true else false then true else false then K (XV.tup [XV.int IntKind.u32 (0 : Int), XV.bool true])
    else
      bif decide ((0 : Int) ≤ a) then
        bif decide (a ≤ (4294967295 : Int)) then
          bif decide ((0 : Int) ≤ IntKind.wrap IntKind.u32 m) then
            bif decide (IntKind.wrap IntKind.u32 m ≤ (4294967295 : Int)) then
              K
                (XV.tup
                  [XV.int IntKind.u32 (IntKind.wrap IntKind.u32 (a * (2 : Int) ^ Nat.min (Int.toNat (bitsI BinOp.and IntKind.u32 (IntKind.wrap IntKind.u32 m) (31 : Int))) (32 : Nat))), XV.bool true])
            else False
          else False
        else False
      else False
  else False
else False) := by kernel_rfl
theorem r_do2_23 (d x y m a b : Int) (K : XV → Prop) : (quietGo (TA2 2) 80 (callI (TA2 2) 80 20) 14 [.agg 5 [.int .i64 23, .int .i64 d, .int .i64 x, .int .i64 y, .int .i64 m], .int .u32 a, .int .u32 b] K) =
    (bif bif !rtB (23 : Int) d x y m then true else !!rtB (23 : Int) d x y m then
  bif bif bif !rtB (23 : Int) d x y m then true else false then true else !bif !rtB (23 : Int) d x y m then true else false then
    bif bif bif !rtB (23 : Int) d x y m then true else false then true else false then K (XV.tup [XV.int IntKind.u32 (0 : Int), XV.bool true])
    else
      bif decide ((0 : Int) ≤ a) then
        bif decide (a ≤ (4294967295 : Int)) then
          bif decide ((0 : Int) ≤ IntKind.wrap IntKind.u32 m) then
            bif decide (IntKind.wrap IntKind.u32 m ≤ (4294967295 : Int)) then
              K (XV.tup [XV.int IntKind.u32 (Int.fdiv a ((2 : Int) ^ Nat.min (Int.toNat (bitsI BinOp.and IntKind.u32 (IntKind.wrap IntKind.u32 m) (31 : Int))) (32 : Nat))), XV.bool true])
            else False
          else False
        else False
      else False
  else False
else False) := by kernel_rfl
theorem r_do2_24 (d x y m a b : Int) (K : XV → Prop) : (quietGo (TA2 2) 80 (callI (TA2 2) 80 20) 14 [.agg 5 [.int .i64 24, .int .i64 d, .int .i64 x, .int .i64 y, .int .i64 m], .int .u32 a, .int .u32 b] K) =
    (bif bif !rtB (24 : Int) d x y m then true else !!rtB (24 : Int) d x y m then
  bif bif bif !rtB (24 : Int) d x y m then true else false then true else !bif !rtB (24 : Int) d x y m then true else false then
    bif bif bif !rtB (24 : Int) d x y m then true else false then true else false then K (XV.tup [XV.int IntKind.u32 (0 : Int), XV.bool true])
    else
      bif decide ((0 : Int) ≤ a) then
        bif decide (a ≤ (4294967295 : Int)) then
          bif decide ((0 : Int) ≤ IntKind.wrap IntKind.u32 m) then
            bif decide (IntKind.wrap IntKind.u32 m ≤ (4294967295 : Int)) then
              K
                (XV.tup
                  [XV.int IntKind.u32 (IntKind.wrap IntKind.u32 (Int.fdiv (i32 a) ((2 : Int) ^ Nat.min (Int.toNat (bitsI BinOp.and IntKind.u32 (IntKind.wrap IntKind.u32 m) (31 : Int))) (64 : Nat)))),
                    XV.bool true])
            else False
          else False
        else False
      else False
  else False
else False) := by kernel_rfl
theorem r_do2_25 (d x y m a b : Int) (K : XV → Prop) : (quietGo (TA2 3) 80 (callI (TA2 3) 80 20) 14 [.agg 5 [.int .i64 25, .int .i64 d, .int .i64 x, .int .i64 y, .int .i64 m], .int .u32 a, .int .u32 b] K) =
    (bif bif !rtB (25 : Int) d x y m then true else !!rtB (25 : Int) d x y m then
  bif bif bif !rtB (25 : Int) d x y m then true else false then true else !bif !rtB (25 : Int) d x y m then true else false then
    bif bif bif !rtB (25 : Int) d x y m then true else false then true else false then K (XV.tup [XV.int IntKind.u32 (0 : Int), XV.bool true])
    else
      bif decide ((0 : Int) ≤ a) then
        bif decide (a ≤ (4294967295 : Int)) then
          bif decide ((0 : Int) ≤ b) then
            bif decide (b ≤ (4294967295 : Int)) then K (XV.tup [XV.int IntKind.u32 (IntKind.wrap IntKind.u32 (IntKind.wrap IntKind.u32 m * (262144 : Int))), XV.bool true]) else False
          else False
        else False
      else False
  else False
else False) := by kernel_rfl
theorem r_dox2_0 (op d x y m a b : Int) (K : XV → Prop) : (quietGo (TA2 0) 80 (callI (TA2 0) 80 20) 14 [.agg 5 [.int .i64 op, .int .i64 d, .int .i64 x, .int .i64 y, .int .i64 m], .int .u32 a, .int .u32 b] K) =
    (bif decide (fmI op = (0 : Int)) then
  bif bif !rtB op d x y m then true else !!rtB op d x y m then
    bif bif bif !rtB op d x y m then true else true then true else !bif !rtB op d x y m then true else true then
      bif bif bif !rtB op d x y m then true else true then true else false then K (XV.tup [XV.int IntKind.u32 (0 : Int), XV.bool true])
      else
        bif decide ((0 : Int) ≤ a) then
          bif decide (a ≤ (4294967295 : Int)) then
            bif decide ((0 : Int) ≤ b) then
              bif decide (b ≤ (4294967295 : Int)) then
                bif decide (op = (1 : Int)) then K (XV.tup [XV.int IntKind.u32 (IntKind.wrap IntKind.u32 (a + b)), XV.bool true])
                else
                  bif decide (op = (2 : Int)) then K (XV.tup [XV.int IntKind.u32 (IntKind.wrap IntKind.u32 (a - b)), XV.bool true])
                  else
                    bif decide (op = (3 : Int)) then K (XV.tup [XV.int IntKind.u32 (bitsI BinOp.and IntKind.u32 a b), XV.bool true])
                    else
                      bif decide (op = (4 : Int)) then K (XV.tup [XV.int IntKind.u32 (bitsI BinOp.or IntKind.u32 a b), XV.bool true])
                      else
                        bif decide (op = (5 : Int)) then K (XV.tup [XV.int IntKind.u32 (bitsI BinOp.xor IntKind.u32 a b), XV.bool true])
                        else
                          bif decide (op = (6 : Int)) then
                            K (XV.tup [XV.int IntKind.u32 (IntKind.wrap IntKind.u32 (a * (2 : Int) ^ Nat.min (Int.toNat (bitsI BinOp.and IntKind.u32 b (31 : Int))) (32 : Nat))), XV.bool true])
                          else
                            bif decide (op = (7 : Int)) then
                              K (XV.tup [XV.int IntKind.u32 (Int.fdiv a ((2 : Int) ^ Nat.min (Int.toNat (bitsI BinOp.and IntKind.u32 b (31 : Int))) (32 : Nat))), XV.bool true])
                            else
                              bif decide (op = (8 : Int)) then
                                K
                                  (XV.tup
                                    [XV.int IntKind.u32 (IntKind.wrap IntKind.u32 (Int.fdiv (i32 a) ((2 : Int) ^ Nat.min (Int.toNat (bitsI BinOp.and IntKind.u32 b (31 : Int))) (64 : Nat)))),
                                      XV.bool true])
                              else
                                bif decide (op = (9 : Int)) then K (XV.tup [XV.int IntKind.u32 (oneI (decide (i32 a < i32 b))), XV.bool true])
                                else
                                  bif decide (op = (10 : Int)) then K (XV.tup [XV.int IntKind.u32 (oneI (decide (a < b))), XV.bool true])
                                  else
                                    bif decide (op = (11 : Int)) then K (XV.tup [XV.int IntKind.u32 (IntKind.wrap IntKind.u32 (IntKind.wrap IntKind.i64 (i32 a * i32 b))), XV.bool true])
                                    else
                                      bif decide (op = (12 : Int)) then
                                        K (XV.tup [XV.int IntKind.u32 (IntKind.wrap IntKind.u32 (Int.fdiv (IntKind.wrap IntKind.i64 (i32 a * i32 b)) (4294967296 : Int))), XV.bool true])
                                      else
                                        bif decide (op = (25 : Int)) then K (XV.tup [XV.int IntKind.u32 (IntKind.wrap IntKind.u32 (IntKind.wrap IntKind.u32 m * (262144 : Int))), XV.bool true])
                                        else
                                          bif decide (b = (0 : Int)) then K (XV.tup [XV.int IntKind.u32 (0 : Int), XV.bool false])
                                          else
                                            bif !decide (i32 b = (0 : Int)) then
                                              bif !decide (i32 b = (0 : Int)) then
                                                bif decide (op = (13 : Int)) then
                                                  K (XV.tup [XV.int IntKind.u32 (IntKind.wrap IntKind.u32 (IntKind.wrap IntKind.i64 (Int.tdiv (i32 a) (i32 b)))), XV.bool true])
                                                else
                                                  bif decide (op = (15 : Int)) then K (XV.tup [XV.int IntKind.u32 (IntKind.wrap IntKind.u32 (Int.tmod (i32 a) (i32 b))), XV.bool true])
                                                  else
                                                    bif decide (op = (14 : Int)) then
                                                      bif !decide (b = (0 : Int)) then K (XV.tup [XV.int IntKind.u32 (IntKind.wrap IntKind.u32 (Int.tdiv a b)), XV.bool true]) else False
                                                    else bif !decide (b = (0 : Int)) then K (XV.tup [XV.int IntKind.u32 (Int.tmod a b), XV.bool true]) else False
                                              else False
                                            else False
              else False
            else False
          else False
        else False
    else False
  else False
else False) := by kernel_rfl
theorem r_dox2_4 (op d x y m a b : Int) (K : XV → Prop) : (quietGo (TA2 4) 80 (callI (TA2 4) 80 20) 14 [.agg 5 [.int .i64 op, .int .i64 d, .int .i64 x, .int .i64 y, .int .i64 m], .int .u32 a, .int .u32 b] K) =
    (bif decide (fmI op = (4 : Int)) then
  bif bif !rtB op d x y m then true else !!rtB op d x y m then
    bif bif bif !rtB op d x y m then true else false then true else !bif !rtB op d x y m then true else false then
      bif bif bif !rtB op d x y m then true else false then true else true then K (XV.tup [XV.int IntKind.u32 (0 : Int), XV.bool true])
      else
        bif decide ((0 : Int) ≤ a) then
          bif decide (a ≤ (4294967295 : Int)) then
            bif decide ((0 : Int) ≤ b) then
              bif decide (b ≤ (4294967295 : Int)) then
                bif decide (op = (1 : Int)) then K (XV.tup [XV.int IntKind.u32 (IntKind.wrap IntKind.u32 (a + b)), XV.bool true])
                else
                  bif decide (op = (2 : Int)) then K (XV.tup [XV.int IntKind.u32 (IntKind.wrap IntKind.u32 (a - b)), XV.bool true])
                  else
                    bif decide (op = (3 : Int)) then K (XV.tup [XV.int IntKind.u32 (bitsI BinOp.and IntKind.u32 a b), XV.bool true])
                    else
                      bif decide (op = (4 : Int)) then K (XV.tup [XV.int IntKind.u32 (bitsI BinOp.or IntKind.u32 a b), XV.bool true])
                      else
                        bif decide (op = (5 : Int)) then K (XV.tup [XV.int IntKind.u32 (bitsI BinOp.xor IntKind.u32 a b), XV.bool true])
                        else
                          bif decide (op = (6 : Int)) then
                            K (XV.tup [XV.int IntKind.u32 (IntKind.wrap IntKind.u32 (a * (2 : Int) ^ Nat.min (Int.toNat (bitsI BinOp.and IntKind.u32 b (31 : Int))) (32 : Nat))), XV.bool true])
                          else
                            bif decide (op = (7 : Int)) then
                              K (XV.tup [XV.int IntKind.u32 (Int.fdiv a ((2 : Int) ^ Nat.min (Int.toNat (bitsI BinOp.and IntKind.u32 b (31 : Int))) (32 : Nat))), XV.bool true])
                            else
                              bif decide (op = (8 : Int)) then
                                K
                                  (XV.tup
                                    [XV.int IntKind.u32 (IntKind.wrap IntKind.u32 (Int.fdiv (i32 a) ((2 : Int) ^ Nat.min (Int.toNat (bitsI BinOp.and IntKind.u32 b (31 : Int))) (64 : Nat)))),
                                      XV.bool true])
                              else
                                bif decide (op = (9 : Int)) then K (XV.tup [XV.int IntKind.u32 (oneI (decide (i32 a < i32 b))), XV.bool true])
                                else
                                  bif decide (op = (10 : Int)) then K (XV.tup [XV.int IntKind.u32 (oneI (decide (a < b))), XV.bool true])
                                  else
                                    bif decide (op = (11 : Int)) then K (XV.tup [XV.int IntKind.u32 (IntKind.wrap IntKind.u32 (IntKind.wrap IntKind.i64 (i32 a * i32 b))), XV.bool true])
                                    else
                                      bif decide (op = (12 : Int)) then
                                        K (XV.tup [XV.int IntKind.u32 (IntKind.wrap IntKind.u32 (Int.fdiv (IntKind.wrap IntKind.i64 (i32 a * i32 b)) (4294967296 : Int))), XV.bool true])
                                      else
                                        bif decide (op = (25 : Int)) then K (XV.tup [XV.int IntKind.u32 (IntKind.wrap IntKind.u32 (IntKind.wrap IntKind.u32 m * (262144 : Int))), XV.bool true])
                                        else
                                          bif decide (b = (0 : Int)) then K (XV.tup [XV.int IntKind.u32 (0 : Int), XV.bool false])
                                          else
                                            bif !decide (i32 b = (0 : Int)) then
                                              bif !decide (i32 b = (0 : Int)) then
                                                bif decide (op = (13 : Int)) then
                                                  K (XV.tup [XV.int IntKind.u32 (IntKind.wrap IntKind.u32 (IntKind.wrap IntKind.i64 (Int.tdiv (i32 a) (i32 b)))), XV.bool true])
                                                else
                                                  bif decide (op = (15 : Int)) then K (XV.tup [XV.int IntKind.u32 (IntKind.wrap IntKind.u32 (Int.tmod (i32 a) (i32 b))), XV.bool true])
                                                  else
                                                    bif decide (op = (14 : Int)) then
                                                      bif !decide (b = (0 : Int)) then K (XV.tup [XV.int IntKind.u32 (IntKind.wrap IntKind.u32 (Int.tdiv a b)), XV.bool true]) else False
                                                    else bif !decide (b = (0 : Int)) then K (XV.tup [XV.int IntKind.u32 (Int.tmod a b), XV.bool true]) else False
                                              else False
                                            else False
              else False
            else False
          else False
        else False
    else False
  else False
else False) := by kernel_rfl
theorem r_dox2_5 (op d x y m a b : Int) (K : XV → Prop) : (quietGo (TA2 5) 80 (callI (TA2 5) 80 20) 14 [.agg 5 [.int .i64 op, .int .i64 d, .int .i64 x, .int .i64 y, .int .i64 m], .int .u32 a, .int .u32 b] K) =
    (bif decide (fmI op = (5 : Int)) then
  bif bif !rtB op d x y m then true else !!rtB op d x y m then
    bif bif bif !rtB op d x y m then true else false then true else !bif !rtB op d x y m then true else false then
      bif bif bif !rtB op d x y m then true else false then true else true then K (XV.tup [XV.int IntKind.u32 (0 : Int), XV.bool true])
      else
        bif decide ((0 : Int) ≤ a) then
          bif decide (a ≤ (4294967295 : Int)) then
            bif decide ((0 : Int) ≤ b) then
              bif decide (b ≤ (4294967295 : Int)) then
                bif decide (op = (1 : Int)) then K (XV.tup [XV.int IntKind.u32 (IntKind.wrap IntKind.u32 (a + b)), XV.bool true])
                else
                  bif decide (op = (2 : Int)) then K (XV.tup [XV.int IntKind.u32 (IntKind.wrap IntKind.u32 (a - b)), XV.bool true])
                  else
                    bif decide (op = (3 : Int)) then K (XV.tup [XV.int IntKind.u32 (bitsI BinOp.and IntKind.u32 a b), XV.bool true])
                    else
                      bif decide (op = (4 : Int)) then K (XV.tup [XV.int IntKind.u32 (bitsI BinOp.or IntKind.u32 a b), XV.bool true])
                      else
                        bif decide (op = (5 : Int)) then K (XV.tup [XV.int IntKind.u32 (bitsI BinOp.xor IntKind.u32 a b), XV.bool true])
                        else
                          bif decide (op = (6 : Int)) then
                            K (XV.tup [XV.int IntKind.u32 (IntKind.wrap IntKind.u32 (a * (2 : Int) ^ Nat.min (Int.toNat (bitsI BinOp.and IntKind.u32 b (31 : Int))) (32 : Nat))), XV.bool true])
                          else
                            bif decide (op = (7 : Int)) then
                              K (XV.tup [XV.int IntKind.u32 (Int.fdiv a ((2 : Int) ^ Nat.min (Int.toNat (bitsI BinOp.and IntKind.u32 b (31 : Int))) (32 : Nat))), XV.bool true])
                            else
                              bif decide (op = (8 : Int)) then
                                K
                                  (XV.tup
                                    [XV.int IntKind.u32 (IntKind.wrap IntKind.u32 (Int.fdiv (i32 a) ((2 : Int) ^ Nat.min (Int.toNat (bitsI BinOp.and IntKind.u32 b (31 : Int))) (64 : Nat)))),
                                      XV.bool true])
                              else
                                bif decide (op = (9 : Int)) then K (XV.tup [XV.int IntKind.u32 (oneI (decide (i32 a < i32 b))), XV.bool true])
                                else
                                  bif decide (op = (10 : Int)) then K (XV.tup [XV.int IntKind.u32 (oneI (decide (a < b))), XV.bool true])
                                  else
                                    bif decide (op = (11 : Int)) then K (XV.tup [XV.int IntKind.u32 (IntKind.wrap IntKind.u32 (IntKind.wrap IntKind.i64 (i32 a * i32 b))), XV.bool true])
                                    else
                                      bif decide (op = (12 : Int)) then
                                        K (XV.tup [XV.int IntKind.u32 (IntKind.wrap IntKind.u32 (Int.fdiv (IntKind.wrap IntKind.i64 (i32 a * i32 b)) (4294967296 : Int))), XV.bool true])
                                      else
                                        bif decide (op = (25 : Int)) then K (XV.tup [XV.int IntKind.u32 (IntKind.wrap IntKind.u32 (IntKind.wrap IntKind.u32 m * (262144 : Int))), XV.bool true])
                                        else
                                          bif decide (b = (0 : Int)) then K (XV.tup [XV.int IntKind.u32 (0 : Int), XV.bool false])
                                          else
                                            bif !decide (i32 b = (0 : Int)) then
                                              bif !decide (i32 b = (0 : Int)) then
                                                bif decide (op = (13 : Int)) then
                                                  K (XV.tup [XV.int IntKind.u32 (IntKind.wrap IntKind.u32 (IntKind.wrap IntKind.i64 (Int.tdiv (i32 a) (i32 b)))), XV.bool true])
                                                else
                                                  bif decide (op = (15 : Int)) then K (XV.tup [XV.int IntKind.u32 (IntKind.wrap IntKind.u32 (Int.tmod (i32 a) (i32 b))), XV.bool true])
                                                  else
                                                    bif decide (op = (14 : Int)) then
                                                      bif !decide (b = (0 : Int)) then K (XV.tup [XV.int IntKind.u32 (IntKind.wrap IntKind.u32 (Int.tdiv a b)), XV.bool true]) else False
                                                    else bif !decide (b = (0 : Int)) then K (XV.tup [XV.int IntKind.u32 (Int.tmod a b), XV.bool true]) else False
                                              else False
                                            else False
              else False
            else False
          else False
        else False
    else False
  else False
else False) := by kernel_rfl
theorem r_dox2_6 (op d x y m a b : Int) (K : XV → Prop) : (quietGo (TA2 6) 80 (callI (TA2 6) 80 20) 14 [.agg 5 [.int .i64 op, .int .i64 d, .int .i64 x, .int .i64 y, .int .i64 m], .int .u32 a, .int .u32 b] K) =
    (bif decide (fmI op = (6 : Int)) then
  bif bif !rtB op d x y m then true else !!rtB op d x y m then
    bif bif bif !rtB op d x y m then true else false then true else !bif !rtB op d x y m then true else false then
      bif bif bif !rtB op d x y m then true else false then true else true then K (XV.tup [XV.int IntKind.u32 (0 : Int), XV.bool true])
      else
        bif decide ((0 : Int) ≤ a) then
          bif decide (a ≤ (4294967295 : Int)) then
            bif decide ((0 : Int) ≤ b) then
              bif decide (b ≤ (4294967295 : Int)) then
                bif decide (op = (1 : Int)) then K (XV.tup [XV.int IntKind.u32 (IntKind.wrap IntKind.u32 (a + b)), XV.bool true])
                else
                  bif decide (op = (2 : Int)) then K (XV.tup [XV.int IntKind.u32 (IntKind.wrap IntKind.u32 (a - b)), XV.bool true])
                  else
                    bif decide (op = (3 : Int)) then K (XV.tup [XV.int IntKind.u32 (bitsI BinOp.and IntKind.u32 a b), XV.bool true])
                    else
                      bif decide (op = (4 : Int)) then K (XV.tup [XV.int IntKind.u32 (bitsI BinOp.or IntKind.u32 a b), XV.bool true])
                      else
                        bif decide (op = (5 : Int)) then K (XV.tup [XV.int IntKind.u32 (bitsI BinOp.xor IntKind.u32 a b), XV.bool true])
                        else
                          bif decide (op = (6 : Int)) then
                            K (XV.tup [XV.int IntKind.u32 (IntKind.wrap IntKind.u32 (a * (2 : Int) ^ Nat.min (Int.toNat (bitsI BinOp.and IntKind.u32 b (31 : Int))) (32 : Nat))), XV.bool true])
                          else
                            bif decide (op = (7 : Int)) then
                              K (XV.tup [XV.int IntKind.u32 (Int.fdiv a ((2 : Int) ^ Nat.min (Int.toNat (bitsI BinOp.and IntKind.u32 b (31 : Int))) (32 : Nat))), XV.bool true])
                            else
                              bif decide (op = (8 : Int)) then
                                K
                                  (XV.tup
                                    [XV.int IntKind.u32 (IntKind.wrap IntKind.u32 (Int.fdiv (i32 a) ((2 : Int) ^ Nat.min (Int.toNat (bitsI BinOp.and IntKind.u32 b (31 : Int))) (64 : Nat)))),
                                      XV.bool true])
                              else
                                bif decide (op = (9 : Int)) then K (XV.tup [XV.int IntKind.u32 (oneI (decide (i32 a < i32 b))), XV.bool true])
                                else
                                  bif decide (op = (10 : Int)) then K (XV.tup [XV.int IntKind.u32 (oneI (decide (a < b))), XV.bool true])
                                  else
                                    bif decide (op = (11 : Int)) then K (XV.tup [XV.int IntKind.u32 (IntKind.wrap IntKind.u32 (IntKind.wrap IntKind.i64 (i32 a * i32 b))), XV.bool true])
                                    else
                                      bif decide (op = (12 : Int)) then
                                        K (XV.tup [XV.int IntKind.u32 (IntKind.wrap IntKind.u32 (Int.fdiv (IntKind.wrap IntKind.i64 (i32 a * i32 b)) (4294967296 : Int))), XV.bool true])
                                      else
                                        bif decide (op = (25 : Int)) then K (XV.tup [XV.int IntKind.u32 (IntKind.wrap IntKind.u32 (IntKind.wrap IntKind.u32 m * (262144 : Int))), XV.bool true])
                                        else
                                          bif decide (b = (0 : Int)) then K (XV.tup [XV.int IntKind.u32 (0 : Int), XV.bool false])
                                          else
                                            bif !decide (i32 b = (0 : Int)) then
                                              bif !decide (i32 b = (0 : Int)) then
                                                bif decide (op = (13 : Int)) then
                                                  K (XV.tup [XV.int IntKind.u32 (IntKind.wrap IntKind.u32 (IntKind.wrap IntKind.i64 (Int.tdiv (i32 a) (i32 b)))), XV.bool true])
                                                else
                                                  bif decide (op = (15 : Int)) then K (XV.tup [XV.int IntKind.u32 (IntKind.wrap IntKind.u32 (Int.tmod (i32 a) (i32 b))), XV.bool true])
                                                  else
                                                    bif decide (op = (14 : Int)) then
                                                      bif !decide (b = (0 : Int)) then K (XV.tup [XV.int IntKind.u32 (IntKind.wrap IntKind.u32 (Int.tdiv a b)), XV.bool true]) else False
                                                    else bif !decide (b = (0 : Int)) then K (XV.tup [XV.int IntKind.u32 (Int.tmod a b), XV.bool true]) else False
                                              else False
                                            else False
              else False
            else False
          else False
        else False
    else False
  else False
else False) := by kernel_rfl
theorem r_dox2_7 (op d x y m a b : Int) (K : XV → Prop) : (quietGo (TA2 7) 80 (callI (TA2 7) 80 20) 14 [.agg 5 [.int .i64 op, .int .i64 d, .int .i64 x, .int .i64 y, .int .i64 m], .int .u32 a, .int .u32 b] K) =
    (bif decide (fmI op = (7 : Int)) then
  bif bif !rtB op d x y m then true else !!rtB op d x y m then
    bif bif bif !rtB op d x y m then true else false then true else !bif !rtB op d x y m then true else false then
      bif bif bif !rtB op d x y m then true else false then true else true then K (XV.tup [XV.int IntKind.u32 (0 : Int), XV.bool true])
      else
        bif decide ((0 : Int) ≤ a) then
          bif decide (a ≤ (4294967295 : Int)) then
            bif decide ((0 : Int) ≤ b) then
              bif decide (b ≤ (4294967295 : Int)) then
                bif decide (op = (1 : Int)) then K (XV.tup [XV.int IntKind.u32 (IntKind.wrap IntKind.u32 (a + b)), XV.bool true])
                else
                  bif decide (op = (2 : Int)) then K (XV.tup [XV.int IntKind.u32 (IntKind.wrap IntKind.u32 (a - b)), XV.bool true])
                  else
                    bif decide (op = (3 : Int)) then K (XV.tup [XV.int IntKind.u32 (bitsI BinOp.and IntKind.u32 a b), XV.bool true])
                    else
                      bif decide (op = (4 : Int)) then K (XV.tup [XV.int IntKind.u32 (bitsI BinOp.or IntKind.u32 a b), XV.bool true])
                      else
                        bif decide (op = (5 : Int)) then K (XV.tup [XV.int IntKind.u32 (bitsI BinOp.xor IntKind.u32 a b), XV.bool true])
                        else
                          bif decide (op = (6 : Int)) then
                            K (XV.tup [XV.int IntKind.u32 (IntKind.wrap IntKind.u32 (a * (2 : Int) ^ Nat.min (Int.toNat (bitsI BinOp.and IntKind.u32 b (31 : Int))) (32 : Nat))), XV.bool true])
                          else
                            bif decide (op = (7 : Int)) then
                              K (XV.tup [XV.int IntKind.u32 (Int.fdiv a ((2 : Int) ^ Nat.min (Int.toNat (bitsI BinOp.and IntKind.u32 b (31 : Int))) (32 : Nat))), XV.bool true])
                            else
                              bif decide (op = (8 : Int)) then
                                K
                                  (XV.tup
                                    [XV.int IntKind.u32 (IntKind.wrap IntKind.u32 (Int.fdiv (i32 a) ((2 : Int) ^ Nat.min (Int.toNat (bitsI BinOp.and IntKind.u32 b (31 : Int))) (64 : Nat)))),
                                      XV.bool true])
                              else
                                bif decide (op = (9 : Int)) then K (XV.tup [XV.int IntKind.u32 (oneI (decide (i32 a < i32 b))), XV.bool true])
                                else
                                  bif decide (op = (10 : Int)) then K (XV.tup [XV.int IntKind.u32 (oneI (decide (a < b))), XV.bool true])
                                  else
                                    bif decide (op = (11 : Int)) then K (XV.tup [XV.int IntKind.u32 (IntKind.wrap IntKind.u32 (IntKind.wrap IntKind.i64 (i32 a * i32 b))), XV.bool true])
                                    else
                                      bif decide (op = (12 : Int)) then
                                        K (XV.tup [XV.int IntKind.u32 (IntKind.wrap IntKind.u32 (Int.fdiv (IntKind.wrap IntKind.i64 (i32 a * i32 b)) (4294967296 : Int))), XV.bool true])
                                      else
                                        bif decide (op = (25 : Int)) then K (XV.tup [XV.int IntKind.u32 (IntKind.wrap IntKind.u32 (IntKind.wrap IntKind.u32 m * (262144 : Int))), XV.bool true])
                                        else
                                          bif decide (b = (0 : Int)) then K (XV.tup [XV.int IntKind.u32 (0 : Int), XV.bool false])
                                          else
                                            bif !decide (i32 b = (0 : Int)) then
                                              bif !decide (i32 b = (0 : Int)) then
                                                bif decide (op = (13 : Int)) then
                                                  K (XV.tup [XV.int IntKind.u32 (IntKind.wrap IntKind.u32 (IntKind.wrap IntKind.i64 (Int.tdiv (i32 a) (i32 b)))), XV.bool true])
                                                else
                                                  bif decide (op = (15 : Int)) then K (XV.tup [XV.int IntKind.u32 (IntKind.wrap IntKind.u32 (Int.tmod (i32 a) (i32 b))), XV.bool true])
                                                  else
                                                    bif decide (op = (14 : Int)) then
                                                      bif !decide (b = (0 : Int)) then K (XV.tup [XV.int IntKind.u32 (IntKind.wrap IntKind.u32 (Int.tdiv a b)), XV.bool true]) else False
                                                    else bif !decide (b = (0 : Int)) then K (XV.tup [XV.int IntKind.u32 (Int.tmod a b), XV.bool true]) else False
                                              else False
                                            else False
              else False
            else False
          else False
        else False
    else False
  else False
else False) := by kernel_rfl
theorem r_dox2_8 (op d x y m a b : Int) (K : XV → Prop) : (quietGo (TA2 8) 80 (callI (TA2 8) 80 20) 14 [.agg 5 [.int .i64 op, .int .i64 d, .int .i64 x, .int .i64 y, .int .i64 m], .int .u32 a, .int .u32 b] K) =
    (bif decide (fmI op = (8 : Int)) then
  bif bif !rtB op d x y m then true else !!rtB op d x y m then
    bif bif bif !rtB op d x y m then true else false then true else !bif !rtB op d x y m then true else false then
      bif bif bif !rtB op d x y m then true else false then true else true then K (XV.tup [XV.int IntKind.u32 (0 : Int), XV.bool true])
      else
        bif decide ((0 : Int) ≤ a) then
          bif decide (a ≤ (4294967295 : Int)) then
            bif decide ((0 : Int) ≤ b) then
              bif decide (b ≤ (4294967295 : Int)) then
                bif decide (op = (1 : Int)) then K (XV.tup [XV.int IntKind.u32 (IntKind.wrap IntKind.u32 (a + b)), XV.bool true])
                else
                  bif decide (op = (2 : Int)) then K (XV.tup [XV.int IntKind.u32 (IntKind.wrap IntKind.u32 (a - b)), XV.bool true])
                  else
                    bif decide (op = (3 : Int)) then K (XV.tup [XV.int IntKind.u32 (bitsI BinOp.and IntKind.u32 a b), XV.bool true])
                    else
                      bif decide (op = (4 : Int)) then K (XV.tup [XV.int IntKind.u32 (bitsI BinOp.or IntKind.u32 a b), XV.bool true])
                      else
                        bif decide (op = (5 : Int)) then K (XV.tup [XV.int IntKind.u32 (bitsI BinOp.xor IntKind.u32 a b), XV.bool true])
                        else
                          bif decide (op = (6 : Int)) then
                            K (XV.tup [XV.int IntKind.u32 (IntKind.wrap IntKind.u32 (a * (2 : Int) ^ Nat.min (Int.toNat (bitsI BinOp.and IntKind.u32 b (31 : Int))) (32 : Nat))), XV.bool true])
                          else
                            bif decide (op = (7 : Int)) then
                              K (XV.tup [XV.int IntKind.u32 (Int.fdiv a ((2 : Int) ^ Nat.min (Int.toNat (bitsI BinOp.and IntKind.u32 b (31 : Int))) (32 : Nat))), XV.bool true])
                            else
                              bif decide (op = (8 : Int)) then
                                K
                                  (XV.tup
                                    [XV.int IntKind.u32 (IntKind.wrap IntKind.u32 (Int.fdiv (i32 a) ((2 : Int) ^ Nat.min (Int.toNat (bitsI BinOp.and IntKind.u32 b (31 : Int))) (64 : Nat)))),
                                      XV.bool true])
                              else
                                bif decide (op = (9 : Int)) then K (XV.tup [XV.int IntKind.u32 (oneI (decide (i32 a < i32 b))), XV.bool true])
                                else
                                  bif decide (op = (10 : Int)) then K (XV.tup [XV.int IntKind.u32 (oneI (decide (a < b))), XV.bool true])
                                  else
                                    bif decide (op = (11 : Int)) then K (XV.tup [XV.int IntKind.u32 (IntKind.wrap IntKind.u32 (IntKind.wrap IntKind.i64 (i32 a * i32 b))), XV.bool true])
                                    else
                                      bif decide (op = (12 : Int)) then
                                        K (XV.tup [XV.int IntKind.u32 (IntKind.wrap IntKind.u32 (Int.fdiv (IntKind.wrap IntKind.i64 (i32 a * i32 b)) (4294967296 : Int))), XV.bool true])
                                      else
                                        bif decide (op = (25 : Int)) then K (XV.tup [XV.int IntKind.u32 (IntKind.wrap IntKind.u32 (IntKind.wrap IntKind.u32 m * (262144 : Int))), XV.bool true])
                                        else
                                          bif decide (b = (0 : Int)) then K (XV.tup [XV.int IntKind.u32 (0 : Int), XV.bool false])
                                          else
                                            bif !decide (i32 b = (0 : Int)) then
                                              bif !decide (i32 b = (0 : Int)) then
                                                bif decide (op = (13 : Int)) then
                                                  K (XV.tup [XV.int IntKind.u32 (IntKind.wrap IntKind.u32 (IntKind.wrap IntKind.i64 (Int.tdiv (i32 a) (i32 b)))), XV.bool true])
                                                else
                                                  bif decide (op = (15 : Int)) then K (XV.tup [XV.int IntKind.u32 (IntKind.wrap IntKind.u32 (Int.tmod (i32 a) (i32 b))), XV.bool true])
                                                  else
                                                    bif decide (op = (14 : Int)) then
                                                      bif !decide (b = (0 : Int)) then K (XV.tup [XV.int IntKind.u32 (IntKind.wrap IntKind.u32 (Int.tdiv a b)), XV.bool true]) else False
                                                    else bif !decide (b = (0 : Int)) then K (XV.tup [XV.int IntKind.u32 (Int.tmod a b), XV.bool true]) else False
                                              else False
                                            else False
              else False
            else False
          else False
        else False
    else False
  else False
else False) := by kernel_rfl
theorem i32_rng (a : Int) : -2147483648 ≤ IntKind.i32.wrap a ∧ IntKind.i32.wrap a ≤ 2147483647 := by rw [wI32]; omega
theorem mul_rng {x y : Int} (hx : -2147483648 ≤ x ∧ x ≤ 2147483647) (hy : -2147483648 ≤ y ∧ y ≤ 2147483647) : -4611686018427387904 ≤ x * y ∧ x * y ≤ 4611686018427387904 := by
  have h1 : x.natAbs ≤ 2147483648 := by omega
  have h2 : y.natAbs ≤ 2147483648 := by omega
  have h3 : (x * y).natAbs ≤ 2147483648 * 2147483648 := by rw [Int.natAbs_mul]; exact Nat.mul_le_mul h1 h2
  omega
theorem w32w64 (n : Int) : IntKind.u32.wrap (IntKind.i64.wrap n) = n % 4294967296 := by rw [wI64, wU32]; omega
theorem w32i32 (n : Int) : IntKind.u32.wrap (IntKind.i32.wrap n) = n % 4294967296 := by rw [wI32, wU32]; omega
theorem w64i32 (n : Int) : IntKind.i64.wrap (IntKind.i32.wrap n) = IntKind.i32.wrap n := by have := i32_rng n; exact wrap_i64 (by omega) (by omega)
theorem i32_mod (a : Int) : IntKind.i32.wrap a % 4294967296 = a % 4294967296 := by rw [wI32]; omega
theorem mul_mod (a b : Int) : (IntKind.i32.wrap a * IntKind.i32.wrap b) % 4294967296 = (a * b) % 4294967296 := by
  rw [Int.mul_emod, i32_mod, i32_mod, ← Int.mul_emod]
theorem w64mul (a b : Int) : IntKind.i64.wrap (IntKind.i32.wrap a * IntKind.i32.wrap b) = IntKind.i32.wrap a * IntKind.i32.wrap b := by
  have := mul_rng (i32_rng a) (i32_rng b)
  exact wrap_i64 (by omega) (by omega)
theorem and31 {b : Int} (h2 : 0 ≤ b) (h3 : b ≤ 4294967295) : bitsI .and .u32 b 31 = b % 32 := by
  obtain ⟨B, rfl⟩ := Int.eq_ofNat_of_zero_le h2
  have e := bAnd (A := B) (B := 31) (by omega) (by omega)
  have h : B &&& 31 = B % 32 := Nat.and_two_pow_sub_one_eq_mod B 5
  rw [h] at e
  exact e
theorem shA {b : Int} (h2 : 0 ≤ b) (h3 : b ≤ 4294967295) : Nat.min (Int.toNat (bitsI .and .u32 b 31)) 32 = (b % 32).toNat := by
  rw [and31 h2 h3]
  exact Nat.min_eq_left (by omega)
theorem shB {b : Int} (h2 : 0 ≤ b) (h3 : b ≤ 4294967295) : Nat.min (Int.toNat (bitsI .and .u32 b 31)) 64 = (b % 32).toNat := by
  rw [and31 h2 h3]
  exact Nat.min_eq_left (by omega)
theorem fdivP (a : Int) (k : Nat) : Int.fdiv a (2 ^ k) = a / 2 ^ k := Int.fdiv_eq_ediv_of_nonneg a (Int.pow_nonneg (by omega))
theorem fdivQ (a : Int) : Int.fdiv a 4294967296 = a / 4294967296 := Int.fdiv_eq_ediv_of_nonneg a (by omega)
theorem or0 {a : Int} (h0 : 0 ≤ a) (h1 : a ≤ 4294967295) : bitsI .or .u64 0 (IntKind.u64.wrap a) = a := by
  obtain ⟨A, rfl⟩ := Int.eq_ofNat_of_zero_le h0
  have e1 : IntKind.u64.wrap (A : Int) = (A : Int) := by rw [wU64]; omega
  rw [e1]
  show IntKind.u64.wrap (((BitVec.ofInt 64 0) ||| (BitVec.ofInt 64 (A : Int))).toNat : Int) = _
  have e2 : (BitVec.ofInt 64 (A : Int)).toNat = A := by rw [BitVec.toNat_ofInt]; omega
  have e3 : (BitVec.ofInt 64 0).toNat = 0 := rfl
  rw [BitVec.toNat_or, e2, e3, Nat.zero_or, wU64]
  omega
theorem tdiv_rng {x y : Int} (hx : -2147483648 ≤ x ∧ x ≤ 2147483647) : -2147483648 ≤ Int.tdiv x y ∧ Int.tdiv x y ≤ 2147483648 := by
  have h : (Int.tdiv x y).natAbs = x.natAbs / y.natAbs := Int.natAbs_tdiv x y
  have h2 : x.natAbs / y.natAbs ≤ x.natAbs := Nat.div_le_self _ _
  omega
theorem tmod_rng {x y : Int} (hx : -2147483648 ≤ x ∧ x ≤ 2147483647) : -2147483648 ≤ Int.tmod x y ∧ Int.tmod x y ≤ 2147483648 := by
  have h : (Int.tmod x y).natAbs = x.natAbs % y.natAbs := Int.natAbs_tmod x y
  have h2 : x.natAbs % y.natAbs ≤ x.natAbs := Nat.mod_le _ _
  omega
theorem i32_0 {b : Int} (h2 : 0 ≤ b) (h3 : b ≤ 4294967295) : IntKind.i32.wrap b = 0 ↔ b = 0 := by rw [wI32]; omega
theorem udiv_rng {a b : Int} (h0 : 0 ≤ a) (h1 : a ≤ 4294967295) (h2 : 0 ≤ b) : 0 ≤ a / b ∧ a / b ≤ 4294967295 := by
  have := Int.ediv_le_self b h0
  have := Int.ediv_nonneg h0 h2
  omega
theorem umod_rng {a b : Int} (h0 : 0 ≤ a) (h1 : a ≤ 4294967295) (h2 : 0 < b) (h3 : b ≤ 4294967295) : 0 ≤ a % b ∧ a % b ≤ 4294967295 := by
  have := Int.emod_lt_of_pos a h2
  have := Int.emod_nonneg a (show b ≠ 0 by omega)
  omega
theorem int_ref {a : Int} (h0 : 0 ≤ a) (h1 : a ≤ 4294967295) : Pure Try.prog 21 (cons [.int .u32 a]) (con (.int .i64 (i32 a))) := by
  refine pureX (u := 80) (k := 20) mix TA0ok ?_
  rw [r_int]
  have e1 : IntKind.i64.wrap a = a := wrap_i64 (by omega) (by omega)
  have e2 : IntKind.i64.wrap (a - 4294967296) = a - 4294967296 := wrap_i64 (by omega) (by omega)
  rw [e1, e2]
  unfold i32
  rw [wI32]
  by_cases h : a ≥ 2147483648
  · rw [decide_eq_true h]; exact conI (by omega)
  · rw [decide_eq_false h]; exact conI (by omega)
theorem sp_int : SpOk Try.prog (21, intSp) := fun args nd v h hn => by
  simp only [intSp] at h
  split at h
  · simp only [Option.some.injEq, Prod.mk.injEq] at h
    obtain ⟨rfl, rfl⟩ := h
    simp only [allT_cons, decide_eq_true_eq] at hn
    exact int_ref hn.1 hn.2.1
  · cases h
theorem right1 (op d x y m : Int) : Pure Try.prog 25 (cons [.agg 5 [.int .i64 op, .int .i64 d, .int .i64 x, .int .i64 y, .int .i64 m]]) (con (.bool (rtB op d x y m))) := by
  rcases fm_in op with h | h | h | h | h | h | h | h | h
  · exact rt1_0 op d x y m h
  · exact rt1_1 op d x y m h
  · exact rt1_2 op d x y m h
  · exact rt1_3 op d x y m h
  · exact rt1_4 op d x y m h
  · exact rt1_5 op d x y m h
  · exact rt1_6 op d x y m h
  · exact rt1_7 op d x y m h
  · exact rt1_8 op d x y m h
theorem right2 (op d x y m : Int) : Pure Try.prog 23 (cons [.agg 5 [.int .i64 op, .int .i64 d, .int .i64 x, .int .i64 y, .int .i64 m]]) (con (.bool (rtB op d x y m))) := by
  rcases fm_in op with h | h | h | h | h | h | h | h | h
  · exact rt2_0 op d x y m h
  · exact rt2_1 op d x y m h
  · exact rt2_2 op d x y m h
  · exact rt2_3 op d x y m h
  · exact rt2_4 op d x y m h
  · exact rt2_5 op d x y m h
  · exact rt2_6 op d x y m h
  · exact rt2_7 op d x y m h
  · exact rt2_8 op d x y m h
theorem sp_right1 : SpOk Try.prog (25, rtSp) := fun args nd v h hn => by
  simp only [rtSp] at h
  split at h
  · simp only [Option.some.injEq, Prod.mk.injEq] at h
    obtain ⟨rfl, rfl⟩ := h
    exact right1 _ _ _ _ _
  · cases h
theorem sp_right2 : SpOk Try.prog (23, rtSp) := fun args nd v h hn => by
  simp only [rtSp] at h
  split at h
  · simp only [Option.some.injEq, Prod.mk.injEq] at h
    obtain ⟨rfl, rfl⟩ := h
    exact right2 _ _ _ _ _
  · cases h
theorem TA2ok (f : Int) : TabOk Try.prog (TA2 f) := mkT_ok ((((clok_alu.app clok_isa).app clok_word).app clok_ref1).app clok_math) ⟨sp_formF1 f, sp_formF2 f, sp_right1, sp_right2, sp_one1, sp_one2, sp_int, trivial⟩ trivial
theorem fm1 {op : Int} (h : fmI op = 1) : 1 ≤ op ∧ op ≤ 16 := by unfold fmI at h; repeat' split at h; all_goals omega
theorem fm2 {op : Int} (h : fmI op = 2) : 17 ≤ op ∧ op ≤ 24 := by unfold fmI at h; repeat' split at h; all_goals omega
theorem fm3 {op : Int} (h : fmI op = 3) : op = 25 := by unfold fmI at h; repeat' split at h; all_goals omega
theorem fm4 {op : Int} (h : fmI op > 3) : op < 1 ∨ 25 < op := by unfold fmI at h; repeat' split at h; all_goals omega
theorem do_no {op d x y m a b : Int} (h : rtB op d x y m = false ∨ fmI op > 3) : doI op d x y m a b = 0 := by
  unfold doI
  rw [if_pos h]
theorem dk_no {op d x y m b : Int} (h : rtB op d x y m = false ∨ fmI op > 3) : dkB op d x y m b = true := by
  unfold dkB
  rw [if_pos h]
theorem do1_1 {d x y m a b : Int} (h0 : 0 ≤ a) (h1 : a ≤ 4294967295) (h2 : 0 ≤ b) (h3 : b ≤ 4294967295) : Pure Try.prog 13 (cons [.agg 5 [.int .i64 1, .int .i64 d, .int .i64 x, .int .i64 y, .int .i64 m], .int .u32 a, .int .u32 b]) (con (.tup [.int .u32 (doI 1 d x y m a b), .bool (dkB 1 d x y m b)])) := by
  refine pureX (u := 80) (k := 20) mix (TA2ok 1) ?_
  rw [r_do1_1]
  have m0 : 0 ≤ IntKind.u32.wrap m := by rw [wU32]; omega
  have m1 : IntKind.u32.wrap m ≤ 4294967295 := by rw [wU32]; omega
  cases hr : rtB 1 d x y m with
  | false =>
    rw [do_no (.inl hr), dk_no (.inl hr)]
    simp only [hr, h0, h1, h2, h3, m0, m1, decide_true, decide_false, cond_true, cond_false, pk_and, pk_or, pk3, pk4, Bool.not_true, Bool.not_false]
  | true =>
    have e1 : doI 1 d x y m a b = alW 1 a b := by
      unfold doI
      rw [hr, if_neg (by decide)]
      rfl
    have e2 : dkB 1 d x y m b = true := by
      unfold dkB
      rw [hr, if_neg (by decide)]
      simp
    rw [e1, e2]
    simp only [hr, h0, h1, h2, h3, m0, m1, decide_true, decide_false, cond_true, cond_false, pk_and, pk_or, pk3, pk4, Bool.not_true, Bool.not_false]
    refine conT2 (conI ?_) rfl
    simp only [alW, i32, shA h2 h3, shB h2 h3, shA m0 m1, shB m0 m1, fdivP, fdivQ, w32w64, w64i32, w64mul, mul_mod, if_true, if_false, Int.reduceEq]
    try rw [wU32, mul_mod]
    try rfl
theorem do1_2 {d x y m a b : Int} (h0 : 0 ≤ a) (h1 : a ≤ 4294967295) (h2 : 0 ≤ b) (h3 : b ≤ 4294967295) : Pure Try.prog 13 (cons [.agg 5 [.int .i64 2, .int .i64 d, .int .i64 x, .int .i64 y, .int .i64 m], .int .u32 a, .int .u32 b]) (con (.tup [.int .u32 (doI 2 d x y m a b), .bool (dkB 2 d x y m b)])) := by
  refine pureX (u := 80) (k := 20) mix (TA2ok 1) ?_
  rw [r_do1_2]
  have m0 : 0 ≤ IntKind.u32.wrap m := by rw [wU32]; omega
  have m1 : IntKind.u32.wrap m ≤ 4294967295 := by rw [wU32]; omega
  cases hr : rtB 2 d x y m with
  | false =>
    rw [do_no (.inl hr), dk_no (.inl hr)]
    simp only [hr, h0, h1, h2, h3, m0, m1, decide_true, decide_false, cond_true, cond_false, pk_and, pk_or, pk3, pk4, Bool.not_true, Bool.not_false]
  | true =>
    have e1 : doI 2 d x y m a b = alW 2 a b := by
      unfold doI
      rw [hr, if_neg (by decide)]
      rfl
    have e2 : dkB 2 d x y m b = true := by
      unfold dkB
      rw [hr, if_neg (by decide)]
      simp
    rw [e1, e2]
    simp only [hr, h0, h1, h2, h3, m0, m1, decide_true, decide_false, cond_true, cond_false, pk_and, pk_or, pk3, pk4, Bool.not_true, Bool.not_false]
    refine conT2 (conI ?_) rfl
    simp only [alW, i32, shA h2 h3, shB h2 h3, shA m0 m1, shB m0 m1, fdivP, fdivQ, w32w64, w64i32, w64mul, mul_mod, if_true, if_false, Int.reduceEq]
    try rw [wU32, mul_mod]
    try rfl
theorem do1_3 {d x y m a b : Int} (h0 : 0 ≤ a) (h1 : a ≤ 4294967295) (h2 : 0 ≤ b) (h3 : b ≤ 4294967295) : Pure Try.prog 13 (cons [.agg 5 [.int .i64 3, .int .i64 d, .int .i64 x, .int .i64 y, .int .i64 m], .int .u32 a, .int .u32 b]) (con (.tup [.int .u32 (doI 3 d x y m a b), .bool (dkB 3 d x y m b)])) := by
  refine pureX (u := 80) (k := 20) mix (TA2ok 1) ?_
  rw [r_do1_3]
  have m0 : 0 ≤ IntKind.u32.wrap m := by rw [wU32]; omega
  have m1 : IntKind.u32.wrap m ≤ 4294967295 := by rw [wU32]; omega
  cases hr : rtB 3 d x y m with
  | false =>
    rw [do_no (.inl hr), dk_no (.inl hr)]
    simp only [hr, h0, h1, h2, h3, m0, m1, decide_true, decide_false, cond_true, cond_false, pk_and, pk_or, pk3, pk4, Bool.not_true, Bool.not_false]
  | true =>
    have e1 : doI 3 d x y m a b = alW 3 a b := by
      unfold doI
      rw [hr, if_neg (by decide)]
      rfl
    have e2 : dkB 3 d x y m b = true := by
      unfold dkB
      rw [hr, if_neg (by decide)]
      simp
    rw [e1, e2]
    simp only [hr, h0, h1, h2, h3, m0, m1, decide_true, decide_false, cond_true, cond_false, pk_and, pk_or, pk3, pk4, Bool.not_true, Bool.not_false]
    refine conT2 (conI ?_) rfl
    simp only [alW, i32, shA h2 h3, shB h2 h3, shA m0 m1, shB m0 m1, fdivP, fdivQ, w32w64, w64i32, w64mul, mul_mod, if_true, if_false, Int.reduceEq]
    try rw [wU32, mul_mod]
    try rfl
theorem do1_4 {d x y m a b : Int} (h0 : 0 ≤ a) (h1 : a ≤ 4294967295) (h2 : 0 ≤ b) (h3 : b ≤ 4294967295) : Pure Try.prog 13 (cons [.agg 5 [.int .i64 4, .int .i64 d, .int .i64 x, .int .i64 y, .int .i64 m], .int .u32 a, .int .u32 b]) (con (.tup [.int .u32 (doI 4 d x y m a b), .bool (dkB 4 d x y m b)])) := by
  refine pureX (u := 80) (k := 20) mix (TA2ok 1) ?_
  rw [r_do1_4]
  have m0 : 0 ≤ IntKind.u32.wrap m := by rw [wU32]; omega
  have m1 : IntKind.u32.wrap m ≤ 4294967295 := by rw [wU32]; omega
  cases hr : rtB 4 d x y m with
  | false =>
    rw [do_no (.inl hr), dk_no (.inl hr)]
    simp only [hr, h0, h1, h2, h3, m0, m1, decide_true, decide_false, cond_true, cond_false, pk_and, pk_or, pk3, pk4, Bool.not_true, Bool.not_false]
  | true =>
    have e1 : doI 4 d x y m a b = alW 4 a b := by
      unfold doI
      rw [hr, if_neg (by decide)]
      rfl
    have e2 : dkB 4 d x y m b = true := by
      unfold dkB
      rw [hr, if_neg (by decide)]
      simp
    rw [e1, e2]
    simp only [hr, h0, h1, h2, h3, m0, m1, decide_true, decide_false, cond_true, cond_false, pk_and, pk_or, pk3, pk4, Bool.not_true, Bool.not_false]
    refine conT2 (conI ?_) rfl
    simp only [alW, i32, shA h2 h3, shB h2 h3, shA m0 m1, shB m0 m1, fdivP, fdivQ, w32w64, w64i32, w64mul, mul_mod, if_true, if_false, Int.reduceEq]
    try rw [wU32, mul_mod]
    try rfl
theorem do1_5 {d x y m a b : Int} (h0 : 0 ≤ a) (h1 : a ≤ 4294967295) (h2 : 0 ≤ b) (h3 : b ≤ 4294967295) : Pure Try.prog 13 (cons [.agg 5 [.int .i64 5, .int .i64 d, .int .i64 x, .int .i64 y, .int .i64 m], .int .u32 a, .int .u32 b]) (con (.tup [.int .u32 (doI 5 d x y m a b), .bool (dkB 5 d x y m b)])) := by
  refine pureX (u := 80) (k := 20) mix (TA2ok 1) ?_
  rw [r_do1_5]
  have m0 : 0 ≤ IntKind.u32.wrap m := by rw [wU32]; omega
  have m1 : IntKind.u32.wrap m ≤ 4294967295 := by rw [wU32]; omega
  cases hr : rtB 5 d x y m with
  | false =>
    rw [do_no (.inl hr), dk_no (.inl hr)]
    simp only [hr, h0, h1, h2, h3, m0, m1, decide_true, decide_false, cond_true, cond_false, pk_and, pk_or, pk3, pk4, Bool.not_true, Bool.not_false]
  | true =>
    have e1 : doI 5 d x y m a b = alW 5 a b := by
      unfold doI
      rw [hr, if_neg (by decide)]
      rfl
    have e2 : dkB 5 d x y m b = true := by
      unfold dkB
      rw [hr, if_neg (by decide)]
      simp
    rw [e1, e2]
    simp only [hr, h0, h1, h2, h3, m0, m1, decide_true, decide_false, cond_true, cond_false, pk_and, pk_or, pk3, pk4, Bool.not_true, Bool.not_false]
    refine conT2 (conI ?_) rfl
    simp only [alW, i32, shA h2 h3, shB h2 h3, shA m0 m1, shB m0 m1, fdivP, fdivQ, w32w64, w64i32, w64mul, mul_mod, if_true, if_false, Int.reduceEq]
    try rw [wU32, mul_mod]
    try rfl
theorem do1_6 {d x y m a b : Int} (h0 : 0 ≤ a) (h1 : a ≤ 4294967295) (h2 : 0 ≤ b) (h3 : b ≤ 4294967295) : Pure Try.prog 13 (cons [.agg 5 [.int .i64 6, .int .i64 d, .int .i64 x, .int .i64 y, .int .i64 m], .int .u32 a, .int .u32 b]) (con (.tup [.int .u32 (doI 6 d x y m a b), .bool (dkB 6 d x y m b)])) := by
  refine pureX (u := 80) (k := 20) mix (TA2ok 1) ?_
  rw [r_do1_6]
  have m0 : 0 ≤ IntKind.u32.wrap m := by rw [wU32]; omega
  have m1 : IntKind.u32.wrap m ≤ 4294967295 := by rw [wU32]; omega
  cases hr : rtB 6 d x y m with
  | false =>
    rw [do_no (.inl hr), dk_no (.inl hr)]
    simp only [hr, h0, h1, h2, h3, m0, m1, decide_true, decide_false, cond_true, cond_false, pk_and, pk_or, pk3, pk4, Bool.not_true, Bool.not_false]
  | true =>
    have e1 : doI 6 d x y m a b = alW 6 a b := by
      unfold doI
      rw [hr, if_neg (by decide)]
      rfl
    have e2 : dkB 6 d x y m b = true := by
      unfold dkB
      rw [hr, if_neg (by decide)]
      simp
    rw [e1, e2]
    simp only [hr, h0, h1, h2, h3, m0, m1, decide_true, decide_false, cond_true, cond_false, pk_and, pk_or, pk3, pk4, Bool.not_true, Bool.not_false]
    refine conT2 (conI ?_) rfl
    simp only [alW, i32, shA h2 h3, shB h2 h3, shA m0 m1, shB m0 m1, fdivP, fdivQ, w32w64, w64i32, w64mul, mul_mod, if_true, if_false, Int.reduceEq]
    try rw [wU32, mul_mod]
    try rfl
theorem do1_7 {d x y m a b : Int} (h0 : 0 ≤ a) (h1 : a ≤ 4294967295) (h2 : 0 ≤ b) (h3 : b ≤ 4294967295) : Pure Try.prog 13 (cons [.agg 5 [.int .i64 7, .int .i64 d, .int .i64 x, .int .i64 y, .int .i64 m], .int .u32 a, .int .u32 b]) (con (.tup [.int .u32 (doI 7 d x y m a b), .bool (dkB 7 d x y m b)])) := by
  refine pureX (u := 80) (k := 20) mix (TA2ok 1) ?_
  rw [r_do1_7]
  have m0 : 0 ≤ IntKind.u32.wrap m := by rw [wU32]; omega
  have m1 : IntKind.u32.wrap m ≤ 4294967295 := by rw [wU32]; omega
  cases hr : rtB 7 d x y m with
  | false =>
    rw [do_no (.inl hr), dk_no (.inl hr)]
    simp only [hr, h0, h1, h2, h3, m0, m1, decide_true, decide_false, cond_true, cond_false, pk_and, pk_or, pk3, pk4, Bool.not_true, Bool.not_false]
  | true =>
    have e1 : doI 7 d x y m a b = alW 7 a b := by
      unfold doI
      rw [hr, if_neg (by decide)]
      rfl
    have e2 : dkB 7 d x y m b = true := by
      unfold dkB
      rw [hr, if_neg (by decide)]
      simp
    rw [e1, e2]
    simp only [hr, h0, h1, h2, h3, m0, m1, decide_true, decide_false, cond_true, cond_false, pk_and, pk_or, pk3, pk4, Bool.not_true, Bool.not_false]
    refine conT2 (conI ?_) rfl
    simp only [alW, i32, shA h2 h3, shB h2 h3, shA m0 m1, shB m0 m1, fdivP, fdivQ, w32w64, w64i32, w64mul, mul_mod, if_true, if_false, Int.reduceEq]
    try rw [wU32, mul_mod]
    try rfl
theorem do1_8 {d x y m a b : Int} (h0 : 0 ≤ a) (h1 : a ≤ 4294967295) (h2 : 0 ≤ b) (h3 : b ≤ 4294967295) : Pure Try.prog 13 (cons [.agg 5 [.int .i64 8, .int .i64 d, .int .i64 x, .int .i64 y, .int .i64 m], .int .u32 a, .int .u32 b]) (con (.tup [.int .u32 (doI 8 d x y m a b), .bool (dkB 8 d x y m b)])) := by
  refine pureX (u := 80) (k := 20) mix (TA2ok 1) ?_
  rw [r_do1_8]
  have m0 : 0 ≤ IntKind.u32.wrap m := by rw [wU32]; omega
  have m1 : IntKind.u32.wrap m ≤ 4294967295 := by rw [wU32]; omega
  cases hr : rtB 8 d x y m with
  | false =>
    rw [do_no (.inl hr), dk_no (.inl hr)]
    simp only [hr, h0, h1, h2, h3, m0, m1, decide_true, decide_false, cond_true, cond_false, pk_and, pk_or, pk3, pk4, Bool.not_true, Bool.not_false]
  | true =>
    have e1 : doI 8 d x y m a b = alW 8 a b := by
      unfold doI
      rw [hr, if_neg (by decide)]
      rfl
    have e2 : dkB 8 d x y m b = true := by
      unfold dkB
      rw [hr, if_neg (by decide)]
      simp
    rw [e1, e2]
    simp only [hr, h0, h1, h2, h3, m0, m1, decide_true, decide_false, cond_true, cond_false, pk_and, pk_or, pk3, pk4, Bool.not_true, Bool.not_false]
    refine conT2 (conI ?_) rfl
    simp only [alW, i32, shA h2 h3, shB h2 h3, shA m0 m1, shB m0 m1, fdivP, fdivQ, w32w64, w64i32, w64mul, mul_mod, if_true, if_false, Int.reduceEq]
    try rw [wU32, mul_mod]
    try rfl
theorem do1_9 {d x y m a b : Int} (h0 : 0 ≤ a) (h1 : a ≤ 4294967295) (h2 : 0 ≤ b) (h3 : b ≤ 4294967295) : Pure Try.prog 13 (cons [.agg 5 [.int .i64 9, .int .i64 d, .int .i64 x, .int .i64 y, .int .i64 m], .int .u32 a, .int .u32 b]) (con (.tup [.int .u32 (doI 9 d x y m a b), .bool (dkB 9 d x y m b)])) := by
  refine pureX (u := 80) (k := 20) mix (TA2ok 1) ?_
  rw [r_do1_9]
  have m0 : 0 ≤ IntKind.u32.wrap m := by rw [wU32]; omega
  have m1 : IntKind.u32.wrap m ≤ 4294967295 := by rw [wU32]; omega
  cases hr : rtB 9 d x y m with
  | false =>
    rw [do_no (.inl hr), dk_no (.inl hr)]
    simp only [hr, h0, h1, h2, h3, m0, m1, decide_true, decide_false, cond_true, cond_false, pk_and, pk_or, pk3, pk4, Bool.not_true, Bool.not_false]
  | true =>
    have e1 : doI 9 d x y m a b = alW 9 a b := by
      unfold doI
      rw [hr, if_neg (by decide)]
      rfl
    have e2 : dkB 9 d x y m b = true := by
      unfold dkB
      rw [hr, if_neg (by decide)]
      simp
    rw [e1, e2]
    simp only [hr, h0, h1, h2, h3, m0, m1, decide_true, decide_false, cond_true, cond_false, pk_and, pk_or, pk3, pk4, Bool.not_true, Bool.not_false]
    refine conT2 (conI ?_) rfl
    simp only [alW, i32, shA h2 h3, shB h2 h3, shA m0 m1, shB m0 m1, fdivP, fdivQ, w32w64, w64i32, w64mul, mul_mod, if_true, if_false, Int.reduceEq]
    try rw [wU32, mul_mod]
    try rfl
theorem do1_10 {d x y m a b : Int} (h0 : 0 ≤ a) (h1 : a ≤ 4294967295) (h2 : 0 ≤ b) (h3 : b ≤ 4294967295) : Pure Try.prog 13 (cons [.agg 5 [.int .i64 10, .int .i64 d, .int .i64 x, .int .i64 y, .int .i64 m], .int .u32 a, .int .u32 b]) (con (.tup [.int .u32 (doI 10 d x y m a b), .bool (dkB 10 d x y m b)])) := by
  refine pureX (u := 80) (k := 20) mix (TA2ok 1) ?_
  rw [r_do1_10]
  have m0 : 0 ≤ IntKind.u32.wrap m := by rw [wU32]; omega
  have m1 : IntKind.u32.wrap m ≤ 4294967295 := by rw [wU32]; omega
  cases hr : rtB 10 d x y m with
  | false =>
    rw [do_no (.inl hr), dk_no (.inl hr)]
    simp only [hr, h0, h1, h2, h3, m0, m1, decide_true, decide_false, cond_true, cond_false, pk_and, pk_or, pk3, pk4, Bool.not_true, Bool.not_false]
  | true =>
    have e1 : doI 10 d x y m a b = alW 10 a b := by
      unfold doI
      rw [hr, if_neg (by decide)]
      rfl
    have e2 : dkB 10 d x y m b = true := by
      unfold dkB
      rw [hr, if_neg (by decide)]
      simp
    rw [e1, e2]
    simp only [hr, h0, h1, h2, h3, m0, m1, decide_true, decide_false, cond_true, cond_false, pk_and, pk_or, pk3, pk4, Bool.not_true, Bool.not_false]
    refine conT2 (conI ?_) rfl
    simp only [alW, i32, shA h2 h3, shB h2 h3, shA m0 m1, shB m0 m1, fdivP, fdivQ, w32w64, w64i32, w64mul, mul_mod, if_true, if_false, Int.reduceEq]
    try rw [wU32, mul_mod]
    try rfl
theorem do1_11 {d x y m a b : Int} (h0 : 0 ≤ a) (h1 : a ≤ 4294967295) (h2 : 0 ≤ b) (h3 : b ≤ 4294967295) : Pure Try.prog 13 (cons [.agg 5 [.int .i64 11, .int .i64 d, .int .i64 x, .int .i64 y, .int .i64 m], .int .u32 a, .int .u32 b]) (con (.tup [.int .u32 (doI 11 d x y m a b), .bool (dkB 11 d x y m b)])) := by
  refine pureX (u := 80) (k := 20) mix (TA2ok 1) ?_
  rw [r_do1_11]
  have m0 : 0 ≤ IntKind.u32.wrap m := by rw [wU32]; omega
  have m1 : IntKind.u32.wrap m ≤ 4294967295 := by rw [wU32]; omega
  cases hr : rtB 11 d x y m with
  | false =>
    rw [do_no (.inl hr), dk_no (.inl hr)]
    simp only [hr, h0, h1, h2, h3, m0, m1, decide_true, decide_false, cond_true, cond_false, pk_and, pk_or, pk3, pk4, Bool.not_true, Bool.not_false]
  | true =>
    have e1 : doI 11 d x y m a b = alW 11 a b := by
      unfold doI
      rw [hr, if_neg (by decide)]
      rfl
    have e2 : dkB 11 d x y m b = true := by
      unfold dkB
      rw [hr, if_neg (by decide)]
      simp
    rw [e1, e2]
    simp only [hr, h0, h1, h2, h3, m0, m1, decide_true, decide_false, cond_true, cond_false, pk_and, pk_or, pk3, pk4, Bool.not_true, Bool.not_false]
    refine conT2 (conI ?_) rfl
    simp only [alW, i32, shA h2 h3, shB h2 h3, shA m0 m1, shB m0 m1, fdivP, fdivQ, w32w64, w64i32, w64mul, mul_mod, if_true, if_false, Int.reduceEq]
    try rw [wU32, mul_mod]
    try rfl
theorem do1_12 {d x y m a b : Int} (h0 : 0 ≤ a) (h1 : a ≤ 4294967295) (h2 : 0 ≤ b) (h3 : b ≤ 4294967295) : Pure Try.prog 13 (cons [.agg 5 [.int .i64 12, .int .i64 d, .int .i64 x, .int .i64 y, .int .i64 m], .int .u32 a, .int .u32 b]) (con (.tup [.int .u32 (doI 12 d x y m a b), .bool (dkB 12 d x y m b)])) := by
  refine pureX (u := 80) (k := 20) mix (TA2ok 1) ?_
  rw [r_do1_12]
  have m0 : 0 ≤ IntKind.u32.wrap m := by rw [wU32]; omega
  have m1 : IntKind.u32.wrap m ≤ 4294967295 := by rw [wU32]; omega
  cases hr : rtB 12 d x y m with
  | false =>
    rw [do_no (.inl hr), dk_no (.inl hr)]
    simp only [hr, h0, h1, h2, h3, m0, m1, decide_true, decide_false, cond_true, cond_false, pk_and, pk_or, pk3, pk4, Bool.not_true, Bool.not_false]
  | true =>
    have e1 : doI 12 d x y m a b = alW 12 a b := by
      unfold doI
      rw [hr, if_neg (by decide)]
      rfl
    have e2 : dkB 12 d x y m b = true := by
      unfold dkB
      rw [hr, if_neg (by decide)]
      simp
    rw [e1, e2]
    simp only [hr, h0, h1, h2, h3, m0, m1, decide_true, decide_false, cond_true, cond_false, pk_and, pk_or, pk3, pk4, Bool.not_true, Bool.not_false]
    refine conT2 (conI ?_) rfl
    simp only [alW, i32, shA h2 h3, shB h2 h3, shA m0 m1, shB m0 m1, fdivP, fdivQ, w32w64, w64i32, w64mul, mul_mod, if_true, if_false, Int.reduceEq]
    try rw [wU32, mul_mod]
    try rfl
theorem do1_13 {d x y m a b : Int} (h0 : 0 ≤ a) (h1 : a ≤ 4294967295) (h2 : 0 ≤ b) (h3 : b ≤ 4294967295) : Pure Try.prog 13 (cons [.agg 5 [.int .i64 13, .int .i64 d, .int .i64 x, .int .i64 y, .int .i64 m], .int .u32 a, .int .u32 b]) (con (.tup [.int .u32 (doI 13 d x y m a b), .bool (dkB 13 d x y m b)])) := by
  refine pureX (u := 80) (k := 20) mix (TA2ok 1) ?_
  rw [r_do1_13]
  have m0 : 0 ≤ IntKind.u32.wrap m := by rw [wU32]; omega
  have m1 : IntKind.u32.wrap m ≤ 4294967295 := by rw [wU32]; omega
  cases hr : rtB 13 d x y m with
  | false =>
    rw [do_no (.inl hr), dk_no (.inl hr)]
    simp only [hr, h0, h1, h2, h3, m0, m1, decide_true, decide_false, cond_true, cond_false, pk_and, pk_or, pk3, pk4, Bool.not_true, Bool.not_false]
  | true =>
    have e1 : doI 13 d x y m a b = alW 13 a b := by
      unfold doI
      rw [hr, if_neg (by decide)]
      rfl
    have e2 : dkB 13 d x y m b = !decide (b = 0) := by
      unfold dkB
      rw [hr, if_neg (by decide)]
      simp
    rw [e1, e2]
    simp only [hr, h0, h1, h2, h3, m0, m1, decide_true, decide_false, cond_true, cond_false, pk_and, pk_or, pk3, pk4, Bool.not_true, Bool.not_false]
    by_cases hb : b = 0
    · subst hb
      rfl
    have hi : ¬ IntKind.i32.wrap b = 0 := fun h => hb ((i32_0 h2 h3).1 h)
    have hi2 : ¬ i32 b = 0 := hi
    by_cases hx : IntKind.i32.wrap a = -2147483648 ∧ IntKind.i32.wrap b = -1
    · have ha : a = 2147483648 := by have := hx.1; rw [wI32] at this; omega
      have hbb : b = 4294967295 := by have := hx.2; rw [wI32] at this; omega
      subst ha hbb
      exact conT2 (conI (by decide)) rfl
    · have hz : (bif decide (IntKind.i32.wrap a = -2147483648) then decide (IntKind.i32.wrap b = -1) else false) = false := by
        rw [Bool.cond_false_right, Bool.and_eq_false_iff, decide_eq_false_iff_not, decide_eq_false_iff_not]
        by_cases h : IntKind.i32.wrap a = -2147483648
        · exact .inr fun h' => hx ⟨h, h'⟩
        · exact .inl h
      simp only [hz, hb, hi, decide_true, decide_false, cond_true, cond_false, pk_and, pk_or, pk3, pk4, Bool.not_true, Bool.not_false]
      refine conT2 (conI ?_) rfl
      simp only [alW, i32, hb, if_false, if_true, w32i32, w32w64, Int.reduceEq]
      first | done | exact i32_mod _ | rfl
theorem do1_14 {d x y m a b : Int} (h0 : 0 ≤ a) (h1 : a ≤ 4294967295) (h2 : 0 ≤ b) (h3 : b ≤ 4294967295) : Pure Try.prog 13 (cons [.agg 5 [.int .i64 14, .int .i64 d, .int .i64 x, .int .i64 y, .int .i64 m], .int .u32 a, .int .u32 b]) (con (.tup [.int .u32 (doI 14 d x y m a b), .bool (dkB 14 d x y m b)])) := by
  refine pureX (u := 80) (k := 20) mix (TA2ok 1) ?_
  rw [r_do1_14]
  have m0 : 0 ≤ IntKind.u32.wrap m := by rw [wU32]; omega
  have m1 : IntKind.u32.wrap m ≤ 4294967295 := by rw [wU32]; omega
  cases hr : rtB 14 d x y m with
  | false =>
    rw [do_no (.inl hr), dk_no (.inl hr)]
    simp only [hr, h0, h1, h2, h3, m0, m1, decide_true, decide_false, cond_true, cond_false, pk_and, pk_or, pk3, pk4, Bool.not_true, Bool.not_false]
  | true =>
    have e1 : doI 14 d x y m a b = alW 14 a b := by
      unfold doI
      rw [hr, if_neg (by decide)]
      rfl
    have e2 : dkB 14 d x y m b = !decide (b = 0) := by
      unfold dkB
      rw [hr, if_neg (by decide)]
      simp
    rw [e1, e2]
    simp only [hr, h0, h1, h2, h3, m0, m1, decide_true, decide_false, cond_true, cond_false, pk_and, pk_or, pk3, pk4, Bool.not_true, Bool.not_false]
    by_cases hb : b = 0
    · subst hb
      rfl
    have hi : ¬ IntKind.i32.wrap b = 0 := fun h => hb ((i32_0 h2 h3).1 h)
    have hi2 : ¬ i32 b = 0 := hi
    have hb4 : ¬ b ≤ 0 := by omega
    have e4 : IntKind.u64.wrap b = b := by rw [wU64]; omega
    have e5 : IntKind.u64.wrap a = a := by rw [wU64]; omega
    have hz : ∀ z : Bool, (bif (bif decide (IntKind.i32.wrap a = -2147483648) then decide (IntKind.i32.wrap a = -2147483648) else true) then z else false) = z := fun z => by rw [pk_and]; rfl
    simp only [hb, hb4, e4, or0 h0 h1, not_false_eq_true, decide_not, decide_true, decide_false, cond_true, cond_false, pk_and, pk_or, pk3, pk4, Bool.not_true, Bool.not_false]
    refine conT2 (conI ?_) rfl
    simp only [alW, hb, if_false, if_true, Int.reduceEq]
    have := udiv_rng (b := b) h0 h1 h2
    have := umod_rng (b := b) h0 h1 (by omega) h3
    rw [Int.tdiv_eq_ediv_of_nonneg h0, wU64, wU32]
    omega
theorem do1_15 {d x y m a b : Int} (h0 : 0 ≤ a) (h1 : a ≤ 4294967295) (h2 : 0 ≤ b) (h3 : b ≤ 4294967295) : Pure Try.prog 13 (cons [.agg 5 [.int .i64 15, .int .i64 d, .int .i64 x, .int .i64 y, .int .i64 m], .int .u32 a, .int .u32 b]) (con (.tup [.int .u32 (doI 15 d x y m a b), .bool (dkB 15 d x y m b)])) := by
  refine pureX (u := 80) (k := 20) mix (TA2ok 1) ?_
  rw [r_do1_15]
  have m0 : 0 ≤ IntKind.u32.wrap m := by rw [wU32]; omega
  have m1 : IntKind.u32.wrap m ≤ 4294967295 := by rw [wU32]; omega
  cases hr : rtB 15 d x y m with
  | false =>
    rw [do_no (.inl hr), dk_no (.inl hr)]
    simp only [hr, h0, h1, h2, h3, m0, m1, decide_true, decide_false, cond_true, cond_false, pk_and, pk_or, pk3, pk4, Bool.not_true, Bool.not_false]
  | true =>
    have e1 : doI 15 d x y m a b = alW 15 a b := by
      unfold doI
      rw [hr, if_neg (by decide)]
      rfl
    have e2 : dkB 15 d x y m b = !decide (b = 0) := by
      unfold dkB
      rw [hr, if_neg (by decide)]
      simp
    rw [e1, e2]
    simp only [hr, h0, h1, h2, h3, m0, m1, decide_true, decide_false, cond_true, cond_false, pk_and, pk_or, pk3, pk4, Bool.not_true, Bool.not_false]
    by_cases hb : b = 0
    · subst hb
      rfl
    have hi : ¬ IntKind.i32.wrap b = 0 := fun h => hb ((i32_0 h2 h3).1 h)
    have hi2 : ¬ i32 b = 0 := hi
    by_cases hx : IntKind.i32.wrap a = -2147483648 ∧ IntKind.i32.wrap b = -1
    · have ha : a = 2147483648 := by have := hx.1; rw [wI32] at this; omega
      have hbb : b = 4294967295 := by have := hx.2; rw [wI32] at this; omega
      subst ha hbb
      exact conT2 (conI (by decide)) rfl
    · have hz : (bif decide (IntKind.i32.wrap a = -2147483648) then decide (IntKind.i32.wrap b = -1) else false) = false := by
        rw [Bool.cond_false_right, Bool.and_eq_false_iff, decide_eq_false_iff_not, decide_eq_false_iff_not]
        by_cases h : IntKind.i32.wrap a = -2147483648
        · exact .inr fun h' => hx ⟨h, h'⟩
        · exact .inl h
      simp only [hz, hb, hi, decide_true, decide_false, cond_true, cond_false, pk_and, pk_or, pk3, pk4, Bool.not_true, Bool.not_false]
      refine conT2 (conI ?_) rfl
      simp only [alW, i32, hb, if_false, if_true, w32i32, w32w64, Int.reduceEq]
      first | done | exact i32_mod _ | rfl
theorem do1_16 {d x y m a b : Int} (h0 : 0 ≤ a) (h1 : a ≤ 4294967295) (h2 : 0 ≤ b) (h3 : b ≤ 4294967295) : Pure Try.prog 13 (cons [.agg 5 [.int .i64 16, .int .i64 d, .int .i64 x, .int .i64 y, .int .i64 m], .int .u32 a, .int .u32 b]) (con (.tup [.int .u32 (doI 16 d x y m a b), .bool (dkB 16 d x y m b)])) := by
  refine pureX (u := 80) (k := 20) mix (TA2ok 1) ?_
  rw [r_do1_16]
  have m0 : 0 ≤ IntKind.u32.wrap m := by rw [wU32]; omega
  have m1 : IntKind.u32.wrap m ≤ 4294967295 := by rw [wU32]; omega
  cases hr : rtB 16 d x y m with
  | false =>
    rw [do_no (.inl hr), dk_no (.inl hr)]
    simp only [hr, h0, h1, h2, h3, m0, m1, decide_true, decide_false, cond_true, cond_false, pk_and, pk_or, pk3, pk4, Bool.not_true, Bool.not_false]
  | true =>
    have e1 : doI 16 d x y m a b = alW 16 a b := by
      unfold doI
      rw [hr, if_neg (by decide)]
      rfl
    have e2 : dkB 16 d x y m b = !decide (b = 0) := by
      unfold dkB
      rw [hr, if_neg (by decide)]
      simp
    rw [e1, e2]
    simp only [hr, h0, h1, h2, h3, m0, m1, decide_true, decide_false, cond_true, cond_false, pk_and, pk_or, pk3, pk4, Bool.not_true, Bool.not_false]
    by_cases hb : b = 0
    · subst hb
      rfl
    have hi : ¬ IntKind.i32.wrap b = 0 := fun h => hb ((i32_0 h2 h3).1 h)
    have hi2 : ¬ i32 b = 0 := hi
    have hb4 : ¬ b ≤ 0 := by omega
    have e4 : IntKind.u64.wrap b = b := by rw [wU64]; omega
    have e5 : IntKind.u64.wrap a = a := by rw [wU64]; omega
    have hz : ∀ z : Bool, (bif (bif decide (IntKind.i32.wrap a = -2147483648) then decide (IntKind.i32.wrap a = -2147483648) else true) then z else false) = z := fun z => by rw [pk_and]; rfl
    simp only [hb, hb4, e4, or0 h0 h1, not_false_eq_true, decide_not, decide_true, decide_false, cond_true, cond_false, pk_and, pk_or, pk3, pk4, Bool.not_true, Bool.not_false]
    refine conT2 (conI ?_) rfl
    simp only [alW, hb, if_false, if_true, Int.reduceEq]
    have := udiv_rng (b := b) h0 h1 h2
    have := umod_rng (b := b) h0 h1 (by omega) h3
    rw [Int.tmod_eq_emod_of_nonneg h0]; try rw [wU32]
    omega
theorem do1_17 {d x y m a b : Int} (h0 : 0 ≤ a) (h1 : a ≤ 4294967295) (h2 : 0 ≤ b) (h3 : b ≤ 4294967295) : Pure Try.prog 13 (cons [.agg 5 [.int .i64 17, .int .i64 d, .int .i64 x, .int .i64 y, .int .i64 m], .int .u32 a, .int .u32 b]) (con (.tup [.int .u32 (doI 17 d x y m a b), .bool (dkB 17 d x y m b)])) := by
  refine pureX (u := 80) (k := 20) mix (TA2ok 2) ?_
  rw [r_do1_17]
  have m0 : 0 ≤ IntKind.u32.wrap m := by rw [wU32]; omega
  have m1 : IntKind.u32.wrap m ≤ 4294967295 := by rw [wU32]; omega
  cases hr : rtB 17 d x y m with
  | false =>
    rw [do_no (.inl hr), dk_no (.inl hr)]
    simp only [hr, h0, h1, h2, h3, m0, m1, decide_true, decide_false, cond_true, cond_false, pk_and, pk_or, pk3, pk4, Bool.not_true, Bool.not_false]
  | true =>
    have e1 : doI 17 d x y m a b = alW 1 a (m % 4294967296) := by
      unfold doI
      rw [hr, if_neg (by decide)]
      rfl
    have e2 : dkB 17 d x y m b = true := by
      unfold dkB
      rw [hr, if_neg (by decide)]
      simp
    rw [e1, e2]
    simp only [hr, h0, h1, h2, h3, m0, m1, decide_true, decide_false, cond_true, cond_false, pk_and, pk_or, pk3, pk4, Bool.not_true, Bool.not_false]
    refine conT2 (conI ?_) rfl
    simp only [alW, i32, shA h2 h3, shB h2 h3, shA m0 m1, shB m0 m1, fdivP, fdivQ, w32w64, w64i32, w64mul, mul_mod, if_true, if_false, Int.reduceEq]
    try rw [wU32, mul_mod]
    try rfl
theorem do1_18 {d x y m a b : Int} (h0 : 0 ≤ a) (h1 : a ≤ 4294967295) (h2 : 0 ≤ b) (h3 : b ≤ 4294967295) : Pure Try.prog 13 (cons [.agg 5 [.int .i64 18, .int .i64 d, .int .i64 x, .int .i64 y, .int .i64 m], .int .u32 a, .int .u32 b]) (con (.tup [.int .u32 (doI 18 d x y m a b), .bool (dkB 18 d x y m b)])) := by
  refine pureX (u := 80) (k := 20) mix (TA2ok 2) ?_
  rw [r_do1_18]
  have m0 : 0 ≤ IntKind.u32.wrap m := by rw [wU32]; omega
  have m1 : IntKind.u32.wrap m ≤ 4294967295 := by rw [wU32]; omega
  cases hr : rtB 18 d x y m with
  | false =>
    rw [do_no (.inl hr), dk_no (.inl hr)]
    simp only [hr, h0, h1, h2, h3, m0, m1, decide_true, decide_false, cond_true, cond_false, pk_and, pk_or, pk3, pk4, Bool.not_true, Bool.not_false]
  | true =>
    have e1 : doI 18 d x y m a b = alW 3 a (m % 4294967296) := by
      unfold doI
      rw [hr, if_neg (by decide)]
      rfl
    have e2 : dkB 18 d x y m b = true := by
      unfold dkB
      rw [hr, if_neg (by decide)]
      simp
    rw [e1, e2]
    simp only [hr, h0, h1, h2, h3, m0, m1, decide_true, decide_false, cond_true, cond_false, pk_and, pk_or, pk3, pk4, Bool.not_true, Bool.not_false]
    refine conT2 (conI ?_) rfl
    simp only [alW, i32, shA h2 h3, shB h2 h3, shA m0 m1, shB m0 m1, fdivP, fdivQ, w32w64, w64i32, w64mul, mul_mod, if_true, if_false, Int.reduceEq]
    try rw [wU32, mul_mod]
    try rfl
theorem do1_19 {d x y m a b : Int} (h0 : 0 ≤ a) (h1 : a ≤ 4294967295) (h2 : 0 ≤ b) (h3 : b ≤ 4294967295) : Pure Try.prog 13 (cons [.agg 5 [.int .i64 19, .int .i64 d, .int .i64 x, .int .i64 y, .int .i64 m], .int .u32 a, .int .u32 b]) (con (.tup [.int .u32 (doI 19 d x y m a b), .bool (dkB 19 d x y m b)])) := by
  refine pureX (u := 80) (k := 20) mix (TA2ok 2) ?_
  rw [r_do1_19]
  have m0 : 0 ≤ IntKind.u32.wrap m := by rw [wU32]; omega
  have m1 : IntKind.u32.wrap m ≤ 4294967295 := by rw [wU32]; omega
  cases hr : rtB 19 d x y m with
  | false =>
    rw [do_no (.inl hr), dk_no (.inl hr)]
    simp only [hr, h0, h1, h2, h3, m0, m1, decide_true, decide_false, cond_true, cond_false, pk_and, pk_or, pk3, pk4, Bool.not_true, Bool.not_false]
  | true =>
    have e1 : doI 19 d x y m a b = alW 4 a (m % 4294967296) := by
      unfold doI
      rw [hr, if_neg (by decide)]
      rfl
    have e2 : dkB 19 d x y m b = true := by
      unfold dkB
      rw [hr, if_neg (by decide)]
      simp
    rw [e1, e2]
    simp only [hr, h0, h1, h2, h3, m0, m1, decide_true, decide_false, cond_true, cond_false, pk_and, pk_or, pk3, pk4, Bool.not_true, Bool.not_false]
    refine conT2 (conI ?_) rfl
    simp only [alW, i32, shA h2 h3, shB h2 h3, shA m0 m1, shB m0 m1, fdivP, fdivQ, w32w64, w64i32, w64mul, mul_mod, if_true, if_false, Int.reduceEq]
    try rw [wU32, mul_mod]
    try rfl
theorem do1_20 {d x y m a b : Int} (h0 : 0 ≤ a) (h1 : a ≤ 4294967295) (h2 : 0 ≤ b) (h3 : b ≤ 4294967295) : Pure Try.prog 13 (cons [.agg 5 [.int .i64 20, .int .i64 d, .int .i64 x, .int .i64 y, .int .i64 m], .int .u32 a, .int .u32 b]) (con (.tup [.int .u32 (doI 20 d x y m a b), .bool (dkB 20 d x y m b)])) := by
  refine pureX (u := 80) (k := 20) mix (TA2ok 2) ?_
  rw [r_do1_20]
  have m0 : 0 ≤ IntKind.u32.wrap m := by rw [wU32]; omega
  have m1 : IntKind.u32.wrap m ≤ 4294967295 := by rw [wU32]; omega
  cases hr : rtB 20 d x y m with
  | false =>
    rw [do_no (.inl hr), dk_no (.inl hr)]
    simp only [hr, h0, h1, h2, h3, m0, m1, decide_true, decide_false, cond_true, cond_false, pk_and, pk_or, pk3, pk4, Bool.not_true, Bool.not_false]
  | true =>
    have e1 : doI 20 d x y m a b = alW 5 a (m % 4294967296) := by
      unfold doI
      rw [hr, if_neg (by decide)]
      rfl
    have e2 : dkB 20 d x y m b = true := by
      unfold dkB
      rw [hr, if_neg (by decide)]
      simp
    rw [e1, e2]
    simp only [hr, h0, h1, h2, h3, m0, m1, decide_true, decide_false, cond_true, cond_false, pk_and, pk_or, pk3, pk4, Bool.not_true, Bool.not_false]
    refine conT2 (conI ?_) rfl
    simp only [alW, i32, shA h2 h3, shB h2 h3, shA m0 m1, shB m0 m1, fdivP, fdivQ, w32w64, w64i32, w64mul, mul_mod, if_true, if_false, Int.reduceEq]
    try rw [wU32, mul_mod]
    try rfl
theorem do1_21 {d x y m a b : Int} (h0 : 0 ≤ a) (h1 : a ≤ 4294967295) (h2 : 0 ≤ b) (h3 : b ≤ 4294967295) : Pure Try.prog 13 (cons [.agg 5 [.int .i64 21, .int .i64 d, .int .i64 x, .int .i64 y, .int .i64 m], .int .u32 a, .int .u32 b]) (con (.tup [.int .u32 (doI 21 d x y m a b), .bool (dkB 21 d x y m b)])) := by
  refine pureX (u := 80) (k := 20) mix (TA2ok 2) ?_
  rw [r_do1_21]
  have m0 : 0 ≤ IntKind.u32.wrap m := by rw [wU32]; omega
  have m1 : IntKind.u32.wrap m ≤ 4294967295 := by rw [wU32]; omega
  cases hr : rtB 21 d x y m with
  | false =>
    rw [do_no (.inl hr), dk_no (.inl hr)]
    simp only [hr, h0, h1, h2, h3, m0, m1, decide_true, decide_false, cond_true, cond_false, pk_and, pk_or, pk3, pk4, Bool.not_true, Bool.not_false]
  | true =>
    have e1 : doI 21 d x y m a b = alW 9 a (m % 4294967296) := by
      unfold doI
      rw [hr, if_neg (by decide)]
      rfl
    have e2 : dkB 21 d x y m b = true := by
      unfold dkB
      rw [hr, if_neg (by decide)]
      simp
    rw [e1, e2]
    simp only [hr, h0, h1, h2, h3, m0, m1, decide_true, decide_false, cond_true, cond_false, pk_and, pk_or, pk3, pk4, Bool.not_true, Bool.not_false]
    refine conT2 (conI ?_) rfl
    simp only [alW, i32, shA h2 h3, shB h2 h3, shA m0 m1, shB m0 m1, fdivP, fdivQ, w32w64, w64i32, w64mul, mul_mod, if_true, if_false, Int.reduceEq]
    try rw [wU32, mul_mod]
    try rfl
theorem do1_22 {d x y m a b : Int} (h0 : 0 ≤ a) (h1 : a ≤ 4294967295) (h2 : 0 ≤ b) (h3 : b ≤ 4294967295) : Pure Try.prog 13 (cons [.agg 5 [.int .i64 22, .int .i64 d, .int .i64 x, .int .i64 y, .int .i64 m], .int .u32 a, .int .u32 b]) (con (.tup [.int .u32 (doI 22 d x y m a b), .bool (dkB 22 d x y m b)])) := by
  refine pureX (u := 80) (k := 20) mix (TA2ok 2) ?_
  rw [r_do1_22]
  have m0 : 0 ≤ IntKind.u32.wrap m := by rw [wU32]; omega
  have m1 : IntKind.u32.wrap m ≤ 4294967295 := by rw [wU32]; omega
  cases hr : rtB 22 d x y m with
  | false =>
    rw [do_no (.inl hr), dk_no (.inl hr)]
    simp only [hr, h0, h1, h2, h3, m0, m1, decide_true, decide_false, cond_true, cond_false, pk_and, pk_or, pk3, pk4, Bool.not_true, Bool.not_false]
  | true =>
    have e1 : doI 22 d x y m a b = alW 6 a (m % 4294967296) := by
      unfold doI
      rw [hr, if_neg (by decide)]
      rfl
    have e2 : dkB 22 d x y m b = true := by
      unfold dkB
      rw [hr, if_neg (by decide)]
      simp
    rw [e1, e2]
    simp only [hr, h0, h1, h2, h3, m0, m1, decide_true, decide_false, cond_true, cond_false, pk_and, pk_or, pk3, pk4, Bool.not_true, Bool.not_false]
    refine conT2 (conI ?_) rfl
    simp only [alW, i32, shA h2 h3, shB h2 h3, shA m0 m1, shB m0 m1, fdivP, fdivQ, w32w64, w64i32, w64mul, mul_mod, if_true, if_false, Int.reduceEq]
    try rw [wU32, mul_mod]
    try rfl
theorem do1_23 {d x y m a b : Int} (h0 : 0 ≤ a) (h1 : a ≤ 4294967295) (h2 : 0 ≤ b) (h3 : b ≤ 4294967295) : Pure Try.prog 13 (cons [.agg 5 [.int .i64 23, .int .i64 d, .int .i64 x, .int .i64 y, .int .i64 m], .int .u32 a, .int .u32 b]) (con (.tup [.int .u32 (doI 23 d x y m a b), .bool (dkB 23 d x y m b)])) := by
  refine pureX (u := 80) (k := 20) mix (TA2ok 2) ?_
  rw [r_do1_23]
  have m0 : 0 ≤ IntKind.u32.wrap m := by rw [wU32]; omega
  have m1 : IntKind.u32.wrap m ≤ 4294967295 := by rw [wU32]; omega
  cases hr : rtB 23 d x y m with
  | false =>
    rw [do_no (.inl hr), dk_no (.inl hr)]
    simp only [hr, h0, h1, h2, h3, m0, m1, decide_true, decide_false, cond_true, cond_false, pk_and, pk_or, pk3, pk4, Bool.not_true, Bool.not_false]
  | true =>
    have e1 : doI 23 d x y m a b = alW 7 a (m % 4294967296) := by
      unfold doI
      rw [hr, if_neg (by decide)]
      rfl
    have e2 : dkB 23 d x y m b = true := by
      unfold dkB
      rw [hr, if_neg (by decide)]
      simp
    rw [e1, e2]
    simp only [hr, h0, h1, h2, h3, m0, m1, decide_true, decide_false, cond_true, cond_false, pk_and, pk_or, pk3, pk4, Bool.not_true, Bool.not_false]
    refine conT2 (conI ?_) rfl
    simp only [alW, i32, shA h2 h3, shB h2 h3, shA m0 m1, shB m0 m1, fdivP, fdivQ, w32w64, w64i32, w64mul, mul_mod, if_true, if_false, Int.reduceEq]
    try rw [wU32, mul_mod]
    try rfl
theorem do1_24 {d x y m a b : Int} (h0 : 0 ≤ a) (h1 : a ≤ 4294967295) (h2 : 0 ≤ b) (h3 : b ≤ 4294967295) : Pure Try.prog 13 (cons [.agg 5 [.int .i64 24, .int .i64 d, .int .i64 x, .int .i64 y, .int .i64 m], .int .u32 a, .int .u32 b]) (con (.tup [.int .u32 (doI 24 d x y m a b), .bool (dkB 24 d x y m b)])) := by
  refine pureX (u := 80) (k := 20) mix (TA2ok 2) ?_
  rw [r_do1_24]
  have m0 : 0 ≤ IntKind.u32.wrap m := by rw [wU32]; omega
  have m1 : IntKind.u32.wrap m ≤ 4294967295 := by rw [wU32]; omega
  cases hr : rtB 24 d x y m with
  | false =>
    rw [do_no (.inl hr), dk_no (.inl hr)]
    simp only [hr, h0, h1, h2, h3, m0, m1, decide_true, decide_false, cond_true, cond_false, pk_and, pk_or, pk3, pk4, Bool.not_true, Bool.not_false]
  | true =>
    have e1 : doI 24 d x y m a b = alW 8 a (m % 4294967296) := by
      unfold doI
      rw [hr, if_neg (by decide)]
      rfl
    have e2 : dkB 24 d x y m b = true := by
      unfold dkB
      rw [hr, if_neg (by decide)]
      simp
    rw [e1, e2]
    simp only [hr, h0, h1, h2, h3, m0, m1, decide_true, decide_false, cond_true, cond_false, pk_and, pk_or, pk3, pk4, Bool.not_true, Bool.not_false]
    refine conT2 (conI ?_) rfl
    simp only [alW, i32, shA h2 h3, shB h2 h3, shA m0 m1, shB m0 m1, fdivP, fdivQ, w32w64, w64i32, w64mul, mul_mod, if_true, if_false, Int.reduceEq]
    try rw [wU32, mul_mod]
    try rfl
theorem do1_25 {d x y m a b : Int} (h0 : 0 ≤ a) (h1 : a ≤ 4294967295) (h2 : 0 ≤ b) (h3 : b ≤ 4294967295) : Pure Try.prog 13 (cons [.agg 5 [.int .i64 25, .int .i64 d, .int .i64 x, .int .i64 y, .int .i64 m], .int .u32 a, .int .u32 b]) (con (.tup [.int .u32 (doI 25 d x y m a b), .bool (dkB 25 d x y m b)])) := by
  refine pureX (u := 80) (k := 20) mix (TA2ok 3) ?_
  rw [r_do1_25]
  have m0 : 0 ≤ IntKind.u32.wrap m := by rw [wU32]; omega
  have m1 : IntKind.u32.wrap m ≤ 4294967295 := by rw [wU32]; omega
  cases hr : rtB 25 d x y m with
  | false =>
    rw [do_no (.inl hr), dk_no (.inl hr)]
    simp only [hr, h0, h1, h2, h3, m0, m1, decide_true, decide_false, cond_true, cond_false, pk_and, pk_or, pk3, pk4, Bool.not_true, Bool.not_false]
  | true =>
    have e1 : doI 25 d x y m a b = (m * 262144) % 4294967296 := by
      unfold doI
      rw [hr, if_neg (by decide)]
      rfl
    have e2 : dkB 25 d x y m b = true := by
      unfold dkB
      rw [hr, if_neg (by decide)]
      simp
    rw [e1, e2]
    simp only [hr, h0, h1, h2, h3, m0, m1, decide_true, decide_false, cond_true, cond_false, pk_and, pk_or, pk3, pk4, Bool.not_true, Bool.not_false]
    refine conT2 (conI ?_) rfl
    try rw [w32w64]
    try rw [wU32, wU32]; omega
theorem dox1_0 {op d x y m a b : Int} (hf : fmI op = 0) : Pure Try.prog 13 (cons [.agg 5 [.int .i64 op, .int .i64 d, .int .i64 x, .int .i64 y, .int .i64 m], .int .u32 a, .int .u32 b]) (con (.tup [.int .u32 (doI op d x y m a b), .bool (dkB op d x y m b)])) := by
  refine pureX (u := 80) (k := 20) mix (TA2ok 0) ?_
  rw [r_dox1_0]
  have hr : rtB op d x y m = false := by unfold rtB rtP; rw [hf]; simp
  rw [do_no (.inl hr), dk_no (.inl hr)]
  simp only [hf, hr, decide_true, decide_false, cond_true, cond_false, pk_and, pk_or, pk3, pk4, Bool.not_true, Bool.not_false]
theorem dox1_4 {op d x y m a b : Int} (hf : fmI op = 4) : Pure Try.prog 13 (cons [.agg 5 [.int .i64 op, .int .i64 d, .int .i64 x, .int .i64 y, .int .i64 m], .int .u32 a, .int .u32 b]) (con (.tup [.int .u32 (doI op d x y m a b), .bool (dkB op d x y m b)])) := by
  refine pureX (u := 80) (k := 20) mix (TA2ok 4) ?_
  rw [r_dox1_4]
  rw [do_no (.inr (by omega)), dk_no (.inr (by omega))]
  cases hr : rtB op d x y m <;> simp only [hf, hr, decide_true, decide_false, cond_true, cond_false, pk_and, pk_or, pk3, pk4, Bool.not_true, Bool.not_false]
theorem dox1_5 {op d x y m a b : Int} (hf : fmI op = 5) : Pure Try.prog 13 (cons [.agg 5 [.int .i64 op, .int .i64 d, .int .i64 x, .int .i64 y, .int .i64 m], .int .u32 a, .int .u32 b]) (con (.tup [.int .u32 (doI op d x y m a b), .bool (dkB op d x y m b)])) := by
  refine pureX (u := 80) (k := 20) mix (TA2ok 5) ?_
  rw [r_dox1_5]
  rw [do_no (.inr (by omega)), dk_no (.inr (by omega))]
  cases hr : rtB op d x y m <;> simp only [hf, hr, decide_true, decide_false, cond_true, cond_false, pk_and, pk_or, pk3, pk4, Bool.not_true, Bool.not_false]
theorem dox1_6 {op d x y m a b : Int} (hf : fmI op = 6) : Pure Try.prog 13 (cons [.agg 5 [.int .i64 op, .int .i64 d, .int .i64 x, .int .i64 y, .int .i64 m], .int .u32 a, .int .u32 b]) (con (.tup [.int .u32 (doI op d x y m a b), .bool (dkB op d x y m b)])) := by
  refine pureX (u := 80) (k := 20) mix (TA2ok 6) ?_
  rw [r_dox1_6]
  rw [do_no (.inr (by omega)), dk_no (.inr (by omega))]
  cases hr : rtB op d x y m <;> simp only [hf, hr, decide_true, decide_false, cond_true, cond_false, pk_and, pk_or, pk3, pk4, Bool.not_true, Bool.not_false]
theorem dox1_7 {op d x y m a b : Int} (hf : fmI op = 7) : Pure Try.prog 13 (cons [.agg 5 [.int .i64 op, .int .i64 d, .int .i64 x, .int .i64 y, .int .i64 m], .int .u32 a, .int .u32 b]) (con (.tup [.int .u32 (doI op d x y m a b), .bool (dkB op d x y m b)])) := by
  refine pureX (u := 80) (k := 20) mix (TA2ok 7) ?_
  rw [r_dox1_7]
  rw [do_no (.inr (by omega)), dk_no (.inr (by omega))]
  cases hr : rtB op d x y m <;> simp only [hf, hr, decide_true, decide_false, cond_true, cond_false, pk_and, pk_or, pk3, pk4, Bool.not_true, Bool.not_false]
theorem dox1_8 {op d x y m a b : Int} (hf : fmI op = 8) : Pure Try.prog 13 (cons [.agg 5 [.int .i64 op, .int .i64 d, .int .i64 x, .int .i64 y, .int .i64 m], .int .u32 a, .int .u32 b]) (con (.tup [.int .u32 (doI op d x y m a b), .bool (dkB op d x y m b)])) := by
  refine pureX (u := 80) (k := 20) mix (TA2ok 8) ?_
  rw [r_dox1_8]
  rw [do_no (.inr (by omega)), dk_no (.inr (by omega))]
  cases hr : rtB op d x y m <;> simp only [hf, hr, decide_true, decide_false, cond_true, cond_false, pk_and, pk_or, pk3, pk4, Bool.not_true, Bool.not_false]
theorem doA1 {op d x y m a b : Int} (h0 : 0 ≤ a) (h1 : a ≤ 4294967295) (h2 : 0 ≤ b) (h3 : b ≤ 4294967295) : Pure Try.prog 13 (cons [.agg 5 [.int .i64 op, .int .i64 d, .int .i64 x, .int .i64 y, .int .i64 m], .int .u32 a, .int .u32 b]) (con (.tup [.int .u32 (doI op d x y m a b), .bool (dkB op d x y m b)])) := by
  rcases fm_in op with h | h | h | h | h | h | h | h | h
  · exact dox1_0 h
  · have := fm1 h
    have hc : op = 1 ∨ op = 2 ∨ op = 3 ∨ op = 4 ∨ op = 5 ∨ op = 6 ∨ op = 7 ∨ op = 8 ∨ op = 9 ∨ op = 10 ∨ op = 11 ∨ op = 12 ∨ op = 13 ∨ op = 14 ∨ op = 15 ∨ op = 16 := by omega
    rcases hc with rfl | rfl | rfl | rfl | rfl | rfl | rfl | rfl | rfl | rfl | rfl | rfl | rfl | rfl | rfl | rfl
    · exact do1_1 h0 h1 h2 h3
    · exact do1_2 h0 h1 h2 h3
    · exact do1_3 h0 h1 h2 h3
    · exact do1_4 h0 h1 h2 h3
    · exact do1_5 h0 h1 h2 h3
    · exact do1_6 h0 h1 h2 h3
    · exact do1_7 h0 h1 h2 h3
    · exact do1_8 h0 h1 h2 h3
    · exact do1_9 h0 h1 h2 h3
    · exact do1_10 h0 h1 h2 h3
    · exact do1_11 h0 h1 h2 h3
    · exact do1_12 h0 h1 h2 h3
    · exact do1_13 h0 h1 h2 h3
    · exact do1_14 h0 h1 h2 h3
    · exact do1_15 h0 h1 h2 h3
    · exact do1_16 h0 h1 h2 h3
  · have := fm2 h
    have hc : op = 17 ∨ op = 18 ∨ op = 19 ∨ op = 20 ∨ op = 21 ∨ op = 22 ∨ op = 23 ∨ op = 24 := by omega
    rcases hc with rfl | rfl | rfl | rfl | rfl | rfl | rfl | rfl
    · exact do1_17 h0 h1 h2 h3
    · exact do1_18 h0 h1 h2 h3
    · exact do1_19 h0 h1 h2 h3
    · exact do1_20 h0 h1 h2 h3
    · exact do1_21 h0 h1 h2 h3
    · exact do1_22 h0 h1 h2 h3
    · exact do1_23 h0 h1 h2 h3
    · exact do1_24 h0 h1 h2 h3
  · have := fm3 h
    subst this
    exact do1_25 h0 h1 h2 h3
  · exact dox1_4 h
  · exact dox1_5 h
  · exact dox1_6 h
  · exact dox1_7 h
  · exact dox1_8 h
theorem sp_do1 : SpOk Try.prog (13, doSp) := fun args nd v h hn => by
  simp only [doSp] at h
  split at h
  · simp only [Option.some.injEq, Prod.mk.injEq] at h
    obtain ⟨rfl, rfl⟩ := h
    simp only [allT_cons, decide_eq_true_eq] at hn
    exact doA1 hn.1 hn.2.1 hn.2.2.1 hn.2.2.2.1
  · cases h
theorem do2_1 {d x y m a b : Int} (h0 : 0 ≤ a) (h1 : a ≤ 4294967295) (h2 : 0 ≤ b) (h3 : b ≤ 4294967295) : Pure Try.prog 14 (cons [.agg 5 [.int .i64 1, .int .i64 d, .int .i64 x, .int .i64 y, .int .i64 m], .int .u32 a, .int .u32 b]) (con (.tup [.int .u32 (doI 1 d x y m a b), .bool (dkB 1 d x y m b)])) := by
  refine pureX (u := 80) (k := 20) mix (TA2ok 1) ?_
  rw [r_do2_1]
  have m0 : 0 ≤ IntKind.u32.wrap m := by rw [wU32]; omega
  have m1 : IntKind.u32.wrap m ≤ 4294967295 := by rw [wU32]; omega
  cases hr : rtB 1 d x y m with
  | false =>
    rw [do_no (.inl hr), dk_no (.inl hr)]
    simp only [hr, h0, h1, h2, h3, m0, m1, decide_true, decide_false, cond_true, cond_false, pk_and, pk_or, pk3, pk4, Bool.not_true, Bool.not_false]
  | true =>
    have e1 : doI 1 d x y m a b = alW 1 a b := by
      unfold doI
      rw [hr, if_neg (by decide)]
      rfl
    have e2 : dkB 1 d x y m b = true := by
      unfold dkB
      rw [hr, if_neg (by decide)]
      simp
    rw [e1, e2]
    simp only [hr, h0, h1, h2, h3, m0, m1, decide_true, decide_false, cond_true, cond_false, pk_and, pk_or, pk3, pk4, Bool.not_true, Bool.not_false]
    refine conT2 (conI ?_) rfl
    simp only [alW, i32, shA h2 h3, shB h2 h3, shA m0 m1, shB m0 m1, fdivP, fdivQ, w32w64, w64i32, w64mul, mul_mod, if_true, if_false, Int.reduceEq]
    try rw [wU32, mul_mod]
    try rfl
theorem do2_2 {d x y m a b : Int} (h0 : 0 ≤ a) (h1 : a ≤ 4294967295) (h2 : 0 ≤ b) (h3 : b ≤ 4294967295) : Pure Try.prog 14 (cons [.agg 5 [.int .i64 2, .int .i64 d, .int .i64 x, .int .i64 y, .int .i64 m], .int .u32 a, .int .u32 b]) (con (.tup [.int .u32 (doI 2 d x y m a b), .bool (dkB 2 d x y m b)])) := by
  refine pureX (u := 80) (k := 20) mix (TA2ok 1) ?_
  rw [r_do2_2]
  have m0 : 0 ≤ IntKind.u32.wrap m := by rw [wU32]; omega
  have m1 : IntKind.u32.wrap m ≤ 4294967295 := by rw [wU32]; omega
  cases hr : rtB 2 d x y m with
  | false =>
    rw [do_no (.inl hr), dk_no (.inl hr)]
    simp only [hr, h0, h1, h2, h3, m0, m1, decide_true, decide_false, cond_true, cond_false, pk_and, pk_or, pk3, pk4, Bool.not_true, Bool.not_false]
  | true =>
    have e1 : doI 2 d x y m a b = alW 2 a b := by
      unfold doI
      rw [hr, if_neg (by decide)]
      rfl
    have e2 : dkB 2 d x y m b = true := by
      unfold dkB
      rw [hr, if_neg (by decide)]
      simp
    rw [e1, e2]
    simp only [hr, h0, h1, h2, h3, m0, m1, decide_true, decide_false, cond_true, cond_false, pk_and, pk_or, pk3, pk4, Bool.not_true, Bool.not_false]
    refine conT2 (conI ?_) rfl
    simp only [alW, i32, shA h2 h3, shB h2 h3, shA m0 m1, shB m0 m1, fdivP, fdivQ, w32w64, w64i32, w64mul, mul_mod, if_true, if_false, Int.reduceEq]
    try rw [wU32, mul_mod]
    try rfl
theorem do2_3 {d x y m a b : Int} (h0 : 0 ≤ a) (h1 : a ≤ 4294967295) (h2 : 0 ≤ b) (h3 : b ≤ 4294967295) : Pure Try.prog 14 (cons [.agg 5 [.int .i64 3, .int .i64 d, .int .i64 x, .int .i64 y, .int .i64 m], .int .u32 a, .int .u32 b]) (con (.tup [.int .u32 (doI 3 d x y m a b), .bool (dkB 3 d x y m b)])) := by
  refine pureX (u := 80) (k := 20) mix (TA2ok 1) ?_
  rw [r_do2_3]
  have m0 : 0 ≤ IntKind.u32.wrap m := by rw [wU32]; omega
  have m1 : IntKind.u32.wrap m ≤ 4294967295 := by rw [wU32]; omega
  cases hr : rtB 3 d x y m with
  | false =>
    rw [do_no (.inl hr), dk_no (.inl hr)]
    simp only [hr, h0, h1, h2, h3, m0, m1, decide_true, decide_false, cond_true, cond_false, pk_and, pk_or, pk3, pk4, Bool.not_true, Bool.not_false]
  | true =>
    have e1 : doI 3 d x y m a b = alW 3 a b := by
      unfold doI
      rw [hr, if_neg (by decide)]
      rfl
    have e2 : dkB 3 d x y m b = true := by
      unfold dkB
      rw [hr, if_neg (by decide)]
      simp
    rw [e1, e2]
    simp only [hr, h0, h1, h2, h3, m0, m1, decide_true, decide_false, cond_true, cond_false, pk_and, pk_or, pk3, pk4, Bool.not_true, Bool.not_false]
    refine conT2 (conI ?_) rfl
    simp only [alW, i32, shA h2 h3, shB h2 h3, shA m0 m1, shB m0 m1, fdivP, fdivQ, w32w64, w64i32, w64mul, mul_mod, if_true, if_false, Int.reduceEq]
    try rw [wU32, mul_mod]
    try rfl
theorem do2_4 {d x y m a b : Int} (h0 : 0 ≤ a) (h1 : a ≤ 4294967295) (h2 : 0 ≤ b) (h3 : b ≤ 4294967295) : Pure Try.prog 14 (cons [.agg 5 [.int .i64 4, .int .i64 d, .int .i64 x, .int .i64 y, .int .i64 m], .int .u32 a, .int .u32 b]) (con (.tup [.int .u32 (doI 4 d x y m a b), .bool (dkB 4 d x y m b)])) := by
  refine pureX (u := 80) (k := 20) mix (TA2ok 1) ?_
  rw [r_do2_4]
  have m0 : 0 ≤ IntKind.u32.wrap m := by rw [wU32]; omega
  have m1 : IntKind.u32.wrap m ≤ 4294967295 := by rw [wU32]; omega
  cases hr : rtB 4 d x y m with
  | false =>
    rw [do_no (.inl hr), dk_no (.inl hr)]
    simp only [hr, h0, h1, h2, h3, m0, m1, decide_true, decide_false, cond_true, cond_false, pk_and, pk_or, pk3, pk4, Bool.not_true, Bool.not_false]
  | true =>
    have e1 : doI 4 d x y m a b = alW 4 a b := by
      unfold doI
      rw [hr, if_neg (by decide)]
      rfl
    have e2 : dkB 4 d x y m b = true := by
      unfold dkB
      rw [hr, if_neg (by decide)]
      simp
    rw [e1, e2]
    simp only [hr, h0, h1, h2, h3, m0, m1, decide_true, decide_false, cond_true, cond_false, pk_and, pk_or, pk3, pk4, Bool.not_true, Bool.not_false]
    refine conT2 (conI ?_) rfl
    simp only [alW, i32, shA h2 h3, shB h2 h3, shA m0 m1, shB m0 m1, fdivP, fdivQ, w32w64, w64i32, w64mul, mul_mod, if_true, if_false, Int.reduceEq]
    try rw [wU32, mul_mod]
    try rfl
theorem do2_5 {d x y m a b : Int} (h0 : 0 ≤ a) (h1 : a ≤ 4294967295) (h2 : 0 ≤ b) (h3 : b ≤ 4294967295) : Pure Try.prog 14 (cons [.agg 5 [.int .i64 5, .int .i64 d, .int .i64 x, .int .i64 y, .int .i64 m], .int .u32 a, .int .u32 b]) (con (.tup [.int .u32 (doI 5 d x y m a b), .bool (dkB 5 d x y m b)])) := by
  refine pureX (u := 80) (k := 20) mix (TA2ok 1) ?_
  rw [r_do2_5]
  have m0 : 0 ≤ IntKind.u32.wrap m := by rw [wU32]; omega
  have m1 : IntKind.u32.wrap m ≤ 4294967295 := by rw [wU32]; omega
  cases hr : rtB 5 d x y m with
  | false =>
    rw [do_no (.inl hr), dk_no (.inl hr)]
    simp only [hr, h0, h1, h2, h3, m0, m1, decide_true, decide_false, cond_true, cond_false, pk_and, pk_or, pk3, pk4, Bool.not_true, Bool.not_false]
  | true =>
    have e1 : doI 5 d x y m a b = alW 5 a b := by
      unfold doI
      rw [hr, if_neg (by decide)]
      rfl
    have e2 : dkB 5 d x y m b = true := by
      unfold dkB
      rw [hr, if_neg (by decide)]
      simp
    rw [e1, e2]
    simp only [hr, h0, h1, h2, h3, m0, m1, decide_true, decide_false, cond_true, cond_false, pk_and, pk_or, pk3, pk4, Bool.not_true, Bool.not_false]
    refine conT2 (conI ?_) rfl
    simp only [alW, i32, shA h2 h3, shB h2 h3, shA m0 m1, shB m0 m1, fdivP, fdivQ, w32w64, w64i32, w64mul, mul_mod, if_true, if_false, Int.reduceEq]
    try rw [wU32, mul_mod]
    try rfl
theorem do2_6 {d x y m a b : Int} (h0 : 0 ≤ a) (h1 : a ≤ 4294967295) (h2 : 0 ≤ b) (h3 : b ≤ 4294967295) : Pure Try.prog 14 (cons [.agg 5 [.int .i64 6, .int .i64 d, .int .i64 x, .int .i64 y, .int .i64 m], .int .u32 a, .int .u32 b]) (con (.tup [.int .u32 (doI 6 d x y m a b), .bool (dkB 6 d x y m b)])) := by
  refine pureX (u := 80) (k := 20) mix (TA2ok 1) ?_
  rw [r_do2_6]
  have m0 : 0 ≤ IntKind.u32.wrap m := by rw [wU32]; omega
  have m1 : IntKind.u32.wrap m ≤ 4294967295 := by rw [wU32]; omega
  cases hr : rtB 6 d x y m with
  | false =>
    rw [do_no (.inl hr), dk_no (.inl hr)]
    simp only [hr, h0, h1, h2, h3, m0, m1, decide_true, decide_false, cond_true, cond_false, pk_and, pk_or, pk3, pk4, Bool.not_true, Bool.not_false]
  | true =>
    have e1 : doI 6 d x y m a b = alW 6 a b := by
      unfold doI
      rw [hr, if_neg (by decide)]
      rfl
    have e2 : dkB 6 d x y m b = true := by
      unfold dkB
      rw [hr, if_neg (by decide)]
      simp
    rw [e1, e2]
    simp only [hr, h0, h1, h2, h3, m0, m1, decide_true, decide_false, cond_true, cond_false, pk_and, pk_or, pk3, pk4, Bool.not_true, Bool.not_false]
    refine conT2 (conI ?_) rfl
    simp only [alW, i32, shA h2 h3, shB h2 h3, shA m0 m1, shB m0 m1, fdivP, fdivQ, w32w64, w64i32, w64mul, mul_mod, if_true, if_false, Int.reduceEq]
    try rw [wU32, mul_mod]
    try rfl
theorem do2_7 {d x y m a b : Int} (h0 : 0 ≤ a) (h1 : a ≤ 4294967295) (h2 : 0 ≤ b) (h3 : b ≤ 4294967295) : Pure Try.prog 14 (cons [.agg 5 [.int .i64 7, .int .i64 d, .int .i64 x, .int .i64 y, .int .i64 m], .int .u32 a, .int .u32 b]) (con (.tup [.int .u32 (doI 7 d x y m a b), .bool (dkB 7 d x y m b)])) := by
  refine pureX (u := 80) (k := 20) mix (TA2ok 1) ?_
  rw [r_do2_7]
  have m0 : 0 ≤ IntKind.u32.wrap m := by rw [wU32]; omega
  have m1 : IntKind.u32.wrap m ≤ 4294967295 := by rw [wU32]; omega
  cases hr : rtB 7 d x y m with
  | false =>
    rw [do_no (.inl hr), dk_no (.inl hr)]
    simp only [hr, h0, h1, h2, h3, m0, m1, decide_true, decide_false, cond_true, cond_false, pk_and, pk_or, pk3, pk4, Bool.not_true, Bool.not_false]
  | true =>
    have e1 : doI 7 d x y m a b = alW 7 a b := by
      unfold doI
      rw [hr, if_neg (by decide)]
      rfl
    have e2 : dkB 7 d x y m b = true := by
      unfold dkB
      rw [hr, if_neg (by decide)]
      simp
    rw [e1, e2]
    simp only [hr, h0, h1, h2, h3, m0, m1, decide_true, decide_false, cond_true, cond_false, pk_and, pk_or, pk3, pk4, Bool.not_true, Bool.not_false]
    refine conT2 (conI ?_) rfl
    simp only [alW, i32, shA h2 h3, shB h2 h3, shA m0 m1, shB m0 m1, fdivP, fdivQ, w32w64, w64i32, w64mul, mul_mod, if_true, if_false, Int.reduceEq]
    try rw [wU32, mul_mod]
    try rfl
theorem do2_8 {d x y m a b : Int} (h0 : 0 ≤ a) (h1 : a ≤ 4294967295) (h2 : 0 ≤ b) (h3 : b ≤ 4294967295) : Pure Try.prog 14 (cons [.agg 5 [.int .i64 8, .int .i64 d, .int .i64 x, .int .i64 y, .int .i64 m], .int .u32 a, .int .u32 b]) (con (.tup [.int .u32 (doI 8 d x y m a b), .bool (dkB 8 d x y m b)])) := by
  refine pureX (u := 80) (k := 20) mix (TA2ok 1) ?_
  rw [r_do2_8]
  have m0 : 0 ≤ IntKind.u32.wrap m := by rw [wU32]; omega
  have m1 : IntKind.u32.wrap m ≤ 4294967295 := by rw [wU32]; omega
  cases hr : rtB 8 d x y m with
  | false =>
    rw [do_no (.inl hr), dk_no (.inl hr)]
    simp only [hr, h0, h1, h2, h3, m0, m1, decide_true, decide_false, cond_true, cond_false, pk_and, pk_or, pk3, pk4, Bool.not_true, Bool.not_false]
  | true =>
    have e1 : doI 8 d x y m a b = alW 8 a b := by
      unfold doI
      rw [hr, if_neg (by decide)]
      rfl
    have e2 : dkB 8 d x y m b = true := by
      unfold dkB
      rw [hr, if_neg (by decide)]
      simp
    rw [e1, e2]
    simp only [hr, h0, h1, h2, h3, m0, m1, decide_true, decide_false, cond_true, cond_false, pk_and, pk_or, pk3, pk4, Bool.not_true, Bool.not_false]
    refine conT2 (conI ?_) rfl
    simp only [alW, i32, shA h2 h3, shB h2 h3, shA m0 m1, shB m0 m1, fdivP, fdivQ, w32w64, w64i32, w64mul, mul_mod, if_true, if_false, Int.reduceEq]
    try rw [wU32, mul_mod]
    try rfl
theorem do2_9 {d x y m a b : Int} (h0 : 0 ≤ a) (h1 : a ≤ 4294967295) (h2 : 0 ≤ b) (h3 : b ≤ 4294967295) : Pure Try.prog 14 (cons [.agg 5 [.int .i64 9, .int .i64 d, .int .i64 x, .int .i64 y, .int .i64 m], .int .u32 a, .int .u32 b]) (con (.tup [.int .u32 (doI 9 d x y m a b), .bool (dkB 9 d x y m b)])) := by
  refine pureX (u := 80) (k := 20) mix (TA2ok 1) ?_
  rw [r_do2_9]
  have m0 : 0 ≤ IntKind.u32.wrap m := by rw [wU32]; omega
  have m1 : IntKind.u32.wrap m ≤ 4294967295 := by rw [wU32]; omega
  cases hr : rtB 9 d x y m with
  | false =>
    rw [do_no (.inl hr), dk_no (.inl hr)]
    simp only [hr, h0, h1, h2, h3, m0, m1, decide_true, decide_false, cond_true, cond_false, pk_and, pk_or, pk3, pk4, Bool.not_true, Bool.not_false]
  | true =>
    have e1 : doI 9 d x y m a b = alW 9 a b := by
      unfold doI
      rw [hr, if_neg (by decide)]
      rfl
    have e2 : dkB 9 d x y m b = true := by
      unfold dkB
      rw [hr, if_neg (by decide)]
      simp
    rw [e1, e2]
    simp only [hr, h0, h1, h2, h3, m0, m1, decide_true, decide_false, cond_true, cond_false, pk_and, pk_or, pk3, pk4, Bool.not_true, Bool.not_false]
    refine conT2 (conI ?_) rfl
    simp only [alW, i32, shA h2 h3, shB h2 h3, shA m0 m1, shB m0 m1, fdivP, fdivQ, w32w64, w64i32, w64mul, mul_mod, if_true, if_false, Int.reduceEq]
    try rw [wU32, mul_mod]
    try rfl
theorem do2_10 {d x y m a b : Int} (h0 : 0 ≤ a) (h1 : a ≤ 4294967295) (h2 : 0 ≤ b) (h3 : b ≤ 4294967295) : Pure Try.prog 14 (cons [.agg 5 [.int .i64 10, .int .i64 d, .int .i64 x, .int .i64 y, .int .i64 m], .int .u32 a, .int .u32 b]) (con (.tup [.int .u32 (doI 10 d x y m a b), .bool (dkB 10 d x y m b)])) := by
  refine pureX (u := 80) (k := 20) mix (TA2ok 1) ?_
  rw [r_do2_10]
  have m0 : 0 ≤ IntKind.u32.wrap m := by rw [wU32]; omega
  have m1 : IntKind.u32.wrap m ≤ 4294967295 := by rw [wU32]; omega
  cases hr : rtB 10 d x y m with
  | false =>
    rw [do_no (.inl hr), dk_no (.inl hr)]
    simp only [hr, h0, h1, h2, h3, m0, m1, decide_true, decide_false, cond_true, cond_false, pk_and, pk_or, pk3, pk4, Bool.not_true, Bool.not_false]
  | true =>
    have e1 : doI 10 d x y m a b = alW 10 a b := by
      unfold doI
      rw [hr, if_neg (by decide)]
      rfl
    have e2 : dkB 10 d x y m b = true := by
      unfold dkB
      rw [hr, if_neg (by decide)]
      simp
    rw [e1, e2]
    simp only [hr, h0, h1, h2, h3, m0, m1, decide_true, decide_false, cond_true, cond_false, pk_and, pk_or, pk3, pk4, Bool.not_true, Bool.not_false]
    refine conT2 (conI ?_) rfl
    simp only [alW, i32, shA h2 h3, shB h2 h3, shA m0 m1, shB m0 m1, fdivP, fdivQ, w32w64, w64i32, w64mul, mul_mod, if_true, if_false, Int.reduceEq]
    try rw [wU32, mul_mod]
    try rfl
theorem do2_11 {d x y m a b : Int} (h0 : 0 ≤ a) (h1 : a ≤ 4294967295) (h2 : 0 ≤ b) (h3 : b ≤ 4294967295) : Pure Try.prog 14 (cons [.agg 5 [.int .i64 11, .int .i64 d, .int .i64 x, .int .i64 y, .int .i64 m], .int .u32 a, .int .u32 b]) (con (.tup [.int .u32 (doI 11 d x y m a b), .bool (dkB 11 d x y m b)])) := by
  refine pureX (u := 80) (k := 20) mix (TA2ok 1) ?_
  rw [r_do2_11]
  have m0 : 0 ≤ IntKind.u32.wrap m := by rw [wU32]; omega
  have m1 : IntKind.u32.wrap m ≤ 4294967295 := by rw [wU32]; omega
  cases hr : rtB 11 d x y m with
  | false =>
    rw [do_no (.inl hr), dk_no (.inl hr)]
    simp only [hr, h0, h1, h2, h3, m0, m1, decide_true, decide_false, cond_true, cond_false, pk_and, pk_or, pk3, pk4, Bool.not_true, Bool.not_false]
  | true =>
    have e1 : doI 11 d x y m a b = alW 11 a b := by
      unfold doI
      rw [hr, if_neg (by decide)]
      rfl
    have e2 : dkB 11 d x y m b = true := by
      unfold dkB
      rw [hr, if_neg (by decide)]
      simp
    rw [e1, e2]
    simp only [hr, h0, h1, h2, h3, m0, m1, decide_true, decide_false, cond_true, cond_false, pk_and, pk_or, pk3, pk4, Bool.not_true, Bool.not_false]
    refine conT2 (conI ?_) rfl
    simp only [alW, i32, shA h2 h3, shB h2 h3, shA m0 m1, shB m0 m1, fdivP, fdivQ, w32w64, w64i32, w64mul, mul_mod, if_true, if_false, Int.reduceEq]
    try rw [wU32, mul_mod]
    try rfl
theorem do2_12 {d x y m a b : Int} (h0 : 0 ≤ a) (h1 : a ≤ 4294967295) (h2 : 0 ≤ b) (h3 : b ≤ 4294967295) : Pure Try.prog 14 (cons [.agg 5 [.int .i64 12, .int .i64 d, .int .i64 x, .int .i64 y, .int .i64 m], .int .u32 a, .int .u32 b]) (con (.tup [.int .u32 (doI 12 d x y m a b), .bool (dkB 12 d x y m b)])) := by
  refine pureX (u := 80) (k := 20) mix (TA2ok 1) ?_
  rw [r_do2_12]
  have m0 : 0 ≤ IntKind.u32.wrap m := by rw [wU32]; omega
  have m1 : IntKind.u32.wrap m ≤ 4294967295 := by rw [wU32]; omega
  cases hr : rtB 12 d x y m with
  | false =>
    rw [do_no (.inl hr), dk_no (.inl hr)]
    simp only [hr, h0, h1, h2, h3, m0, m1, decide_true, decide_false, cond_true, cond_false, pk_and, pk_or, pk3, pk4, Bool.not_true, Bool.not_false]
  | true =>
    have e1 : doI 12 d x y m a b = alW 12 a b := by
      unfold doI
      rw [hr, if_neg (by decide)]
      rfl
    have e2 : dkB 12 d x y m b = true := by
      unfold dkB
      rw [hr, if_neg (by decide)]
      simp
    rw [e1, e2]
    simp only [hr, h0, h1, h2, h3, m0, m1, decide_true, decide_false, cond_true, cond_false, pk_and, pk_or, pk3, pk4, Bool.not_true, Bool.not_false]
    refine conT2 (conI ?_) rfl
    simp only [alW, i32, shA h2 h3, shB h2 h3, shA m0 m1, shB m0 m1, fdivP, fdivQ, w32w64, w64i32, w64mul, mul_mod, if_true, if_false, Int.reduceEq]
    try rw [wU32, mul_mod]
    try rfl
theorem do2_13 {d x y m a b : Int} (h0 : 0 ≤ a) (h1 : a ≤ 4294967295) (h2 : 0 ≤ b) (h3 : b ≤ 4294967295) : Pure Try.prog 14 (cons [.agg 5 [.int .i64 13, .int .i64 d, .int .i64 x, .int .i64 y, .int .i64 m], .int .u32 a, .int .u32 b]) (con (.tup [.int .u32 (doI 13 d x y m a b), .bool (dkB 13 d x y m b)])) := by
  refine pureX (u := 80) (k := 20) mix (TA2ok 1) ?_
  rw [r_do2_13]
  have m0 : 0 ≤ IntKind.u32.wrap m := by rw [wU32]; omega
  have m1 : IntKind.u32.wrap m ≤ 4294967295 := by rw [wU32]; omega
  cases hr : rtB 13 d x y m with
  | false =>
    rw [do_no (.inl hr), dk_no (.inl hr)]
    simp only [hr, h0, h1, h2, h3, m0, m1, decide_true, decide_false, cond_true, cond_false, pk_and, pk_or, pk3, pk4, Bool.not_true, Bool.not_false]
  | true =>
    have e1 : doI 13 d x y m a b = alW 13 a b := by
      unfold doI
      rw [hr, if_neg (by decide)]
      rfl
    have e2 : dkB 13 d x y m b = !decide (b = 0) := by
      unfold dkB
      rw [hr, if_neg (by decide)]
      simp
    rw [e1, e2]
    simp only [hr, h0, h1, h2, h3, m0, m1, decide_true, decide_false, cond_true, cond_false, pk_and, pk_or, pk3, pk4, Bool.not_true, Bool.not_false]
    by_cases hb : b = 0
    · subst hb
      rfl
    have hi : ¬ IntKind.i32.wrap b = 0 := fun h => hb ((i32_0 h2 h3).1 h)
    have hi2 : ¬ i32 b = 0 := hi
    simp only [hb, hi, hi2, not_false_eq_true, decide_not, decide_true, decide_false, cond_true, cond_false, pk_and, pk_or, pk3, pk4, Bool.not_true, Bool.not_false]
    refine conT2 (conI ?_) rfl
    simp only [alW, i32, hb, if_false, if_true, w32i32, w32w64, Int.reduceEq]
    try rfl
theorem do2_14 {d x y m a b : Int} (h0 : 0 ≤ a) (h1 : a ≤ 4294967295) (h2 : 0 ≤ b) (h3 : b ≤ 4294967295) : Pure Try.prog 14 (cons [.agg 5 [.int .i64 14, .int .i64 d, .int .i64 x, .int .i64 y, .int .i64 m], .int .u32 a, .int .u32 b]) (con (.tup [.int .u32 (doI 14 d x y m a b), .bool (dkB 14 d x y m b)])) := by
  refine pureX (u := 80) (k := 20) mix (TA2ok 1) ?_
  rw [r_do2_14]
  have m0 : 0 ≤ IntKind.u32.wrap m := by rw [wU32]; omega
  have m1 : IntKind.u32.wrap m ≤ 4294967295 := by rw [wU32]; omega
  cases hr : rtB 14 d x y m with
  | false =>
    rw [do_no (.inl hr), dk_no (.inl hr)]
    simp only [hr, h0, h1, h2, h3, m0, m1, decide_true, decide_false, cond_true, cond_false, pk_and, pk_or, pk3, pk4, Bool.not_true, Bool.not_false]
  | true =>
    have e1 : doI 14 d x y m a b = alW 14 a b := by
      unfold doI
      rw [hr, if_neg (by decide)]
      rfl
    have e2 : dkB 14 d x y m b = !decide (b = 0) := by
      unfold dkB
      rw [hr, if_neg (by decide)]
      simp
    rw [e1, e2]
    simp only [hr, h0, h1, h2, h3, m0, m1, decide_true, decide_false, cond_true, cond_false, pk_and, pk_or, pk3, pk4, Bool.not_true, Bool.not_false]
    by_cases hb : b = 0
    · subst hb
      rfl
    have hi : ¬ IntKind.i32.wrap b = 0 := fun h => hb ((i32_0 h2 h3).1 h)
    have hi2 : ¬ i32 b = 0 := hi
    simp only [hb, hi, hi2, not_false_eq_true, decide_not, decide_true, decide_false, cond_true, cond_false, pk_and, pk_or, pk3, pk4, Bool.not_true, Bool.not_false]
    refine conT2 (conI ?_) rfl
    simp only [alW, i32, hb, if_false, if_true, w32i32, w32w64, Int.reduceEq]
    rw [Int.tdiv_eq_ediv_of_nonneg h0]
    have := udiv_rng (b := b) h0 h1 h2
    rw [wU32]; omega
theorem do2_15 {d x y m a b : Int} (h0 : 0 ≤ a) (h1 : a ≤ 4294967295) (h2 : 0 ≤ b) (h3 : b ≤ 4294967295) : Pure Try.prog 14 (cons [.agg 5 [.int .i64 15, .int .i64 d, .int .i64 x, .int .i64 y, .int .i64 m], .int .u32 a, .int .u32 b]) (con (.tup [.int .u32 (doI 15 d x y m a b), .bool (dkB 15 d x y m b)])) := by
  refine pureX (u := 80) (k := 20) mix (TA2ok 1) ?_
  rw [r_do2_15]
  have m0 : 0 ≤ IntKind.u32.wrap m := by rw [wU32]; omega
  have m1 : IntKind.u32.wrap m ≤ 4294967295 := by rw [wU32]; omega
  cases hr : rtB 15 d x y m with
  | false =>
    rw [do_no (.inl hr), dk_no (.inl hr)]
    simp only [hr, h0, h1, h2, h3, m0, m1, decide_true, decide_false, cond_true, cond_false, pk_and, pk_or, pk3, pk4, Bool.not_true, Bool.not_false]
  | true =>
    have e1 : doI 15 d x y m a b = alW 15 a b := by
      unfold doI
      rw [hr, if_neg (by decide)]
      rfl
    have e2 : dkB 15 d x y m b = !decide (b = 0) := by
      unfold dkB
      rw [hr, if_neg (by decide)]
      simp
    rw [e1, e2]
    simp only [hr, h0, h1, h2, h3, m0, m1, decide_true, decide_false, cond_true, cond_false, pk_and, pk_or, pk3, pk4, Bool.not_true, Bool.not_false]
    by_cases hb : b = 0
    · subst hb
      rfl
    have hi : ¬ IntKind.i32.wrap b = 0 := fun h => hb ((i32_0 h2 h3).1 h)
    have hi2 : ¬ i32 b = 0 := hi
    simp only [hb, hi, hi2, not_false_eq_true, decide_not, decide_true, decide_false, cond_true, cond_false, pk_and, pk_or, pk3, pk4, Bool.not_true, Bool.not_false]
    refine conT2 (conI ?_) rfl
    simp only [alW, i32, hb, if_false, if_true, w32i32, w32w64, Int.reduceEq]
    try rfl
theorem do2_16 {d x y m a b : Int} (h0 : 0 ≤ a) (h1 : a ≤ 4294967295) (h2 : 0 ≤ b) (h3 : b ≤ 4294967295) : Pure Try.prog 14 (cons [.agg 5 [.int .i64 16, .int .i64 d, .int .i64 x, .int .i64 y, .int .i64 m], .int .u32 a, .int .u32 b]) (con (.tup [.int .u32 (doI 16 d x y m a b), .bool (dkB 16 d x y m b)])) := by
  refine pureX (u := 80) (k := 20) mix (TA2ok 1) ?_
  rw [r_do2_16]
  have m0 : 0 ≤ IntKind.u32.wrap m := by rw [wU32]; omega
  have m1 : IntKind.u32.wrap m ≤ 4294967295 := by rw [wU32]; omega
  cases hr : rtB 16 d x y m with
  | false =>
    rw [do_no (.inl hr), dk_no (.inl hr)]
    simp only [hr, h0, h1, h2, h3, m0, m1, decide_true, decide_false, cond_true, cond_false, pk_and, pk_or, pk3, pk4, Bool.not_true, Bool.not_false]
  | true =>
    have e1 : doI 16 d x y m a b = alW 16 a b := by
      unfold doI
      rw [hr, if_neg (by decide)]
      rfl
    have e2 : dkB 16 d x y m b = !decide (b = 0) := by
      unfold dkB
      rw [hr, if_neg (by decide)]
      simp
    rw [e1, e2]
    simp only [hr, h0, h1, h2, h3, m0, m1, decide_true, decide_false, cond_true, cond_false, pk_and, pk_or, pk3, pk4, Bool.not_true, Bool.not_false]
    by_cases hb : b = 0
    · subst hb
      rfl
    have hi : ¬ IntKind.i32.wrap b = 0 := fun h => hb ((i32_0 h2 h3).1 h)
    have hi2 : ¬ i32 b = 0 := hi
    simp only [hb, hi, hi2, not_false_eq_true, decide_not, decide_true, decide_false, cond_true, cond_false, pk_and, pk_or, pk3, pk4, Bool.not_true, Bool.not_false]
    refine conT2 (conI ?_) rfl
    simp only [alW, i32, hb, if_false, if_true, w32i32, w32w64, Int.reduceEq]
    rw [Int.tmod_eq_emod_of_nonneg h0]
theorem do2_17 {d x y m a b : Int} (h0 : 0 ≤ a) (h1 : a ≤ 4294967295) (h2 : 0 ≤ b) (h3 : b ≤ 4294967295) : Pure Try.prog 14 (cons [.agg 5 [.int .i64 17, .int .i64 d, .int .i64 x, .int .i64 y, .int .i64 m], .int .u32 a, .int .u32 b]) (con (.tup [.int .u32 (doI 17 d x y m a b), .bool (dkB 17 d x y m b)])) := by
  refine pureX (u := 80) (k := 20) mix (TA2ok 2) ?_
  rw [r_do2_17]
  have m0 : 0 ≤ IntKind.u32.wrap m := by rw [wU32]; omega
  have m1 : IntKind.u32.wrap m ≤ 4294967295 := by rw [wU32]; omega
  cases hr : rtB 17 d x y m with
  | false =>
    rw [do_no (.inl hr), dk_no (.inl hr)]
    simp only [hr, h0, h1, h2, h3, m0, m1, decide_true, decide_false, cond_true, cond_false, pk_and, pk_or, pk3, pk4, Bool.not_true, Bool.not_false]
  | true =>
    have e1 : doI 17 d x y m a b = alW 1 a (m % 4294967296) := by
      unfold doI
      rw [hr, if_neg (by decide)]
      rfl
    have e2 : dkB 17 d x y m b = true := by
      unfold dkB
      rw [hr, if_neg (by decide)]
      simp
    rw [e1, e2]
    simp only [hr, h0, h1, h2, h3, m0, m1, decide_true, decide_false, cond_true, cond_false, pk_and, pk_or, pk3, pk4, Bool.not_true, Bool.not_false]
    refine conT2 (conI ?_) rfl
    simp only [alW, i32, shA h2 h3, shB h2 h3, shA m0 m1, shB m0 m1, fdivP, fdivQ, w32w64, w64i32, w64mul, mul_mod, if_true, if_false, Int.reduceEq]
    try rw [wU32, mul_mod]
    try rfl
theorem do2_18 {d x y m a b : Int} (h0 : 0 ≤ a) (h1 : a ≤ 4294967295) (h2 : 0 ≤ b) (h3 : b ≤ 4294967295) : Pure Try.prog 14 (cons [.agg 5 [.int .i64 18, .int .i64 d, .int .i64 x, .int .i64 y, .int .i64 m], .int .u32 a, .int .u32 b]) (con (.tup [.int .u32 (doI 18 d x y m a b), .bool (dkB 18 d x y m b)])) := by
  refine pureX (u := 80) (k := 20) mix (TA2ok 2) ?_
  rw [r_do2_18]
  have m0 : 0 ≤ IntKind.u32.wrap m := by rw [wU32]; omega
  have m1 : IntKind.u32.wrap m ≤ 4294967295 := by rw [wU32]; omega
  cases hr : rtB 18 d x y m with
  | false =>
    rw [do_no (.inl hr), dk_no (.inl hr)]
    simp only [hr, h0, h1, h2, h3, m0, m1, decide_true, decide_false, cond_true, cond_false, pk_and, pk_or, pk3, pk4, Bool.not_true, Bool.not_false]
  | true =>
    have e1 : doI 18 d x y m a b = alW 3 a (m % 4294967296) := by
      unfold doI
      rw [hr, if_neg (by decide)]
      rfl
    have e2 : dkB 18 d x y m b = true := by
      unfold dkB
      rw [hr, if_neg (by decide)]
      simp
    rw [e1, e2]
    simp only [hr, h0, h1, h2, h3, m0, m1, decide_true, decide_false, cond_true, cond_false, pk_and, pk_or, pk3, pk4, Bool.not_true, Bool.not_false]
    refine conT2 (conI ?_) rfl
    simp only [alW, i32, shA h2 h3, shB h2 h3, shA m0 m1, shB m0 m1, fdivP, fdivQ, w32w64, w64i32, w64mul, mul_mod, if_true, if_false, Int.reduceEq]
    try rw [wU32, mul_mod]
    try rfl
theorem do2_19 {d x y m a b : Int} (h0 : 0 ≤ a) (h1 : a ≤ 4294967295) (h2 : 0 ≤ b) (h3 : b ≤ 4294967295) : Pure Try.prog 14 (cons [.agg 5 [.int .i64 19, .int .i64 d, .int .i64 x, .int .i64 y, .int .i64 m], .int .u32 a, .int .u32 b]) (con (.tup [.int .u32 (doI 19 d x y m a b), .bool (dkB 19 d x y m b)])) := by
  refine pureX (u := 80) (k := 20) mix (TA2ok 2) ?_
  rw [r_do2_19]
  have m0 : 0 ≤ IntKind.u32.wrap m := by rw [wU32]; omega
  have m1 : IntKind.u32.wrap m ≤ 4294967295 := by rw [wU32]; omega
  cases hr : rtB 19 d x y m with
  | false =>
    rw [do_no (.inl hr), dk_no (.inl hr)]
    simp only [hr, h0, h1, h2, h3, m0, m1, decide_true, decide_false, cond_true, cond_false, pk_and, pk_or, pk3, pk4, Bool.not_true, Bool.not_false]
  | true =>
    have e1 : doI 19 d x y m a b = alW 4 a (m % 4294967296) := by
      unfold doI
      rw [hr, if_neg (by decide)]
      rfl
    have e2 : dkB 19 d x y m b = true := by
      unfold dkB
      rw [hr, if_neg (by decide)]
      simp
    rw [e1, e2]
    simp only [hr, h0, h1, h2, h3, m0, m1, decide_true, decide_false, cond_true, cond_false, pk_and, pk_or, pk3, pk4, Bool.not_true, Bool.not_false]
    refine conT2 (conI ?_) rfl
    simp only [alW, i32, shA h2 h3, shB h2 h3, shA m0 m1, shB m0 m1, fdivP, fdivQ, w32w64, w64i32, w64mul, mul_mod, if_true, if_false, Int.reduceEq]
    try rw [wU32, mul_mod]
    try rfl
theorem do2_20 {d x y m a b : Int} (h0 : 0 ≤ a) (h1 : a ≤ 4294967295) (h2 : 0 ≤ b) (h3 : b ≤ 4294967295) : Pure Try.prog 14 (cons [.agg 5 [.int .i64 20, .int .i64 d, .int .i64 x, .int .i64 y, .int .i64 m], .int .u32 a, .int .u32 b]) (con (.tup [.int .u32 (doI 20 d x y m a b), .bool (dkB 20 d x y m b)])) := by
  refine pureX (u := 80) (k := 20) mix (TA2ok 2) ?_
  rw [r_do2_20]
  have m0 : 0 ≤ IntKind.u32.wrap m := by rw [wU32]; omega
  have m1 : IntKind.u32.wrap m ≤ 4294967295 := by rw [wU32]; omega
  cases hr : rtB 20 d x y m with
  | false =>
    rw [do_no (.inl hr), dk_no (.inl hr)]
    simp only [hr, h0, h1, h2, h3, m0, m1, decide_true, decide_false, cond_true, cond_false, pk_and, pk_or, pk3, pk4, Bool.not_true, Bool.not_false]
  | true =>
    have e1 : doI 20 d x y m a b = alW 5 a (m % 4294967296) := by
      unfold doI
      rw [hr, if_neg (by decide)]
      rfl
    have e2 : dkB 20 d x y m b = true := by
      unfold dkB
      rw [hr, if_neg (by decide)]
      simp
    rw [e1, e2]
    simp only [hr, h0, h1, h2, h3, m0, m1, decide_true, decide_false, cond_true, cond_false, pk_and, pk_or, pk3, pk4, Bool.not_true, Bool.not_false]
    refine conT2 (conI ?_) rfl
    simp only [alW, i32, shA h2 h3, shB h2 h3, shA m0 m1, shB m0 m1, fdivP, fdivQ, w32w64, w64i32, w64mul, mul_mod, if_true, if_false, Int.reduceEq]
    try rw [wU32, mul_mod]
    try rfl
theorem do2_21 {d x y m a b : Int} (h0 : 0 ≤ a) (h1 : a ≤ 4294967295) (h2 : 0 ≤ b) (h3 : b ≤ 4294967295) : Pure Try.prog 14 (cons [.agg 5 [.int .i64 21, .int .i64 d, .int .i64 x, .int .i64 y, .int .i64 m], .int .u32 a, .int .u32 b]) (con (.tup [.int .u32 (doI 21 d x y m a b), .bool (dkB 21 d x y m b)])) := by
  refine pureX (u := 80) (k := 20) mix (TA2ok 2) ?_
  rw [r_do2_21]
  have m0 : 0 ≤ IntKind.u32.wrap m := by rw [wU32]; omega
  have m1 : IntKind.u32.wrap m ≤ 4294967295 := by rw [wU32]; omega
  cases hr : rtB 21 d x y m with
  | false =>
    rw [do_no (.inl hr), dk_no (.inl hr)]
    simp only [hr, h0, h1, h2, h3, m0, m1, decide_true, decide_false, cond_true, cond_false, pk_and, pk_or, pk3, pk4, Bool.not_true, Bool.not_false]
  | true =>
    have e1 : doI 21 d x y m a b = alW 9 a (m % 4294967296) := by
      unfold doI
      rw [hr, if_neg (by decide)]
      rfl
    have e2 : dkB 21 d x y m b = true := by
      unfold dkB
      rw [hr, if_neg (by decide)]
      simp
    rw [e1, e2]
    simp only [hr, h0, h1, h2, h3, m0, m1, decide_true, decide_false, cond_true, cond_false, pk_and, pk_or, pk3, pk4, Bool.not_true, Bool.not_false]
    refine conT2 (conI ?_) rfl
    simp only [alW, i32, shA h2 h3, shB h2 h3, shA m0 m1, shB m0 m1, fdivP, fdivQ, w32w64, w64i32, w64mul, mul_mod, if_true, if_false, Int.reduceEq]
    try rw [wU32, mul_mod]
    try rfl
theorem do2_22 {d x y m a b : Int} (h0 : 0 ≤ a) (h1 : a ≤ 4294967295) (h2 : 0 ≤ b) (h3 : b ≤ 4294967295) : Pure Try.prog 14 (cons [.agg 5 [.int .i64 22, .int .i64 d, .int .i64 x, .int .i64 y, .int .i64 m], .int .u32 a, .int .u32 b]) (con (.tup [.int .u32 (doI 22 d x y m a b), .bool (dkB 22 d x y m b)])) := by
  refine pureX (u := 80) (k := 20) mix (TA2ok 2) ?_
  rw [r_do2_22]
  have m0 : 0 ≤ IntKind.u32.wrap m := by rw [wU32]; omega
  have m1 : IntKind.u32.wrap m ≤ 4294967295 := by rw [wU32]; omega
  cases hr : rtB 22 d x y m with
  | false =>
    rw [do_no (.inl hr), dk_no (.inl hr)]
    simp only [hr, h0, h1, h2, h3, m0, m1, decide_true, decide_false, cond_true, cond_false, pk_and, pk_or, pk3, pk4, Bool.not_true, Bool.not_false]
  | true =>
    have e1 : doI 22 d x y m a b = alW 6 a (m % 4294967296) := by
      unfold doI
      rw [hr, if_neg (by decide)]
      rfl
    have e2 : dkB 22 d x y m b = true := by
      unfold dkB
      rw [hr, if_neg (by decide)]
      simp
    rw [e1, e2]
    simp only [hr, h0, h1, h2, h3, m0, m1, decide_true, decide_false, cond_true, cond_false, pk_and, pk_or, pk3, pk4, Bool.not_true, Bool.not_false]
    refine conT2 (conI ?_) rfl
    simp only [alW, i32, shA h2 h3, shB h2 h3, shA m0 m1, shB m0 m1, fdivP, fdivQ, w32w64, w64i32, w64mul, mul_mod, if_true, if_false, Int.reduceEq]
    try rw [wU32, mul_mod]
    try rfl
theorem do2_23 {d x y m a b : Int} (h0 : 0 ≤ a) (h1 : a ≤ 4294967295) (h2 : 0 ≤ b) (h3 : b ≤ 4294967295) : Pure Try.prog 14 (cons [.agg 5 [.int .i64 23, .int .i64 d, .int .i64 x, .int .i64 y, .int .i64 m], .int .u32 a, .int .u32 b]) (con (.tup [.int .u32 (doI 23 d x y m a b), .bool (dkB 23 d x y m b)])) := by
  refine pureX (u := 80) (k := 20) mix (TA2ok 2) ?_
  rw [r_do2_23]
  have m0 : 0 ≤ IntKind.u32.wrap m := by rw [wU32]; omega
  have m1 : IntKind.u32.wrap m ≤ 4294967295 := by rw [wU32]; omega
  cases hr : rtB 23 d x y m with
  | false =>
    rw [do_no (.inl hr), dk_no (.inl hr)]
    simp only [hr, h0, h1, h2, h3, m0, m1, decide_true, decide_false, cond_true, cond_false, pk_and, pk_or, pk3, pk4, Bool.not_true, Bool.not_false]
  | true =>
    have e1 : doI 23 d x y m a b = alW 7 a (m % 4294967296) := by
      unfold doI
      rw [hr, if_neg (by decide)]
      rfl
    have e2 : dkB 23 d x y m b = true := by
      unfold dkB
      rw [hr, if_neg (by decide)]
      simp
    rw [e1, e2]
    simp only [hr, h0, h1, h2, h3, m0, m1, decide_true, decide_false, cond_true, cond_false, pk_and, pk_or, pk3, pk4, Bool.not_true, Bool.not_false]
    refine conT2 (conI ?_) rfl
    simp only [alW, i32, shA h2 h3, shB h2 h3, shA m0 m1, shB m0 m1, fdivP, fdivQ, w32w64, w64i32, w64mul, mul_mod, if_true, if_false, Int.reduceEq]
    try rw [wU32, mul_mod]
    try rfl
theorem do2_24 {d x y m a b : Int} (h0 : 0 ≤ a) (h1 : a ≤ 4294967295) (h2 : 0 ≤ b) (h3 : b ≤ 4294967295) : Pure Try.prog 14 (cons [.agg 5 [.int .i64 24, .int .i64 d, .int .i64 x, .int .i64 y, .int .i64 m], .int .u32 a, .int .u32 b]) (con (.tup [.int .u32 (doI 24 d x y m a b), .bool (dkB 24 d x y m b)])) := by
  refine pureX (u := 80) (k := 20) mix (TA2ok 2) ?_
  rw [r_do2_24]
  have m0 : 0 ≤ IntKind.u32.wrap m := by rw [wU32]; omega
  have m1 : IntKind.u32.wrap m ≤ 4294967295 := by rw [wU32]; omega
  cases hr : rtB 24 d x y m with
  | false =>
    rw [do_no (.inl hr), dk_no (.inl hr)]
    simp only [hr, h0, h1, h2, h3, m0, m1, decide_true, decide_false, cond_true, cond_false, pk_and, pk_or, pk3, pk4, Bool.not_true, Bool.not_false]
  | true =>
    have e1 : doI 24 d x y m a b = alW 8 a (m % 4294967296) := by
      unfold doI
      rw [hr, if_neg (by decide)]
      rfl
    have e2 : dkB 24 d x y m b = true := by
      unfold dkB
      rw [hr, if_neg (by decide)]
      simp
    rw [e1, e2]
    simp only [hr, h0, h1, h2, h3, m0, m1, decide_true, decide_false, cond_true, cond_false, pk_and, pk_or, pk3, pk4, Bool.not_true, Bool.not_false]
    refine conT2 (conI ?_) rfl
    simp only [alW, i32, shA h2 h3, shB h2 h3, shA m0 m1, shB m0 m1, fdivP, fdivQ, w32w64, w64i32, w64mul, mul_mod, if_true, if_false, Int.reduceEq]
    try rw [wU32, mul_mod]
    try rfl
theorem do2_25 {d x y m a b : Int} (h0 : 0 ≤ a) (h1 : a ≤ 4294967295) (h2 : 0 ≤ b) (h3 : b ≤ 4294967295) : Pure Try.prog 14 (cons [.agg 5 [.int .i64 25, .int .i64 d, .int .i64 x, .int .i64 y, .int .i64 m], .int .u32 a, .int .u32 b]) (con (.tup [.int .u32 (doI 25 d x y m a b), .bool (dkB 25 d x y m b)])) := by
  refine pureX (u := 80) (k := 20) mix (TA2ok 3) ?_
  rw [r_do2_25]
  have m0 : 0 ≤ IntKind.u32.wrap m := by rw [wU32]; omega
  have m1 : IntKind.u32.wrap m ≤ 4294967295 := by rw [wU32]; omega
  cases hr : rtB 25 d x y m with
  | false =>
    rw [do_no (.inl hr), dk_no (.inl hr)]
    simp only [hr, h0, h1, h2, h3, m0, m1, decide_true, decide_false, cond_true, cond_false, pk_and, pk_or, pk3, pk4, Bool.not_true, Bool.not_false]
  | true =>
    have e1 : doI 25 d x y m a b = (m * 262144) % 4294967296 := by
      unfold doI
      rw [hr, if_neg (by decide)]
      rfl
    have e2 : dkB 25 d x y m b = true := by
      unfold dkB
      rw [hr, if_neg (by decide)]
      simp
    rw [e1, e2]
    simp only [hr, h0, h1, h2, h3, m0, m1, decide_true, decide_false, cond_true, cond_false, pk_and, pk_or, pk3, pk4, Bool.not_true, Bool.not_false]
    refine conT2 (conI ?_) rfl
    try rw [w32w64]
    try rw [wU32, wU32]; omega
theorem dox2_0 {op d x y m a b : Int} (hf : fmI op = 0) : Pure Try.prog 14 (cons [.agg 5 [.int .i64 op, .int .i64 d, .int .i64 x, .int .i64 y, .int .i64 m], .int .u32 a, .int .u32 b]) (con (.tup [.int .u32 (doI op d x y m a b), .bool (dkB op d x y m b)])) := by
  refine pureX (u := 80) (k := 20) mix (TA2ok 0) ?_
  rw [r_dox2_0]
  have hr : rtB op d x y m = false := by unfold rtB rtP; rw [hf]; simp
  rw [do_no (.inl hr), dk_no (.inl hr)]
  simp only [hf, hr, decide_true, decide_false, cond_true, cond_false, pk_and, pk_or, pk3, pk4, Bool.not_true, Bool.not_false]
theorem dox2_4 {op d x y m a b : Int} (hf : fmI op = 4) : Pure Try.prog 14 (cons [.agg 5 [.int .i64 op, .int .i64 d, .int .i64 x, .int .i64 y, .int .i64 m], .int .u32 a, .int .u32 b]) (con (.tup [.int .u32 (doI op d x y m a b), .bool (dkB op d x y m b)])) := by
  refine pureX (u := 80) (k := 20) mix (TA2ok 4) ?_
  rw [r_dox2_4]
  rw [do_no (.inr (by omega)), dk_no (.inr (by omega))]
  cases hr : rtB op d x y m <;> simp only [hf, hr, decide_true, decide_false, cond_true, cond_false, pk_and, pk_or, pk3, pk4, Bool.not_true, Bool.not_false]
theorem dox2_5 {op d x y m a b : Int} (hf : fmI op = 5) : Pure Try.prog 14 (cons [.agg 5 [.int .i64 op, .int .i64 d, .int .i64 x, .int .i64 y, .int .i64 m], .int .u32 a, .int .u32 b]) (con (.tup [.int .u32 (doI op d x y m a b), .bool (dkB op d x y m b)])) := by
  refine pureX (u := 80) (k := 20) mix (TA2ok 5) ?_
  rw [r_dox2_5]
  rw [do_no (.inr (by omega)), dk_no (.inr (by omega))]
  cases hr : rtB op d x y m <;> simp only [hf, hr, decide_true, decide_false, cond_true, cond_false, pk_and, pk_or, pk3, pk4, Bool.not_true, Bool.not_false]
theorem dox2_6 {op d x y m a b : Int} (hf : fmI op = 6) : Pure Try.prog 14 (cons [.agg 5 [.int .i64 op, .int .i64 d, .int .i64 x, .int .i64 y, .int .i64 m], .int .u32 a, .int .u32 b]) (con (.tup [.int .u32 (doI op d x y m a b), .bool (dkB op d x y m b)])) := by
  refine pureX (u := 80) (k := 20) mix (TA2ok 6) ?_
  rw [r_dox2_6]
  rw [do_no (.inr (by omega)), dk_no (.inr (by omega))]
  cases hr : rtB op d x y m <;> simp only [hf, hr, decide_true, decide_false, cond_true, cond_false, pk_and, pk_or, pk3, pk4, Bool.not_true, Bool.not_false]
theorem dox2_7 {op d x y m a b : Int} (hf : fmI op = 7) : Pure Try.prog 14 (cons [.agg 5 [.int .i64 op, .int .i64 d, .int .i64 x, .int .i64 y, .int .i64 m], .int .u32 a, .int .u32 b]) (con (.tup [.int .u32 (doI op d x y m a b), .bool (dkB op d x y m b)])) := by
  refine pureX (u := 80) (k := 20) mix (TA2ok 7) ?_
  rw [r_dox2_7]
  rw [do_no (.inr (by omega)), dk_no (.inr (by omega))]
  cases hr : rtB op d x y m <;> simp only [hf, hr, decide_true, decide_false, cond_true, cond_false, pk_and, pk_or, pk3, pk4, Bool.not_true, Bool.not_false]
theorem dox2_8 {op d x y m a b : Int} (hf : fmI op = 8) : Pure Try.prog 14 (cons [.agg 5 [.int .i64 op, .int .i64 d, .int .i64 x, .int .i64 y, .int .i64 m], .int .u32 a, .int .u32 b]) (con (.tup [.int .u32 (doI op d x y m a b), .bool (dkB op d x y m b)])) := by
  refine pureX (u := 80) (k := 20) mix (TA2ok 8) ?_
  rw [r_dox2_8]
  rw [do_no (.inr (by omega)), dk_no (.inr (by omega))]
  cases hr : rtB op d x y m <;> simp only [hf, hr, decide_true, decide_false, cond_true, cond_false, pk_and, pk_or, pk3, pk4, Bool.not_true, Bool.not_false]
theorem doA2 {op d x y m a b : Int} (h0 : 0 ≤ a) (h1 : a ≤ 4294967295) (h2 : 0 ≤ b) (h3 : b ≤ 4294967295) : Pure Try.prog 14 (cons [.agg 5 [.int .i64 op, .int .i64 d, .int .i64 x, .int .i64 y, .int .i64 m], .int .u32 a, .int .u32 b]) (con (.tup [.int .u32 (doI op d x y m a b), .bool (dkB op d x y m b)])) := by
  rcases fm_in op with h | h | h | h | h | h | h | h | h
  · exact dox2_0 h
  · have := fm1 h
    have hc : op = 1 ∨ op = 2 ∨ op = 3 ∨ op = 4 ∨ op = 5 ∨ op = 6 ∨ op = 7 ∨ op = 8 ∨ op = 9 ∨ op = 10 ∨ op = 11 ∨ op = 12 ∨ op = 13 ∨ op = 14 ∨ op = 15 ∨ op = 16 := by omega
    rcases hc with rfl | rfl | rfl | rfl | rfl | rfl | rfl | rfl | rfl | rfl | rfl | rfl | rfl | rfl | rfl | rfl
    · exact do2_1 h0 h1 h2 h3
    · exact do2_2 h0 h1 h2 h3
    · exact do2_3 h0 h1 h2 h3
    · exact do2_4 h0 h1 h2 h3
    · exact do2_5 h0 h1 h2 h3
    · exact do2_6 h0 h1 h2 h3
    · exact do2_7 h0 h1 h2 h3
    · exact do2_8 h0 h1 h2 h3
    · exact do2_9 h0 h1 h2 h3
    · exact do2_10 h0 h1 h2 h3
    · exact do2_11 h0 h1 h2 h3
    · exact do2_12 h0 h1 h2 h3
    · exact do2_13 h0 h1 h2 h3
    · exact do2_14 h0 h1 h2 h3
    · exact do2_15 h0 h1 h2 h3
    · exact do2_16 h0 h1 h2 h3
  · have := fm2 h
    have hc : op = 17 ∨ op = 18 ∨ op = 19 ∨ op = 20 ∨ op = 21 ∨ op = 22 ∨ op = 23 ∨ op = 24 := by omega
    rcases hc with rfl | rfl | rfl | rfl | rfl | rfl | rfl | rfl
    · exact do2_17 h0 h1 h2 h3
    · exact do2_18 h0 h1 h2 h3
    · exact do2_19 h0 h1 h2 h3
    · exact do2_20 h0 h1 h2 h3
    · exact do2_21 h0 h1 h2 h3
    · exact do2_22 h0 h1 h2 h3
    · exact do2_23 h0 h1 h2 h3
    · exact do2_24 h0 h1 h2 h3
  · have := fm3 h
    subst this
    exact do2_25 h0 h1 h2 h3
  · exact dox2_4 h
  · exact dox2_5 h
  · exact dox2_6 h
  · exact dox2_7 h
  · exact dox2_8 h
theorem sp_do2 : SpOk Try.prog (14, doSp) := fun args nd v h hn => by
  simp only [doSp] at h
  split at h
  · simp only [Option.some.injEq, Prod.mk.injEq] at h
    obtain ⟨rfl, rfl⟩ := h
    simp only [allT_cons, decide_eq_true_eq] at hn
    exact doA2 hn.1 hn.2.1 hn.2.2.1 hn.2.2.2.1
  · cases h
end Go.Proofs.Ytghmogkapedmfaa
