/- Texts put together. -/
import Derived.Test.YtmfbaglhmiadjaaPk4
/- What instructions reckon: the program's function, and the document's. -/
namespace Go.Proofs.Ytmfbaglhmiadjaa.Alu
open Go.Ra
set_option linter.unusedVariables false
set_option linter.unusedSimpArgs false
def i32 (a : Int) : Int := IntKind.i32.wrap a
def intSp : List XV → Option (List Bool × XV)
  | [.int .u32 w] => some ([decide (0 ≤ w), decide (w ≤ 4294967295)], .int .i64 (i32 w))
  | _ => none
/-- What an operation of two words gives. -/
def alW (p a b : Int) : Int :=
  if p = 1 then (a + b) % 4294967296
  else if p = 2 then (a - b) % 4294967296
  else if p = 3 then bitsI .and .u32 a b
  else if p = 4 then bitsI .or .u32 a b
  else if p = 5 then bitsI .xor .u32 a b
  else if p = 6 then (a * 2 ^ (b % 32).toNat) % 4294967296
  else if p = 7 then a / 2 ^ (b % 32).toNat
  else if p = 8 then (i32 a / 2 ^ (b % 32).toNat) % 4294967296
  else if p = 9 then oneI (decide (i32 a < i32 b))
  else if p = 10 then oneI (decide (a < b))
  else if p = 11 then (a * b) % 4294967296
  else if p = 12 then ((i32 a * i32 b) / 4294967296) % 4294967296
  else if b = 0 then 0
  else if p = 13 then (Int.tdiv (i32 a) (i32 b)) % 4294967296
  else if p = 14 then a / b
  else if p = 15 then (Int.tmod (i32 a) (i32 b)) % 4294967296
  else a % b
/-- The operation that one with a number is like. -/
def plI (op : Int) : Int := if op = 17 then 1 else if op = 18 then 3 else if op = 19 then 4 else if op = 20 then 5 else if op = 21 then 9 else if op = 22 then 6 else if op = 23 then 7 else if op = 24 then 8 else op
def doI (op d x y m a b : Int) : Int := if rtB op d x y m = false ∨ fmI op > 3 then 0 else if op = 25 then (m * 262144) % 4294967296 else if fmI op = 2 then alW (plI op) a (m % 4294967296) else alW op a b
def dkB (op d x y m b : Int) : Bool := if rtB op d x y m = false ∨ fmI op > 3 then true else !decide (13 ≤ op ∧ op ≤ 16 ∧ b = 0)
def doSp : List XV → Option (List Bool × XV)
  | [.agg 5 [.int .i64 op, .int .i64 d, .int .i64 x, .int .i64 y, .int .i64 m], .int .u32 a, .int .u32 b] => some ([decide (0 ≤ a), decide (a ≤ 4294967295), decide (0 ≤ b), decide (b ≤ 4294967295)], .tup [.int .u32 (doI op d x y m a b), .bool (dkB op d x y m b)])
  | _ => none
def TA2 (f : Int) : Tab := mkT qq (cl_alu ++ cl_isa ++ cl_word ++ cl_ref1 ++ cl_math) [(51, fmSpF f), (26, fmSpF f), (46, rtSp), (25, rtSp), (77, oneSp), (58, oneSp), (57, intSp)] []
theorem r_int (a : Int) (K : XV → Prop) : (quietGo TA0 80 (callI TA0 80 20) 57 [.int .u32 a] K) = (bif decide (IntKind.wrap .i64 a ≥ 2147483648) then K (.int .i64 (IntKind.wrap .i64 (IntKind.wrap .i64 a - (4294967296 : Int))))
else K (.int .i64 (IntKind.wrap
 .i64 a))) := by kernel_rfl
theorem r_do1_1 (d x y m a b : Int) (K : XV → Prop) : (quietGo (TA2 1) 80 (callI (TA2 1) 80 20) 55 [.agg 5 [.int .i64 1, .int .i64 d, .int .i64 x, .int .i64 y, .int .i64 m], .int .u32 a, .int .u32 b] K) = (bif bif !rtB (1 : Int) d x y m then true else !!rtB (1 : Int) d x y m then bif bif !rtB (1 : Int) d x y m then true else false then K (.tup [.int .u32 0, .bool
 true]) else K (.tup [.int .u32 (IntKind.wrap .u32 (a + b)), .bool true])
else False) := by kernel_rfl
theorem r_do1_2 (d x y m a b : Int) (K : XV → Prop) : (quietGo (TA2 1) 80 (callI (TA2 1) 80 20) 55 [.agg 5 [.int .i64 2, .int .i64 d, .int .i64 x, .int .i64 y, .int .i64 m], .int .u32 a, .int .u32 b] K) = (bif bif !rtB (2 : Int) d x y m then true else !!rtB (2 : Int) d x y m then bif bif !rtB (2 : Int) d x y m then true else false then K (.tup [.int .u32 0, .bool
 true]) else K (.tup [.int .u32 (IntKind.wrap .u32 (a - b)), .bool true])
else False) := by kernel_rfl
theorem r_do1_3 (d x y m a b : Int) (K : XV → Prop) : (quietGo (TA2 1) 80 (callI (TA2 1) 80 20) 55 [.agg 5 [.int .i64 3, .int .i64 d, .int .i64 x, .int .i64 y, .int .i64 m], .int .u32 a, .int .u32 b] K) = (bif bif !rtB (3 : Int) d x y m then true else !!rtB (3 : Int) d x y m then bif bif !rtB (3 : Int) d x y m then true else false then K (.tup [.int .u32 0, .bool
 true]) else K (.tup [.int .u32 (bitsI .and .u32 a b), .bool true])
else False) := by kernel_rfl
theorem r_do1_4 (d x y m a b : Int) (K : XV → Prop) : (quietGo (TA2 1) 80 (callI (TA2 1) 80 20) 55 [.agg 5 [.int .i64 4, .int .i64 d, .int .i64 x, .int .i64 y, .int .i64 m], .int .u32 a, .int .u32 b] K) = (bif bif !rtB (4 : Int) d x y m then true else !!rtB (4 : Int) d x y m then bif bif !rtB (4 : Int) d x y m then true else false then K (.tup [.int .u32 0, .bool
 true]) else K (.tup [.int .u32 (bitsI .or .u32 a b), .bool true])
else False) := by kernel_rfl
theorem r_do1_5 (d x y m a b : Int) (K : XV → Prop) : (quietGo (TA2 1) 80 (callI (TA2 1) 80 20) 55 [.agg 5 [.int .i64 5, .int .i64 d, .int .i64 x, .int .i64 y, .int .i64 m], .int .u32 a, .int .u32 b] K) = (bif bif !rtB (5 : Int) d x y m then true else !!rtB (5 : Int) d x y m then bif bif !rtB (5 : Int) d x y m then true else false then K (.tup [.int .u32 0, .bool
 true]) else K (.tup [.int .u32 (bitsI .xor .u32 a b), .bool true])
else False) := by kernel_rfl
theorem r_do1_6 (d x y m a b : Int) (K : XV → Prop) : (quietGo (TA2 1) 80 (callI (TA2 1) 80 20) 55 [.agg 5 [.int .i64 6, .int .i64 d, .int .i64 x, .int .i64 y, .int .i64 m], .int .u32 a, .int .u32 b] K) = (bif bif !rtB (6 : Int) d x y m then true else !!rtB (6 : Int) d x y m then bif bif !rtB (6 : Int) d x y m then true else false then K (.tup [.int .u32 0, .bool
 true]) else K (.tup [.int .u32 (IntKind.wrap .u32 (a * (2 : Int) ^ Nat.min (Int.toNat (bitsI .and .u32 b (31 : Int))) 32)), .bool true])
else False) := by kernel_rfl 

theorem r_do1_7 (d x y m a b : Int) (K : XV → Prop) : (quietGo (TA2 1) 80 (callI (TA2 1) 80 20) 55 [.agg 5 [.int .i64 7, .int .i64 d, .int .i64 x, .int .i64 y, .int .i64 m], .int .u32 a, .int .u32 b] K) = (bif bif !rtB (7 : Int) d x y m then true else !!rtB (7 : Int) d x y m then bif bif !rtB (7 : Int) d x y m then true else false then K (.tup [.int .u32 0, .bool
 true]) else K (.tup [.int .u32 (Int.fdiv a ((2 : Int) ^ Nat.min (Int.toNat (bitsI .and .u32 b (31 : Int))) 32)), .bool true])
else False) := by kernel_rfl
theorem r_do1_8 (d x y m a b : Int) (K : XV → Prop) : (quietGo (TA2 1) 80 (callI (TA2 1) 80 20) 55 [.agg 5 [.int .i64 8, .int .i64 d, .int .i64 x, .int .i64 y, .int .i64 m], .int .u32 a, .int .u32 b] K) = (bif bif !rtB (8 : Int) d x y m then true else !!rtB (8 : Int) d x y m then bif bif !rtB (8 : Int) d x y m then true else false then K (.tup [.int .u32 0, .bool
 true]) else K (.tup [.int .u32 (IntKind.wrap .u32 (Int.fdiv (IntKind.wrap .i32 a) ((2 : Int) ^ Nat.min (Int.toNat (bitsI .and .u32 b (31 : Int))) 32))), .bool true])
else
 False) := by kernel_rfl
theorem r_do1_9 (d x y m a b : Int) (K : XV → Prop) : (quietGo (TA2 1) 80 (callI (TA2 1) 80 20) 55 [.agg 5 [.int .i64 9, .int .i64 d, .int .i64 x, .int .i64 y, .int .i64 m], .int .u32 a, .int .u32 b] K) = (bif bif !rtB (9 : Int) d x y m then true else !!rtB (9 : Int) d x y m then bif bif !rtB (9 : Int) d x y m then true else false then K (.tup [.int .u32 0, .bool
 true]) else K (.tup [.int .u32 (oneI (decide (IntKind.wrap .i32 a < IntKind.wrap .i32 b))), .bool true])
else False) := by kernel_rfl
theorem r_do1_10 (d x y m a b : Int) (K : XV → Prop) : (quietGo (TA2 1) 80 (callI (TA2 1) 80 20) 55 [.agg 5 [.int .i64 10, .int .i64 d, .int .i64 x, .int .i64 y, .int .i64 m], .int .u32 a, .int .u32 b] K) = (bif bif !rtB (10 : Int) d x y m then true else !!rtB (10 : Int) d x y m then bif bif !rtB (10 : Int) d x y m then true else false then K (.tup [.int .u32 0,
 .bool true]) else K (.tup [.int .u32 (oneI (decide (a < b))), .bool true])
else False) := by kernel_rfl
theorem r_do1_11 (d x y m a b : Int) (K : XV → Prop) : (quietGo (TA2 1) 80 (callI (TA2 1) 80 20) 55 [.agg 5 [.int .i64 11, .int .i64 d, .int .i64 x, .int .i64 y, .int .i64 m], .int .u32 a, .int .u32 b] K) = (bif bif !rtB (11 : Int) d x y m then true else !!rtB (11 : Int) d x y m then bif bif !rtB (11 : Int) d x y m then true else false then K (.tup [.int .u32 0,
 .bool true]) else K (.tup [.int .u32 (IntKind.wrap .u32 (a * b)), .bool true])
else False) := by kernel_rfl
theorem r_do1_12 (d x y m a b : Int) (K : XV → Prop) : (quietGo (TA2 1) 80 (callI (TA2 1) 80 20) 55 [.agg 5 [.int .i64 12, .int .i64 d, .int .i64 x, .int .i64 y, .int .i64 m], .int .u32 a, .int .u32 b] K) = (bif bif !rtB (12 : Int) d x y m then true else !!rtB (12 : Int) d x y m then bif bif !rtB (12 : Int) d x y m then true else false then K (.tup [.int .u32 0,
 .bool true]) else K (.tup [.int .u32 (IntKind.wrap .u32 (Int.fdiv (IntKind.wrap .i64 (IntKind.wrap .i64 (IntKind.wrap .i32 a) * IntKind.wrap .i64 (IntKind.wrap .i32
 b))) (4294967296 : Int))), .bool true])
else False) := by kernel_rfl
theorem r_do1_13 (d x y m a b : Int) (K : XV → Prop) : (quietGo (TA2 1) 80 (callI (TA2 1) 80 20) 55 [.agg 5 [.int .i64 13, .int .i64 d, .int .i64 x, .int .i64 y, .int .i64 m], .int .u32 a, .int .u32 b] K) = (bif bif !rtB (13 : Int) d x y m then true else !!rtB (13 : Int) d x y m then bif bif !rtB (13 : Int) d x y m then true else false then K (.tup [.int .u32 0,
 .bool true]) else bif decide (b = 0) then K (.tup [.int .u32 0, .bool false]) else bif bif decide (IntKind.wrap .i32 a = (-2147483648 : Int)) then decide (IntKind.wrap
 .i32 a = (-2147483648 : Int)) else true then bif bif decide (IntKind.wrap .i32 a = (-2147483648 : Int)) then decide (IntKind.wrap .i32 b = (-1 : Int)) else false
 then K (.tup [.int .u32 a, .bool true]) else bif !decide (IntKind.wrap .i32 b = 0) then K (.tup [.int .u32 (IntKind.wrap .u32 (IntKind.wrap .i32 (Int.tdiv (IntKind.wrap
 .i32 a) (IntKind.wrap .i32 b)))), .bool true]) else False else False
else False) := by kernel_rfl
theorem r_do1_14 (d x y m a b : Int) (K : XV → Prop) : (quietGo (TA2 1) 80 (callI (TA2 1) 80 20) 55 [.agg 5 [.int .i64 14, .int .i64 d, .int .i64 x, .int .i64 y, .int .i64 m], .int .u32 a, .int .u32 b] K) = (bif bif !rtB (14 : Int) d x y m then true else !!rtB (14 : Int) d x y m then bif bif !rtB (14 : Int) d x y m then true else false then K (.tup [.int .u32 0,
 .bool true]) else bif decide (b = 0) then K (.tup [.int .u32 0, .bool false]) else bif bif decide (IntKind.wrap .i32 a = (-2147483648 : Int)) then decide (IntKind.wrap
 .i32 a = (-2147483648 : Int)) else true then bif bif decide ¬b = 0 then decide ¬b = 0 else true then bif bif decide ¬b = 0 then decide (b ≤ 0) else false then False
 else bif !decide (IntKind.wrap .u64 b = 0) then bif !decide (IntKind.wrap .u64 b = 0) then K (.tup [.int .u32 (IntKind.wrap .u32 (IntKind.wrap .u64 (Int.tdiv (bitsI
 .or .u64 (0 : Int) (IntKind.wrap .u64 a)) (IntKind.wrap .u64 b)))), .bool true]) else False else False else False else False
else False) := by kernel_rfl
theorem r_do1_15 (d x y m a b : Int) (K : XV → Prop) : (quietGo (TA2 1) 80 (callI (TA2 1) 80 20) 55 [.agg 5 [.int .i64 15, .int .i64 d, .int .i64 x, .int .i64 y, .int .i64 m], .int .u32 a, .int .u32 b] K) = (bif bif !rtB (15 : Int) d x y m then true else !!rtB (15 : Int) d x y m then bif bif !rtB (15 : Int) d x y m then true else false then K (.tup [.int .u32 0,
 .bool true]) else bif decide (b = 0) then K (.tup [.int .u32 0, .bool false]) else bif bif decide (IntKind.wrap .i32 a = (-2147483648 : Int)) then decide (IntKind.wrap
 .i32 a = (-2147483648 : Int)) else true then bif bif decide (IntKind.wrap .i32 a = (-2147483648 : Int)) then decide (IntKind.wrap .i32 b = (-1 : Int)) else false
 then K (.tup [.int .u32 0, .bool true]) else bif !decide (IntKind.wrap .i32 b = 0) then K (.tup [.int .u32 (IntKind.wrap .u32 (Int.tmod (IntKind.wrap .i32 a) (IntKind.wrap
 .i32 b))), .bool true]) else False else False
else False) := by kernel_rfl
theorem r_do1_16 (d x y m a b : Int) (K : XV → Prop) : (quietGo (TA2 1) 80 (callI (TA2 1) 80 20) 55 [.agg 5 [.int .i64 16, .int .i64 d, .int .i64 x, .int .i64 y, .int .i64 m], .int .u32 a, .int .u32 b] K) = (bif bif !rtB (16 : Int) d x y m then true else !!rtB (16 : Int) d x y m then bif bif !rtB (16 : Int) d x y m then true else false then K (.tup [.int .u32 0,
 .bool true]) else bif decide (b = 0) then K (.tup [.int .u32 0, .bool false]) else bif bif decide (IntKind.wrap .i32 a = (-2147483648 : Int)) then decide (IntKind.wrap
 .i32 a = (-2147483648 : Int)) else true then bif !decide (IntKind.wrap .u64 b = 0) then K (.tup [.int .u32 (IntKind.wrap .u32 (Int.tmod (bitsI .or .u64 (0 : Int)
 (IntKind.wrap .u64 a)) (IntKind.wrap .u64 b))), .bool true]) else False else False
else False) := by kernel_rfl
theorem r_do1_17 (d x y m a b : Int) (K : XV → Prop) : (quietGo (TA2 2) 80 (callI (TA2 2) 80 20) 55 [.agg 5 [.int .i64 17, .int .i64 d, .int .i64 x, .int .i64 y, .int .i64 m], .int .u32 a, .int .u32 b] K) = (bif bif !rtB (17 : Int) d x y m then true else !!rtB (17 : Int) d x y m then bif bif !rtB (17 : Int) d x y m then true else false then K (.tup [.int .u32 0,
 .bool true]) else K (.tup [.int .u32 (IntKind.wrap .u32 (a + IntKind.wrap .u32 m)), .bool true])
else False) := by kernel_rfl
theorem r_do1_18 (d x y m a b : Int) (K : XV → Prop) : (quietGo (TA2 2) 80 (callI (TA2 2) 80 20) 55 [.agg 5 [.int .i64 18, .int .i64 d, .int .i64 x, .int .i64 y, .int .i64 m], .int .u32 a, .int .u32 b] K) = (bif bif !rtB (18 : Int) d x y m then true else !!rtB (18 : Int) d x y m then bif bif !rtB (18 : Int) d x y m then true else false then K (.tup [.int .u32 0,
 .bool true]) else K (.tup [.int .u32 (bitsI .and .u32 a (IntKind.wrap .u32 m)), .bool true])
else False) := by kernel_rfl
theorem r_do1_19 (d x y m a b : Int) (K : XV → Prop) : (quietGo (TA2 2) 80 (callI (TA2 2) 80 20) 55 [.agg 5 [.int .i64 19, .int .i64 d, .int .i64 x, .int .i64 y, .int .i64 m], .int .u32 a, .int .u32 b] K) = (bif bif !rtB (19 : Int) d x y m then true else !!rtB (19 : Int) d x y m then bif bif !rtB (19 : Int) d x y m then true else false then K (.tup [.int .u32 0,
 .bool true]) else K (.tup [.int .u32 (bitsI .or .u32 a (IntKind.wrap .u32 m)), .bool true])
else False) := by kernel_rfl
theorem r_do1_20 (d x y m a b : Int) (K : XV → Prop) : (quietGo (TA2 2) 80 (callI (TA2 2) 80 20) 55 [.agg 5 [.int .i64 20, .int .i64 d, .int .i64 x, .int .i64 y, .int .i64 m], .int .u32 a, .int .u32 b] K) = (bif bif !rtB (20 : Int) d x y m then true else !!rtB (20 : Int) d x y m then bif bif !rtB (20 : Int) d x y m then true else false then K (.tup [.int .u32 0,
 .bool true]) else K (.tup [.int .u32 (bitsI .xor .u32 a (IntKind.wrap .u32 m)), .bool true])
else False) := by kernel_rfl
theorem r_do1_21 (d x y m a b : Int) (K : XV → Prop) : (quietGo (TA2 2) 80 (callI (TA2 2) 80 20) 55 [.agg 5 [.int .i64 21, .int .i64 d, .int .i64 x, .int .i64 y, .int .i64 m], .int .u32 a, .int .u32 b] K) = (bif bif !rtB (21 : Int) d x y m then true else !!rtB (21 : Int) d x y m then bif bif !rtB (21 : Int) d x y m then true else false then K (.tup [.int .u32 0,
 .bool true]) else K (.tup [.int .u32 (oneI (decide (IntKind.wrap .i32 a < IntKind.wrap .i32 (IntKind.wrap .u32 m)))), .bool true])
else False) := by kernel_rfl
theorem r_do1_22 (d x y m a b : Int) (K : XV → Prop) : (quietGo (TA2 2) 80 (callI (TA2 2) 80 20) 55 [.agg 5 [.int .i64 22, .int .i64 d, .int .i64 x, .int .i64 y, .int .i64 m], .int .u32 a, .int .u32 b] K) = (bif bif !rtB (22 : Int) d x y m then true else !!rtB (22 : Int) d x y m then bif bif !rtB (22 : Int) d x y m then true else false then K (.tup [.int .u32 0,
 .bool true]) else K (.tup [.int .u32 (IntKind.wrap .u32 (a * (2 : Int) ^ Nat.min (Int.toNat (bitsI .and .u32 (IntKind.wrap .u32 m) (31 : Int))) 32)), .bool true])
else
 False) := by kernel_rfl
theorem r_do1_23 (d x y m a b : Int) (K : XV → Prop) : (quietGo (TA2 2) 80 (callI (TA2 2) 80 20) 55 [.agg 5 [.int .i64 23, .int .i64 d, .int .i64 x, .int .i64 y, .int .i64 m], .int .u32 a, .int .u32 b] K) = (bif bif !rtB (23 : Int) d x y m then true else !!rtB (23 : Int) d x y m then bif bif !rtB (23 : Int) d x y m then true else false then K (.tup [.int .u32 0,
 .bool true]) else K (.tup [.int .u32 (Int.fdiv a ((2 : Int) ^ Nat.min (Int.toNat (bitsI .and .u32 (IntKind.wrap .u32 m) (31 : Int))) 32)), .bool true])
else False)
 := by kernel_rfl
theorem r_do1_24 (d x y m a b : Int) (K : XV → Prop) : (quietGo (TA2 2) 80 (callI (TA2 2) 80 20) 55 [.agg 5 [.int .i64 24, .int .i64 d, .int .i64 x, .int .i64 y, .int .i64 m], .int .u32 a, .int .u32 b] K) = (bif bif !rtB (24 : Int) d x y m then true else !!rtB (24 : Int) d x y m then bif bif !rtB (24 : Int) d x y m then true else false then K (.tup [.int .u32 0,
 .bool true]) else K (.tup [.int .u32 (IntKind.wrap .u32 (Int.fdiv (IntKind.wrap .i32 a) ((2 : Int) ^ Nat.min (Int.toNat (bitsI .and .u32 (IntKind.wrap .u32 m) (31
 : Int))) 32))), .bool true])
else False) := by kernel_rfl
theorem r_do1_25 (d x y m a b : Int) (K : XV → Prop) : (quietGo (TA2 3) 80 (callI (TA2 3) 80 20) 55 [.agg 5 [.int .i64 25, .int .i64 d, .int .i64 x, .int .i64 y, .int .i64 m], .int .u32 a, .int .u32 b] K) = (bif bif !rtB (25 : Int) d x y m then true else !!rtB (25 : Int) d x y m then bif bif !rtB (25 : Int) d x y m then true else false then K (.tup [.int .u32 0,
 .bool true]) else K (.tup [.int .u32 (IntKind.wrap .u32 (IntKind.wrap .i64 (m * (262144 : Int)))), .bool true])
else False) := by kernel_rfl
theorem r_dox1_0 (op d x y m a b : Int) (K : XV → Prop) : (quietGo (TA2 0) 80 (callI (TA2 0) 80 20) 55 [.agg 5 [.int .i64 op, .int .i64 d, .int .i64 x, .int .i64 y, .int .i64 m], .int .u32 a, .int .u32 b] K) = (bif decide (fmI op = 0) then bif bif !rtB op d x y m then true else !!rtB op d x y m then bif bif !rtB op d x y m then true else false then K (.tup [.int .u32
 0, .bool true]) else bif decide (op = 17) then K (.tup [.int .u32 (IntKind.wrap .u32 (a + b)), .bool true]) else bif decide (op = 18) then K (.tup [.int .u32 (bitsI
 .and .u32 a b), .bool true]) else bif decide (op = 19) then K (.tup [.int .u32 (bitsI .or .u32 a b), .bool true]) else bif decide (op = 20) then K (.tup [.int .u32
 (bitsI .xor .u32 a b), .bool true]) else bif decide (op = 21) then K (.tup [.int .u32 (oneI (decide (IntKind.wrap .i32 a < IntKind.wrap .i32 b))), .bool true]) else
 bif decide (op = 22) then K (.tup [.int .u32 (IntKind.wrap .u32 (a * (2 : Int) ^ Nat.min (Int.toNat (bitsI .and .u32 b (31 : Int))) 32)), .bool true]) else bif decide
 (op = 23) then K (.tup [.int .u32 (Int.fdiv a ((2 : Int) ^ Nat.min (Int.toNat (bitsI .and .u32 b (31 : Int))) 32)), .bool true]) else bif decide (op = 24) then K
 (.tup [.int .u32 (IntKind.wrap .u32 (Int.fdiv (IntKind.wrap .i32 a) ((2 : Int) ^ Nat.min (Int.toNat (bitsI .and .u32 b (31 : Int))) 32))), .bool true]) else bif
 decide (op = 1) then K (.tup [.int .u32 (IntKind.wrap .u32 (a + b)), .bool true]) else bif decide (op = 2) then K (.tup [.int .u32 (IntKind.wrap .u32 (a - b)), .bool
 true]) else bif decide (op = 3) then K (.tup [.int .u32 (bitsI .and .u32 a b), .bool true]) else bif decide (op = 4) then K (.tup [.int .u32 (bitsI .or .u32 a b),
 .bool true]) else bif decide (op = 5) then K (.tup [.int .u32 (bitsI .xor .u32 a b), .bool true]) else bif decide (op = 6) then K (.tup [.int .u32 (IntKind.wrap
 .u32 (a * (2 : Int) ^ Nat.min (Int.toNat (bitsI .and .u32 b (31 : Int))) 32)), .bool true]) else bif decide (op = 7) then K (.tup [.int .u32 (Int.fdiv a ((2 : Int)
 ^ Nat.min (Int.toNat (bitsI .and .u32 b (31 : Int))) 32)), .bool true]) else bif decide (op = 8) then K (.tup [.int .u32 (IntKind.wrap .u32 (Int.fdiv (IntKind.wrap
 .i32 a) ((2 : Int) ^ Nat.min (Int.toNat (bitsI .and .u32 b (31 : Int))) 32))), .bool true]) else bif decide (op = 9) then K (.tup [.int .u32 (oneI (decide (IntKind.wrap
 .i32 a < IntKind.wrap .i32 b))), .bool true]) else bif decide (op = 10) then K (.tup [.int .u32 (oneI (decide (a < b))), .bool true]) else bif decide (op = 11) then
 K (.tup [.int .u32 (IntKind.wrap .u32 (a * b)), .bool true]) else bif decide (op = 12) then K (.tup [.int .u32 (IntKind.wrap .u32 (Int.fdiv (IntKind.wrap .i64 (IntKind.wrap
 .i64 (IntKind.wrap .i32 a) * IntKind.wrap .i64 (IntKind.wrap .i32 b))) (4294967296 : Int))), .bool true]) else bif decide (b = 0) then K (.tup [.int .u32 0, .bool
 false]) else bif bif decide (IntKind.wrap .i32 a = (-2147483648 : Int)) then decide (IntKind.wrap .i32 a = (-2147483648 : Int)) else true then bif decide (op = 14)
 then bif bif decide ¬b = 0 then decide ¬b = 0 else true then bif bif decide ¬b = 0 then decide (b ≤ 0) else false then False else bif !decide (IntKind.wrap .u64
 b = 0) then bif !decide (IntKind.wrap .u64 b = 0) then K (.tup [.int .u32 (IntKind.wrap .u32 (IntKind.wrap .u64 (Int.tdiv (bitsI .or .u64 (0 : Int) (IntKind.wrap
 .u64 a)) (IntKind.wrap .u64 b)))), .bool true]) else False else False else False else bif decide (op = 16) then bif !decide (IntKind.wrap .u64 b = 0) then K (.tup
 [.int .u32 (IntKind.wrap .u32 (Int.tmod (bitsI .or .u64 (0 : Int) (IntKind.wrap .u64 a)) (IntKind.wrap .u64 b))), .bool true]) else False else bif bif decide (op
 = 13) then decide (op = 13) else true then bif bif decide (op = 13) then bif decide (IntKind.wrap .i32 a = (-2147483648 : Int)) then decide (IntKind.wrap .i32 b
 = (-1 : Int)) else false else false then K (.tup [.int .u32 a, .bool true]) else bif decide (op = 13) then bif !decide (IntKind.wrap .i32 b = 0) then K (.tup [.int
 .u32 (IntKind.wrap .u32 (IntKind.wrap .i32 (Int.tdiv (IntKind.wrap .i32 a) (IntKind.wrap .i32 b)))), .bool true]) else False else bif bif decide (IntKind.wrap .i32
 a = (-2147483648 : Int)) then decide (IntKind.wrap .i32 b = (-1 : Int)) else false then K (.tup [.int .u32 0, .bool true]) else bif !decide (IntKind.wrap .i32 b
 = 0) then K (.tup [.int .u32 (IntKind.wrap .u32 (Int.tmod (IntKind.wrap .i32 a) (IntKind.wrap .i32 b))), .bool true]) else False else False else False else False
else
 False) := by kernel_rfl
theorem r_dox1_4 (op d x y m a b : Int) (K : XV → Prop) : (quietGo (TA2 4) 80 (callI (TA2 4) 80 20) 55 [.agg 5 [.int .i64 op, .int .i64 d, .int .i64 x, .int .i64 y, .int .i64 m], .int .u32 a, .int .u32 b] K) = (bif decide (fmI op = 4) then bif bif !rtB op d x y m then true else !!rtB op d x y m then bif bif !rtB op d x y m then true else true then K (.tup [.int .u32
 0, .bool true]) else bif decide (op = 17) then K (.tup [.int .u32 (IntKind.wrap .u32 (a + b)), .bool true]) else bif decide (op = 18) then K (.tup [.int .u32 (bitsI
 .and .u32 a b), .bool true]) else bif decide (op = 19) then K (.tup [.int .u32 (bitsI .or .u32 a b), .bool true]) else bif decide (op = 20) then K (.tup [.int .u32
 (bitsI .xor .u32 a b), .bool true]) else bif decide (op = 21) then K (.tup [.int .u32 (oneI (decide (IntKind.wrap .i32 a < IntKind.wrap .i32 b))), .bool true]) else
 bif decide (op = 22) then K (.tup [.int .u32 (IntKind.wrap .u32 (a * (2 : Int) ^ Nat.min (Int.toNat (bitsI .and .u32 b (31 : Int))) 32)), .bool true]) else bif decide
 (op = 23) then K (.tup [.int .u32 (Int.fdiv a ((2 : Int) ^ Nat.min (Int.toNat (bitsI .and .u32 b (31 : Int))) 32)), .bool true]) else bif decide (op = 24) then K
 (.tup [.int .u32 (IntKind.wrap .u32 (Int.fdiv (IntKind.wrap .i32 a) ((2 : Int) ^ Nat.min (Int.toNat (bitsI .and .u32 b (31 : Int))) 32))), .bool true]) else bif
 decide (op = 1) then K (.tup [.int .u32 (IntKind.wrap .u32 (a + b)), .bool true]) else bif decide (op = 2) then K (.tup [.int .u32 (IntKind.wrap .u32 (a - b)), .bool
 true]) else bif decide (op = 3) then K (.tup [.int .u32 (bitsI .and .u32 a b), .bool true]) else bif decide (op = 4) then K (.tup [.int .u32 (bitsI .or .u32 a b),
 .bool true]) else bif decide (op = 5) then K (.tup [.int .u32 (bitsI .xor .u32 a b), .bool true]) else bif decide (op = 6) then K (.tup [.int .u32 (IntKind.wrap
 .u32 (a * (2 : Int) ^ Nat.min (Int.toNat (bitsI .and .u32 b (31 : Int))) 32)), .bool true]) else bif decide (op = 7) then K (.tup [.int .u32 (Int.fdiv a ((2 : Int)
 ^ Nat.min (Int.toNat (bitsI .and .u32 b (31 : Int))) 32)), .bool true]) else bif decide (op = 8) then K (.tup [.int .u32 (IntKind.wrap .u32 (Int.fdiv (IntKind.wrap
 .i32 a) ((2 : Int) ^ Nat.min (Int.toNat (bitsI .and .u32 b (31 : Int))) 32))), .bool true]) else bif decide (op = 9) then K (.tup [.int .u32 (oneI (decide (IntKind.wrap
 .i32 a < IntKind.wrap .i32 b))), .bool true]) else bif decide (op = 10) then K (.tup [.int .u32 (oneI (decide (a < b))), .bool true]) else bif decide (op = 11) then
 K (.tup [.int .u32 (IntKind.wrap .u32 (a * b)), .bool true]) else bif decide (op = 12) then K (.tup [.int .u32 (IntKind.wrap .u32 (Int.fdiv (IntKind.wrap .i64 (IntKind.wrap
 .i64 (IntKind.wrap .i32 a) * IntKind.wrap .i64 (IntKind.wrap .i32 b))) (4294967296 : Int))), .bool true]) else bif decide (b = 0) then K (.tup [.int .u32 0, .bool
 false]) else bif bif decide (IntKind.wrap .i32 a = (-2147483648 : Int)) then decide (IntKind.wrap .i32 a = (-2147483648 : Int)) else true then bif decide (op = 14)
 then bif bif decide ¬b = 0 then decide ¬b = 0 else true then bif bif decide ¬b = 0 then decide (b ≤ 0) else false then False else bif !decide (IntKind.wrap .u64
 b = 0) then bif !decide (IntKind.wrap .u64 b = 0) then K (.tup [.int .u32 (IntKind.wrap .u32 (IntKind.wrap .u64 (Int.tdiv (bitsI .or .u64 (0 : Int) (IntKind.wrap
 .u64 a)) (IntKind.wrap .u64 b)))), .bool true]) else False else False else False else bif decide (op = 16) then bif !decide (IntKind.wrap .u64 b = 0) then K (.tup
 [.int .u32 (IntKind.wrap .u32 (Int.tmod (bitsI .or .u64 (0 : Int) (IntKind.wrap .u64 a)) (IntKind.wrap .u64 b))), .bool true]) else False else bif bif decide (op
 = 13) then decide (op = 13) else true then bif bif decide (op = 13) then bif decide (IntKind.wrap .i32 a = (-2147483648 : Int)) then decide (IntKind.wrap .i32 b
 = (-1 : Int)) else false else false then K (.tup [.int .u32 a, .bool true]) else bif decide (op = 13) then bif !decide (IntKind.wrap .i32 b = 0) then K (.tup [.int
 .u32 (IntKind.wrap .u32 (IntKind.wrap .i32 (Int.tdiv (IntKind.wrap .i32 a) (IntKind.wrap .i32 b)))), .bool true]) else False else bif bif decide (IntKind.wrap .i32
 a = (-2147483648 : Int)) then decide (IntKind.wrap .i32 b = (-1 : Int)) else false then K (.tup [.int .u32 0, .bool true]) else bif !decide (IntKind.wrap .i32 b
 = 0) then K (.tup [.int .u32 (IntKind.wrap .u32 (Int.tmod (IntKind.wrap .i32 a) (IntKind.wrap .i32 b))), .bool true]) else False else False else False else False
else
 False) := by kernel_rfl
theorem r_dox1_5 (op d x y m a b : Int) (K : XV → Prop) : (quietGo (TA2 5) 80 (callI (TA2 5) 80 20) 55 [.agg 5 [.int .i64 op, .int .i64 d, .int .i64 x, .int .i64 y, .int .i64 m], .int .u32 a, .int .u32 b] K) = (bif decide (fmI op = 5) then bif bif !rtB op d x y m then true else !!rtB op d x y m then bif bif !rtB op d x y m then true else true then K (.tup [.int .u32
 0, .bool true]) else bif decide (op = 17) then K (.tup [.int .u32 (IntKind.wrap .u32 (a + b)), .bool true]) else bif decide (op = 18) then K (.tup [.int .u32 (bitsI
 .and .u32 a b), .bool true]) else bif decide (op = 19) then K (.tup [.int .u32 (bitsI .or .u32 a b), .bool true]) else bif decide (op = 20) then K (.tup [.int .u32
 (bitsI .xor .u32 a b), .bool true]) else bif decide (op = 21) then K (.tup [.int .u32 (oneI (decide (IntKind.wrap .i32 a < IntKind.wrap .i32 b))), .bool true]) else
 bif decide (op = 22) then K (.tup [.int .u32 (IntKind.wrap .u32 (a * (2 : Int) ^ Nat.min (Int.toNat (bitsI .and .u32 b (31 : Int))) 32)), .bool true]) else bif decide
 (op = 23) then K (.tup [.int .u32 (Int.fdiv a ((2 : Int) ^ Nat.min (Int.toNat (bitsI .and .u32 b (31 : Int))) 32)), .bool true]) else bif decide (op = 24) then K
 (.tup [.int .u32 (IntKind.wrap .u32 (Int.fdiv (IntKind.wrap .i32 a) ((2 : Int) ^ Nat.min (Int.toNat (bitsI .and .u32 b (31 : Int))) 32))), .bool true]) else bif
 decide (op = 1) then K (.tup [.int .u32 (IntKind.wrap .u32 (a + b)), .bool true]) else bif decide (op = 2) then K (.tup [.int .u32 (IntKind.wrap .u32 (a - b)), .bool
 true]) else bif decide (op = 3) then K (.tup [.int .u32 (bitsI .and .u32 a b), .bool true]) else bif decide (op = 4) then K (.tup [.int .u32 (bitsI .or .u32 a b),
 .bool true]) else bif decide (op = 5) then K (.tup [.int .u32 (bitsI .xor .u32 a b), .bool true]) else bif decide (op = 6) then K (.tup [.int .u32 (IntKind.wrap
 .u32 (a * (2 : Int) ^ Nat.min (Int.toNat (bitsI .and .u32 b (31 : Int))) 32)), .bool true]) else bif decide (op = 7) then K (.tup [.int .u32 (Int.fdiv a ((2 : Int)
 ^ Nat.min (Int.toNat (bitsI .and .u32 b (31 : Int))) 32)), .bool true]) else bif decide (op = 8) then K (.tup [.int .u32 (IntKind.wrap .u32 (Int.fdiv (IntKind.wrap
 .i32 a) ((2 : Int) ^ Nat.min (Int.toNat (bitsI .and .u32 b (31 : Int))) 32))), .bool true]) else bif decide (op = 9) then K (.tup [.int .u32 (oneI (decide (IntKind.wrap
 .i32 a < IntKind.wrap .i32 b))), .bool true]) else bif decide (op = 10) then K (.tup [.int .u32 (oneI (decide (a < b))), .bool true]) else bif decide (op = 11) then
 K (.tup [.int .u32 (IntKind.wrap .u32 (a * b)), .bool true]) else bif decide (op = 12) then K (.tup [.int .u32 (IntKind.wrap .u32 (Int.fdiv (IntKind.wrap .i64 (IntKind.wrap
 .i64 (IntKind.wrap .i32 a) * IntKind.wrap .i64 (IntKind.wrap .i32 b))) (4294967296 : Int))), .bool true]) else bif decide (b = 0) then K (.tup [.int .u32 0, .bool
 false]) else bif bif decide (IntKind.wrap .i32 a = (-2147483648 : Int)) then decide (IntKind.wrap .i32 a = (-2147483648 : Int)) else true then bif decide (op = 14)
 then bif bif decide ¬b = 0 then decide ¬b = 0 else true then bif bif decide ¬b = 0 then decide (b ≤ 0) else false then False else bif !decide (IntKind.wrap .u64
 b = 0) then bif !decide (IntKind.wrap .u64 b = 0) then K (.tup [.int .u32 (IntKind.wrap .u32 (IntKind.wrap .u64 (Int.tdiv (bitsI .or .u64 (0 : Int) (IntKind.wrap
 .u64 a)) (IntKind.wrap .u64 b)))), .bool true]) else False else False else False else bif decide (op = 16) then bif !decide (IntKind.wrap .u64 b = 0) then K (.tup
 [.int .u32 (IntKind.wrap .u32 (Int.tmod (bitsI .or .u64 (0 : Int) (IntKind.wrap .u64 a)) (IntKind.wrap .u64 b))), .bool true]) else False else bif bif decide (op
 = 13) then decide (op = 13) else true then bif bif decide (op = 13) then bif decide (IntKind.wrap .i32 a = (-2147483648 : Int)) then decide (IntKind.wrap .i32 b
 = (-1 : Int)) else false else false then K (.tup [.int .u32 a, .bool true]) else bif decide (op = 13) then bif !decide (IntKind.wrap .i32 b = 0) then K (.tup [.int
 .u32 (IntKind.wrap .u32 (IntKind.wrap .i32 (Int.tdiv (IntKind.wrap .i32 a) (IntKind.wrap .i32 b)))), .bool true]) else False else bif bif decide (IntKind.wrap .i32
 a = (-2147483648 : Int)) then decide (IntKind.wrap .i32 b = (-1 : Int)) else false then K (.tup [.int .u32 0, .bool true]) else bif !decide (IntKind.wrap .i32 b
 = 0) then K (.tup [.int .u32 (IntKind.wrap .u32 (Int.tmod (IntKind.wrap .i32 a) (IntKind.wrap .i32 b))), .bool true]) else False else False else False else False
else
 False) := by kernel_rfl
theorem r_dox1_6 (op d x y m a b : Int) (K : XV → Prop) : (quietGo (TA2 6) 80 (callI (TA2 6) 80 20) 55 [.agg 5 [.int .i64 op, .int .i64 d, .int .i64 x, .int .i64 y, .int .i64 m], .int .u32 a, .int .u32 b] K) = (bif decide (fmI op = 6) then bif bif !rtB op d x y m then true else !!rtB op d x y m then bif bif !rtB op d x y m then true else true then K (.tup [.int .u32
 0, .bool true]) else bif decide (op = 17) then K (.tup [.int .u32 (IntKind.wrap .u32 (a + b)), .bool true]) else bif decide (op = 18) then K (.tup [.int .u32 (bitsI
 .and .u32 a b), .bool true]) else bif decide (op = 19) then K (.tup [.int .u32 (bitsI .or .u32 a b), .bool true]) else bif decide (op = 20) then K (.tup [.int .u32
 (bitsI .xor .u32 a b), .bool true]) else bif decide (op = 21) then K (.tup [.int .u32 (oneI (decide (IntKind.wrap .i32 a < IntKind.wrap .i32 b))), .bool true]) else
 bif decide (op = 22) then K (.tup [.int .u32 (IntKind.wrap .u32 (a * (2 : Int) ^ Nat.min (Int.toNat (bitsI .and .u32 b (31 : Int))) 32)), .bool true]) else bif decide
 (op = 23) then K (.tup [.int .u32 (Int.fdiv a ((2 : Int) ^ Nat.min (Int.toNat (bitsI .and .u32 b (31 : Int))) 32)), .bool true]) else bif decide (op = 24) then K
 (.tup [.int .u32 (IntKind.wrap .u32 (Int.fdiv (IntKind.wrap .i32 a) ((2 : Int) ^ Nat.min (Int.toNat (bitsI .and .u32 b (31 : Int))) 32))), .bool true]) else bif
 decide (op = 1) then K (.tup [.int .u32 (IntKind.wrap .u32 (a + b)), .bool true]) else bif decide (op = 2) then K (.tup [.int .u32 (IntKind.wrap .u32 (a - b)), .bool
 true]) else bif decide (op = 3) then K (.tup [.int .u32 (bitsI .and .u32 a b), .bool true]) else bif decide (op = 4) then K (.tup [.int .u32 (bitsI .or .u32 a b),
 .bool true]) else bif decide (op = 5) then K (.tup [.int .u32 (bitsI .xor .u32 a b), .bool true]) else bif decide (op = 6) then K (.tup [.int .u32 (IntKind.wrap
 .u32 (a * (2 : Int) ^ Nat.min (Int.toNat (bitsI .and .u32 b (31 : Int))) 32)), .bool true]) else bif decide (op = 7) then K (.tup [.int .u32 (Int.fdiv a ((2 : Int)
 ^ Nat.min (Int.toNat (bitsI .and .u32 b (31 : Int))) 32)), .bool true]) else bif decide (op = 8) then K (.tup [.int .u32 (IntKind.wrap .u32 (Int.fdiv (IntKind.wrap
 .i32 a) ((2 : Int) ^ Nat.min (Int.toNat (bitsI .and .u32 b (31 : Int))) 32))), .bool true]) else bif decide (op = 9) then K (.tup [.int .u32 (oneI (decide (IntKind.wrap
 .i32 a < IntKind.wrap .i32 b))), .bool true]) else bif decide (op = 10) then K (.tup [.int .u32 (oneI (decide (a < b))), .bool true]) else bif decide (op = 11) then
 K (.tup [.int .u32 (IntKind.wrap .u32 (a * b)), .bool true]) else bif decide (op = 12) then K (.tup [.int .u32 (IntKind.wrap .u32 (Int.fdiv (IntKind.wrap .i64 (IntKind.wrap
 .i64 (IntKind.wrap .i32 a) * IntKind.wrap .i64 (IntKind.wrap .i32 b))) (4294967296 : Int))), .bool true]) else bif decide (b = 0) then K (.tup [.int .u32 0, .bool
 false]) else bif bif decide (IntKind.wrap .i32 a = (-2147483648 : Int)) then decide (IntKind.wrap .i32 a = (-2147483648 : Int)) else true then bif decide (op = 14)
 then bif bif decide ¬b = 0 then decide ¬b = 0 else true then bif bif decide ¬b = 0 then decide (b ≤ 0) else false then False else bif !decide (IntKind.wrap .u64
 b = 0) then bif !decide (IntKind.wrap .u64 b = 0) then K (.tup [.int .u32 (IntKind.wrap .u32 (IntKind.wrap .u64 (Int.tdiv (bitsI .or .u64 (0 : Int) (IntKind.wrap
 .u64 a)) (IntKind.wrap .u64 b)))), .bool true]) else False else False else False else bif decide (op = 16) then bif !decide (IntKind.wrap .u64 b = 0) then K (.tup
 [.int .u32 (IntKind.wrap .u32 (Int.tmod (bitsI .or .u64 (0 : Int) (IntKind.wrap .u64 a)) (IntKind.wrap .u64 b))), .bool true]) else False else bif bif decide (op
 = 13) then decide (op = 13) else true then bif bif decide (op = 13) then bif decide (IntKind.wrap .i32 a = (-2147483648 : Int)) then decide (IntKind.wrap .i32 b
 = (-1 : Int)) else false else false then K (.tup [.int .u32 a, .bool true]) else bif decide (op = 13) then bif !decide (IntKind.wrap .i32 b = 0) then K (.tup [.int
 .u32 (IntKind.wrap .u32 (IntKind.wrap .i32 (Int.tdiv (IntKind.wrap .i32 a) (IntKind.wrap .i32 b)))), .bool true]) else False else bif bif decide (IntKind.wrap .i32
 a = (-2147483648 : Int)) then decide (IntKind.wrap .i32 b = (-1 : Int)) else false then K (.tup [.int .u32 0, .bool true]) else bif !decide (IntKind.wrap .i32 b
 = 0) then K (.tup [.int .u32 (IntKind.wrap .u32 (Int.tmod (IntKind.wrap .i32 a) (IntKind.wrap .i32 b))), .bool true]) else False else False else False else False
else
 False) := by kernel_rfl
theorem r_dox1_7 (op d x y m a b : Int) (K : XV → Prop) : (quietGo (TA2 7) 80 (callI (TA2 7) 80 20) 55 [.agg 5 [.int .i64 op, .int .i64 d, .int .i64 x, .int .i64 y, .int .i64 m], .int .u32 a, .int .u32 b] K) = (bif decide (fmI op = 7) then bif bif !rtB op d x y m then true else !!rtB op d x y m then bif bif !rtB op d x y m then true else true then K (.tup [.int .u32
 0, .bool true]) else bif decide (op = 17) then K (.tup [.int .u32 (IntKind.wrap .u32 (a + b)), .bool true]) else bif decide (op = 18) then K (.tup [.int .u32 (bitsI
 .and .u32 a b), .bool true]) else bif decide (op = 19) then K (.tup [.int .u32 (bitsI .or .u32 a b), .bool true]) else bif decide (op = 20) then K (.tup [.int .u32
 (bitsI .xor .u32 a b), .bool true]) else bif decide (op = 21) then K (.tup [.int .u32 (oneI (decide (IntKind.wrap .i32 a < IntKind.wrap .i32 b))), .bool true]) else
 bif decide (op = 22) then K (.tup [.int .u32 (IntKind.wrap .u32 (a * (2 : Int) ^ Nat.min (Int.toNat (bitsI .and .u32 b (31 : Int))) 32)), .bool true]) else bif decide
 (op = 23) then K (.tup [.int .u32 (Int.fdiv a ((2 : Int) ^ Nat.min (Int.toNat (bitsI .and .u32 b (31 : Int))) 32)), .bool true]) else bif decide (op = 24) then K
 (.tup [.int .u32 (IntKind.wrap .u32 (Int.fdiv (IntKind.wrap .i32 a) ((2 : Int) ^ Nat.min (Int.toNat (bitsI .and .u32 b (31 : Int))) 32))), .bool true]) else bif
 decide (op = 1) then K (.tup [.int .u32 (IntKind.wrap .u32 (a + b)), .bool true]) else bif decide (op = 2) then K (.tup [.int .u32 (IntKind.wrap .u32 (a - b)), .bool
 true]) else bif decide (op = 3) then K (.tup [.int .u32 (bitsI .and .u32 a b), .bool true]) else bif decide (op = 4) then K (.tup [.int .u32 (bitsI .or .u32 a b),
 .bool true]) else bif decide (op = 5) then K (.tup [.int .u32 (bitsI .xor .u32 a b), .bool true]) else bif decide (op = 6) then K (.tup [.int .u32 (IntKind.wrap
 .u32 (a * (2 : Int) ^ Nat.min (Int.toNat (bitsI .and .u32 b (31 : Int))) 32)), .bool true]) else bif decide (op = 7) then K (.tup [.int .u32 (Int.fdiv a ((2 : Int)
 ^ Nat.min (Int.toNat (bitsI .and .u32 b (31 : Int))) 32)), .bool true]) else bif decide (op = 8) then K (.tup [.int .u32 (IntKind.wrap .u32 (Int.fdiv (IntKind.wrap
 .i32 a) ((2 : Int) ^ Nat.min (Int.toNat (bitsI .and .u32 b (31 : Int))) 32))), .bool true]) else bif decide (op = 9) then K (.tup [.int .u32 (oneI (decide (IntKind.wrap
 .i32 a < IntKind.wrap .i32 b))), .bool true]) else bif decide (op = 10) then K (.tup [.int .u32 (oneI (decide (a < b))), .bool true]) else bif decide (op = 11) then
 K (.tup [.int .u32 (IntKind.wrap .u32 (a * b)), .bool true]) else bif decide (op = 12) then K (.tup [.int .u32 (IntKind.wrap .u32 (Int.fdiv (IntKind.wrap .i64 (IntKind.wrap
 .i64 (IntKind.wrap .i32 a) * IntKind.wrap .i64 (IntKind.wrap .i32 b))) (4294967296 : Int))), .bool true]) else bif decide (b = 0) then K (.tup [.int .u32 0, .bool
 false]) else bif bif decide (IntKind.wrap .i32 a = (-2147483648 : Int)) then decide (IntKind.wrap .i32 a = (-2147483648 : Int)) else true then bif decide (op = 14)
 then bif bif decide ¬b = 0 then decide ¬b = 0 else true then bif bif decide ¬b = 0 then decide (b ≤ 0) else false then False else bif !decide (IntKind.wrap .u64
 b = 0) then bif !decide (IntKind.wrap .u64 b = 0) then K (.tup [.int .u32 (IntKind.wrap .u32 (IntKind.wrap .u64 (Int.tdiv (bitsI .or .u64 (0 : Int) (IntKind.wrap
 .u64 a)) (IntKind.wrap .u64 b)))), .bool true]) else False else False else False else bif decide (op = 16) then bif !decide (IntKind.wrap .u64 b = 0) then K (.tup
 [.int .u32 (IntKind.wrap .u32 (Int.tmod (bitsI .or .u64 (0 : Int) (IntKind.wrap .u64 a)) (IntKind.wrap .u64 b))), .bool true]) else False else bif bif decide (op
 = 13) then decide (op = 13) else true then bif bif decide (op = 13) then bif decide (IntKind.wrap .i32 a = (-2147483648 : Int)) then decide (IntKind.wrap .i32 b
 = (-1 : Int)) else false else false then K (.tup [.int .u32 a, .bool true]) else bif decide (op = 13) then bif !decide (IntKind.wrap .i32 b = 0) then K (.tup [.int
 .u32 (IntKind.wrap .u32 (IntKind.wrap .i32 (Int.tdiv (IntKind.wrap .i32 a) (IntKind.wrap .i32 b)))), .bool true]) else False else bif bif decide (IntKind.wrap .i32
 a = (-2147483648 : Int)) then decide (IntKind.wrap .i32 b = (-1 : Int)) else false then K (.tup [.int .u32 0, .bool true]) else bif !decide (IntKind.wrap .i32 b
 = 0) then K (.tup [.int .u32 (IntKind.wrap .u32 (Int.tmod (IntKind.wrap .i32 a) (IntKind.wrap .i32 b))), .bool true]) else False else False else False else False
else
 False) := by kernel_rfl
theorem r_dox1_8 (op d x y m a b : Int) (K : XV → Prop) : (quietGo (TA2 8) 80 (callI (TA2 8) 80 20) 55 [.agg 5 [.int .i64 op, .int .i64 d, .int .i64 x, .int .i64 y, .int .i64 m], .int .u32 a, .int .u32 b] K) = (bif decide (fmI op = 8) then bif bif !rtB op d x y m then true else !!rtB op d x y m then bif bif !rtB op d x y m then true else true then K (.tup [.int .u32
 0, .bool true]) else bif decide (op = 17) then K (.tup [.int .u32 (IntKind.wrap .u32 (a + b)), .bool true]) else bif decide (op = 18) then K (.tup [.int .u32 (bitsI
 .and .u32 a b), .bool true]) else bif decide (op = 19) then K (.tup [.int .u32 (bitsI .or .u32 a b), .bool true]) else bif decide (op = 20) then K (.tup [.int .u32
 (bitsI .xor .u32 a b), .bool true]) else bif decide (op = 21) then K (.tup [.int .u32 (oneI (decide (IntKind.wrap .i32 a < IntKind.wrap .i32 b))), .bool true]) else
 bif decide (op = 22) then K (.tup [.int .u32 (IntKind.wrap .u32 (a * (2 : Int) ^ Nat.min (Int.toNat (bitsI .and .u32 b (31 : Int))) 32)), .bool true]) else bif decide
 (op = 23) then K (.tup [.int .u32 (Int.fdiv a ((2 : Int) ^ Nat.min (Int.toNat (bitsI .and .u32 b (31 : Int))) 32)), .bool true]) else bif decide (op = 24) then K
 (.tup [.int .u32 (IntKind.wrap .u32 (Int.fdiv (IntKind.wrap .i32 a) ((2 : Int) ^ Nat.min (Int.toNat (bitsI .and .u32 b (31 : Int))) 32))), .bool true]) else bif
 decide (op = 1) then K (.tup [.int .u32 (IntKind.wrap .u32 (a + b)), .bool true]) else bif decide (op = 2) then K (.tup [.int .u32 (IntKind.wrap .u32 (a - b)), .bool
 true]) else bif decide (op = 3) then K (.tup [.int .u32 (bitsI .and .u32 a b), .bool true]) else bif decide (op = 4) then K (.tup [.int .u32 (bitsI .or .u32 a b),
 .bool true]) else bif decide (op = 5) then K (.tup [.int .u32 (bitsI .xor .u32 a b), .bool true]) else bif decide (op = 6) then K (.tup [.int .u32 (IntKind.wrap
 .u32 (a * (2 : Int) ^ Nat.min (Int.toNat (bitsI .and .u32 b (31 : Int))) 32)), .bool true]) else bif decide (op = 7) then K (.tup [.int .u32 (Int.fdiv a ((2 : Int)
 ^ Nat.min (Int.toNat (bitsI .and .u32 b (31 : Int))) 32)), .bool true]) else bif decide (op = 8) then K (.tup [.int .u32 (IntKind.wrap .u32 (Int.fdiv (IntKind.wrap
 .i32 a) ((2 : Int) ^ Nat.min (Int.toNat (bitsI .and .u32 b (31 : Int))) 32))), .bool true]) else bif decide (op = 9) then K (.tup [.int .u32 (oneI (decide (IntKind.wrap
 .i32 a < IntKind.wrap .i32 b))), .bool true]) else bif decide (op = 10) then K (.tup [.int .u32 (oneI (decide (a < b))), .bool true]) else bif decide (op = 11) then
 K (.tup [.int .u32 (IntKind.wrap .u32 (a * b)), .bool true]) else bif decide (op = 12) then K (.tup [.int .u32 (IntKind.wrap .u32 (Int.fdiv (IntKind.wrap .i64 (IntKind.wrap
 .i64 (IntKind.wrap .i32 a) * IntKind.wrap .i64 (IntKind.wrap .i32 b))) (4294967296 : Int))), .bool true]) else bif decide (b = 0) then K (.tup [.int .u32 0, .bool
 false]) else bif bif decide (IntKind.wrap .i32 a = (-2147483648 : Int)) then decide (IntKind.wrap .i32 a = (-2147483648 : Int)) else true then bif decide (op = 14)
 then bif bif decide ¬b = 0 then decide ¬b = 0 else true then bif bif decide ¬b = 0 then decide (b ≤ 0) else false then False else bif !decide (IntKind.wrap .u64
 b = 0) then bif !decide (IntKind.wrap .u64 b = 0) then K (.tup [.int .u32 (IntKind.wrap .u32 (IntKind.wrap .u64 (Int.tdiv (bitsI .or .u64 (0 : Int) (IntKind.wrap
 .u64 a)) (IntKind.wrap .u64 b)))), .bool true]) else False else False else False else bif decide (op = 16) then bif !decide (IntKind.wrap .u64 b = 0) then K (.tup
 [.int .u32 (IntKind.wrap .u32 (Int.tmod (bitsI .or .u64 (0 : Int) (IntKind.wrap .u64 a)) (IntKind.wrap .u64 b))), .bool true]) else False else bif bif decide (op
 = 13) then decide (op = 13) else true then bif bif decide (op = 13) then bif decide (IntKind.wrap .i32 a = (-2147483648 : Int)) then decide (IntKind.wrap .i32 b
 = (-1 : Int)) else false else false then K (.tup [.int .u32 a, .bool true]) else bif decide (op = 13) then bif !decide (IntKind.wrap .i32 b = 0) then K (.tup [.int
 .u32 (IntKind.wrap .u32 (IntKind.wrap .i32 (Int.tdiv (IntKind.wrap .i32 a) (IntKind.wrap .i32 b)))), .bool true]) else False else bif bif decide (IntKind.wrap .i32
 a = (-2147483648 : Int)) then decide (IntKind.wrap .i32 b = (-1 : Int)) else false then K (.tup [.int .u32 0, .bool true]) else bif !decide (IntKind.wrap .i32 b
 = 0) then K (.tup [.int .u32 (IntKind.wrap .u32 (Int.tmod (IntKind.wrap .i32 a) (IntKind.wrap .i32 b))), .bool true]) else False else False else False else False
else
 False) := by kernel_rfl
theorem i32_rng (a : Int) : -2147483648 ≤ IntKind.i32.wrap a ∧ IntKind.i32.wrap a ≤ 2147483647 := by rw [wI32]; omega
theorem mul_rng {x y : Int} (hx : -2147483648 ≤ x ∧ x ≤ 2147483647) (hy : -2147483648 ≤ y ∧ y ≤ 2147483647) : -4611686018427387904 ≤ x * y ∧ x * y ≤ 4611686018427387904 := by
  have h1 : x.natAbs ≤ 2147483648 := by omega
  have h2 : y.natAbs ≤ 2147483648 := by omega
  have h3 : (x * y).natAbs ≤ 2147483648 * 2147483648 := by rw [Int.natAbs_mul]; exact Nat.mul_le_mul h1 h2
  omega
theorem w32w64 (n : Int) : IntKind.u32.wrap (IntKind.i64.wrap n) = n % 4294967296 := by rw [wI64, wU32]; omega
theorem w32i32 (n : Int) : IntKind.u32.wrap (IntKind.i32.wrap n) = n % 4294967296 := by rw [wI32, wU32]; omega
theorem w64i32 (n : Int) : IntKind.i64.wrap (IntKind.i32.wrap n) = IntKind.i32.wrap n := by have := i32_rng n; exact wrap_i64 (by omega) (by omega)
theorem i32_mod (a : Int) : IntKind.i32.wrap a % 4294967296 = a % 4294967296 := by rw [wI32]; omega
theorem mul_mod (a b : Int) : (IntKind.i32.wrap a * IntKind.i32.wrap b) % 4294967296 = (a * b) % 4294967296 := by
  rw [Int.mul_emod, i32_mod, i32_mod, ← Int.mul_emod]
theorem w64mul (a b : Int) : IntKind.i64.wrap (IntKind.i32.wrap a * IntKind.i32.wrap b) = IntKind.i32.wrap a * IntKind.i32.wrap b := by
  have := mul_rng (i32_rng a) (i32_rng b)
  exact wrap_i64 (by omega) (by omega)
theorem and31 {b : Int} (h2 : 0 ≤ b) (h3 : b ≤ 4294967295) : bitsI .and .u32 b 31 = b % 32 := by
  obtain ⟨B, rfl⟩ := Int.eq_ofNat_of_zero_le h2
  have e := bAnd (A := B) (B := 31) (by omega) (by omega)
  have h : B &&& 31 = B % 32 := Nat.and_two_pow_sub_one_eq_mod B 5
  rw [h] at e
  exact e
theorem shA {b : Int} (h2 : 0 ≤ b) (h3 : b ≤ 4294967295) : Nat.min (Int.toNat (bitsI .and .u32 b 31)) 32 = (b % 32).toNat := by
  rw [and31 h2 h3]
  exact Nat.min_eq_left (by omega)
theorem shB {b : Int} (h2 : 0 ≤ b) (h3 : b ≤ 4294967295) : Nat.min (Int.toNat (bitsI .and .u32 b 31)) 64 = (b % 32).toNat := by
  rw [and31 h2 h3]
  exact Nat.min_eq_left (by omega)
theorem fdivP (a : Int) (k : Nat) : Int.fdiv a (2 ^ k) = a / 2 ^ k := Int.fdiv_eq_ediv_of_nonneg a (Int.pow_nonneg (by omega))
theorem fdivQ (a : Int) : Int.fdiv a 4294967296 = a / 4294967296 := Int.fdiv_eq_ediv_of_nonneg a (by omega)
theorem or0 {a : Int} (h0 : 0 ≤ a) (h1 : a ≤ 4294967295) : bitsI .or .u64 0 (IntKind.u64.wrap a) = a := by
  obtain ⟨A, rfl⟩ := Int.eq_ofNat_of_zero_le h0
  have e1 : IntKind.u64.wrap (A : Int) = (A : Int) := by rw [wU64]; omega
  rw [e1]
  show IntKind.u64.wrap (((BitVec.ofInt 64 0) ||| (BitVec.ofInt 64 (A : Int))).toNat : Int) = _
  have e2 : (BitVec.ofInt 64 (A : Int)).toNat = A := by rw [BitVec.toNat_ofInt]; omega
  have e3 : (BitVec.ofInt 64 0).toNat = 0 := rfl
  rw [BitVec.toNat_or, e2, e3, Nat.zero_or, wU64]
  omega
theorem i32_0 {b : Int} (h2 : 0 ≤ b) (h3 : b ≤ 4294967295) : IntKind.i32.wrap b = 0 ↔ b = 0 := by rw [wI32]; omega
theorem udiv_rng {a b : Int} (h0 : 0 ≤ a) (h1 : a ≤ 4294967295) (h2 : 0 ≤ b) : 0 ≤ a / b ∧ a / b ≤ 4294967295 := by
  have := Int.ediv_le_self b h0
  have := Int.ediv_nonneg h0 h2
  omega
theorem umod_rng {a b : Int} (h0 : 0 ≤ a) (h1 : a ≤ 4294967295) (h2 : 0 < b) (h3 : b ≤ 4294967295) : 0 ≤ a % b ∧ a % b ≤ 4294967295 := by
  have := Int.emod_lt_of_pos a h2
  have := Int.emod_nonneg a (show b ≠ 0 by omega)
  omega
theorem int_ref {a : Int} (h0 : 0 ≤ a) (h1 : a ≤ 4294967295) : Pure Try.prog 57 (cons [.int .u32 a]) (con (.int .i64 (i32 a))) := by
  refine pureX (u := 80) (k := 20) mix TA0ok ?_
  rw [r_int]
  have e1 : IntKind.i64.wrap a = a := wrap_i64 (by omega) (by omega)
  have e2 : IntKind.i64.wrap (a - 4294967296) = a - 4294967296 := wrap_i64 (by omega) (by omega)
  rw [e1, e2]
  unfold i32
  rw [wI32]
  by_cases h : a ≥ 2147483648
  · rw [decide_eq_true h]; exact conI (by omega)
  · rw [decide_eq_false h]; exact conI (by omega)
theorem sp_int : SpOk Try.prog (57, intSp) := fun args nd v h hn => by
  simp only [intSp] at h
  split at h
  · simp only [Option.some.injEq, Prod.mk.injEq] at h
    obtain ⟨rfl, rfl⟩ := h
    simp only [allT_cons, decide_eq_true_eq] at hn
    exact int_ref hn.1 hn.2.1
  · cases h
theorem right1 (op d x y m : Int) : Pure Try.prog 46 (cons [.agg 5 [.int .i64 op, .int .i64 d, .int .i64 x, .int .i64 y, .int .i64 m]]) (con (.bool (rtB op d x y m))) := by
  rcases fm_in op with h | h | h | h | h | h | h | h | h
  · exact rt1_0 op d x y m h
  · exact rt1_1 op d x y m h
  · exact rt1_2 op d x y m h
  · exact rt1_3 op d x y m h
  · exact rt1_4 op d x y m h
  · exact rt1_5 op d x y m h
  · exact rt1_6 op d x y m h
  · exact rt1_7 op d x y m h
  · exact rt1_8 op d x y m h
theorem right2 (op d x y m : Int) : Pure Try.prog 25 (cons [.agg 5 [.int .i64 op, .int .i64 d, .int .i64 x, .int .i64 y, .int .i64 m]]) (con (.bool (rtB op d x y m))) := by
  rcases fm_in op with h | h | h | h | h | h | h | h | h
  · exact rt2_0 op d x y m h
  · exact rt2_1 op d x y m h
  · exact rt2_2 op d x y m h
  · exact rt2_3 op d x y m h
  · exact rt2_4 op d x y m h
  · exact rt2_5 op d x y m h
  · exact rt2_6 op d x y m h
  · exact rt2_7 op d x y m h
  · exact rt2_8 op d x y m h
theorem sp_right1 : SpOk Try.prog (46, rtSp) := fun args nd v h hn => by
  simp only [rtSp] at h
  split at h
  · simp only [Option.some.injEq, Prod.mk.injEq] at h
    obtain ⟨rfl, rfl⟩ := h
    exact right1 _ _ _ _ _
  · cases h
theorem sp_right2 : SpOk Try.prog (25, rtSp) := fun args nd v h hn => by
  simp only [rtSp] at h
  split at h
  · simp only [Option.some.injEq, Prod.mk.injEq] at h
    obtain ⟨rfl, rfl⟩ := h
    exact right2 _ _ _ _ _
  · cases h
theorem TA2ok (f : Int) : TabOk Try.prog (TA2 f) := mkT_ok ((((clok_alu.app clok_isa).app clok_word).app clok_ref1).app clok_math) ⟨sp_formF1 f, sp_formF2 f, sp_right1, sp_right2, sp_one1, sp_one2, sp_int, trivial⟩ trivial
theorem fm1 {op : Int} (h : fmI op = 1) : 1 ≤ op ∧ op ≤ 16 := by unfold fmI at h; repeat' split at h; all_goals omega
theorem fm2 {op : Int} (h : fmI op = 2) : 17 ≤ op ∧ op ≤ 24 := by unfold fmI at h; repeat' split at h; all_goals omega
theorem fm3 {op : Int} (h : fmI op = 3) : op = 25 := by unfold fmI at h; repeat' split at h; all_goals omega
theorem do_no {op d x y m a b : Int} (h : rtB op d x y m = false ∨ fmI op > 3) : doI op d x y m a b = 0 := by
  unfold doI
  rw [if_pos h]
theorem dk_no {op d x y m b : Int} (h : rtB op d x y m = false ∨ fmI op > 3) : dkB op d x y m b = true := by
  unfold dkB
  rw [if_pos h]
theorem do1_1 {d x y m a b : Int} (h0 : 0 ≤ a) (h1 : a ≤ 4294967295) (h2 : 0 ≤ b) (h3 : b ≤ 4294967295) : Pure Try.prog 55 (cons [.agg 5 [.int .i64 1, .int .i64 d, .int .i64 x, .int .i64 y, .int .i64 m], .int .u32 a, .int .u32 b]) (con (.tup [.int .u32 (doI 1 d x y m a b), .bool (dkB 1 d x y m b)])) := by
  refine pureX (u := 80) (k := 20) mix (TA2ok 1) ?_
  rw [r_do1_1]
  have m0 : 0 ≤ IntKind.u32.wrap m := by rw [wU32]; omega
  have m1 : IntKind.u32.wrap m ≤ 4294967295 := by rw [wU32]; omega
  cases hr : rtB 1 d x y m with
  | false =>
    rw [do_no (.inl hr), dk_no (.inl hr)]
    simp only [hr, h0, h1, h2, h3, m0, m1, decide_true, decide_false, cond_true, cond_false, pk_and, pk_or, pk3, pk4, Bool.not_true, Bool.not_false]
  | true =>
    have e1 : doI 1 d x y m a b = alW 1 a b := by
      unfold doI
      rw [hr, if_neg (by decide)]
      rfl
    have e2 : dkB 1 d x y m b = true := by
      unfold dkB
      rw [hr, if_neg (by decide)]
      simp
    rw [e1, e2]
    simp only [hr, h0, h1, h2, h3, m0, m1, decide_true, decide_false, cond_true, cond_false, pk_and, pk_or, pk3, pk4, Bool.not_true, Bool.not_false]
    refine conT2 (conI ?_) rfl
    simp only [alW, i32, shA h2 h3, shB h2 h3, shA m0 m1, shB m0 m1, fdivP, fdivQ, w32w64, w64i32, w64mul, mul_mod, if_true, if_false, Int.reduceEq]
    try rw [wU32, mul_mod]
    try rfl
theorem do1_2 {d x y m a b : Int} (h0 : 0 ≤ a) (h1 : a ≤ 4294967295) (h2 : 0 ≤ b) (h3 : b ≤ 4294967295) : Pure Try.prog 55 (cons [.agg 5 [.int .i64 2, .int .i64 d, .int .i64 x, .int .i64 y, .int .i64 m], .int .u32 a, .int .u32 b]) (con (.tup [.int .u32 (doI 2 d x y m a b), .bool (dkB 2 d x y m b)])) := by
  refine pureX (u := 80) (k := 20) mix (TA2ok 1) ?_
  rw [r_do1_2]
  have m0 : 0 ≤ IntKind.u32.wrap m := by rw [wU32]; omega
  have m1 : IntKind.u32.wrap m ≤ 4294967295 := by rw [wU32]; omega
  cases hr : rtB 2 d x y m with
  | false =>
    rw [do_no (.inl hr), dk_no (.inl hr)]
    simp only [hr, h0, h1, h2, h3, m0, m1, decide_true, decide_false, cond_true, cond_false, pk_and, pk_or, pk3, pk4, Bool.not_true, Bool.not_false]
  | true =>
    have e1 : doI 2 d x y m a b = alW 2 a b := by
      unfold doI
      rw [hr, if_neg (by decide)]
      rfl
    have e2 : dkB 2 d x y m b = true := by
      unfold dkB
      rw [hr, if_neg (by decide)]
      simp
    rw [e1, e2]
    simp only [hr, h0, h1, h2, h3, m0, m1, decide_true, decide_false, cond_true, cond_false, pk_and, pk_or, pk3, pk4, Bool.not_true, Bool.not_false]
    refine conT2 (conI ?_) rfl
    simp only [alW, i32, shA h2 h3, shB h2 h3, shA m0 m1, shB m0 m1, fdivP, fdivQ, w32w64, w64i32, w64mul, mul_mod, if_true, if_false, Int.reduceEq]
    try rw [wU32, mul_mod]
    try rfl
theorem do1_3 {d x y m a b : Int} (h0 : 0 ≤ a) (h1 : a ≤ 4294967295) (h2 : 0 ≤ b) (h3 : b ≤ 4294967295) : Pure Try.prog 55 (cons [.agg 5 [.int .i64 3, .int .i64 d, .int .i64 x, .int .i64 y, .int .i64 m], .int .u32 a, .int .u32 b]) (con (.tup [.int .u32 (doI 3 d x y m a b), .bool (dkB 3 d x y m b)])) := by
  refine pureX (u := 80) (k := 20) mix (TA2ok 1) ?_
  rw [r_do1_3]
  have m0 : 0 ≤ IntKind.u32.wrap m := by rw [wU32]; omega
  have m1 : IntKind.u32.wrap m ≤ 4294967295 := by rw [wU32]; omega
  cases hr : rtB 3 d x y m with
  | false =>
    rw [do_no (.inl hr), dk_no (.inl hr)]
    simp only [hr, h0, h1, h2, h3, m0, m1, decide_true, decide_false, cond_true, cond_false, pk_and, pk_or, pk3, pk4, Bool.not_true, Bool.not_false]
  | true =>
    have e1 : doI 3 d x y m a b = alW 3 a b := by
      unfold doI
      rw [hr, if_neg (by decide)]
      rfl
    have e2 : dkB 3 d x y m b = true := by
      unfold dkB
      rw [hr, if_neg (by decide)]
      simp
    rw [e1, e2]
    simp only [hr, h0, h1, h2, h3, m0, m1, decide_true, decide_false, cond_true, cond_false, pk_and, pk_or, pk3, pk4, Bool.not_true, Bool.not_false]
    refine conT2 (conI ?_) rfl
    simp only [alW, i32, shA h2 h3, shB h2 h3, shA m0 m1, shB m0 m1, fdivP, fdivQ, w32w64, w64i32, w64mul, mul_mod, if_true, if_false, Int.reduceEq]
    try rw [wU32, mul_mod]
    try rfl
theorem do1_4 {d x y m a b : Int} (h0 : 0 ≤ a) (h1 : a ≤ 4294967295) (h2 : 0 ≤ b) (h3 : b ≤ 4294967295) : Pure Try.prog 55 (cons [.agg 5 [.int .i64 4, .int .i64 d, .int .i64 x, .int .i64 y, .int .i64 m], .int .u32 a, .int .u32 b]) (con (.tup [.int .u32 (doI 4 d x y m a b), .bool (dkB 4 d x y m b)])) := by
  refine pureX (u := 80) (k := 20) mix (TA2ok 1) ?_
  rw [r_do1_4]
  have m0 : 0 ≤ IntKind.u32.wrap m := by rw [wU32]; omega
  have m1 : IntKind.u32.wrap m ≤ 4294967295 := by rw [wU32]; omega
  cases hr : rtB 4 d x y m with
  | false =>
    rw [do_no (.inl hr), dk_no (.inl hr)]
    simp only [hr, h0, h1, h2, h3, m0, m1, decide_true, decide_false, cond_true, cond_false, pk_and, pk_or, pk3, pk4, Bool.not_true, Bool.not_false]
  | true =>
    have e1 : doI 4 d x y m a b = alW 4 a b := by
      unfold doI
      rw [hr, if_neg (by decide)]
      rfl
    have e2 : dkB 4 d x y m b = true := by
      unfold dkB
      rw [hr, if_neg (by decide)]
      simp
    rw [e1, e2]
    simp only [hr, h0, h1, h2, h3, m0, m1, decide_true, decide_false, cond_true, cond_false, pk_and, pk_or, pk3, pk4, Bool.not_true, Bool.not_false]
    refine conT2 (conI ?_) rfl
    simp only [alW, i32, shA h2 h3, shB h2 h3, shA m0 m1, shB m0 m1, fdivP, fdivQ, w32w64, w64i32, w64mul, mul_mod, if_true, if_false, Int.reduceEq]
    try rw [wU32, mul_mod]
    try rfl
theorem do1_5 {d x y m a b : Int} (h0 : 0 ≤ a) (h1 : a ≤ 4294967295) (h2 : 0 ≤ b) (h3 : b ≤ 4294967295) : Pure Try.prog 55 (cons [.agg 5 [.int .i64 5, .int .i64 d, .int .i64 x, .int .i64 y, .int .i64 m], .int .u32 a, .int .u32 b]) (con (.tup [.int .u32 (doI 5 d x y m a b), .bool (dkB 5 d x y m b)])) := by
  refine pureX (u := 80) (k := 20) mix (TA2ok 1) ?_
  rw [r_do1_5]
  have m0 : 0 ≤ IntKind.u32.wrap m := by rw [wU32]; omega
  have m1 : IntKind.u32.wrap m ≤ 4294967295 := by rw [wU32]; omega
  cases hr : rtB 5 d x y m with
  | false =>
    rw [do_no (.inl hr), dk_no (.inl hr)]
    simp only [hr, h0, h1, h2, h3, m0, m1, decide_true, decide_false, cond_true, cond_false, pk_and, pk_or, pk3, pk4, Bool.not_true, Bool.not_false]
  | true =>
    have e1 : doI 5 d x y m a b = alW 5 a b := by
      unfold doI
      rw [hr, if_neg (by decide)]
      rfl
    have e2 : dkB 5 d x y m b = true := by
      unfold dkB
      rw [hr, if_neg (by decide)]
      simp
    rw [e1, e2]
    simp only [hr, h0, h1, h2, h3, m0, m1, decide_true, decide_false, cond_true, cond_false, pk_and, pk_or, pk3, pk4, Bool.not_true, Bool.not_false]
    refine conT2 (conI ?_) rfl
    simp only [alW, i32, shA h2 h3, shB h2 h3, shA m0 m1, shB m0 m1, fdivP, fdivQ, w32w64, w64i32, w64mul, mul_mod, if_true, if_false, Int.reduceEq]
    try rw [wU32, mul_mod]
    try rfl
theorem do1_6 {d x y m a b : Int} (h0 : 0 ≤ a) (h1 : a ≤ 4294967295) (h2 : 0 ≤ b) (h3 : b ≤ 4294967295) : Pure Try.prog 55 (cons [.agg 5 [.int .i64 6, .int .i64 d, .int .i64 x, .int .i64 y, .int .i64 m], .int .u32 a, .int .u32 b]) (con (.tup [.int .u32 (doI 6 d x y m a b), .bool (dkB 6 d x y m b)])) := by
  refine pureX (u := 80) (k := 20) mix (TA2ok 1) ?_
  rw [r_do1_6]
  have m0 : 0 ≤ IntKind.u32.wrap m := by rw [wU32]; omega
  have m1 : IntKind.u32.wrap m ≤ 4294967295 := by rw [wU32]; omega
  cases hr : rtB 6 d x y m with
  | false =>
    rw [do_no (.inl hr), dk_no (.inl hr)]
    simp only [hr, h0, h1, h2, h3, m0, m1, decide_true, decide_false, cond_true, cond_false, pk_and, pk_or, pk3, pk4, Bool.not_true, Bool.not_false]
  | true =>
    have e1 : doI 6 d x y m a b = alW 6 a b := by
      unfold doI
      rw [hr, if_neg (by decide)]
      rfl
    have e2 : dkB 6 d x y m b = true := by
      unfold dkB
      rw [hr, if_neg (by decide)]
      simp
    rw [e1, e2]
    simp only [hr, h0, h1, h2, h3, m0, m1, decide_true, decide_false, cond_true, cond_false, pk_and, pk_or, pk3, pk4, Bool.not_true, Bool.not_false]
    refine conT2 (conI ?_) rfl
    simp only [alW, i32, shA h2 h3, shB h2 h3, shA m0 m1, shB m0 m1, fdivP, fdivQ, w32w64, w64i32, w64mul, mul_mod, if_true, if_false, Int.reduceEq]
    try rw [wU32, mul_mod]
    try rfl
theorem do1_7 {d x y m a b : Int} (h0 : 0 ≤ a) (h1 : a ≤ 4294967295) (h2 : 0 ≤ b) (h3 : b ≤ 4294967295) : Pure Try.prog 55 (cons [.agg 5 [.int .i64 7, .int .i64 d, .int .i64 x, .int .i64 y, .int .i64 m], .int .u32 a, .int .u32 b]) (con (.tup [.int .u32 (doI 7 d x y m a b), .bool (dkB 7 d x y m b)])) := by
  refine pureX (u := 80) (k := 20) mix (TA2ok 1) ?_
  rw [r_do1_7]
  have m0 : 0 ≤ IntKind.u32.wrap m := by rw [wU32]; omega
  have m1 : IntKind.u32.wrap m ≤ 4294967295 := by rw [wU32]; omega
  cases hr : rtB 7 d x y m with
  | false =>
    rw [do_no (.inl hr), dk_no (.inl hr)]
    simp only [hr, h0, h1, h2, h3, m0, m1, decide_true, decide_false, cond_true, cond_false, pk_and, pk_or, pk3, pk4, Bool.not_true, Bool.not_false]
  | true =>
    have e1 : doI 7 d x y m a b = alW 7 a b := by
      unfold doI
      rw [hr, if_neg (by decide)]
      rfl
    have e2 : dkB 7 d x y m b = true := by
      unfold dkB
      rw [hr, if_neg (by decide)]
      simp
    rw [e1, e2]
    simp only [hr, h0, h1, h2, h3, m0, m1, decide_true, decide_false, cond_true, cond_false, pk_and, pk_or, pk3, pk4, Bool.not_true, Bool.not_false]
    refine conT2 (conI ?_) rfl
    simp only [alW, i32, shA h2 h3, shB h2 h3, shA m0 m1, shB m0 m1, fdivP, fdivQ, w32w64, w64i32, w64mul, mul_mod, if_true, if_false, Int.reduceEq]
    try rw [wU32, mul_mod]
    try rfl
theorem do1_8 {d x y m a b : Int} (h0 : 0 ≤ a) (h1 : a ≤ 4294967295) (h2 : 0 ≤ b) (h3 : b ≤ 4294967295) : Pure Try.prog 55 (cons [.agg 5 [.int .i64 8, .int .i64 d, .int .i64 x, .int .i64 y, .int .i64 m], .int .u32 a, .int .u32 b]) (con (.tup [.int .u32 (doI 8 d x y m a b), .bool (dkB 8 d x y m b)])) := by
  refine pureX (u := 80) (k := 20) mix (TA2ok 1) ?_
  rw [r_do1_8]
  have m0 : 0 ≤ IntKind.u32.wrap m := by rw [wU32]; omega
  have m1 : IntKind.u32.wrap m ≤ 4294967295 := by rw [wU32]; omega
  cases hr : rtB 8 d x y m with
  | false =>
    rw [do_no (.inl hr), dk_no (.inl hr)]
    simp only [hr, h0, h1, h2, h3, m0, m1, decide_true, decide_false, cond_true, cond_false, pk_and, pk_or, pk3, pk4, Bool.not_true, Bool.not_false]
  | true =>
    have e1 : doI 8 d x y m a b = alW 8 a b := by
      unfold doI
      rw [hr, if_neg (by decide)]
      rfl
    have e2 : dkB 8 d x y m b = true := by
      unfold dkB
      rw [hr, if_neg (by decide)]
      simp
    rw [e1, e2]
    simp only [hr, h0, h1, h2, h3, m0, m1, decide_true, decide_false, cond_true, cond_false, pk_and, pk_or, pk3, pk4, Bool.not_true, Bool.not_false]
    refine conT2 (conI ?_) rfl
    simp only [alW, i32, shA h2 h3, shB h2 h3, shA m0 m1, shB m0 m1, fdivP, fdivQ, w32w64, w64i32, w64mul, mul_mod, if_true, if_false, Int.reduceEq]
    try rw [wU32, mul_mod]
    try rfl
theorem do1_9 {d x y m a b : Int} (h0 : 0 ≤ a) (h1 : a ≤ 4294967295) (h2 : 0 ≤ b) (h3 : b ≤ 4294967295) : Pure Try.prog 55 (cons [.agg 5 [.int .i64 9, .int .i64 d, .int .i64 x, .int .i64 y, .int .i64 m], .int .u32 a, .int .u32 b]) (con (.tup [.int .u32 (doI 9 d x y m a b), .bool (dkB 9 d x y m b)])) := by
  refine pureX (u := 80) (k := 20) mix (TA2ok 1) ?_
  rw [r_do1_9]
  have m0 : 0 ≤ IntKind.u32.wrap m := by rw [wU32]; omega
  have m1 : IntKind.u32.wrap m ≤ 4294967295 := by rw [wU32]; omega
  cases hr : rtB 9 d x y m with
  | false =>
    rw [do_no (.inl hr), dk_no (.inl hr)]
    simp only [hr, h0, h1, h2, h3, m0, m1, decide_true, decide_false, cond_true, cond_false, pk_and, pk_or, pk3, pk4, Bool.not_true, Bool.not_false]
  | true =>
    have e1 : doI 9 d x y m a b = alW 9 a b := by
      unfold doI
      rw [hr, if_neg (by decide)]
      rfl
    have e2 : dkB 9 d x y m b = true := by
      unfold dkB
      rw [hr, if_neg (by decide)]
      simp
    rw [e1, e2]
    simp only [hr, h0, h1, h2, h3, m0, m1, decide_true, decide_false, cond_true, cond_false, pk_and, pk_or, pk3, pk4, Bool.not_true, Bool.not_false]
    refine conT2 (conI ?_) rfl
    simp only [alW, i32, shA h2 h3, shB h2 h3, shA m0 m1, shB m0 m1, fdivP, fdivQ, w32w64, w64i32, w64mul, mul_mod, if_true, if_false, Int.reduceEq]
    try rw [wU32, mul_mod]
    try rfl
theorem do1_10 {d x y m a b : Int} (h0 : 0 ≤ a) (h1 : a ≤ 4294967295) (h2 : 0 ≤ b) (h3 : b ≤ 4294967295) : Pure Try.prog 55 (cons [.agg 5 [.int .i64 10, .int .i64 d, .int .i64 x, .int .i64 y, .int .i64 m], .int .u32 a, .int .u32 b]) (con (.tup [.int .u32 (doI 10 d x y m a b), .bool (dkB 10 d x y m b)])) := by
  refine pureX (u := 80) (k := 20) mix (TA2ok 1) ?_
  rw [r_do1_10]
  have m0 : 0 ≤ IntKind.u32.wrap m := by rw [wU32]; omega
  have m1 : IntKind.u32.wrap m ≤ 4294967295 := by rw [wU32]; omega
  cases hr : rtB 10 d x y m with
  | false =>
    rw [do_no (.inl hr), dk_no (.inl hr)]
    simp only [hr, h0, h1, h2, h3, m0, m1, decide_true, decide_false, cond_true, cond_false, pk_and, pk_or, pk3, pk4, Bool.not_true, Bool.not_false]
  | true =>
    have e1 : doI 10 d x y m a b = alW 10 a b := by
      unfold doI
      rw [hr, if_neg (by decide)]
      rfl
    have e2 : dkB 10 d x y m b = true := by
      unfold dkB
      rw [hr, if_neg (by decide)]
      simp
    rw [e1, e2]
    simp only [hr, h0, h1, h2, h3, m0, m1, decide_true, decide_false, cond_true, cond_false, pk_and, pk_or, pk3, pk4, Bool.not_true, Bool.not_false]
    refine conT2 (conI ?_) rfl
    simp only [alW, i32, shA h2 h3, shB h2 h3, shA m0 m1, shB m0 m1, fdivP, fdivQ, w32w64, w64i32, w64mul, mul_mod, if_true, if_false, Int.reduceEq]
    try rw [wU32, mul_mod]
    try rfl
theorem do1_11 {d x y m a b : Int} (h0 : 0 ≤ a) (h1 : a ≤ 4294967295) (h2 : 0 ≤ b) (h3 : b ≤ 4294967295) : Pure Try.prog 55 (cons [.agg 5 [.int .i64 11, .int .i64 d, .int .i64 x, .int .i64 y, .int .i64 m], .int .u32 a, .int .u32 b]) (con (.tup [.int .u32 (doI 11 d x y m a b), .bool (dkB 11 d x y m b)])) := by
  refine pureX (u := 80) (k := 20) mix (TA2ok 1) ?_
  rw [r_do1_11]
  have m0 : 0 ≤ IntKind.u32.wrap m := by rw [wU32]; omega
  have m1 : IntKind.u32.wrap m ≤ 4294967295 := by rw [wU32]; omega
  cases hr : rtB 11 d x y m with
  | false =>
    rw [do_no (.inl hr), dk_no (.inl hr)]
    simp only [hr, h0, h1, h2, h3, m0, m1, decide_true, decide_false, cond_true, cond_false, pk_and, pk_or, pk3, pk4, Bool.not_true, Bool.not_false]
  | true =>
    have e1 : doI 11 d x y m a b = alW 11 a b := by
      unfold doI
      rw [hr, if_neg (by decide)]
      rfl
    have e2 : dkB 11 d x y m b = true := by
      unfold dkB
      rw [hr, if_neg (by decide)]
      simp
    rw [e1, e2]
    simp only [hr, h0, h1, h2, h3, m0, m1, decide_true, decide_false, cond_true, cond_false, pk_and, pk_or, pk3, pk4, Bool.not_true, Bool.not_false]
    refine conT2 (conI ?_) rfl
    simp only [alW, i32, shA h2 h3, shB h2 h3, shA m0 m1, shB m0 m1, fdivP, fdivQ, w32w64, w64i32, w64mul, mul_mod, if_true, if_false, Int.reduceEq]
    try rw [wU32, mul_mod]
    try rfl
theorem do1_12 {d x y m a b : Int} (h0 : 0 ≤ a) (h1 : a ≤ 4294967295) (h2 : 0 ≤ b) (h3 : b ≤ 4294967295) : Pure Try.prog 55 (cons [.agg 5 [.int .i64 12, .int .i64 d, .int .i64 x, .int .i64 y, .int .i64 m], .int .u32 a, .int .u32 b]) (con (.tup [.int .u32 (doI 12 d x y m a b), .bool (dkB 12 d x y m b)])) := by
  refine pureX (u := 80) (k := 20) mix (TA2ok 1) ?_
  rw [r_do1_12]
  have m0 : 0 ≤ IntKind.u32.wrap m := by rw [wU32]; omega
  have m1 : IntKind.u32.wrap m ≤ 4294967295 := by rw [wU32]; omega
  cases hr : rtB 12 d x y m with
  | false =>
    rw [do_no (.inl hr), dk_no (.inl hr)]
    simp only [hr, h0, h1, h2, h3, m0, m1, decide_true, decide_false, cond_true, cond_false, pk_and, pk_or, pk3, pk4, Bool.not_true, Bool.not_false]
  | true =>
    have e1 : doI 12 d x y m a b = alW 12 a b := by
      unfold doI
      rw [hr, if_neg (by decide)]
      rfl
    have e2 : dkB 12 d x y m b = true := by
      unfold dkB
      rw [hr, if_neg (by decide)]
      simp
    rw [e1, e2]
    simp only [hr, h0, h1, h2, h3, m0, m1, decide_true, decide_false, cond_true, cond_false, pk_and, pk_or, pk3, pk4, Bool.not_true, Bool.not_false]
    refine conT2 (conI ?_) rfl
    simp only [alW, i32, shA h2 h3, shB h2 h3, shA m0 m1, shB m0 m1, fdivP, fdivQ, w32w64, w64i32, w64mul, mul_mod, if_true, if_false, Int.reduceEq]
    try rw [wU32, mul_mod]
    try rfl
theorem do1_13 {d x y m a b : Int} (h0 : 0 ≤ a) (h1 : a ≤ 4294967295) (h2 : 0 ≤ b) (h3 : b ≤ 4294967295) : Pure Try.prog 55 (cons [.agg 5 [.int .i64 13, .int .i64 d, .int .i64 x, .int .i64 y, .int .i64 m], .int .u32 a, .int .u32 b]) (con (.tup [.int .u32 (doI 13 d x y m a b), .bool (dkB 13 d x y m b)])) := by
  refine pureX (u := 80) (k := 20) mix (TA2ok 1) ?_
  rw [r_do1_13]
  have m0 : 0 ≤ IntKind.u32.wrap m := by rw [wU32]; omega
  have m1 : IntKind.u32.wrap m ≤ 4294967295 := by rw [wU32]; omega
  cases hr : rtB 13 d x y m with
  | false =>
    rw [do_no (.inl hr), dk_no (.inl hr)]
    simp only [hr, h0, h1, h2, h3, m0, m1, decide_true, decide_false, cond_true, cond_false, pk_and, pk_or, pk3, pk4, Bool.not_true, Bool.not_false]
  | true =>
    have e1 : doI 13 d x y m a b = alW 13 a b := by
      unfold doI
      rw [hr, if_neg (by decide)]
      rfl
    have e2 : dkB 13 d x y m b = !decide (b = 0) := by
      unfold dkB
      rw [hr, if_neg (by decide)]
      simp
    rw [e1, e2]
    simp only [hr, h0, h1, h2, h3, m0, m1, decide_true, decide_false, cond_true, cond_false, pk_and, pk_or, pk3, pk4, Bool.not_true, Bool.not_false]
    by_cases hb : b = 0
    · subst hb
      rfl
    have hi : ¬ IntKind.i32.wrap b = 0 := fun h => hb ((i32_0 h2 h3).1 h)
    have hi2 : ¬ i32 b = 0 := hi
    by_cases hx : IntKind.i32.wrap a = -2147483648 ∧ IntKind.i32.wrap b = -1
    · have ha : a = 2147483648 := by have := hx.1; rw [wI32] at this; omega
      have hbb : b = 4294967295 := by have := hx.2; rw [wI32] at this; omega
      subst ha hbb
      exact conT2 (conI (by decide)) rfl
    · have hz : (bif decide (IntKind.i32.wrap a = -2147483648) then decide (IntKind.i32.wrap b = -1) else false) = false := by
        rw [Bool.cond_false_right, Bool.and_eq_false_iff, decide_eq_false_iff_not, decide_eq_false_iff_not]
        by_cases h : IntKind.i32.wrap a = -2147483648
        · exact .inr fun h' => hx ⟨h, h'⟩
        · exact .inl h
      simp only [hz, hb, hi, decide_true, decide_false, cond_true, cond_false, pk_and, pk_or, pk3, pk4, Bool.not_true, Bool.not_false]
      refine conT2 (conI ?_) rfl
      simp only [alW, i32, hb, if_false, if_true, w32i32, w32w64, Int.reduceEq]
      first | done | exact i32_mod _ | rfl
theorem do1_14 {d x y m a b : Int} (h0 : 0 ≤ a) (h1 : a ≤ 4294967295) (h2 : 0 ≤ b) (h3 : b ≤ 4294967295) : Pure Try.prog 55 (cons [.agg 5 [.int .i64 14, .int .i64 d, .int .i64 x, .int .i64 y, .int .i64 m], .int .u32 a, .int .u32 b]) (con (.tup [.int .u32 (doI 14 d x y m a b), .bool (dkB 14 d x y m b)])) := by
  refine pureX (u := 80) (k := 20) mix (TA2ok 1) ?_
  rw [r_do1_14]
  have m0 : 0 ≤ IntKind.u32.wrap m := by rw [wU32]; omega
  have m1 : IntKind.u32.wrap m ≤ 4294967295 := by rw [wU32]; omega
  cases hr : rtB 14 d x y m with
  | false =>
    rw [do_no (.inl hr), dk_no (.inl hr)]
    simp only [hr, h0, h1, h2, h3, m0, m1, decide_true, decide_false, cond_true, cond_false, pk_and, pk_or, pk3, pk4, Bool.not_true, Bool.not_false]
  | true =>
    have e1 : doI 14 d x y m a b = alW 14 a b := by
      unfold doI
      rw [hr, if_neg (by decide)]
      rfl
    have e2 : dkB 14 d x y m b = !decide (b = 0) := by
      unfold dkB
      rw [hr, if_neg (by decide)]
      simp
    rw [e1, e2]
    simp only [hr, h0, h1, h2, h3, m0, m1, decide_true, decide_false, cond_true, cond_false, pk_and, pk_or, pk3, pk4, Bool.not_true, Bool.not_false]
    by_cases hb : b = 0
    · subst hb
      rfl
    have hi : ¬ IntKind.i32.wrap b = 0 := fun h => hb ((i32_0 h2 h3).1 h)
    have hi2 : ¬ i32 b = 0 := hi
    have hb4 : ¬ b ≤ 0 := by omega
    have e4 : IntKind.u64.wrap b = b := by rw [wU64]; omega
    have e5 : IntKind.u64.wrap a = a := by rw [wU64]; omega
    have hz : ∀ z : Bool, (bif (bif decide (IntKind.i32.wrap a = -2147483648) then decide (IntKind.i32.wrap a = -2147483648) else true) then z else false) = z := fun z => by rw [pk_and]; rfl
    simp only [hb, hb4, e4, or0 h0 h1, not_false_eq_true, decide_not, decide_true, decide_false, cond_true, cond_false, pk_and, pk_or, pk3, pk4, Bool.not_true, Bool.not_false]
    refine conT2 (conI ?_) rfl
    simp only [alW, hb, if_false, if_true, Int.reduceEq]
    have := udiv_rng (b := b) h0 h1 h2
    have := umod_rng (b := b) h0 h1 (by omega) h3
    rw [Int.tdiv_eq_ediv_of_nonneg h0, wU64, wU32]
    omega
theorem do1_15 {d x y m a b : Int} (h0 : 0 ≤ a) (h1 : a ≤ 4294967295) (h2 : 0 ≤ b) (h3 : b ≤ 4294967295) : Pure Try.prog 55 (cons [.agg 5 [.int .i64 15, .int .i64 d, .int .i64 x, .int .i64 y, .int .i64 m], .int .u32 a, .int .u32 b]) (con (.tup [.int .u32 (doI 15 d x y m a b), .bool (dkB 15 d x y m b)])) := by
  refine pureX (u := 80) (k := 20) mix (TA2ok 1) ?_
  rw [r_do1_15]
  have m0 : 0 ≤ IntKind.u32.wrap m := by rw [wU32]; omega
  have m1 : IntKind.u32.wrap m ≤ 4294967295 := by rw [wU32]; omega
  cases hr : rtB 15 d x y m with
  | false =>
    rw [do_no (.inl hr), dk_no (.inl hr)]
    simp only [hr, h0, h1, h2, h3, m0, m1, decide_true, decide_false, cond_true, cond_false, pk_and, pk_or, pk3, pk4, Bool.not_true, Bool.not_false]
  | true =>
    have e1 : doI 15 d x y m a b = alW 15 a b := by
      unfold doI
      rw [hr, if_neg (by decide)]
      rfl
    have e2 : dkB 15 d x y m b = !decide (b = 0) := by
      unfold dkB
      rw [hr, if_neg (by decide)]
      simp
    rw [e1, e2]
    simp only [hr, h0, h1, h2, h3, m0, m1, decide_true, decide_false, cond_true, cond_false, pk_and, pk_or, pk3, pk4, Bool.not_true, Bool.not_false]
    by_cases hb : b = 0
    · subst hb
      rfl
    have hi : ¬ IntKind.i32.wrap b = 0 := fun h => hb ((i32_0 h2 h3).1 h)
    have hi2 : ¬ i32 b = 0 := hi
    by_cases hx : IntKind.i32.wrap a = -2147483648 ∧ IntKind.i32.wrap b = -1
    · have ha : a = 2147483648 := by have := hx.1; rw [wI32] at this; omega
      have hbb : b = 4294967295 := by have := hx.2; rw [wI32] at this; omega
      subst ha hbb
      exact conT2 (conI (by decide)) rfl
    · have hz : (bif decide (IntKind.i32.wrap a = -2147483648) then decide (IntKind.i32.wrap b = -1) else false) = false := by
        rw [Bool.cond_false_right, Bool.and_eq_false_iff, decide_eq_false_iff_not, decide_eq_false_iff_not]
        by_cases h : IntKind.i32.wrap a = -2147483648
        · exact .inr fun h' => hx ⟨h, h'⟩
        · exact .inl h
      simp only [hz, hb, hi, decide_true, decide_false, cond_true, cond_false, pk_and, pk_or, pk3, pk4, Bool.not_true, Bool.not_false]
      refine conT2 (conI ?_) rfl
      simp only [alW, i32, hb, if_false, if_true, w32i32, w32w64, Int.reduceEq]
      first | done | exact i32_mod _ | rfl
theorem do1_16 {d x y m a b : Int} (h0 : 0 ≤ a) (h1 : a ≤ 4294967295) (h2 : 0 ≤ b) (h3 : b ≤ 4294967295) : Pure Try.prog 55 (cons [.agg 5 [.int .i64 16, .int .i64 d, .int .i64 x, .int .i64 y, .int .i64 m], .int .u32 a, .int .u32 b]) (con (.tup [.int .u32 (doI 16 d x y m a b), .bool (dkB 16 d x y m b)])) := by
  refine pureX (u := 80) (k := 20) mix (TA2ok 1) ?_
  rw [r_do1_16]
  have m0 : 0 ≤ IntKind.u32.wrap m := by rw [wU32]; omega
  have m1 : IntKind.u32.wrap m ≤ 4294967295 := by rw [wU32]; omega
  cases hr : rtB 16 d x y m with
  | false =>
    rw [do_no (.inl hr), dk_no (.inl hr)]
    simp only [hr, h0, h1, h2, h3, m0, m1, decide_true, decide_false, cond_true, cond_false, pk_and, pk_or, pk3, pk4, Bool.not_true, Bool.not_false]
  | true =>
    have e1 : doI 16 d x y m a b = alW 16 a b := by
      unfold doI
      rw [hr, if_neg (by decide)]
      rfl
    have e2 : dkB 16 d x y m b = !decide (b = 0) := by
      unfold dkB
      rw [hr, if_neg (by decide)]
      simp
    rw [e1, e2]
    simp only [hr, h0, h1, h2, h3, m0, m1, decide_true, decide_false, cond_true, cond_false, pk_and, pk_or, pk3, pk4, Bool.not_true, Bool.not_false]
    by_cases hb : b = 0
    · subst hb
      rfl
    have hi : ¬ IntKind.i32.wrap b = 0 := fun h => hb ((i32_0 h2 h3).1 h)
    have hi2 : ¬ i32 b = 0 := hi
    have hb4 : ¬ b ≤ 0 := by omega
    have e4 : IntKind.u64.wrap b = b := by rw [wU64]; omega
    have e5 : IntKind.u64.wrap a = a := by rw [wU64]; omega
    have hz : ∀ z : Bool, (bif (bif decide (IntKind.i32.wrap a = -2147483648) then decide (IntKind.i32.wrap a = -2147483648) else true) then z else false) = z := fun z => by rw [pk_and]; rfl
    simp only [hb, hb4, e4, or0 h0 h1, not_false_eq_true, decide_not, decide_true, decide_false, cond_true, cond_false, pk_and, pk_or, pk3, pk4, Bool.not_true, Bool.not_false]
    refine conT2 (conI ?_) rfl
    simp only [alW, hb, if_false, if_true, Int.reduceEq]
    have := udiv_rng (b := b) h0 h1 h2
    have := umod_rng (b := b) h0 h1 (by omega) h3
    rw [Int.tmod_eq_emod_of_nonneg h0]; try rw [wU32]
    omega
theorem do1_17 {d x y m a b : Int} (h0 : 0 ≤ a) (h1 : a ≤ 4294967295) (h2 : 0 ≤ b) (h3 : b ≤ 4294967295) : Pure Try.prog 55 (cons [.agg 5 [.int .i64 17, .int .i64 d, .int .i64 x, .int .i64 y, .int .i64 m], .int .u32 a, .int .u32 b]) (con (.tup [.int .u32 (doI 17 d x y m a b), .bool (dkB 17 d x y m b)])) := by
  refine pureX (u := 80) (k := 20) mix (TA2ok 2) ?_
  rw [r_do1_17]
  have m0 : 0 ≤ IntKind.u32.wrap m := by rw [wU32]; omega
  have m1 : IntKind.u32.wrap m ≤ 4294967295 := by rw [wU32]; omega
  cases hr : rtB 17 d x y m with
  | false =>
    rw [do_no (.inl hr), dk_no (.inl hr)]
    simp only [hr, h0, h1, h2, h3, m0, m1, decide_true, decide_false, cond_true, cond_false, pk_and, pk_or, pk3, pk4, Bool.not_true, Bool.not_false]
  | true =>
    have e1 : doI 17 d x y m a b = alW 1 a (m % 4294967296) := by
      unfold doI
      rw [hr, if_neg (by decide)]
      rfl
    have e2 : dkB 17 d x y m b = true := by
      unfold dkB
      rw [hr, if_neg (by decide)]
      simp
    rw [e1, e2]
    simp only [hr, h0, h1, h2, h3, m0, m1, decide_true, decide_false, cond_true, cond_false, pk_and, pk_or, pk3, pk4, Bool.not_true, Bool.not_false]
    refine conT2 (conI ?_) rfl
    simp only [alW, i32, shA h2 h3, shB h2 h3, shA m0 m1, shB m0 m1, fdivP, fdivQ, w32w64, w64i32, w64mul, mul_mod, if_true, if_false, Int.reduceEq]
    try rw [wU32, mul_mod]
    try rfl
theorem do1_18 {d x y m a b : Int} (h0 : 0 ≤ a) (h1 : a ≤ 4294967295) (h2 : 0 ≤ b) (h3 : b ≤ 4294967295) : Pure Try.prog 55 (cons [.agg 5 [.int .i64 18, .int .i64 d, .int .i64 x, .int .i64 y, .int .i64 m], .int .u32 a, .int .u32 b]) (con (.tup [.int .u32 (doI 18 d x y m a b), .bool (dkB 18 d x y m b)])) := by
  refine pureX (u := 80) (k := 20) mix (TA2ok 2) ?_
  rw [r_do1_18]
  have m0 : 0 ≤ IntKind.u32.wrap m := by rw [wU32]; omega
  have m1 : IntKind.u32.wrap m ≤ 4294967295 := by rw [wU32]; omega
  cases hr : rtB 18 d x y m with
  | false =>
    rw [do_no (.inl hr), dk_no (.inl hr)]
    simp only [hr, h0, h1, h2, h3, m0, m1, decide_true, decide_false, cond_true, cond_false, pk_and, pk_or, pk3, pk4, Bool.not_true, Bool.not_false]
  | true =>
    have e1 : doI 18 d x y m a b = alW 3 a (m % 4294967296) := by
      unfold doI
      rw [hr, if_neg (by decide)]
      rfl
    have e2 : dkB 18 d x y m b = true := by
      unfold dkB
      rw [hr, if_neg (by decide)]
      simp
    rw [e1, e2]
    simp only [hr, h0, h1, h2, h3, m0, m1, decide_true, decide_false, cond_true, cond_false, pk_and, pk_or, pk3, pk4, Bool.not_true, Bool.not_false]
    refine conT2 (conI ?_) rfl
    simp only [alW, i32, shA h2 h3, shB h2 h3, shA m0 m1, shB m0 m1, fdivP, fdivQ, w32w64, w64i32, w64mul, mul_mod, if_true, if_false, Int.reduceEq]
    try rw [wU32, mul_mod]
    try rfl
theorem do1_19 {d x y m a b : Int} (h0 : 0 ≤ a) (h1 : a ≤ 4294967295) (h2 : 0 ≤ b) (h3 : b ≤ 4294967295) : Pure Try.prog 55 (cons [.agg 5 [.int .i64 19, .int .i64 d, .int .i64 x, .int .i64 y, .int .i64 m], .int .u32 a, .int .u32 b]) (con (.tup [.int .u32 (doI 19 d x y m a b), .bool (dkB 19 d x y m b)])) := by
  refine pureX (u := 80) (k := 20) mix (TA2ok 2) ?_
  rw [r_do1_19]
  have m0 : 0 ≤ IntKind.u32.wrap m := by rw [wU32]; omega
  have m1 : IntKind.u32.wrap m ≤ 4294967295 := by rw [wU32]; omega
  cases hr : rtB 19 d x y m with
  | false =>
    rw [do_no (.inl hr), dk_no (.inl hr)]
    simp only [hr, h0, h1, h2, h3, m0, m1, decide_true, decide_false, cond_true, cond_false, pk_and, pk_or, pk3, pk4, Bool.not_true, Bool.not_false]
  | true =>
    have e1 : doI 19 d x y m a b = alW 4 a (m % 4294967296) := by
      unfold doI
      rw [hr, if_neg (by decide)]
      rfl
    have e2 : dkB 19 d x y m b = true := by
      unfold dkB
      rw [hr, if_neg (by decide)]
      simp
    rw [e1, e2]
    simp only [hr, h0, h1, h2, h3, m0, m1, decide_true, decide_false, cond_true, cond_false, pk_and, pk_or, pk3, pk4, Bool.not_true, Bool.not_false]
    refine conT2 (conI ?_) rfl
    simp only [alW, i32, shA h2 h3, shB h2 h3, shA m0 m1, shB m0 m1, fdivP, fdivQ, w32w64, w64i32, w64mul, mul_mod, if_true, if_false, Int.reduceEq]
    try rw [wU32, mul_mod]
    try rfl
theorem do1_20 {d x y m a b : Int} (h0 : 0 ≤ a) (h1 : a ≤ 4294967295) (h2 : 0 ≤ b) (h3 : b ≤ 4294967295) : Pure Try.prog 55 (cons [.agg 5 [.int .i64 20, .int .i64 d, .int .i64 x, .int .i64 y, .int .i64 m], .int .u32 a, .int .u32 b]) (con (.tup [.int .u32 (doI 20 d x y m a b), .bool (dkB 20 d x y m b)])) := by
  refine pureX (u := 80) (k := 20) mix (TA2ok 2) ?_
  rw [r_do1_20]
  have m0 : 0 ≤ IntKind.u32.wrap m := by rw [wU32]; omega
  have m1 : IntKind.u32.wrap m ≤ 4294967295 := by rw [wU32]; omega
  cases hr : rtB 20 d x y m with
  | false =>
    rw [do_no (.inl hr), dk_no (.inl hr)]
    simp only [hr, h0, h1, h2, h3, m0, m1, decide_true, decide_false, cond_true, cond_false, pk_and, pk_or, pk3, pk4, Bool.not_true, Bool.not_false]
  | true =>
    have e1 : doI 20 d x y m a b = alW 5 a (m % 4294967296) := by
      unfold doI
      rw [hr, if_neg (by decide)]
      rfl
    have e2 : dkB 20 d x y m b = true := by
      unfold dkB
      rw [hr, if_neg (by decide)]
      simp
    rw [e1, e2]
    simp only [hr, h0, h1, h2, h3, m0, m1, decide_true, decide_false, cond_true, cond_false, pk_and, pk_or, pk3, pk4, Bool.not_true, Bool.not_false]
    refine conT2 (conI ?_) rfl
    simp only [alW, i32, shA h2 h3, shB h2 h3, shA m0 m1, shB m0 m1, fdivP, fdivQ, w32w64, w64i32, w64mul, mul_mod, if_true, if_false, Int.reduceEq]
    try rw [wU32, mul_mod]
    try rfl
theorem do1_21 {d x y m a b : Int} (h0 : 0 ≤ a) (h1 : a ≤ 4294967295) (h2 : 0 ≤ b) (h3 : b ≤ 4294967295) : Pure Try.prog 55 (cons [.agg 5 [.int .i64 21, .int .i64 d, .int .i64 x, .int .i64 y, .int .i64 m], .int .u32 a, .int .u32 b]) (con (.tup [.int .u32 (doI 21 d x y m a b), .bool (dkB 21 d x y m b)])) := by
  refine pureX (u := 80) (k := 20) mix (TA2ok 2) ?_
  rw [r_do1_21]
  have m0 : 0 ≤ IntKind.u32.wrap m := by rw [wU32]; omega
  have m1 : IntKind.u32.wrap m ≤ 4294967295 := by rw [wU32]; omega
  cases hr : rtB 21 d x y m with
  | false =>
    rw [do_no (.inl hr), dk_no (.inl hr)]
    simp only [hr, h0, h1, h2, h3, m0, m1, decide_true, decide_false, cond_true, cond_false, pk_and, pk_or, pk3, pk4, Bool.not_true, Bool.not_false]
  | true =>
    have e1 : doI 21 d x y m a b = alW 9 a (m % 4294967296) := by
      unfold doI
      rw [hr, if_neg (by decide)]
      rfl
    have e2 : dkB 21 d x y m b = true := by
      unfold dkB
      rw [hr, if_neg (by decide)]
      simp
    rw [e1, e2]
    simp only [hr, h0, h1, h2, h3, m0, m1, decide_true, decide_false, cond_true, cond_false, pk_and, pk_or, pk3, pk4, Bool.not_true, Bool.not_false]
    refine conT2 (conI ?_) rfl
    simp only [alW, i32, shA h2 h3, shB h2 h3, shA m0 m1, shB m0 m1, fdivP, fdivQ, w32w64, w64i32, w64mul, mul_mod, if_true, if_false, Int.reduceEq]
    try rw [wU32, mul_mod]
    try rfl
theorem do1_22 {d x y m a b : Int} (h0 : 0 ≤ a) (h1 : a ≤ 4294967295) (h2 : 0 ≤ b) (h3 : b ≤ 4294967295) : Pure Try.prog 55 (cons [.agg 5 [.int .i64 22, .int .i64 d, .int .i64 x, .int .i64 y, .int .i64 m], .int .u32 a, .int .u32 b]) (con (.tup [.int .u32 (doI 22 d x y m a b), .bool (dkB 22 d x y m b)])) := by
  refine pureX (u := 80) (k := 20) mix (TA2ok 2) ?_
  rw [r_do1_22]
  have m0 : 0 ≤ IntKind.u32.wrap m := by rw [wU32]; omega
  have m1 : IntKind.u32.wrap m ≤ 4294967295 := by rw [wU32]; omega
  cases hr : rtB 22 d x y m with
  | false =>
    rw [do_no (.inl hr), dk_no (.inl hr)]
    simp only [hr, h0, h1, h2, h3, m0, m1, decide_true, decide_false, cond_true, cond_false, pk_and, pk_or, pk3, pk4, Bool.not_true, Bool.not_false]
  | true =>
    have e1 : doI 22 d x y m a b = alW 6 a (m % 4294967296) := by
      unfold doI
      rw [hr, if_neg (by decide)]
      rfl
    have e2 : dkB 22 d x y m b = true := by
      unfold dkB
      rw [hr, if_neg (by decide)]
      simp
    rw [e1, e2]
    simp only [hr, h0, h1, h2, h3, m0, m1, decide_true, decide_false, cond_true, cond_false, pk_and, pk_or, pk3, pk4, Bool.not_true, Bool.not_false]
    refine conT2 (conI ?_) rfl
    simp only [alW, i32, shA h2 h3, shB h2 h3, shA m0 m1, shB m0 m1, fdivP, fdivQ, w32w64, w64i32, w64mul, mul_mod, if_true, if_false, Int.reduceEq]
    try rw [wU32, mul_mod]
    try rfl
theorem do1_23 {d x y m a b : Int} (h0 : 0 ≤ a) (h1 : a ≤ 4294967295) (h2 : 0 ≤ b) (h3 : b ≤ 4294967295) : Pure Try.prog 55 (cons [.agg 5 [.int .i64 23, .int .i64 d, .int .i64 x, .int .i64 y, .int .i64 m], .int .u32 a, .int .u32 b]) (con (.tup [.int .u32 (doI 23 d x y m a b), .bool (dkB 23 d x y m b)])) := by
  refine pureX (u := 80) (k := 20) mix (TA2ok 2) ?_
  rw [r_do1_23]
  have m0 : 0 ≤ IntKind.u32.wrap m := by rw [wU32]; omega
  have m1 : IntKind.u32.wrap m ≤ 4294967295 := by rw [wU32]; omega
  cases hr : rtB 23 d x y m with
  | false =>
    rw [do_no (.inl hr), dk_no (.inl hr)]
    simp only [hr, h0, h1, h2, h3, m0, m1, decide_true, decide_false, cond_true, cond_false, pk_and, pk_or, pk3, pk4, Bool.not_true, Bool.not_false]
  | true =>
    have e1 : doI 23 d x y m a b = alW 7 a (m % 4294967296) := by
      unfold doI
      rw [hr, if_neg (by decide)]
      rfl
    have e2 : dkB 23 d x y m b = true := by
      unfold dkB
      rw [hr, if_neg (by decide)]
      simp
    rw [e1, e2]
    simp only [hr, h0, h1, h2, h3, m0, m1, decide_true, decide_false, cond_true, cond_false, pk_and, pk_or, pk3, pk4, Bool.not_true, Bool.not_false]
    refine conT2 (conI ?_) rfl
    simp only [alW, i32, shA h2 h3, shB h2 h3, shA m0 m1, shB m0 m1, fdivP, fdivQ, w32w64, w64i32, w64mul, mul_mod, if_true, if_false, Int.reduceEq]
    try rw [wU32, mul_mod]
    try rfl
theorem do1_24 {d x y m a b : Int} (h0 : 0 ≤ a) (h1 : a ≤ 4294967295) (h2 : 0 ≤ b) (h3 : b ≤ 4294967295) : Pure Try.prog 55 (cons [.agg 5 [.int .i64 24, .int .i64 d, .int .i64 x, .int .i64 y, .int .i64 m], .int .u32 a, .int .u32 b]) (con (.tup [.int .u32 (doI 24 d x y m a b), .bool (dkB 24 d x y m b)])) := by
  refine pureX (u := 80) (k := 20) mix (TA2ok 2) ?_
  rw [r_do1_24]
  have m0 : 0 ≤ IntKind.u32.wrap m := by rw [wU32]; omega
  have m1 : IntKind.u32.wrap m ≤ 4294967295 := by rw [wU32]; omega
  cases hr : rtB 24 d x y m with
  | false =>
    rw [do_no (.inl hr), dk_no (.inl hr)]
    simp only [hr, h0, h1, h2, h3, m0, m1, decide_true, decide_false, cond_true, cond_false, pk_and, pk_or, pk3, pk4, Bool.not_true, Bool.not_false]
  | true =>
    have e1 : doI 24 d x y m a b = alW 8 a (m % 4294967296) := by
      unfold doI
      rw [hr, if_neg (by decide)]
      rfl
    have e2 : dkB 24 d x y m b = true := by
      unfold dkB
      rw [hr, if_neg (by decide)]
      simp
    rw [e1, e2]
    simp only [hr, h0, h1, h2, h3, m0, m1, decide_true, decide_false, cond_true, cond_false, pk_and, pk_or, pk3, pk4, Bool.not_true, Bool.not_false]
    refine conT2 (conI ?_) rfl
    simp only [alW, i32, shA h2 h3, shB h2 h3, shA m0 m1, shB m0 m1, fdivP, fdivQ, w32w64, w64i32, w64mul, mul_mod, if_true, if_false, Int.reduceEq]
    try rw [wU32, mul_mod]
    try rfl
theorem do1_25 {d x y m a b : Int} (h0 : 0 ≤ a) (h1 : a ≤ 4294967295) (h2 : 0 ≤ b) (h3 : b ≤ 4294967295) : Pure Try.prog 55 (cons [.agg 5 [.int .i64 25, .int .i64 d, .int .i64 x, .int .i64 y, .int .i64 m], .int .u32 a, .int .u32 b]) (con (.tup [.int .u32 (doI 25 d x y m a b), .bool (dkB 25 d x y m b)])) := by
  refine pureX (u := 80) (k := 20) mix (TA2ok 3) ?_
  rw [r_do1_25]
  have m0 : 0 ≤ IntKind.u32.wrap m := by rw [wU32]; omega
  have m1 : IntKind.u32.wrap m ≤ 4294967295 := by rw [wU32]; omega
  cases hr : rtB 25 d x y m with
  | false =>
    rw [do_no (.inl hr), dk_no (.inl hr)]
    simp only [hr, h0, h1, h2, h3, m0, m1, decide_true, decide_false, cond_true, cond_false, pk_and, pk_or, pk3, pk4, Bool.not_true, Bool.not_false]
  | true =>
    have e1 : doI 25 d x y m a b = (m * 262144) % 4294967296 := by
      unfold doI
      rw [hr, if_neg (by decide)]
      rfl
    have e2 : dkB 25 d x y m b = true := by
      unfold dkB
      rw [hr, if_neg (by decide)]
      simp
    rw [e1, e2]
    simp only [hr, h0, h1, h2, h3, m0, m1, decide_true, decide_false, cond_true, cond_false, pk_and, pk_or, pk3, pk4, Bool.not_true, Bool.not_false]
    refine conT2 (conI ?_) rfl
    try rw [w32w64]
    try rw [wU32, wU32]; omega
theorem dox1_0 {op d x y m a b : Int} (hf : fmI op = 0) : Pure Try.prog 55 (cons [.agg 5 [.int .i64 op, .int .i64 d, .int .i64 x, .int .i64 y, .int .i64 m], .int .u32 a, .int .u32 b]) (con (.tup [.int .u32 (doI op d x y m a b), .bool (dkB op d x y m b)])) := by
  refine pureX (u := 80) (k := 20) mix (TA2ok 0) ?_
  rw [r_dox1_0]
  have hr : rtB op d x y m = false := by unfold rtB rtP; rw [hf]; simp
  rw [do_no (.inl hr), dk_no (.inl hr)]
  simp only [hf, hr, decide_true, decide_false, cond_true, cond_false, pk_and, pk_or, pk3, pk4, Bool.not_true, Bool.not_false]
theorem dox1_4 {op d x y m a b : Int} (hf : fmI op = 4) : Pure Try.prog 55 (cons [.agg 5 [.int .i64 op, .int .i64 d, .int .i64 x, .int .i64 y, .int .i64 m], .int .u32 a, .int .u32 b]) (con (.tup [.int .u32 (doI op d x y m a b), .bool (dkB op d x y m b)])) := by
  refine pureX (u := 80) (k := 20) mix (TA2ok 4) ?_
  rw [r_dox1_4]
  rw [do_no (.inr (by omega)), dk_no (.inr (by omega))]
  cases hr : rtB op d x y m <;> simp only [hf, hr, decide_true, decide_false, cond_true, cond_false, pk_and, pk_or, pk3, pk4, Bool.not_true, Bool.not_false]
theorem dox1_5 {op d x y m a b : Int} (hf : fmI op = 5) : Pure Try.prog 55 (cons [.agg 5 [.int .i64 op, .int .i64 d, .int .i64 x, .int .i64 y, .int .i64 m], .int .u32 a, .int .u32 b]) (con (.tup [.int .u32 (doI op d x y m a b), .bool (dkB op d x y m b)])) := by
  refine pureX (u := 80) (k := 20) mix (TA2ok 5) ?_
  rw [r_dox1_5]
  rw [do_no (.inr (by omega)), dk_no (.inr (by omega))]
  cases hr : rtB op d x y m <;> simp only [hf, hr, decide_true, decide_false, cond_true, cond_false, pk_and, pk_or, pk3, pk4, Bool.not_true, Bool.not_false]
theorem dox1_6 {op d x y m a b : Int} (hf : fmI op = 6) : Pure Try.prog 55 (cons [.agg 5 [.int .i64 op, .int .i64 d, .int .i64 x, .int .i64 y, .int .i64 m], .int .u32 a, .int .u32 b]) (con (.tup [.int .u32 (doI op d x y m a b), .bool (dkB op d x y m b)])) := by
  refine pureX (u := 80) (k := 20) mix (TA2ok 6) ?_
  rw [r_dox1_6]
  rw [do_no (.inr (by omega)), dk_no (.inr (by omega))]
  cases hr : rtB op d x y m <;> simp only [hf, hr, decide_true, decide_false, cond_true, cond_false, pk_and, pk_or, pk3, pk4, Bool.not_true, Bool.not_false]
theorem dox1_7 {op d x y m a b : Int} (hf : fmI op = 7) : Pure Try.prog 55 (cons [.agg 5 [.int .i64 op, .int .i64 d, .int .i64 x, .int .i64 y, .int .i64 m], .int .u32 a, .int .u32 b]) (con (.tup [.int .u32 (doI op d x y m a b), .bool (dkB op d x y m b)])) := by
  refine pureX (u := 80) (k := 20) mix (TA2ok 7) ?_
  rw [r_dox1_7]
  rw [do_no (.inr (by omega)), dk_no (.inr (by omega))]
  cases hr : rtB op d x y m <;> simp only [hf, hr, decide_true, decide_false, cond_true, cond_false, pk_and, pk_or, pk3, pk4, Bool.not_true, Bool.not_false]
theorem dox1_8 {op d x y m a b : Int} (hf : fmI op = 8) : Pure Try.prog 55 (cons [.agg 5 [.int .i64 op, .int .i64 d, .int .i64 x, .int .i64 y, .int .i64 m], .int .u32 a, .int .u32 b]) (con (.tup [.int .u32 (doI op d x y m a b), .bool (dkB op d x y m b)])) := by
  refine pureX (u := 80) (k := 20) mix (TA2ok 8) ?_
  rw [r_dox1_8]
  rw [do_no (.inr (by omega)), dk_no (.inr (by omega))]
  cases hr : rtB op d x y m <;> simp only [hf, hr, decide_true, decide_false, cond_true, cond_false, pk_and, pk_or, pk3, pk4, Bool.not_true, Bool.not_false]
theorem doA1 {op d x y m a b : Int} (h0 : 0 ≤ a) (h1 : a ≤ 4294967295) (h2 : 0 ≤ b) (h3 : b ≤ 4294967295) : Pure Try.prog 55 (cons [.agg 5 [.int .i64 op, .int .i64 d, .int .i64 x, .int .i64 y, .int .i64 m], .int .u32 a, .int .u32 b]) (con (.tup [.int .u32 (doI op d x y m a b), .bool (dkB op d x y m b)])) := by
  rcases fm_in op with h | h | h | h | h | h | h | h | h
  · exact dox1_0 h
  · have := fm1 h
    have hc : op = 1 ∨ op = 2 ∨ op = 3 ∨ op = 4 ∨ op = 5 ∨ op = 6 ∨ op = 7 ∨ op = 8 ∨ op = 9 ∨ op = 10 ∨ op = 11 ∨ op = 12 ∨ op = 13 ∨ op = 14 ∨ op = 15 ∨ op = 16 := by omega
    rcases hc with rfl | rfl | rfl | rfl | rfl | rfl | rfl | rfl | rfl | rfl | rfl | rfl | rfl | rfl | rfl | rfl
    · exact do1_1 h0 h1 h2 h3
    · exact do1_2 h0 h1 h2 h3
    · exact do1_3 h0 h1 h2 h3
    · exact do1_4 h0 h1 h2 h3
    · exact do1_5 h0 h1 h2 h3
    · exact do1_6 h0 h1 h2 h3
    · exact do1_7 h0 h1 h2 h3
    · exact do1_8 h0 h1 h2 h3
    · exact do1_9 h0 h1 h2 h3
    · exact do1_10 h0 h1 h2 h3
    · exact do1_11 h0 h1 h2 h3
    · exact do1_12 h0 h1 h2 h3
    · exact do1_13 h0 h1 h2 h3
    · exact do1_14 h0 h1 h2 h3
    · exact do1_15 h0 h1 h2 h3
    · exact do1_16 h0 h1 h2 h3
  · have := fm2 h
    have hc : op = 17 ∨ op = 18 ∨ op = 19 ∨ op = 20 ∨ op = 21 ∨ op = 22 ∨ op = 23 ∨ op = 24 := by omega
    rcases hc with rfl | rfl | rfl | rfl | rfl | rfl | rfl | rfl
    · exact do1_17 h0 h1 h2 h3
    · exact do1_18 h0 h1 h2 h3
    · exact do1_19 h0 h1 h2 h3
    · exact do1_20 h0 h1 h2 h3
    · exact do1_21 h0 h1 h2 h3
    · exact do1_22 h0 h1 h2 h3
    · exact do1_23 h0 h1 h2 h3
    · exact do1_24 h0 h1 h2 h3
  · have := fm3 h
    subst this
    exact do1_25 h0 h1 h2 h3
  · exact dox1_4 h
  · exact dox1_5 h
  · exact dox1_6 h
  · exact dox1_7 h
  · exact dox1_8 h
theorem sp_do1 : SpOk Try.prog (55, doSp) := fun args nd v h hn => by
  simp only [doSp] at h
  split at h
  · simp only [Option.some.injEq, Prod.mk.injEq] at h
    obtain ⟨rfl, rfl⟩ := h
    simp only [allT_cons, decide_eq_true_eq] at hn
    exact doA1 hn.1 hn.2.1 hn.2.2.1 hn.2.2.2.1
  · cases h
end Go.Proofs.Ytmfbaglhmiadjaa.Alu

/- What the document's instructions reckon. -/
namespace Go.Proofs.Ytmfbaglhmiadjaa.Alu
open Go.Ra
set_option linter.unusedVariables false
set_option linter.unusedSimpArgs false
theorem r_do2_1 (d x y m a b : Int) (K : XV → Prop) : (quietGo (TA2 1) 80 (callI (TA2 1) 80 20) 36 [.agg 5 [.int .i64 1, .int .i64 d, .int .i64 x, .int .i64 y, .int .i64 m], .int .u32 a, .int .u32 b] K) = (bif bif !rtB (1 : Int) d x y m then true else !!rtB (1 : Int) d x y m then bif bif bif !rtB (1 : Int) d x y m then true else false then true else !bif !rtB (1
 : Int) d x y m then true else false then bif bif bif !rtB (1 : Int) d x y m then true else false then true else false then K (.tup [.int .u32 0, .bool true]) else
 bif decide (0 ≤ a) then bif decide (a ≤ 4294967295) then bif decide (0 ≤ b) then bif decide (b ≤ 4294967295) then K (.tup [.int .u32 (IntKind.wrap .u32 (a + b)),
 .bool true]) else False else False else False else False else False
else False) := by kernel_rfl
theorem r_do2_2 (d x y m a b : Int) (K : XV → Prop) : (quietGo (TA2 1) 80 (callI (TA2 1) 80 20) 36 [.agg 5 [.int .i64 2, .int .i64 d, .int .i64 x, .int .i64 y, .int .i64 m], .int .u32 a, .int .u32 b] K) = (bif bif !rtB (2 : Int) d x y m then true else !!rtB (2 : Int) d x y m then bif bif bif !rtB (2 : Int) d x y m then true else false then true else !bif !rtB (2
 : Int) d x y m then true else false then bif bif bif !rtB (2 : Int) d x y m then true else false then true else false then K (.tup [.int .u32 0, .bool true]) else
 bif decide (0 ≤ a) then bif decide (a ≤ 4294967295) then bif decide (0 ≤ b) then bif decide (b ≤ 4294967295) then K (.tup [.int .u32 (IntKind.wrap .u32 (a - b)),
 .bool true]) else False else False else False else False else False
else False) := by kernel_rfl
theorem r_do2_3 (d x y m a b : Int) (K : XV → Prop) : (quietGo (TA2 1) 80 (callI (TA2 1) 80 20) 36 [.agg 5 [.int .i64 3, .int .i64 d, .int .i64 x, .int .i64 y, .int .i64 m], .int .u32 a, .int .u32 b] K) = (bif bif !rtB (3 : Int) d x y m then true else !!rtB (3 : Int) d x y m then bif bif bif !rtB (3 : Int) d x y m then true else false then true else !bif !rtB (3
 : Int) d x y m then true else false then bif bif bif !rtB (3 : Int) d x y m then true else false then true else false then K (.tup [.int .u32 0, .bool true]) else
 bif decide (0 ≤ a) then bif decide (a ≤ 4294967295) then bif decide (0 ≤ b) then bif decide (b ≤ 4294967295) then K (.tup [.int .u32 (bitsI .and .u32 a b), .bool
 true]) else False else False else False else False else False
else False) := by kernel_rfl
theorem r_do2_4 (d x y m a b : Int) (K : XV → Prop) : (quietGo (TA2 1) 80 (callI (TA2 1) 80 20) 36 [.agg 5 [.int .i64 4, .int .i64 d, .int .i64 x, .int .i64 y, .int .i64 m], .int .u32 a, .int .u32 b] K) = (bif bif !rtB (4 : Int) d x y m then true else !!rtB (4 : Int) d x y m then bif bif bif !rtB (4 : Int) d x y m then true else false then true else !bif !rtB (4
 : Int) d x y m then true else false then bif bif bif !rtB (4 : Int) d x y m then true else false then true else false then K (.tup [.int .u32 0, .bool true]) else
 bif decide (0 ≤ a) then bif decide (a ≤ 4294967295) then bif decide (0 ≤ b) then bif decide (b ≤ 4294967295) then K (.tup [.int .u32 (bitsI .or .u32 a b), .bool
 true]) else False else False else False else False else False
else False) := by kernel_rfl
theorem r_do2_5 (d x y m a b : Int) (K : XV → Prop) : (quietGo (TA2 1) 80 (callI (TA2 1) 80 20) 36 [.agg 5 [.int .i64 5, .int .i64 d, .int .i64 x, .int .i64 y, .int .i64 m], .int .u32 a, .int .u32 b] K) = (bif bif !rtB (5 : Int) d x y m then true else !!rtB (5 : Int) d x y m then bif bif bif !rtB (5 : Int) d x y m then true else false then true else !bif !rtB (5
 : Int) d x y m then true else false then bif bif bif !rtB (5 : Int) d x y m then true else false then true else false then K (.tup [.int .u32 0, .bool true]) else
 bif decide (0 ≤ a) then bif decide (a ≤ 4294967295) then bif decide (0 ≤ b) then bif decide (b ≤ 4294967295) then K (.tup [.int .u32 (bitsI .xor .u32 a b), .bool
 true]) else False else False else False else False else False
else False) := by kernel_rfl
theorem r_do2_6 (d x y m a b : Int) (K : XV → Prop) : (quietGo (TA2 1) 80 (callI (TA2 1) 80 20) 36 [.agg 5 [.int .i64 6, .int .i64 d, .int .i64 x, .int .i64 y, .int .i64 m], .int .u32 a, .int .u32 b] K) = (bif bif !rtB (6 : Int) d x y m then true else !!rtB (6 : Int) d x y m then bif bif bif !rtB (6 : Int) d x y m then true else false then true else !bif !rtB (6
 : Int) d x y m then true else false then bif bif bif !rtB (6 : Int) d x y m then true else false then true else false then K (.tup [.int .u32 0, .bool true]) else
 bif decide (0 ≤ a) then bif decide (a ≤ 4294967295) then bif decide (0 ≤ b) then bif decide (b ≤ 4294967295) then K (.tup [.int .u32 (IntKind.wrap .u32 (a * (2 :
 Int) ^ Nat.min (Int.toNat (bitsI .and .u32 b (31 : Int))) 32)), .bool true]) else False else False else False else False else False
else False) := by kernel_rfl 

theorem r_do2_7 (d x y m a b : Int) (K : XV → Prop) : (quietGo (TA2 1) 80 (callI (TA2 1) 80 20) 36 [.agg 5 [.int .i64 7, .int .i64 d, .int .i64 x, .int .i64 y, .int .i64 m], .int .u32 a, .int .u32 b] K) = (bif bif !rtB (7 : Int) d x y m then true else !!rtB (7 : Int) d x y m then bif bif bif !rtB (7 : Int) d x y m then true else false then true else !bif !rtB (7
 : Int) d x y m then true else false then bif bif bif !rtB (7 : Int) d x y m then true else false then true else false then K (.tup [.int .u32 0, .bool true]) else
 bif decide (0 ≤ a) then bif decide (a ≤ 4294967295) then bif decide (0 ≤ b) then bif decide (b ≤ 4294967295) then K (.tup [.int .u32 (Int.fdiv a ((2 : Int) ^ Nat.min
 (Int.toNat (bitsI .and .u32 b (31 : Int))) 32)), .bool true]) else False else False else False else False else False
else False) := by kernel_rfl
theorem r_do2_8 (d x y m a b : Int) (K : XV → Prop) : (quietGo (TA2 1) 80 (callI (TA2 1) 80 20) 36 [.agg 5 [.int .i64 8, .int .i64 d, .int .i64 x, .int .i64 y, .int .i64 m], .int .u32 a, .int .u32 b] K) = (bif bif !rtB (8 : Int) d x y m then true else !!rtB (8 : Int) d x y m then bif bif bif !rtB (8 : Int) d x y m then true else false then true else !bif !rtB (8
 : Int) d x y m then true else false then bif bif bif !rtB (8 : Int) d x y m then true else false then true else false then K (.tup [.int .u32 0, .bool true]) else
 bif decide (0 ≤ a) then bif decide (a ≤ 4294967295) then bif decide (0 ≤ b) then bif decide (b ≤ 4294967295) then K (.tup [.int .u32 (IntKind.wrap .u32 (Int.fdiv
 (i32 a) ((2 : Int) ^ Nat.min (Int.toNat (bitsI .and .u32 b (31 : Int))) 64))), .bool true]) else False else False else False else False else False
else False) :=
 by kernel_rfl
theorem r_do2_9 (d x y m a b : Int) (K : XV → Prop) : (quietGo (TA2 1) 80 (callI (TA2 1) 80 20) 36 [.agg 5 [.int .i64 9, .int .i64 d, .int .i64 x, .int .i64 y, .int .i64 m], .int .u32 a, .int .u32 b] K) = (bif bif !rtB (9 : Int) d x y m then true else !!rtB (9 : Int) d x y m then bif bif bif !rtB (9 : Int) d x y m then true else false then true else !bif !rtB (9
 : Int) d x y m then true else false then bif bif bif !rtB (9 : Int) d x y m then true else false then true else false then K (.tup [.int .u32 0, .bool true]) else
 bif decide (0 ≤ a) then bif decide (a ≤ 4294967295) then bif decide (0 ≤ b) then bif decide (b ≤ 4294967295) then K (.tup [.int .u32 (oneI (decide (i32 a < i32 b))),
 .bool true]) else False else False else False else False else False
else False) := by kernel_rfl
theorem r_do2_10 (d x y m a b : Int) (K : XV → Prop) : (quietGo (TA2 1) 80 (callI (TA2 1) 80 20) 36 [.agg 5 [.int .i64 10, .int .i64 d, .int .i64 x, .int .i64 y, .int .i64 m], .int .u32 a, .int .u32 b] K) = (bif bif !rtB (10 : Int) d x y m then true else !!rtB (10 : Int) d x y m then bif bif bif !rtB (10 : Int) d x y m then true else false then true else !bif !rtB
 (10 : Int) d x y m then true else false then bif bif bif !rtB (10 : Int) d x y m then true else false then true else false then K (.tup [.int .u32 0, .bool true])
 else bif decide (0 ≤ a) then bif decide (a ≤ 4294967295) then bif decide (0 ≤ b) then bif decide (b ≤ 4294967295) then K (.tup [.int .u32 (oneI (decide (a < b))),
 .bool true]) else False else False else False else False else False
else False) := by kernel_rfl
theorem r_do2_11 (d x y m a b : Int) (K : XV → Prop) : (quietGo (TA2 1) 80 (callI (TA2 1) 80 20) 36 [.agg 5 [.int .i64 11, .int .i64 d, .int .i64 x, .int .i64 y, .int .i64 m], .int .u32 a, .int .u32 b] K) = (bif bif !rtB (11 : Int) d x y m then true else !!rtB (11 : Int) d x y m then bif bif bif !rtB (11 : Int) d x y m then true else false then true else !bif !rtB
 (11 : Int) d x y m then true else false then bif bif bif !rtB (11 : Int) d x y m then true else false then true else false then K (.tup [.int .u32 0, .bool true])
 else bif decide (0 ≤ a) then bif decide (a ≤ 4294967295) then bif decide (0 ≤ b) then bif decide (b ≤ 4294967295) then K (.tup [.int .u32 (IntKind.wrap .u32 (IntKind.wrap
 .i64 (i32 a * i32 b))), .bool true]) else False else False else False else False else False
else False) := by kernel_rfl
theorem r_do2_12 (d x y m a b : Int) (K : XV → Prop) : (quietGo (TA2 1) 80 (callI (TA2 1) 80 20) 36 [.agg 5 [.int .i64 12, .int .i64 d, .int .i64 x, .int .i64 y, .int .i64 m], .int .u32 a, .int .u32 b] K) = (bif bif !rtB (12 : Int) d x y m then true else !!rtB (12 : Int) d x y m then bif bif bif !rtB (12 : Int) d x y m then true else false then true else !bif !rtB
 (12 : Int) d x y m then true else false then bif bif bif !rtB (12 : Int) d x y m then true else false then true else false then K (.tup [.int .u32 0, .bool true])
 else bif decide (0 ≤ a) then bif decide (a ≤ 4294967295) then bif decide (0 ≤ b) then bif decide (b ≤ 4294967295) then K (.tup [.int .u32 (IntKind.wrap .u32 (Int.fdiv
 (IntKind.wrap .i64 (i32 a * i32 b)) (4294967296 : Int))), .bool true]) else False else False else False else False else False
else False) := by kernel_rfl
theorem r_do2_13 (d x y m a b : Int) (K : XV → Prop) : (quietGo (TA2 1) 80 (callI (TA2 1) 80 20) 36 [.agg 5 [.int .i64 13, .int .i64 d, .int .i64 x, .int .i64 y, .int .i64 m], .int .u32 a, .int .u32 b] K) = (bif bif !rtB (13 : Int) d x y m then true else !!rtB (13 : Int) d x y m then bif bif bif !rtB (13 : Int) d x y m then true else false then true else !bif !rtB
 (13 : Int) d x y m then true else false then bif bif bif !rtB (13 : Int) d x y m then true else false then true else false then K (.tup [.int .u32 0, .bool true])
 else bif decide (0 ≤ a) then bif decide (a ≤ 4294967295) then bif decide (0 ≤ b) then bif decide (b ≤ 4294967295) then bif decide (b = 0) then K (.tup [.int .u32
 0, .bool false]) else bif !decide (i32 b = 0) then bif !decide (i32 b = 0) then K (.tup [.int .u32 (IntKind.wrap .u32 (IntKind.wrap .i64 (Int.tdiv (i32 a) (i32 b)))),
 .bool true]) else False else False else False else False else False else False else False
else False) := by kernel_rfl
theorem r_do2_14 (d x y m a b : Int) (K : XV → Prop) : (quietGo (TA2 1) 80 (callI (TA2 1) 80 20) 36 [.agg 5 [.int .i64 14, .int .i64 d, .int .i64 x, .int .i64 y, .int .i64 m], .int .u32 a, .int .u32 b] K) = (bif bif !rtB (14 : Int) d x y m then true else !!rtB (14 : Int) d x y m then bif bif bif !rtB (14 : Int) d x y m then true else false then true else !bif !rtB
 (14 : Int) d x y m then true else false then bif bif bif !rtB (14 : Int) d x y m then true else false then true else false then K (.tup [.int .u32 0, .bool true])
 else bif decide (0 ≤ a) then bif decide (a ≤ 4294967295) then bif decide (0 ≤ b) then bif decide (b ≤ 4294967295) then bif decide (b = 0) then K (.tup [.int .u32
 0, .bool false]) else bif !decide (i32 b = 0) then bif !decide (i32 b = 0) then bif !decide (b = 0) then K (.tup [.int .u32 (IntKind.wrap .u32 (Int.tdiv a b)), .bool
 true]) else False else False else False else False else False else False else False else False
else False) := by kernel_rfl
theorem r_do2_15 (d x y m a b : Int) (K : XV → Prop) : (quietGo (TA2 1) 80 (callI (TA2 1) 80 20) 36 [.agg 5 [.int .i64 15, .int .i64 d, .int .i64 x, .int .i64 y, .int .i64 m], .int .u32 a, .int .u32 b] K) = (bif bif !rtB (15 : Int) d x y m then true else !!rtB (15 : Int) d x y m then bif bif bif !rtB (15 : Int) d x y m then true else false then true else !bif !rtB
 (15 : Int) d x y m then true else false then bif bif bif !rtB (15 : Int) d x y m then true else false then true else false then K (.tup [.int .u32 0, .bool true])
 else bif decide (0 ≤ a) then bif decide (a ≤ 4294967295) then bif decide (0 ≤ b) then bif decide (b ≤ 4294967295) then bif decide (b = 0) then K (.tup [.int .u32
 0, .bool false]) else bif !decide (i32 b = 0) then bif !decide (i32 b = 0) then K (.tup [.int .u32 (IntKind.wrap .u32 (Int.tmod (i32 a) (i32 b))), .bool true]) else
 False else False else False else False else False else False else False
else False) := by kernel_rfl
theorem r_do2_16 (d x y m a b : Int) (K : XV → Prop) : (quietGo (TA2 1) 80 (callI (TA2 1) 80 20) 36 [.agg 5 [.int .i64 16, .int .i64 d, .int .i64 x, .int .i64 y, .int .i64 m], .int .u32 a, .int .u32 b] K) = (bif bif !rtB (16 : Int) d x y m then true else !!rtB (16 : Int) d x y m then bif bif bif !rtB (16 : Int) d x y m then true else false then true else !bif !rtB
 (16 : Int) d x y m then true else false then bif bif bif !rtB (16 : Int) d x y m then true else false then true else false then K (.tup [.int .u32 0, .bool true])
 else bif decide (0 ≤ a) then bif decide (a ≤ 4294967295) then bif decide (0 ≤ b) then bif decide (b ≤ 4294967295) then bif decide (b = 0) then K (.tup [.int .u32
 0, .bool false]) else bif !decide (i32 b = 0) then bif !decide (i32 b = 0) then bif !decide (b = 0) then K (.tup [.int .u32 (Int.tmod a b), .bool true]) else False
 else False else False else False else False else False else False else False
else False) := by kernel_rfl
theorem r_do2_17 (d x y m a b : Int) (K : XV → Prop) : (quietGo (TA2 2) 80 (callI (TA2 2) 80 20) 36 [.agg 5 [.int .i64 17, .int .i64 d, .int .i64 x, .int .i64 y, .int .i64 m], .int .u32 a, .int .u32 b] K) = (bif bif !rtB (17 : Int) d x y m then true else !!rtB (17 : Int) d x y m then bif bif bif !rtB (17 : Int) d x y m then true else false then true else !bif !rtB
 (17 : Int) d x y m then true else false then bif bif bif !rtB (17 : Int) d x y m then true else false then true else false then K (.tup [.int .u32 0, .bool true])
 else bif decide (0 ≤ a) then bif decide (a ≤ 4294967295) then bif decide (0 ≤ IntKind.wrap .u32 m) then bif decide (IntKind.wrap .u32 m ≤ 4294967295) then K (.tup
 [.int .u32 (IntKind.wrap .u32 (a + IntKind.wrap .u32 m)), .bool true]) else False else False else False else False else False
else False) := by kernel_rfl
theorem r_do2_18 (d x y m a b : Int) (K : XV → Prop) : (quietGo (TA2 2) 80 (callI (TA2 2) 80 20) 36 [.agg 5 [.int .i64 18, .int .i64 d, .int .i64 x, .int .i64 y, .int .i64 m], .int .u32 a, .int .u32 b] K) = (bif bif !rtB (18 : Int) d x y m then true else !!rtB (18 : Int) d x y m then bif bif bif !rtB (18 : Int) d x y m then true else false then true else !bif !rtB
 (18 : Int) d x y m then true else false then bif bif bif !rtB (18 : Int) d x y m then true else false then true else false then K (.tup [.int .u32 0, .bool true])
 else bif decide (0 ≤ a) then bif decide (a ≤ 4294967295) then bif decide (0 ≤ IntKind.wrap .u32 m) then bif decide (IntKind.wrap .u32 m ≤ 4294967295) then K (.tup
 [.int .u32 (bitsI .and .u32 a (IntKind.wrap .u32 m)), .bool true]) else False else False else False else False else False
else False) := by kernel_rfl
theorem r_do2_19 (d x y m a b : Int) (K : XV → Prop) : (quietGo (TA2 2) 80 (callI (TA2 2) 80 20) 36 [.agg 5 [.int .i64 19, .int .i64 d, .int .i64 x, .int .i64 y, .int .i64 m], .int .u32 a, .int .u32 b] K) = (bif bif !rtB (19 : Int) d x y m then true else !!rtB (19 : Int) d x y m then bif bif bif !rtB (19 : Int) d x y m then true else false then true else !bif !rtB
 (19 : Int) d x y m then true else false then bif bif bif !rtB (19 : Int) d x y m then true else false then true else false then K (.tup [.int .u32 0, .bool true])
 else bif decide (0 ≤ a) then bif decide (a ≤ 4294967295) then bif decide (0 ≤ IntKind.wrap .u32 m) then bif decide (IntKind.wrap .u32 m ≤ 4294967295) then K (.tup
 [.int .u32 (bitsI .or .u32 a (IntKind.wrap .u32 m)), .bool true]) else False else False else False else False else False
else False) := by kernel_rfl
theorem r_do2_20 (d x y m a b : Int) (K : XV → Prop) : (quietGo (TA2 2) 80 (callI (TA2 2) 80 20) 36 [.agg 5 [.int .i64 20, .int .i64 d, .int .i64 x, .int .i64 y, .int .i64 m], .int .u32 a, .int .u32 b] K) = (bif bif !rtB (20 : Int) d x y m then true else !!rtB (20 : Int) d x y m then bif bif bif !rtB (20 : Int) d x y m then true else false then true else !bif !rtB
 (20 : Int) d x y m then true else false then bif bif bif !rtB (20 : Int) d x y m then true else false then true else false then K (.tup [.int .u32 0, .bool true])
 else bif decide (0 ≤ a) then bif decide (a ≤ 4294967295) then bif decide (0 ≤ IntKind.wrap .u32 m) then bif decide (IntKind.wrap .u32 m ≤ 4294967295) then K (.tup
 [.int .u32 (bitsI .xor .u32 a (IntKind.wrap .u32 m)), .bool true]) else False else False else False else False else False
else False) := by kernel_rfl
theorem r_do2_21 (d x y m a b : Int) (K : XV → Prop) : (quietGo (TA2 2) 80 (callI (TA2 2) 80 20) 36 [.agg 5 [.int .i64 21, .int .i64 d, .int .i64 x, .int .i64 y, .int .i64 m], .int .u32 a, .int .u32 b] K) = (bif bif !rtB (21 : Int) d x y m then true else !!rtB (21 : Int) d x y m then bif bif bif !rtB (21 : Int) d x y m then true else false then true else !bif !rtB
 (21 : Int) d x y m then true else false then bif bif bif !rtB (21 : Int) d x y m then true else false then true else false then K (.tup [.int .u32 0, .bool true])
 else bif decide (0 ≤ a) then bif decide (a ≤ 4294967295) then bif decide (0 ≤ IntKind.wrap .u32 m) then bif decide (IntKind.wrap .u32 m ≤ 4294967295) then K (.tup
 [.int .u32 (oneI (decide (i32 a < i32 (IntKind.wrap .u32 m)))), .bool true]) else False else False else False else False else False
else False) := by kernel_rfl 

theorem r_do2_22 (d x y m a b : Int) (K : XV → Prop) : (quietGo (TA2 2) 80 (callI (TA2 2) 80 20) 36 [.agg 5 [.int .i64 22, .int .i64 d, .int .i64 x, .int .i64 y, .int .i64 m], .int .u32 a, .int .u32 b] K) = (bif bif !rtB (22 : Int) d x y m then true else !!rtB (22 : Int) d x y m then bif bif bif !rtB (22 : Int) d x y m then true else false then true else !bif !rtB
 (22 : Int) d x y m then true else false then bif bif bif !rtB (22 : Int) d x y m then true else false then true else false then K (.tup [.int .u32 0, .bool true])
 else bif decide (0 ≤ a) then bif decide (a ≤ 4294967295) then bif decide (0 ≤ IntKind.wrap .u32 m) then bif decide (IntKind.wrap .u32 m ≤ 4294967295) then K (.tup
 [.int .u32 (IntKind.wrap .u32 (a * (2 : Int) ^ Nat.min (Int.toNat (bitsI .and .u32 (IntKind.wrap .u32 m) (31 : Int))) 32)), .bool true]) else False else False else
 False else False else False
else False) := by kernel_rfl
theorem r_do2_23 (d x y m a b : Int) (K : XV → Prop) : (quietGo (TA2 2) 80 (callI (TA2 2) 80 20) 36 [.agg 5 [.int .i64 23, .int .i64 d, .int .i64 x, .int .i64 y, .int .i64 m], .int .u32 a, .int .u32 b] K) = (bif bif !rtB (23 : Int) d x y m then true else !!rtB (23 : Int) d x y m then bif bif bif !rtB (23 : Int) d x y m then true else false then true else !bif !rtB
 (23 : Int) d x y m then true else false then bif bif bif !rtB (23 : Int) d x y m then true else false then true else false then K (.tup [.int .u32 0, .bool true])
 else bif decide (0 ≤ a) then bif decide (a ≤ 4294967295) then bif decide (0 ≤ IntKind.wrap .u32 m) then bif decide (IntKind.wrap .u32 m ≤ 4294967295) then K (.tup
 [.int .u32 (Int.fdiv a ((2 : Int) ^ Nat.min (Int.toNat (bitsI .and .u32 (IntKind.wrap .u32 m) (31 : Int))) 32)), .bool true]) else False else False else False else
 False else False
else False) := by kernel_rfl
theorem r_do2_24 (d x y m a b : Int) (K : XV → Prop) : (quietGo (TA2 2) 80 (callI (TA2 2) 80 20) 36 [.agg 5 [.int .i64 24, .int .i64 d, .int .i64 x, .int .i64 y, .int .i64 m], .int .u32 a, .int .u32 b] K) = (bif bif !rtB (24 : Int) d x y m then true else !!rtB (24 : Int) d x y m then bif bif bif !rtB (24 : Int) d x y m then true else false then true else !bif !rtB
 (24 : Int) d x y m then true else false then bif bif bif !rtB (24 : Int) d x y m then true else false then true else false then K (.tup [.int .u32 0, .bool true])
 else bif decide (0 ≤ a) then bif decide (a ≤ 4294967295) then bif decide (0 ≤ IntKind.wrap .u32 m) then bif decide (IntKind.wrap .u32 m ≤ 4294967295) then K (.tup
 [.int .u32 (IntKind.wrap .u32 (Int.fdiv (i32 a) ((2 : Int) ^ Nat.min (Int.toNat (bitsI .and .u32 (IntKind.wrap .u32 m) (31 : Int))) 64))), .bool true]) else False
 else False else False else False else False
else False) := by kernel_rfl
theorem r_do2_25 (d x y m a b : Int) (K : XV → Prop) : (quietGo (TA2 3) 80 (callI (TA2 3) 80 20) 36 [.agg 5 [.int .i64 25, .int .i64 d, .int .i64 x, .int .i64 y, .int .i64 m], .int .u32 a, .int .u32 b] K) = (bif bif !rtB (25 : Int) d x y m then true else !!rtB (25 : Int) d x y m then bif bif bif !rtB (25 : Int) d x y m then true else false then true else !bif !rtB
 (25 : Int) d x y m then true else false then bif bif bif !rtB (25 : Int) d x y m then true else false then true else false then K (.tup [.int .u32 0, .bool true])
 else bif decide (0 ≤ a) then bif decide (a ≤ 4294967295) then bif decide (0 ≤ b) then bif decide (b ≤ 4294967295) then K (.tup [.int .u32 (IntKind.wrap .u32 (IntKind.wrap
 .u32 m * (262144 : Int))), .bool true]) else False else False else False else False else False
else False) := by kernel_rfl
theorem r_dox2_0 (op d x y m a b : Int) (K : XV → Prop) : (quietGo (TA2 0) 80 (callI (TA2 0) 80 20) 36 [.agg 5 [.int .i64 op, .int .i64 d, .int .i64 x, .int .i64 y, .int .i64 m], .int .u32 a, .int .u32 b] K) = (bif decide (fmI op = 0) then bif bif !rtB op d x y m then true else !!rtB op d x y m then bif bif bif !rtB op d x y m then true else true then true else !bif
 !rtB op d x y m then true else true then bif bif bif !rtB op d x y m then true else true then true else false then K (.tup [.int .u32 0, .bool true]) else bif decide
 (0 ≤ a) then bif decide (a ≤ 4294967295) then bif decide (0 ≤ b) then bif decide (b ≤ 4294967295) then bif decide (op = 1) then K (.tup [.int .u32 (IntKind.wrap
 .u32 (a + b)), .bool true]) else bif decide (op = 2) then K (.tup [.int .u32 (IntKind.wrap .u32 (a - b)), .bool true]) else bif decide (op = 3) then K (.tup [.int
 .u32 (bitsI .and .u32 a b), .bool true]) else bif decide (op = 4) then K (.tup [.int .u32 (bitsI .or .u32 a b), .bool true]) else bif decide (op = 5) then K (.tup
 [.int .u32 (bitsI .xor .u32 a b), .bool true]) else bif decide (op = 6) then K (.tup [.int .u32 (IntKind.wrap .u32 (a * (2 : Int) ^ Nat.min (Int.toNat (bitsI .and
 .u32 b (31 : Int))) 32)), .bool true]) else bif decide (op = 7) then K (.tup [.int .u32 (Int.fdiv a ((2 : Int) ^ Nat.min (Int.toNat (bitsI .and .u32 b (31 : Int)))
 32)), .bool true]) else bif decide (op = 8) then K (.tup [.int .u32 (IntKind.wrap .u32 (Int.fdiv (i32 a) ((2 : Int) ^ Nat.min (Int.toNat (bitsI .and .u32 b (31 :
 Int))) 64))), .bool true]) else bif decide (op = 9) then K (.tup [.int .u32 (oneI (decide (i32 a < i32 b))), .bool true]) else bif decide (op = 10) then K (.tup
 [.int .u32 (oneI (decide (a < b))), .bool true]) else bif decide (op = 11) then K (.tup [.int .u32 (IntKind.wrap .u32 (IntKind.wrap .i64 (i32 a * i32 b))), .bool
 true]) else bif decide (op = 12) then K (.tup [.int .u32 (IntKind.wrap .u32 (Int.fdiv (IntKind.wrap .i64 (i32 a * i32 b)) (4294967296 : Int))), .bool true]) else
 bif decide (op = 25) then K (.tup [.int .u32 (IntKind.wrap .u32 (IntKind.wrap .u32 m * (262144 : Int))), .bool true]) else bif decide (b = 0) then K (.tup [.int
 .u32 0, .bool false]) else bif !decide (i32 b = 0) then bif !decide (i32 b = 0) then bif decide (op = 13) then K (.tup [.int .u32 (IntKind.wrap .u32 (IntKind.wrap
 .i64 (Int.tdiv (i32 a) (i32 b)))), .bool true]) else bif decide (op = 15) then K (.tup [.int .u32 (IntKind.wrap .u32 (Int.tmod (i32 a) (i32 b))), .bool true]) else
 bif decide (op = 14) then bif !decide (b = 0) then K (.tup [.int .u32 (IntKind.wrap .u32 (Int.tdiv a b)), .bool true]) else False else bif !decide (b = 0) then K
 (.tup [.int .u32 (Int.tmod a b), .bool true]) else False else False else False else False else False else False else False else False else False
else False) := by
 kernel_rfl
theorem r_dox2_4 (op d x y m a b : Int) (K : XV → Prop) : (quietGo (TA2 4) 80 (callI (TA2 4) 80 20) 36 [.agg 5 [.int .i64 op, .int .i64 d, .int .i64 x, .int .i64 y, .int .i64 m], .int .u32 a, .int .u32 b] K) = (bif decide (fmI op = 4) then bif bif !rtB op d x y m then true else !!rtB op d x y m then bif bif bif !rtB op d x y m then true else false then true else !bif
 !rtB op d x y m then true else false then bif bif bif !rtB op d x y m then true else false then true else true then K (.tup [.int .u32 0, .bool true]) else bif decide
 (0 ≤ a) then bif decide (a ≤ 4294967295) then bif decide (0 ≤ b) then bif decide (b ≤ 4294967295) then bif decide (op = 1) then K (.tup [.int .u32 (IntKind.wrap
 .u32 (a + b)), .bool true]) else bif decide (op = 2) then K (.tup [.int .u32 (IntKind.wrap .u32 (a - b)), .bool true]) else bif decide (op = 3) then K (.tup [.int
 .u32 (bitsI .and .u32 a b), .bool true]) else bif decide (op = 4) then K (.tup [.int .u32 (bitsI .or .u32 a b), .bool true]) else bif decide (op = 5) then K (.tup
 [.int .u32 (bitsI .xor .u32 a b), .bool true]) else bif decide (op = 6) then K (.tup [.int .u32 (IntKind.wrap .u32 (a * (2 : Int) ^ Nat.min (Int.toNat (bitsI .and
 .u32 b (31 : Int))) 32)), .bool true]) else bif decide (op = 7) then K (.tup [.int .u32 (Int.fdiv a ((2 : Int) ^ Nat.min (Int.toNat (bitsI .and .u32 b (31 : Int)))
 32)), .bool true]) else bif decide (op = 8) then K (.tup [.int .u32 (IntKind.wrap .u32 (Int.fdiv (i32 a) ((2 : Int) ^ Nat.min (Int.toNat (bitsI .and .u32 b (31 :
 Int))) 64))), .bool true]) else bif decide (op = 9) then K (.tup [.int .u32 (oneI (decide (i32 a < i32 b))), .bool true]) else bif decide (op = 10) then K (.tup
 [.int .u32 (oneI (decide (a < b))), .bool true]) else bif decide (op = 11) then K (.tup [.int .u32 (IntKind.wrap .u32 (IntKind.wrap .i64 (i32 a * i32 b))), .bool
 true]) else bif decide (op = 12) then K (.tup [.int .u32 (IntKind.wrap .u32 (Int.fdiv (IntKind.wrap .i64 (i32 a * i32 b)) (4294967296 : Int))), .bool true]) else
 bif decide (op = 25) then K (.tup [.int .u32 (IntKind.wrap .u32 (IntKind.wrap .u32 m * (262144 : Int))), .bool true]) else bif decide (b = 0) then K (.tup [.int
 .u32 0, .bool false]) else bif !decide (i32 b = 0) then bif !decide (i32 b = 0) then bif decide (op = 13) then K (.tup [.int .u32 (IntKind.wrap .u32 (IntKind.wrap
 .i64 (Int.tdiv (i32 a) (i32 b)))), .bool true]) else bif decide (op = 15) then K (.tup [.int .u32 (IntKind.wrap .u32 (Int.tmod (i32 a) (i32 b))), .bool true]) else
 bif decide (op = 14) then bif !decide (b = 0) then K (.tup [.int .u32 (IntKind.wrap .u32 (Int.tdiv a b)), .bool true]) else False else bif !decide (b = 0) then K
 (.tup [.int .u32 (Int.tmod a b), .bool true]) else False else False else False else False else False else False else False else False else False
else False) := by
 kernel_rfl
theorem r_dox2_5 (op d x y m a b : Int) (K : XV → Prop) : (quietGo (TA2 5) 80 (callI (TA2 5) 80 20) 36 [.agg 5 [.int .i64 op, .int .i64 d, .int .i64 x, .int .i64 y, .int .i64 m], .int .u32 a, .int .u32 b] K) = (bif decide (fmI op = 5) then bif bif !rtB op d x y m then true else !!rtB op d x y m then bif bif bif !rtB op d x y m then true else false then true else !bif
 !rtB op d x y m then true else false then bif bif bif !rtB op d x y m then true else false then true else true then K (.tup [.int .u32 0, .bool true]) else bif decide
 (0 ≤ a) then bif decide (a ≤ 4294967295) then bif decide (0 ≤ b) then bif decide (b ≤ 4294967295) then bif decide (op = 1) then K (.tup [.int .u32 (IntKind.wrap
 .u32 (a + b)), .bool true]) else bif decide (op = 2) then K (.tup [.int .u32 (IntKind.wrap .u32 (a - b)), .bool true]) else bif decide (op = 3) then K (.tup [.int
 .u32 (bitsI .and .u32 a b), .bool true]) else bif decide (op = 4) then K (.tup [.int .u32 (bitsI .or .u32 a b), .bool true]) else bif decide (op = 5) then K (.tup
 [.int .u32 (bitsI .xor .u32 a b), .bool true]) else bif decide (op = 6) then K (.tup [.int .u32 (IntKind.wrap .u32 (a * (2 : Int) ^ Nat.min (Int.toNat (bitsI .and
 .u32 b (31 : Int))) 32)), .bool true]) else bif decide (op = 7) then K (.tup [.int .u32 (Int.fdiv a ((2 : Int) ^ Nat.min (Int.toNat (bitsI .and .u32 b (31 : Int)))
 32)), .bool true]) else bif decide (op = 8) then K (.tup [.int .u32 (IntKind.wrap .u32 (Int.fdiv (i32 a) ((2 : Int) ^ Nat.min (Int.toNat (bitsI .and .u32 b (31 :
 Int))) 64))), .bool true]) else bif decide (op = 9) then K (.tup [.int .u32 (oneI (decide (i32 a < i32 b))), .bool true]) else bif decide (op = 10) then K (.tup
 [.int .u32 (oneI (decide (a < b))), .bool true]) else bif decide (op = 11) then K (.tup [.int .u32 (IntKind.wrap .u32 (IntKind.wrap .i64 (i32 a * i32 b))), .bool
 true]) else bif decide (op = 12) then K (.tup [.int .u32 (IntKind.wrap .u32 (Int.fdiv (IntKind.wrap .i64 (i32 a * i32 b)) (4294967296 : Int))), .bool true]) else
 bif decide (op = 25) then K (.tup [.int .u32 (IntKind.wrap .u32 (IntKind.wrap .u32 m * (262144 : Int))), .bool true]) else bif decide (b = 0) then K (.tup [.int
 .u32 0, .bool false]) else bif !decide (i32 b = 0) then bif !decide (i32 b = 0) then bif decide (op = 13) then K (.tup [.int .u32 (IntKind.wrap .u32 (IntKind.wrap
 .i64 (Int.tdiv (i32 a) (i32 b)))), .bool true]) else bif decide (op = 15) then K (.tup [.int .u32 (IntKind.wrap .u32 (Int.tmod (i32 a) (i32 b))), .bool true]) else
 bif decide (op = 14) then bif !decide (b = 0) then K (.tup [.int .u32 (IntKind.wrap .u32 (Int.tdiv a b)), .bool true]) else False else bif !decide (b = 0) then K
 (.tup [.int .u32 (Int.tmod a b), .bool true]) else False else False else False else False else False else False else False else False else False
else False) := by
 kernel_rfl
theorem r_dox2_6 (op d x y m a b : Int) (K : XV → Prop) : (quietGo (TA2 6) 80 (callI (TA2 6) 80 20) 36 [.agg 5 [.int .i64 op, .int .i64 d, .int .i64 x, .int .i64 y, .int .i64 m], .int .u32 a, .int .u32 b] K) = (bif decide (fmI op = 6) then bif bif !rtB op d x y m then true else !!rtB op d x y m then bif bif bif !rtB op d x y m then true else false then true else !bif
 !rtB op d x y m then true else false then bif bif bif !rtB op d x y m then true else false then true else true then K (.tup [.int .u32 0, .bool true]) else bif decide
 (0 ≤ a) then bif decide (a ≤ 4294967295) then bif decide (0 ≤ b) then bif decide (b ≤ 4294967295) then bif decide (op = 1) then K (.tup [.int .u32 (IntKind.wrap
 .u32 (a + b)), .bool true]) else bif decide (op = 2) then K (.tup [.int .u32 (IntKind.wrap .u32 (a - b)), .bool true]) else bif decide (op = 3) then K (.tup [.int
 .u32 (bitsI .and .u32 a b), .bool true]) else bif decide (op = 4) then K (.tup [.int .u32 (bitsI .or .u32 a b), .bool true]) else bif decide (op = 5) then K (.tup
 [.int .u32 (bitsI .xor .u32 a b), .bool true]) else bif decide (op = 6) then K (.tup [.int .u32 (IntKind.wrap .u32 (a * (2 : Int) ^ Nat.min (Int.toNat (bitsI .and
 .u32 b (31 : Int))) 32)), .bool true]) else bif decide (op = 7) then K (.tup [.int .u32 (Int.fdiv a ((2 : Int) ^ Nat.min (Int.toNat (bitsI .and .u32 b (31 : Int)))
 32)), .bool true]) else bif decide (op = 8) then K (.tup [.int .u32 (IntKind.wrap .u32 (Int.fdiv (i32 a) ((2 : Int) ^ Nat.min (Int.toNat (bitsI .and .u32 b (31 :
 Int))) 64))), .bool true]) else bif decide (op = 9) then K (.tup [.int .u32 (oneI (decide (i32 a < i32 b))), .bool true]) else bif decide (op = 10) then K (.tup
 [.int .u32 (oneI (decide (a < b))), .bool true]) else bif decide (op = 11) then K (.tup [.int .u32 (IntKind.wrap .u32 (IntKind.wrap .i64 (i32 a * i32 b))), .bool
 true]) else bif decide (op = 12) then K (.tup [.int .u32 (IntKind.wrap .u32 (Int.fdiv (IntKind.wrap .i64 (i32 a * i32 b)) (4294967296 : Int))), .bool true]) else
 bif decide (op = 25) then K (.tup [.int .u32 (IntKind.wrap .u32 (IntKind.wrap .u32 m * (262144 : Int))), .bool true]) else bif decide (b = 0) then K (.tup [.int
 .u32 0, .bool false]) else bif !decide (i32 b = 0) then bif !decide (i32 b = 0) then bif decide (op = 13) then K (.tup [.int .u32 (IntKind.wrap .u32 (IntKind.wrap
 .i64 (Int.tdiv (i32 a) (i32 b)))), .bool true]) else bif decide (op = 15) then K (.tup [.int .u32 (IntKind.wrap .u32 (Int.tmod (i32 a) (i32 b))), .bool true]) else
 bif decide (op = 14) then bif !decide (b = 0) then K (.tup [.int .u32 (IntKind.wrap .u32 (Int.tdiv a b)), .bool true]) else False else bif !decide (b = 0) then K
 (.tup [.int .u32 (Int.tmod a b), .bool true]) else False else False else False else False else False else False else False else False else False
else False) := by
 kernel_rfl
theorem r_dox2_7 (op d x y m a b : Int) (K : XV → Prop) : (quietGo (TA2 7) 80 (callI (TA2 7) 80 20) 36 [.agg 5 [.int .i64 op, .int .i64 d, .int .i64 x, .int .i64 y, .int .i64 m], .int .u32 a, .int .u32 b] K) = (bif decide (fmI op = 7) then bif bif !rtB op d x y m then true else !!rtB op d x y m then bif bif bif !rtB op d x y m then true else false then true else !bif
 !rtB op d x y m then true else false then bif bif bif !rtB op d x y m then true else false then true else true then K (.tup [.int .u32 0, .bool true]) else bif decide
 (0 ≤ a) then bif decide (a ≤ 4294967295) then bif decide (0 ≤ b) then bif decide (b ≤ 4294967295) then bif decide (op = 1) then K (.tup [.int .u32 (IntKind.wrap
 .u32 (a + b)), .bool true]) else bif decide (op = 2) then K (.tup [.int .u32 (IntKind.wrap .u32 (a - b)), .bool true]) else bif decide (op = 3) then K (.tup [.int
 .u32 (bitsI .and .u32 a b), .bool true]) else bif decide (op = 4) then K (.tup [.int .u32 (bitsI .or .u32 a b), .bool true]) else bif decide (op = 5) then K (.tup
 [.int .u32 (bitsI .xor .u32 a b), .bool true]) else bif decide (op = 6) then K (.tup [.int .u32 (IntKind.wrap .u32 (a * (2 : Int) ^ Nat.min (Int.toNat (bitsI .and
 .u32 b (31 : Int))) 32)), .bool true]) else bif decide (op = 7) then K (.tup [.int .u32 (Int.fdiv a ((2 : Int) ^ Nat.min (Int.toNat (bitsI .and .u32 b (31 : Int)))
 32)), .bool true]) else bif decide (op = 8) then K (.tup [.int .u32 (IntKind.wrap .u32 (Int.fdiv (i32 a) ((2 : Int) ^ Nat.min (Int.toNat (bitsI .and .u32 b (31 :
 Int))) 64))), .bool true]) else bif decide (op = 9) then K (.tup [.int .u32 (oneI (decide (i32 a < i32 b))), .bool true]) else bif decide (op = 10) then K (.tup
 [.int .u32 (oneI (decide (a < b))), .bool true]) else bif decide (op = 11) then K (.tup [.int .u32 (IntKind.wrap .u32 (IntKind.wrap .i64 (i32 a * i32 b))), .bool
 true]) else bif decide (op = 12) then K (.tup [.int .u32 (IntKind.wrap .u32 (Int.fdiv (IntKind.wrap .i64 (i32 a * i32 b)) (4294967296 : Int))), .bool true]) else
 bif decide (op = 25) then K (.tup [.int .u32 (IntKind.wrap .u32 (IntKind.wrap .u32 m * (262144 : Int))), .bool true]) else bif decide (b = 0) then K (.tup [.int
 .u32 0, .bool false]) else bif !decide (i32 b = 0) then bif !decide (i32 b = 0) then bif decide (op = 13) then K (.tup [.int .u32 (IntKind.wrap .u32 (IntKind.wrap
 .i64 (Int.tdiv (i32 a) (i32 b)))), .bool true]) else bif decide (op = 15) then K (.tup [.int .u32 (IntKind.wrap .u32 (Int.tmod (i32 a) (i32 b))), .bool true]) else
 bif decide (op = 14) then bif !decide (b = 0) then K (.tup [.int .u32 (IntKind.wrap .u32 (Int.tdiv a b)), .bool true]) else False else bif !decide (b = 0) then K
 (.tup [.int .u32 (Int.tmod a b), .bool true]) else False else False else False else False else False else False else False else False else False
else False) := by
 kernel_rfl
theorem r_dox2_8 (op d x y m a b : Int) (K : XV → Prop) : (quietGo (TA2 8) 80 (callI (TA2 8) 80 20) 36 [.agg 5 [.int .i64 op, .int .i64 d, .int .i64 x, .int .i64 y, .int .i64 m], .int .u32 a, .int .u32 b] K) = (bif decide (fmI op = 8) then bif bif !rtB op d x y m then true else !!rtB op d x y m then bif bif bif !rtB op d x y m then true else false then true else !bif
 !rtB op d x y m then true else false then bif bif bif !rtB op d x y m then true else false then true else true then K (.tup [.int .u32 0, .bool true]) else bif decide
 (0 ≤ a) then bif decide (a ≤ 4294967295) then bif decide (0 ≤ b) then bif decide (b ≤ 4294967295) then bif decide (op = 1) then K (.tup [.int .u32 (IntKind.wrap
 .u32 (a + b)), .bool true]) else bif decide (op = 2) then K (.tup [.int .u32 (IntKind.wrap .u32 (a - b)), .bool true]) else bif decide (op = 3) then K (.tup [.int
 .u32 (bitsI .and .u32 a b), .bool true]) else bif decide (op = 4) then K (.tup [.int .u32 (bitsI .or .u32 a b), .bool true]) else bif decide (op = 5) then K (.tup
 [.int .u32 (bitsI .xor .u32 a b), .bool true]) else bif decide (op = 6) then K (.tup [.int .u32 (IntKind.wrap .u32 (a * (2 : Int) ^ Nat.min (Int.toNat (bitsI .and
 .u32 b (31 : Int))) 32)), .bool true]) else bif decide (op = 7) then K (.tup [.int .u32 (Int.fdiv a ((2 : Int) ^ Nat.min (Int.toNat (bitsI .and .u32 b (31 : Int)))
 32)), .bool true]) else bif decide (op = 8) then K (.tup [.int .u32 (IntKind.wrap .u32 (Int.fdiv (i32 a) ((2 : Int) ^ Nat.min (Int.toNat (bitsI .and .u32 b (31 :
 Int))) 64))), .bool true]) else bif decide (op = 9) then K (.tup [.int .u32 (oneI (decide (i32 a < i32 b))), .bool true]) else bif decide (op = 10) then K (.tup
 [.int .u32 (oneI (decide (a < b))), .bool true]) else bif decide (op = 11) then K (.tup [.int .u32 (IntKind.wrap .u32 (IntKind.wrap .i64 (i32 a * i32 b))), .bool
 true]) else bif decide (op = 12) then K (.tup [.int .u32 (IntKind.wrap .u32 (Int.fdiv (IntKind.wrap .i64 (i32 a * i32 b)) (4294967296 : Int))), .bool true]) else
 bif decide (op = 25) then K (.tup [.int .u32 (IntKind.wrap .u32 (IntKind.wrap .u32 m * (262144 : Int))), .bool true]) else bif decide (b = 0) then K (.tup [.int
 .u32 0, .bool false]) else bif !decide (i32 b = 0) then bif !decide (i32 b = 0) then bif decide (op = 13) then K (.tup [.int .u32 (IntKind.wrap .u32 (IntKind.wrap
 .i64 (Int.tdiv (i32 a) (i32 b)))), .bool true]) else bif decide (op = 15) then K (.tup [.int .u32 (IntKind.wrap .u32 (Int.tmod (i32 a) (i32 b))), .bool true]) else
 bif decide (op = 14) then bif !decide (b = 0) then K (.tup [.int .u32 (IntKind.wrap .u32 (Int.tdiv a b)), .bool true]) else False else bif !decide (b = 0) then K
 (.tup [.int .u32 (Int.tmod a b), .bool true]) else False else False else False else False else False else False else False else False else False
else False) := by
 kernel_rfl
theorem do2_1 {d x y m a b : Int} (h0 : 0 ≤ a) (h1 : a ≤ 4294967295) (h2 : 0 ≤ b) (h3 : b ≤ 4294967295) : Pure Try.prog 36 (cons [.agg 5 [.int .i64 1, .int .i64 d, .int .i64 x, .int .i64 y, .int .i64 m], .int .u32 a, .int .u32 b]) (con (.tup [.int .u32 (doI 1 d x y m a b), .bool (dkB 1 d x y m b)])) := by
  refine pureX (u := 80) (k := 20) mix (TA2ok 1) ?_
  rw [r_do2_1]
  have m0 : 0 ≤ IntKind.u32.wrap m := by rw [wU32]; omega
  have m1 : IntKind.u32.wrap m ≤ 4294967295 := by rw [wU32]; omega
  cases hr : rtB 1 d x y m with
  | false =>
    rw [do_no (.inl hr), dk_no (.inl hr)]
    simp only [hr, h0, h1, h2, h3, m0, m1, decide_true, decide_false, cond_true, cond_false, pk_and, pk_or, pk3, pk4, Bool.not_true, Bool.not_false]
  | true =>
    have e1 : doI 1 d x y m a b = alW 1 a b := by
      unfold doI
      rw [hr, if_neg (by decide)]
      rfl
    have e2 : dkB 1 d x y m b = true := by
      unfold dkB
      rw [hr, if_neg (by decide)]
      simp
    rw [e1, e2]
    simp only [hr, h0, h1, h2, h3, m0, m1, decide_true, decide_false, cond_true, cond_false, pk_and, pk_or, pk3, pk4, Bool.not_true, Bool.not_false]
    refine conT2 (conI ?_) rfl
    simp only [alW, i32, shA h2 h3, shB h2 h3, shA m0 m1, shB m0 m1, fdivP, fdivQ, w32w64, w64i32, w64mul, mul_mod, if_true, if_false, Int.reduceEq]
    try rw [wU32, mul_mod]
    try rfl
theorem do2_2 {d x y m a b : Int} (h0 : 0 ≤ a) (h1 : a ≤ 4294967295) (h2 : 0 ≤ b) (h3 : b ≤ 4294967295) : Pure Try.prog 36 (cons [.agg 5 [.int .i64 2, .int .i64 d, .int .i64 x, .int .i64 y, .int .i64 m], .int .u32 a, .int .u32 b]) (con (.tup [.int .u32 (doI 2 d x y m a b), .bool (dkB 2 d x y m b)])) := by
  refine pureX (u := 80) (k := 20) mix (TA2ok 1) ?_
  rw [r_do2_2]
  have m0 : 0 ≤ IntKind.u32.wrap m := by rw [wU32]; omega
  have m1 : IntKind.u32.wrap m ≤ 4294967295 := by rw [wU32]; omega
  cases hr : rtB 2 d x y m with
  | false =>
    rw [do_no (.inl hr), dk_no (.inl hr)]
    simp only [hr, h0, h1, h2, h3, m0, m1, decide_true, decide_false, cond_true, cond_false, pk_and, pk_or, pk3, pk4, Bool.not_true, Bool.not_false]
  | true =>
    have e1 : doI 2 d x y m a b = alW 2 a b := by
      unfold doI
      rw [hr, if_neg (by decide)]
      rfl
    have e2 : dkB 2 d x y m b = true := by
      unfold dkB
      rw [hr, if_neg (by decide)]
      simp
    rw [e1, e2]
    simp only [hr, h0, h1, h2, h3, m0, m1, decide_true, decide_false, cond_true, cond_false, pk_and, pk_or, pk3, pk4, Bool.not_true, Bool.not_false]
    refine conT2 (conI ?_) rfl
    simp only [alW, i32, shA h2 h3, shB h2 h3, shA m0 m1, shB m0 m1, fdivP, fdivQ, w32w64, w64i32, w64mul, mul_mod, if_true, if_false, Int.reduceEq]
    try rw [wU32, mul_mod]
    try rfl
theorem do2_3 {d x y m a b : Int} (h0 : 0 ≤ a) (h1 : a ≤ 4294967295) (h2 : 0 ≤ b) (h3 : b ≤ 4294967295) : Pure Try.prog 36 (cons [.agg 5 [.int .i64 3, .int .i64 d, .int .i64 x, .int .i64 y, .int .i64 m], .int .u32 a, .int .u32 b]) (con (.tup [.int .u32 (doI 3 d x y m a b), .bool (dkB 3 d x y m b)])) := by
  refine pureX (u := 80) (k := 20) mix (TA2ok 1) ?_
  rw [r_do2_3]
  have m0 : 0 ≤ IntKind.u32.wrap m := by rw [wU32]; omega
  have m1 : IntKind.u32.wrap m ≤ 4294967295 := by rw [wU32]; omega
  cases hr : rtB 3 d x y m with
  | false =>
    rw [do_no (.inl hr), dk_no (.inl hr)]
    simp only [hr, h0, h1, h2, h3, m0, m1, decide_true, decide_false, cond_true, cond_false, pk_and, pk_or, pk3, pk4, Bool.not_true, Bool.not_false]
  | true =>
    have e1 : doI 3 d x y m a b = alW 3 a b := by
      unfold doI
      rw [hr, if_neg (by decide)]
      rfl
    have e2 : dkB 3 d x y m b = true := by
      unfold dkB
      rw [hr, if_neg (by decide)]
      simp
    rw [e1, e2]
    simp only [hr, h0, h1, h2, h3, m0, m1, decide_true, decide_false, cond_true, cond_false, pk_and, pk_or, pk3, pk4, Bool.not_true, Bool.not_false]
    refine conT2 (conI ?_) rfl
    simp only [alW, i32, shA h2 h3, shB h2 h3, shA m0 m1, shB m0 m1, fdivP, fdivQ, w32w64, w64i32, w64mul, mul_mod, if_true, if_false, Int.reduceEq]
    try rw [wU32, mul_mod]
    try rfl
theorem do2_4 {d x y m a b : Int} (h0 : 0 ≤ a) (h1 : a ≤ 4294967295) (h2 : 0 ≤ b) (h3 : b ≤ 4294967295) : Pure Try.prog 36 (cons [.agg 5 [.int .i64 4, .int .i64 d, .int .i64 x, .int .i64 y, .int .i64 m], .int .u32 a, .int .u32 b]) (con (.tup [.int .u32 (doI 4 d x y m a b), .bool (dkB 4 d x y m b)])) := by
  refine pureX (u := 80) (k := 20) mix (TA2ok 1) ?_
  rw [r_do2_4]
  have m0 : 0 ≤ IntKind.u32.wrap m := by rw [wU32]; omega
  have m1 : IntKind.u32.wrap m ≤ 4294967295 := by rw [wU32]; omega
  cases hr : rtB 4 d x y m with
  | false =>
    rw [do_no (.inl hr), dk_no (.inl hr)]
    simp only [hr, h0, h1, h2, h3, m0, m1, decide_true, decide_false, cond_true, cond_false, pk_and, pk_or, pk3, pk4, Bool.not_true, Bool.not_false]
  | true =>
    have e1 : doI 4 d x y m a b = alW 4 a b := by
      unfold doI
      rw [hr, if_neg (by decide)]
      rfl
    have e2 : dkB 4 d x y m b = true := by
      unfold dkB
      rw [hr, if_neg (by decide)]
      simp
    rw [e1, e2]
    simp only [hr, h0, h1, h2, h3, m0, m1, decide_true, decide_false, cond_true, cond_false, pk_and, pk_or, pk3, pk4, Bool.not_true, Bool.not_false]
    refine conT2 (conI ?_) rfl
    simp only [alW, i32, shA h2 h3, shB h2 h3, shA m0 m1, shB m0 m1, fdivP, fdivQ, w32w64, w64i32, w64mul, mul_mod, if_true, if_false, Int.reduceEq]
    try rw [wU32, mul_mod]
    try rfl
theorem do2_5 {d x y m a b : Int} (h0 : 0 ≤ a) (h1 : a ≤ 4294967295) (h2 : 0 ≤ b) (h3 : b ≤ 4294967295) : Pure Try.prog 36 (cons [.agg 5 [.int .i64 5, .int .i64 d, .int .i64 x, .int .i64 y, .int .i64 m], .int .u32 a, .int .u32 b]) (con (.tup [.int .u32 (doI 5 d x y m a b), .bool (dkB 5 d x y m b)])) := by
  refine pureX (u := 80) (k := 20) mix (TA2ok 1) ?_
  rw [r_do2_5]
  have m0 : 0 ≤ IntKind.u32.wrap m := by rw [wU32]; omega
  have m1 : IntKind.u32.wrap m ≤ 4294967295 := by rw [wU32]; omega
  cases hr : rtB 5 d x y m with
  | false =>
    rw [do_no (.inl hr), dk_no (.inl hr)]
    simp only [hr, h0, h1, h2, h3, m0, m1, decide_true, decide_false, cond_true, cond_false, pk_and, pk_or, pk3, pk4, Bool.not_true, Bool.not_false]
  | true =>
    have e1 : doI 5 d x y m a b = alW 5 a b := by
      unfold doI
      rw [hr, if_neg (by decide)]
      rfl
    have e2 : dkB 5 d x y m b = true := by
      unfold dkB
      rw [hr, if_neg (by decide)]
      simp
    rw [e1, e2]
    simp only [hr, h0, h1, h2, h3, m0, m1, decide_true, decide_false, cond_true, cond_false, pk_and, pk_or, pk3, pk4, Bool.not_true, Bool.not_false]
    refine conT2 (conI ?_) rfl
    simp only [alW, i32, shA h2 h3, shB h2 h3, shA m0 m1, shB m0 m1, fdivP, fdivQ, w32w64, w64i32, w64mul, mul_mod, if_true, if_false, Int.reduceEq]
    try rw [wU32, mul_mod]
    try rfl
theorem do2_6 {d x y m a b : Int} (h0 : 0 ≤ a) (h1 : a ≤ 4294967295) (h2 : 0 ≤ b) (h3 : b ≤ 4294967295) : Pure Try.prog 36 (cons [.agg 5 [.int .i64 6, .int .i64 d, .int .i64 x, .int .i64 y, .int .i64 m], .int .u32 a, .int .u32 b]) (con (.tup [.int .u32 (doI 6 d x y m a b), .bool (dkB 6 d x y m b)])) := by
  refine pureX (u := 80) (k := 20) mix (TA2ok 1) ?_
  rw [r_do2_6]
  have m0 : 0 ≤ IntKind.u32.wrap m := by rw [wU32]; omega
  have m1 : IntKind.u32.wrap m ≤ 4294967295 := by rw [wU32]; omega
  cases hr : rtB 6 d x y m with
  | false =>
    rw [do_no (.inl hr), dk_no (.inl hr)]
    simp only [hr, h0, h1, h2, h3, m0, m1, decide_true, decide_false, cond_true, cond_false, pk_and, pk_or, pk3, pk4, Bool.not_true, Bool.not_false]
  | true =>
    have e1 : doI 6 d x y m a b = alW 6 a b := by
      unfold doI
      rw [hr, if_neg (by decide)]
      rfl
    have e2 : dkB 6 d x y m b = true := by
      unfold dkB
      rw [hr, if_neg (by decide)]
      simp
    rw [e1, e2]
    simp only [hr, h0, h1, h2, h3, m0, m1, decide_true, decide_false, cond_true, cond_false, pk_and, pk_or, pk3, pk4, Bool.not_true, Bool.not_false]
    refine conT2 (conI ?_) rfl
    simp only [alW, i32, shA h2 h3, shB h2 h3, shA m0 m1, shB m0 m1, fdivP, fdivQ, w32w64, w64i32, w64mul, mul_mod, if_true, if_false, Int.reduceEq]
    try rw [wU32, mul_mod]
    try rfl
theorem do2_7 {d x y m a b : Int} (h0 : 0 ≤ a) (h1 : a ≤ 4294967295) (h2 : 0 ≤ b) (h3 : b ≤ 4294967295) : Pure Try.prog 36 (cons [.agg 5 [.int .i64 7, .int .i64 d, .int .i64 x, .int .i64 y, .int .i64 m], .int .u32 a, .int .u32 b]) (con (.tup [.int .u32 (doI 7 d x y m a b), .bool (dkB 7 d x y m b)])) := by
  refine pureX (u := 80) (k := 20) mix (TA2ok 1) ?_
  rw [r_do2_7]
  have m0 : 0 ≤ IntKind.u32.wrap m := by rw [wU32]; omega
  have m1 : IntKind.u32.wrap m ≤ 4294967295 := by rw [wU32]; omega
  cases hr : rtB 7 d x y m with
  | false =>
    rw [do_no (.inl hr), dk_no (.inl hr)]
    simp only [hr, h0, h1, h2, h3, m0, m1, decide_true, decide_false, cond_true, cond_false, pk_and, pk_or, pk3, pk4, Bool.not_true, Bool.not_false]
  | true =>
    have e1 : doI 7 d x y m a b = alW 7 a b := by
      unfold doI
      rw [hr, if_neg (by decide)]
      rfl
    have e2 : dkB 7 d x y m b = true := by
      unfold dkB
      rw [hr, if_neg (by decide)]
      simp
    rw [e1, e2]
    simp only [hr, h0, h1, h2, h3, m0, m1, decide_true, decide_false, cond_true, cond_false, pk_and, pk_or, pk3, pk4, Bool.not_true, Bool.not_false]
    refine conT2 (conI ?_) rfl
    simp only [alW, i32, shA h2 h3, shB h2 h3, shA m0 m1, shB m0 m1, fdivP, fdivQ, w32w64, w64i32, w64mul, mul_mod, if_true, if_false, Int.reduceEq]
    try rw [wU32, mul_mod]
    try rfl
theorem do2_8 {d x y m a b : Int} (h0 : 0 ≤ a) (h1 : a ≤ 4294967295) (h2 : 0 ≤ b) (h3 : b ≤ 4294967295) : Pure Try.prog 36 (cons [.agg 5 [.int .i64 8, .int .i64 d, .int .i64 x, .int .i64 y, .int .i64 m], .int .u32 a, .int .u32 b]) (con (.tup [.int .u32 (doI 8 d x y m a b), .bool (dkB 8 d x y m b)])) := by
  refine pureX (u := 80) (k := 20) mix (TA2ok 1) ?_
  rw [r_do2_8]
  have m0 : 0 ≤ IntKind.u32.wrap m := by rw [wU32]; omega
  have m1 : IntKind.u32.wrap m ≤ 4294967295 := by rw [wU32]; omega
  cases hr : rtB 8 d x y m with
  | false =>
    rw [do_no (.inl hr), dk_no (.inl hr)]
    simp only [hr, h0, h1, h2, h3, m0, m1, decide_true, decide_false, cond_true, cond_false, pk_and, pk_or, pk3, pk4, Bool.not_true, Bool.not_false]
  | true =>
    have e1 : doI 8 d x y m a b = alW 8 a b := by
      unfold doI
      rw [hr, if_neg (by decide)]
      rfl
    have e2 : dkB 8 d x y m b = true := by
      unfold dkB
      rw [hr, if_neg (by decide)]
      simp
    rw [e1, e2]
    simp only [hr, h0, h1, h2, h3, m0, m1, decide_true, decide_false, cond_true, cond_false, pk_and, pk_or, pk3, pk4, Bool.not_true, Bool.not_false]
    refine conT2 (conI ?_) rfl
    simp only [alW, i32, shA h2 h3, shB h2 h3, shA m0 m1, shB m0 m1, fdivP, fdivQ, w32w64, w64i32, w64mul, mul_mod, if_true, if_false, Int.reduceEq]
    try rw [wU32, mul_mod]
    try rfl
theorem do2_9 {d x y m a b : Int} (h0 : 0 ≤ a) (h1 : a ≤ 4294967295) (h2 : 0 ≤ b) (h3 : b ≤ 4294967295) : Pure Try.prog 36 (cons [.agg 5 [.int .i64 9, .int .i64 d, .int .i64 x, .int .i64 y, .int .i64 m], .int .u32 a, .int .u32 b]) (con (.tup [.int .u32 (doI 9 d x y m a b), .bool (dkB 9 d x y m b)])) := by
  refine pureX (u := 80) (k := 20) mix (TA2ok 1) ?_
  rw [r_do2_9]
  have m0 : 0 ≤ IntKind.u32.wrap m := by rw [wU32]; omega
  have m1 : IntKind.u32.wrap m ≤ 4294967295 := by rw [wU32]; omega
  cases hr : rtB 9 d x y m with
  | false =>
    rw [do_no (.inl hr), dk_no (.inl hr)]
    simp only [hr, h0, h1, h2, h3, m0, m1, decide_true, decide_false, cond_true, cond_false, pk_and, pk_or, pk3, pk4, Bool.not_true, Bool.not_false]
  | true =>
    have e1 : doI 9 d x y m a b = alW 9 a b := by
      unfold doI
      rw [hr, if_neg (by decide)]
      rfl
    have e2 : dkB 9 d x y m b = true := by
      unfold dkB
      rw [hr, if_neg (by decide)]
      simp
    rw [e1, e2]
    simp only [hr, h0, h1, h2, h3, m0, m1, decide_true, decide_false, cond_true, cond_false, pk_and, pk_or, pk3, pk4, Bool.not_true, Bool.not_false]
    refine conT2 (conI ?_) rfl
    simp only [alW, i32, shA h2 h3, shB h2 h3, shA m0 m1, shB m0 m1, fdivP, fdivQ, w32w64, w64i32, w64mul, mul_mod, if_true, if_false, Int.reduceEq]
    try rw [wU32, mul_mod]
    try rfl
theorem do2_10 {d x y m a b : Int} (h0 : 0 ≤ a) (h1 : a ≤ 4294967295) (h2 : 0 ≤ b) (h3 : b ≤ 4294967295) : Pure Try.prog 36 (cons [.agg 5 [.int .i64 10, .int .i64 d, .int .i64 x, .int .i64 y, .int .i64 m], .int .u32 a, .int .u32 b]) (con (.tup [.int .u32 (doI 10 d x y m a b), .bool (dkB 10 d x y m b)])) := by
  refine pureX (u := 80) (k := 20) mix (TA2ok 1) ?_
  rw [r_do2_10]
  have m0 : 0 ≤ IntKind.u32.wrap m := by rw [wU32]; omega
  have m1 : IntKind.u32.wrap m ≤ 4294967295 := by rw [wU32]; omega
  cases hr : rtB 10 d x y m with
  | false =>
    rw [do_no (.inl hr), dk_no (.inl hr)]
    simp only [hr, h0, h1, h2, h3, m0, m1, decide_true, decide_false, cond_true, cond_false, pk_and, pk_or, pk3, pk4, Bool.not_true, Bool.not_false]
  | true =>
    have e1 : doI 10 d x y m a b = alW 10 a b := by
      unfold doI
      rw [hr, if_neg (by decide)]
      rfl
    have e2 : dkB 10 d x y m b = true := by
      unfold dkB
      rw [hr, if_neg (by decide)]
      simp
    rw [e1, e2]
    simp only [hr, h0, h1, h2, h3, m0, m1, decide_true, decide_false, cond_true, cond_false, pk_and, pk_or, pk3, pk4, Bool.not_true, Bool.not_false]
    refine conT2 (conI ?_) rfl
    simp only [alW, i32, shA h2 h3, shB h2 h3, shA m0 m1, shB m0 m1, fdivP, fdivQ, w32w64, w64i32, w64mul, mul_mod, if_true, if_false, Int.reduceEq]
    try rw [wU32, mul_mod]
    try rfl
theorem do2_11 {d x y m a b : Int} (h0 : 0 ≤ a) (h1 : a ≤ 4294967295) (h2 : 0 ≤ b) (h3 : b ≤ 4294967295) : Pure Try.prog 36 (cons [.agg 5 [.int .i64 11, .int .i64 d, .int .i64 x, .int .i64 y, .int .i64 m], .int .u32 a, .int .u32 b]) (con (.tup [.int .u32 (doI 11 d x y m a b), .bool (dkB 11 d x y m b)])) := by
  refine pureX (u := 80) (k := 20) mix (TA2ok 1) ?_
  rw [r_do2_11]
  have m0 : 0 ≤ IntKind.u32.wrap m := by rw [wU32]; omega
  have m1 : IntKind.u32.wrap m ≤ 4294967295 := by rw [wU32]; omega
  cases hr : rtB 11 d x y m with
  | false =>
    rw [do_no (.inl hr), dk_no (.inl hr)]
    simp only [hr, h0, h1, h2, h3, m0, m1, decide_true, decide_false, cond_true, cond_false, pk_and, pk_or, pk3, pk4, Bool.not_true, Bool.not_false]
  | true =>
    have e1 : doI 11 d x y m a b = alW 11 a b := by
      unfold doI
      rw [hr, if_neg (by decide)]
      rfl
    have e2 : dkB 11 d x y m b = true := by
      unfold dkB
      rw [hr, if_neg (by decide)]
      simp
    rw [e1, e2]
    simp only [hr, h0, h1, h2, h3, m0, m1, decide_true, decide_false, cond_true, cond_false, pk_and, pk_or, pk3, pk4, Bool.not_true, Bool.not_false]
    refine conT2 (conI ?_) rfl
    simp only [alW, i32, shA h2 h3, shB h2 h3, shA m0 m1, shB m0 m1, fdivP, fdivQ, w32w64, w64i32, w64mul, mul_mod, if_true, if_false, Int.reduceEq]
    try rw [wU32, mul_mod]
    try rfl
theorem do2_12 {d x y m a b : Int} (h0 : 0 ≤ a) (h1 : a ≤ 4294967295) (h2 : 0 ≤ b) (h3 : b ≤ 4294967295) : Pure Try.prog 36 (cons [.agg 5 [.int .i64 12, .int .i64 d, .int .i64 x, .int .i64 y, .int .i64 m], .int .u32 a, .int .u32 b]) (con (.tup [.int .u32 (doI 12 d x y m a b), .bool (dkB 12 d x y m b)])) := by
  refine pureX (u := 80) (k := 20) mix (TA2ok 1) ?_
  rw [r_do2_12]
  have m0 : 0 ≤ IntKind.u32.wrap m := by rw [wU32]; omega
  have m1 : IntKind.u32.wrap m ≤ 4294967295 := by rw [wU32]; omega
  cases hr : rtB 12 d x y m with
  | false =>
    rw [do_no (.inl hr), dk_no (.inl hr)]
    simp only [hr, h0, h1, h2, h3, m0, m1, decide_true, decide_false, cond_true, cond_false, pk_and, pk_or, pk3, pk4, Bool.not_true, Bool.not_false]
  | true =>
    have e1 : doI 12 d x y m a b = alW 12 a b := by
      unfold doI
      rw [hr, if_neg (by decide)]
      rfl
    have e2 : dkB 12 d x y m b = true := by
      unfold dkB
      rw [hr, if_neg (by decide)]
      simp
    rw [e1, e2]
    simp only [hr, h0, h1, h2, h3, m0, m1, decide_true, decide_false, cond_true, cond_false, pk_and, pk_or, pk3, pk4, Bool.not_true, Bool.not_false]
    refine conT2 (conI ?_) rfl
    simp only [alW, i32, shA h2 h3, shB h2 h3, shA m0 m1, shB m0 m1, fdivP, fdivQ, w32w64, w64i32, w64mul, mul_mod, if_true, if_false, Int.reduceEq]
    try rw [wU32, mul_mod]
    try rfl
theorem do2_13 {d x y m a b : Int} (h0 : 0 ≤ a) (h1 : a ≤ 4294967295) (h2 : 0 ≤ b) (h3 : b ≤ 4294967295) : Pure Try.prog 36 (cons [.agg 5 [.int .i64 13, .int .i64 d, .int .i64 x, .int .i64 y, .int .i64 m], .int .u32 a, .int .u32 b]) (con (.tup [.int .u32 (doI 13 d x y m a b), .bool (dkB 13 d x y m b)])) := by
  refine pureX (u := 80) (k := 20) mix (TA2ok 1) ?_
  rw [r_do2_13]
  have m0 : 0 ≤ IntKind.u32.wrap m := by rw [wU32]; omega
  have m1 : IntKind.u32.wrap m ≤ 4294967295 := by rw [wU32]; omega
  cases hr : rtB 13 d x y m with
  | false =>
    rw [do_no (.inl hr), dk_no (.inl hr)]
    simp only [hr, h0, h1, h2, h3, m0, m1, decide_true, decide_false, cond_true, cond_false, pk_and, pk_or, pk3, pk4, Bool.not_true, Bool.not_false]
  | true =>
    have e1 : doI 13 d x y m a b = alW 13 a b := by
      unfold doI
      rw [hr, if_neg (by decide)]
      rfl
    have e2 : dkB 13 d x y m b = !decide (b = 0) := by
      unfold dkB
      rw [hr, if_neg (by decide)]
      simp
    rw [e1, e2]
    simp only [hr, h0, h1, h2, h3, m0, m1, decide_true, decide_false, cond_true, cond_false, pk_and, pk_or, pk3, pk4, Bool.not_true, Bool.not_false]
    by_cases hb : b = 0
    · subst hb
      rfl
    have hi : ¬ IntKind.i32.wrap b = 0 := fun h => hb ((i32_0 h2 h3).1 h)
    have hi2 : ¬ i32 b = 0 := hi
    simp only [hb, hi, hi2, not_false_eq_true, decide_not, decide_true, decide_false, cond_true, cond_false, pk_and, pk_or, pk3, pk4, Bool.not_true, Bool.not_false]
    refine conT2 (conI ?_) rfl
    simp only [alW, i32, hb, if_false, if_true, w32i32, w32w64, Int.reduceEq]
    try rfl
theorem do2_14 {d x y m a b : Int} (h0 : 0 ≤ a) (h1 : a ≤ 4294967295) (h2 : 0 ≤ b) (h3 : b ≤ 4294967295) : Pure Try.prog 36 (cons [.agg 5 [.int .i64 14, .int .i64 d, .int .i64 x, .int .i64 y, .int .i64 m], .int .u32 a, .int .u32 b]) (con (.tup [.int .u32 (doI 14 d x y m a b), .bool (dkB 14 d x y m b)])) := by
  refine pureX (u := 80) (k := 20) mix (TA2ok 1) ?_
  rw [r_do2_14]
  have m0 : 0 ≤ IntKind.u32.wrap m := by rw [wU32]; omega
  have m1 : IntKind.u32.wrap m ≤ 4294967295 := by rw [wU32]; omega
  cases hr : rtB 14 d x y m with
  | false =>
    rw [do_no (.inl hr), dk_no (.inl hr)]
    simp only [hr, h0, h1, h2, h3, m0, m1, decide_true, decide_false, cond_true, cond_false, pk_and, pk_or, pk3, pk4, Bool.not_true, Bool.not_false]
  | true =>
    have e1 : doI 14 d x y m a b = alW 14 a b := by
      unfold doI
      rw [hr, if_neg (by decide)]
      rfl
    have e2 : dkB 14 d x y m b = !decide (b = 0) := by
      unfold dkB
      rw [hr, if_neg (by decide)]
      simp
    rw [e1, e2]
    simp only [hr, h0, h1, h2, h3, m0, m1, decide_true, decide_false, cond_true, cond_false, pk_and, pk_or, pk3, pk4, Bool.not_true, Bool.not_false]
    by_cases hb : b = 0
    · subst hb
      rfl
    have hi : ¬ IntKind.i32.wrap b = 0 := fun h => hb ((i32_0 h2 h3).1 h)
    have hi2 : ¬ i32 b = 0 := hi
    simp only [hb, hi, hi2, not_false_eq_true, decide_not, decide_true, decide_false, cond_true, cond_false, pk_and, pk_or, pk3, pk4, Bool.not_true, Bool.not_false]
    refine conT2 (conI ?_) rfl
    simp only [alW, i32, hb, if_false, if_true, w32i32, w32w64, Int.reduceEq]
    rw [Int.tdiv_eq_ediv_of_nonneg h0]
    have := udiv_rng (b := b) h0 h1 h2
    rw [wU32]; omega
theorem do2_15 {d x y m a b : Int} (h0 : 0 ≤ a) (h1 : a ≤ 4294967295) (h2 : 0 ≤ b) (h3 : b ≤ 4294967295) : Pure Try.prog 36 (cons [.agg 5 [.int .i64 15, .int .i64 d, .int .i64 x, .int .i64 y, .int .i64 m], .int .u32 a, .int .u32 b]) (con (.tup [.int .u32 (doI 15 d x y m a b), .bool (dkB 15 d x y m b)])) := by
  refine pureX (u := 80) (k := 20) mix (TA2ok 1) ?_
  rw [r_do2_15]
  have m0 : 0 ≤ IntKind.u32.wrap m := by rw [wU32]; omega
  have m1 : IntKind.u32.wrap m ≤ 4294967295 := by rw [wU32]; omega
  cases hr : rtB 15 d x y m with
  | false =>
    rw [do_no (.inl hr), dk_no (.inl hr)]
    simp only [hr, h0, h1, h2, h3, m0, m1, decide_true, decide_false, cond_true, cond_false, pk_and, pk_or, pk3, pk4, Bool.not_true, Bool.not_false]
  | true =>
    have e1 : doI 15 d x y m a b = alW 15 a b := by
      unfold doI
      rw [hr, if_neg (by decide)]
      rfl
    have e2 : dkB 15 d x y m b = !decide (b = 0) := by
      unfold dkB
      rw [hr, if_neg (by decide)]
      simp
    rw [e1, e2]
    simp only [hr, h0, h1, h2, h3, m0, m1, decide_true, decide_false, cond_true, cond_false, pk_and, pk_or, pk3, pk4, Bool.not_true, Bool.not_false]
    by_cases hb : b = 0
    · subst hb
      rfl
    have hi : ¬ IntKind.i32.wrap b = 0 := fun h => hb ((i32_0 h2 h3).1 h)
    have hi2 : ¬ i32 b = 0 := hi
    simp only [hb, hi, hi2, not_false_eq_true, decide_not, decide_true, decide_false, cond_true, cond_false, pk_and, pk_or, pk3, pk4, Bool.not_true, Bool.not_false]
    refine conT2 (conI ?_) rfl
    simp only [alW, i32, hb, if_false, if_true, w32i32, w32w64, Int.reduceEq]
    try rfl
theorem do2_16 {d x y m a b : Int} (h0 : 0 ≤ a) (h1 : a ≤ 4294967295) (h2 : 0 ≤ b) (h3 : b ≤ 4294967295) : Pure Try.prog 36 (cons [.agg 5 [.int .i64 16, .int .i64 d, .int .i64 x, .int .i64 y, .int .i64 m], .int .u32 a, .int .u32 b]) (con (.tup [.int .u32 (doI 16 d x y m a b), .bool (dkB 16 d x y m b)])) := by
  refine pureX (u := 80) (k := 20) mix (TA2ok 1) ?_
  rw [r_do2_16]
  have m0 : 0 ≤ IntKind.u32.wrap m := by rw [wU32]; omega
  have m1 : IntKind.u32.wrap m ≤ 4294967295 := by rw [wU32]; omega
  cases hr : rtB 16 d x y m with
  | false =>
    rw [do_no (.inl hr), dk_no (.inl hr)]
    simp only [hr, h0, h1, h2, h3, m0, m1, decide_true, decide_false, cond_true, cond_false, pk_and, pk_or, pk3, pk4, Bool.not_true, Bool.not_false]
  | true =>
    have e1 : doI 16 d x y m a b = alW 16 a b := by
      unfold doI
      rw [hr, if_neg (by decide)]
      rfl
    have e2 : dkB 16 d x y m b = !decide (b = 0) := by
      unfold dkB
      rw [hr, if_neg (by decide)]
      simp
    rw [e1, e2]
    simp only [hr, h0, h1, h2, h3, m0, m1, decide_true, decide_false, cond_true, cond_false, pk_and, pk_or, pk3, pk4, Bool.not_true, Bool.not_false]
    by_cases hb : b = 0
    · subst hb
      rfl
    have hi : ¬ IntKind.i32.wrap b = 0 := fun h => hb ((i32_0 h2 h3).1 h)
    have hi2 : ¬ i32 b = 0 := hi
    simp only [hb, hi, hi2, not_false_eq_true, decide_not, decide_true, decide_false, cond_true, cond_false, pk_and, pk_or, pk3, pk4, Bool.not_true, Bool.not_false]
    refine conT2 (conI ?_) rfl
    simp only [alW, i32, hb, if_false, if_true, w32i32, w32w64, Int.reduceEq]
    rw [Int.tmod_eq_emod_of_nonneg h0]
theorem do2_17 {d x y m a b : Int} (h0 : 0 ≤ a) (h1 : a ≤ 4294967295) (h2 : 0 ≤ b) (h3 : b ≤ 4294967295) : Pure Try.prog 36 (cons [.agg 5 [.int .i64 17, .int .i64 d, .int .i64 x, .int .i64 y, .int .i64 m], .int .u32 a, .int .u32 b]) (con (.tup [.int .u32 (doI 17 d x y m a b), .bool (dkB 17 d x y m b)])) := by
  refine pureX (u := 80) (k := 20) mix (TA2ok 2) ?_
  rw [r_do2_17]
  have m0 : 0 ≤ IntKind.u32.wrap m := by rw [wU32]; omega
  have m1 : IntKind.u32.wrap m ≤ 4294967295 := by rw [wU32]; omega
  cases hr : rtB 17 d x y m with
  | false =>
    rw [do_no (.inl hr), dk_no (.inl hr)]
    simp only [hr, h0, h1, h2, h3, m0, m1, decide_true, decide_false, cond_true, cond_false, pk_and, pk_or, pk3, pk4, Bool.not_true, Bool.not_false]
  | true =>
    have e1 : doI 17 d x y m a b = alW 1 a (m % 4294967296) := by
      unfold doI
      rw [hr, if_neg (by decide)]
      rfl
    have e2 : dkB 17 d x y m b = true := by
      unfold dkB
      rw [hr, if_neg (by decide)]
      simp
    rw [e1, e2]
    simp only [hr, h0, h1, h2, h3, m0, m1, decide_true, decide_false, cond_true, cond_false, pk_and, pk_or, pk3, pk4, Bool.not_true, Bool.not_false]
    refine conT2 (conI ?_) rfl
    simp only [alW, i32, shA h2 h3, shB h2 h3, shA m0 m1, shB m0 m1, fdivP, fdivQ, w32w64, w64i32, w64mul, mul_mod, if_true, if_false, Int.reduceEq]
    try rw [wU32, mul_mod]
    try rfl
theorem do2_18 {d x y m a b : Int} (h0 : 0 ≤ a) (h1 : a ≤ 4294967295) (h2 : 0 ≤ b) (h3 : b ≤ 4294967295) : Pure Try.prog 36 (cons [.agg 5 [.int .i64 18, .int .i64 d, .int .i64 x, .int .i64 y, .int .i64 m], .int .u32 a, .int .u32 b]) (con (.tup [.int .u32 (doI 18 d x y m a b), .bool (dkB 18 d x y m b)])) := by
  refine pureX (u := 80) (k := 20) mix (TA2ok 2) ?_
  rw [r_do2_18]
  have m0 : 0 ≤ IntKind.u32.wrap m := by rw [wU32]; omega
  have m1 : IntKind.u32.wrap m ≤ 4294967295 := by rw [wU32]; omega
  cases hr : rtB 18 d x y m with
  | false =>
    rw [do_no (.inl hr), dk_no (.inl hr)]
    simp only [hr, h0, h1, h2, h3, m0, m1, decide_true, decide_false, cond_true, cond_false, pk_and, pk_or, pk3, pk4, Bool.not_true, Bool.not_false]
  | true =>
    have e1 : doI 18 d x y m a b = alW 3 a (m % 4294967296) := by
      unfold doI
      rw [hr, if_neg (by decide)]
      rfl
    have e2 : dkB 18 d x y m b = true := by
      unfold dkB
      rw [hr, if_neg (by decide)]
      simp
    rw [e1, e2]
    simp only [hr, h0, h1, h2, h3, m0, m1, decide_true, decide_false, cond_true, cond_false, pk_and, pk_or, pk3, pk4, Bool.not_true, Bool.not_false]
    refine conT2 (conI ?_) rfl
    simp only [alW, i32, shA h2 h3, shB h2 h3, shA m0 m1, shB m0 m1, fdivP, fdivQ, w32w64, w64i32, w64mul, mul_mod, if_true, if_false, Int.reduceEq]
    try rw [wU32, mul_mod]
    try rfl
theorem do2_19 {d x y m a b : Int} (h0 : 0 ≤ a) (h1 : a ≤ 4294967295) (h2 : 0 ≤ b) (h3 : b ≤ 4294967295) : Pure Try.prog 36 (cons [.agg 5 [.int .i64 19, .int .i64 d, .int .i64 x, .int .i64 y, .int .i64 m], .int .u32 a, .int .u32 b]) (con (.tup [.int .u32 (doI 19 d x y m a b), .bool (dkB 19 d x y m b)])) := by
  refine pureX (u := 80) (k := 20) mix (TA2ok 2) ?_
  rw [r_do2_19]
  have m0 : 0 ≤ IntKind.u32.wrap m := by rw [wU32]; omega
  have m1 : IntKind.u32.wrap m ≤ 4294967295 := by rw [wU32]; omega
  cases hr : rtB 19 d x y m with
  | false =>
    rw [do_no (.inl hr), dk_no (.inl hr)]
    simp only [hr, h0, h1, h2, h3, m0, m1, decide_true, decide_false, cond_true, cond_false, pk_and, pk_or, pk3, pk4, Bool.not_true, Bool.not_false]
  | true =>
    have e1 : doI 19 d x y m a b = alW 4 a (m % 4294967296) := by
      unfold doI
      rw [hr, if_neg (by decide)]
      rfl
    have e2 : dkB 19 d x y m b = true := by
      unfold dkB
      rw [hr, if_neg (by decide)]
      simp
    rw [e1, e2]
    simp only [hr, h0, h1, h2, h3, m0, m1, decide_true, decide_false, cond_true, cond_false, pk_and, pk_or, pk3, pk4, Bool.not_true, Bool.not_false]
    refine conT2 (conI ?_) rfl
    simp only [alW, i32, shA h2 h3, shB h2 h3, shA m0 m1, shB m0 m1, fdivP, fdivQ, w32w64, w64i32, w64mul, mul_mod, if_true, if_false, Int.reduceEq]
    try rw [wU32, mul_mod]
    try rfl
theorem do2_20 {d x y m a b : Int} (h0 : 0 ≤ a) (h1 : a ≤ 4294967295) (h2 : 0 ≤ b) (h3 : b ≤ 4294967295) : Pure Try.prog 36 (cons [.agg 5 [.int .i64 20, .int .i64 d, .int .i64 x, .int .i64 y, .int .i64 m], .int .u32 a, .int .u32 b]) (con (.tup [.int .u32 (doI 20 d x y m a b), .bool (dkB 20 d x y m b)])) := by
  refine pureX (u := 80) (k := 20) mix (TA2ok 2) ?_
  rw [r_do2_20]
  have m0 : 0 ≤ IntKind.u32.wrap m := by rw [wU32]; omega
  have m1 : IntKind.u32.wrap m ≤ 4294967295 := by rw [wU32]; omega
  cases hr : rtB 20 d x y m with
  | false =>
    rw [do_no (.inl hr), dk_no (.inl hr)]
    simp only [hr, h0, h1, h2, h3, m0, m1, decide_true, decide_false, cond_true, cond_false, pk_and, pk_or, pk3, pk4, Bool.not_true, Bool.not_false]
  | true =>
    have e1 : doI 20 d x y m a b = alW 5 a (m % 4294967296) := by
      unfold doI
      rw [hr, if_neg (by decide)]
      rfl
    have e2 : dkB 20 d x y m b = true := by
      unfold dkB
      rw [hr, if_neg (by decide)]
      simp
    rw [e1, e2]
    simp only [hr, h0, h1, h2, h3, m0, m1, decide_true, decide_false, cond_true, cond_false, pk_and, pk_or, pk3, pk4, Bool.not_true, Bool.not_false]
    refine conT2 (conI ?_) rfl
    simp only [alW, i32, shA h2 h3, shB h2 h3, shA m0 m1, shB m0 m1, fdivP, fdivQ, w32w64, w64i32, w64mul, mul_mod, if_true, if_false, Int.reduceEq]
    try rw [wU32, mul_mod]
    try rfl
theorem do2_21 {d x y m a b : Int} (h0 : 0 ≤ a) (h1 : a ≤ 4294967295) (h2 : 0 ≤ b) (h3 : b ≤ 4294967295) : Pure Try.prog 36 (cons [.agg 5 [.int .i64 21, .int .i64 d, .int .i64 x, .int .i64 y, .int .i64 m], .int .u32 a, .int .u32 b]) (con (.tup [.int .u32 (doI 21 d x y m a b), .bool (dkB 21 d x y m b)])) := by
  refine pureX (u := 80) (k := 20) mix (TA2ok 2) ?_
  rw [r_do2_21]
  have m0 : 0 ≤ IntKind.u32.wrap m := by rw [wU32]; omega
  have m1 : IntKind.u32.wrap m ≤ 4294967295 := by rw [wU32]; omega
  cases hr : rtB 21 d x y m with
  | false =>
    rw [do_no (.inl hr), dk_no (.inl hr)]
    simp only [hr, h0, h1, h2, h3, m0, m1, decide_true, decide_false, cond_true, cond_false, pk_and, pk_or, pk3, pk4, Bool.not_true, Bool.not_false]
  | true =>
    have e1 : doI 21 d x y m a b = alW 9 a (m % 4294967296) := by
      unfold doI
      rw [hr, if_neg (by decide)]
      rfl
    have e2 : dkB 21 d x y m b = true := by
      unfold dkB
      rw [hr, if_neg (by decide)]
      simp
    rw [e1, e2]
    simp only [hr, h0, h1, h2, h3, m0, m1, decide_true, decide_false, cond_true, cond_false, pk_and, pk_or, pk3, pk4, Bool.not_true, Bool.not_false]
    refine conT2 (conI ?_) rfl
    simp only [alW, i32, shA h2 h3, shB h2 h3, shA m0 m1, shB m0 m1, fdivP, fdivQ, w32w64, w64i32, w64mul, mul_mod, if_true, if_false, Int.reduceEq]
    try rw [wU32, mul_mod]
    try rfl
theorem do2_22 {d x y m a b : Int} (h0 : 0 ≤ a) (h1 : a ≤ 4294967295) (h2 : 0 ≤ b) (h3 : b ≤ 4294967295) : Pure Try.prog 36 (cons [.agg 5 [.int .i64 22, .int .i64 d, .int .i64 x, .int .i64 y, .int .i64 m], .int .u32 a, .int .u32 b]) (con (.tup [.int .u32 (doI 22 d x y m a b), .bool (dkB 22 d x y m b)])) := by
  refine pureX (u := 80) (k := 20) mix (TA2ok 2) ?_
  rw [r_do2_22]
  have m0 : 0 ≤ IntKind.u32.wrap m := by rw [wU32]; omega
  have m1 : IntKind.u32.wrap m ≤ 4294967295 := by rw [wU32]; omega
  cases hr : rtB 22 d x y m with
  | false =>
    rw [do_no (.inl hr), dk_no (.inl hr)]
    simp only [hr, h0, h1, h2, h3, m0, m1, decide_true, decide_false, cond_true, cond_false, pk_and, pk_or, pk3, pk4, Bool.not_true, Bool.not_false]
  | true =>
    have e1 : doI 22 d x y m a b = alW 6 a (m % 4294967296) := by
      unfold doI
      rw [hr, if_neg (by decide)]
      rfl
    have e2 : dkB 22 d x y m b = true := by
      unfold dkB
      rw [hr, if_neg (by decide)]
      simp
    rw [e1, e2]
    simp only [hr, h0, h1, h2, h3, m0, m1, decide_true, decide_false, cond_true, cond_false, pk_and, pk_or, pk3, pk4, Bool.not_true, Bool.not_false]
    refine conT2 (conI ?_) rfl
    simp only [alW, i32, shA h2 h3, shB h2 h3, shA m0 m1, shB m0 m1, fdivP, fdivQ, w32w64, w64i32, w64mul, mul_mod, if_true, if_false, Int.reduceEq]
    try rw [wU32, mul_mod]
    try rfl
theorem do2_23 {d x y m a b : Int} (h0 : 0 ≤ a) (h1 : a ≤ 4294967295) (h2 : 0 ≤ b) (h3 : b ≤ 4294967295) : Pure Try.prog 36 (cons [.agg 5 [.int .i64 23, .int .i64 d, .int .i64 x, .int .i64 y, .int .i64 m], .int .u32 a, .int .u32 b]) (con (.tup [.int .u32 (doI 23 d x y m a b), .bool (dkB 23 d x y m b)])) := by
  refine pureX (u := 80) (k := 20) mix (TA2ok 2) ?_
  rw [r_do2_23]
  have m0 : 0 ≤ IntKind.u32.wrap m := by rw [wU32]; omega
  have m1 : IntKind.u32.wrap m ≤ 4294967295 := by rw [wU32]; omega
  cases hr : rtB 23 d x y m with
  | false =>
    rw [do_no (.inl hr), dk_no (.inl hr)]
    simp only [hr, h0, h1, h2, h3, m0, m1, decide_true, decide_false, cond_true, cond_false, pk_and, pk_or, pk3, pk4, Bool.not_true, Bool.not_false]
  | true =>
    have e1 : doI 23 d x y m a b = alW 7 a (m % 4294967296) := by
      unfold doI
      rw [hr, if_neg (by decide)]
      rfl
    have e2 : dkB 23 d x y m b = true := by
      unfold dkB
      rw [hr, if_neg (by decide)]
      simp
    rw [e1, e2]
    simp only [hr, h0, h1, h2, h3, m0, m1, decide_true, decide_false, cond_true, cond_false, pk_and, pk_or, pk3, pk4, Bool.not_true, Bool.not_false]
    refine conT2 (conI ?_) rfl
    simp only [alW, i32, shA h2 h3, shB h2 h3, shA m0 m1, shB m0 m1, fdivP, fdivQ, w32w64, w64i32, w64mul, mul_mod, if_true, if_false, Int.reduceEq]
    try rw [wU32, mul_mod]
    try rfl
theorem do2_24 {d x y m a b : Int} (h0 : 0 ≤ a) (h1 : a ≤ 4294967295) (h2 : 0 ≤ b) (h3 : b ≤ 4294967295) : Pure Try.prog 36 (cons [.agg 5 [.int .i64 24, .int .i64 d, .int .i64 x, .int .i64 y, .int .i64 m], .int .u32 a, .int .u32 b]) (con (.tup [.int .u32 (doI 24 d x y m a b), .bool (dkB 24 d x y m b)])) := by
  refine pureX (u := 80) (k := 20) mix (TA2ok 2) ?_
  rw [r_do2_24]
  have m0 : 0 ≤ IntKind.u32.wrap m := by rw [wU32]; omega
  have m1 : IntKind.u32.wrap m ≤ 4294967295 := by rw [wU32]; omega
  cases hr : rtB 24 d x y m with
  | false =>
    rw [do_no (.inl hr), dk_no (.inl hr)]
    simp only [hr, h0, h1, h2, h3, m0, m1, decide_true, decide_false, cond_true, cond_false, pk_and, pk_or, pk3, pk4, Bool.not_true, Bool.not_false]
  | true =>
    have e1 : doI 24 d x y m a b = alW 8 a (m % 4294967296) := by
      unfold doI
      rw [hr, if_neg (by decide)]
      rfl
    have e2 : dkB 24 d x y m b = true := by
      unfold dkB
      rw [hr, if_neg (by decide)]
      simp
    rw [e1, e2]
    simp only [hr, h0, h1, h2, h3, m0, m1, decide_true, decide_false, cond_true, cond_false, pk_and, pk_or, pk3, pk4, Bool.not_true, Bool.not_false]
    refine conT2 (conI ?_) rfl
    simp only [alW, i32, shA h2 h3, shB h2 h3, shA m0 m1, shB m0 m1, fdivP, fdivQ, w32w64, w64i32, w64mul, mul_mod, if_true, if_false, Int.reduceEq]
    try rw [wU32, mul_mod]
    try rfl
theorem do2_25 {d x y m a b : Int} (h0 : 0 ≤ a) (h1 : a ≤ 4294967295) (h2 : 0 ≤ b) (h3 : b ≤ 4294967295) : Pure Try.prog 36 (cons [.agg 5 [.int .i64 25, .int .i64 d, .int .i64 x, .int .i64 y, .int .i64 m], .int .u32 a, .int .u32 b]) (con (.tup [.int .u32 (doI 25 d x y m a b), .bool (dkB 25 d x y m b)])) := by
  refine pureX (u := 80) (k := 20) mix (TA2ok 3) ?_
  rw [r_do2_25]
  have m0 : 0 ≤ IntKind.u32.wrap m := by rw [wU32]; omega
  have m1 : IntKind.u32.wrap m ≤ 4294967295 := by rw [wU32]; omega
  cases hr : rtB 25 d x y m with
  | false =>
    rw [do_no (.inl hr), dk_no (.inl hr)]
    simp only [hr, h0, h1, h2, h3, m0, m1, decide_true, decide_false, cond_true, cond_false, pk_and, pk_or, pk3, pk4, Bool.not_true, Bool.not_false]
  | true =>
    have e1 : doI 25 d x y m a b = (m * 262144) % 4294967296 := by
      unfold doI
      rw [hr, if_neg (by decide)]
      rfl
    have e2 : dkB 25 d x y m b = true := by
      unfold dkB
      rw [hr, if_neg (by decide)]
      simp
    rw [e1, e2]
    simp only [hr, h0, h1, h2, h3, m0, m1, decide_true, decide_false, cond_true, cond_false, pk_and, pk_or, pk3, pk4, Bool.not_true, Bool.not_false]
    refine conT2 (conI ?_) rfl
    try rw [w32w64]
    try rw [wU32, wU32]; omega
theorem dox2_0 {op d x y m a b : Int} (hf : fmI op = 0) : Pure Try.prog 36 (cons [.agg 5 [.int .i64 op, .int .i64 d, .int .i64 x, .int .i64 y, .int .i64 m], .int .u32 a, .int .u32 b]) (con (.tup [.int .u32 (doI op d x y m a b), .bool (dkB op d x y m b)])) := by
  refine pureX (u := 80) (k := 20) mix (TA2ok 0) ?_
  rw [r_dox2_0]
  have hr : rtB op d x y m = false := by unfold rtB rtP; rw [hf]; simp
  rw [do_no (.inl hr), dk_no (.inl hr)]
  simp only [hf, hr, decide_true, decide_false, cond_true, cond_false, pk_and, pk_or, pk3, pk4, Bool.not_true, Bool.not_false]
theorem dox2_4 {op d x y m a b : Int} (hf : fmI op = 4) : Pure Try.prog 36 (cons [.agg 5 [.int .i64 op, .int .i64 d, .int .i64 x, .int .i64 y, .int .i64 m], .int .u32 a, .int .u32 b]) (con (.tup [.int .u32 (doI op d x y m a b), .bool (dkB op d x y m b)])) := by
  refine pureX (u := 80) (k := 20) mix (TA2ok 4) ?_
  rw [r_dox2_4]
  rw [do_no (.inr (by omega)), dk_no (.inr (by omega))]
  cases hr : rtB op d x y m <;> simp only [hf, hr, decide_true, decide_false, cond_true, cond_false, pk_and, pk_or, pk3, pk4, Bool.not_true, Bool.not_false]
theorem dox2_5 {op d x y m a b : Int} (hf : fmI op = 5) : Pure Try.prog 36 (cons [.agg 5 [.int .i64 op, .int .i64 d, .int .i64 x, .int .i64 y, .int .i64 m], .int .u32 a, .int .u32 b]) (con (.tup [.int .u32 (doI op d x y m a b), .bool (dkB op d x y m b)])) := by
  refine pureX (u := 80) (k := 20) mix (TA2ok 5) ?_
  rw [r_dox2_5]
  rw [do_no (.inr (by omega)), dk_no (.inr (by omega))]
  cases hr : rtB op d x y m <;> simp only [hf, hr, decide_true, decide_false, cond_true, cond_false, pk_and, pk_or, pk3, pk4, Bool.not_true, Bool.not_false]
theorem dox2_6 {op d x y m a b : Int} (hf : fmI op = 6) : Pure Try.prog 36 (cons [.agg 5 [.int .i64 op, .int .i64 d, .int .i64 x, .int .i64 y, .int .i64 m], .int .u32 a, .int .u32 b]) (con (.tup [.int .u32 (doI op d x y m a b), .bool (dkB op d x y m b)])) := by
  refine pureX (u := 80) (k := 20) mix (TA2ok 6) ?_
  rw [r_dox2_6]
  rw [do_no (.inr (by omega)), dk_no (.inr (by omega))]
  cases hr : rtB op d x y m <;> simp only [hf, hr, decide_true, decide_false, cond_true, cond_false, pk_and, pk_or, pk3, pk4, Bool.not_true, Bool.not_false]
theorem dox2_7 {op d x y m a b : Int} (hf : fmI op = 7) : Pure Try.prog 36 (cons [.agg 5 [.int .i64 op, .int .i64 d, .int .i64 x, .int .i64 y, .int .i64 m], .int .u32 a, .int .u32 b]) (con (.tup [.int .u32 (doI op d x y m a b), .bool (dkB op d x y m b)])) := by
  refine pureX (u := 80) (k := 20) mix (TA2ok 7) ?_
  rw [r_dox2_7]
  rw [do_no (.inr (by omega)), dk_no (.inr (by omega))]
  cases hr : rtB op d x y m <;> simp only [hf, hr, decide_true, decide_false, cond_true, cond_false, pk_and, pk_or, pk3, pk4, Bool.not_true, Bool.not_false]
theorem dox2_8 {op d x y m a b : Int} (hf : fmI op = 8) : Pure Try.prog 36 (cons [.agg 5 [.int .i64 op, .int .i64 d, .int .i64 x, .int .i64 y, .int .i64 m], .int .u32 a, .int .u32 b]) (con (.tup [.int .u32 (doI op d x y m a b), .bool (dkB op d x y m b)])) := by
  refine pureX (u := 80) (k := 20) mix (TA2ok 8) ?_
  rw [r_dox2_8]
  rw [do_no (.inr (by omega)), dk_no (.inr (by omega))]
  cases hr : rtB op d x y m <;> simp only [hf, hr, decide_true, decide_false, cond_true, cond_false, pk_and, pk_or, pk3, pk4, Bool.not_true, Bool.not_false]
theorem doA2 {op d x y m a b : Int} (h0 : 0 ≤ a) (h1 : a ≤ 4294967295) (h2 : 0 ≤ b) (h3 : b ≤ 4294967295) : Pure Try.prog 36 (cons [.agg 5 [.int .i64 op, .int .i64 d, .int .i64 x, .int .i64 y, .int .i64 m], .int .u32 a, .int .u32 b]) (con (.tup [.int .u32 (doI op d x y m a b), .bool (dkB op d x y m b)])) := by
  rcases fm_in op with h | h | h | h | h | h | h | h | h
  · exact dox2_0 h
  · have := fm1 h
    have hc : op = 1 ∨ op = 2 ∨ op = 3 ∨ op = 4 ∨ op = 5 ∨ op = 6 ∨ op = 7 ∨ op = 8 ∨ op = 9 ∨ op = 10 ∨ op = 11 ∨ op = 12 ∨ op = 13 ∨ op = 14 ∨ op = 15 ∨ op = 16 := by omega
    rcases hc with rfl | rfl | rfl | rfl | rfl | rfl | rfl | rfl | rfl | rfl | rfl | rfl | rfl | rfl | rfl | rfl
    · exact do2_1 h0 h1 h2 h3
    · exact do2_2 h0 h1 h2 h3
    · exact do2_3 h0 h1 h2 h3
    · exact do2_4 h0 h1 h2 h3
    · exact do2_5 h0 h1 h2 h3
    · exact do2_6 h0 h1 h2 h3
    · exact do2_7 h0 h1 h2 h3
    · exact do2_8 h0 h1 h2 h3
    · exact do2_9 h0 h1 h2 h3
    · exact do2_10 h0 h1 h2 h3
    · exact do2_11 h0 h1 h2 h3
    · exact do2_12 h0 h1 h2 h3
    · exact do2_13 h0 h1 h2 h3
    · exact do2_14 h0 h1 h2 h3
    · exact do2_15 h0 h1 h2 h3
    · exact do2_16 h0 h1 h2 h3
  · have := fm2 h
    have hc : op = 17 ∨ op = 18 ∨ op = 19 ∨ op = 20 ∨ op = 21 ∨ op = 22 ∨ op = 23 ∨ op = 24 := by omega
    rcases hc with rfl | rfl | rfl | rfl | rfl | rfl | rfl | rfl
    · exact do2_17 h0 h1 h2 h3
    · exact do2_18 h0 h1 h2 h3
    · exact do2_19 h0 h1 h2 h3
    · exact do2_20 h0 h1 h2 h3
    · exact do2_21 h0 h1 h2 h3
    · exact do2_22 h0 h1 h2 h3
    · exact do2_23 h0 h1 h2 h3
    · exact do2_24 h0 h1 h2 h3
  · have := fm3 h
    subst this
    exact do2_25 h0 h1 h2 h3
  · exact dox2_4 h
  · exact dox2_5 h
  · exact dox2_6 h
  · exact dox2_7 h
  · exact dox2_8 h
theorem sp_do2 : SpOk Try.prog (36, doSp) := fun args nd v h hn => by
  simp only [doSp] at h
  split at h
  · simp only [Option.some.injEq, Prod.mk.injEq] at h
    obtain ⟨rfl, rfl⟩ := h
    simp only [allT_cons, decide_eq_true_eq] at hn
    exact doA2 hn.1 hn.2.1 hn.2.2.1 hn.2.2.2.1
  · cases h
end Go.Proofs.Ytmfbaglhmiadjaa.Alu

/- Branches, what shows that the layer is there, and the tables of the laws. -/
namespace Go.Proofs.Ytmfbaglhmiadjaa.Alu
open Go.Ra
set_option linter.unusedVariables false
set_option linter.unusedSimpArgs false
/-- Is a branch taken? -/
def tkB (op a b : Int) : Bool :=
  if op = 34 then decide (a = b) else if op = 35 then !decide (a = b) else if op = 36 then decide (i32 a < i32 b) else if op = 37 then !decide (i32 a < i32 b)
  else if op = 38 then decide (a < b) else if op = 39 then !decide (a < b) else false
def tkSp : List XV → Option (List Bool × XV)
  | [.int .i64 op, .int .u32 a, .int .u32 b] => some ([decide (0 ≤ a), decide (a ≤ 4294967295), decide (0 ≤ b), decide (b ≤ 4294967295)], .bool (tkB op a b))
  | _ => none
theorem r_tk1 (op a b : Int) (K : XV → Prop) : (quietGo (TA2 0) 80 (callI (TA2 0) 80 20) 53 [.int .i64 op, .int .u32 a, .int .u32 b] K) = (bif decide (op = 34) then K (.bool (decide (a = b)))
else bif decide (op = 35) then K (.bool (decide ¬a = b)) else bif decide (op = 36) then K (.bool (decide
 (IntKind.wrap .i32 a < IntKind.wrap .i32 b))) else bif decide (op = 37) then K (.bool (decide (IntKind.wrap .i32 a ≥ IntKind.wrap .i32 b))) else bif decide (op =
 38) then K (.bool (decide (a < b))) else bif decide (op = 39) then K (.bool (decide (a ≥ b))) else K (.bool false)) := by kernel_rfl
theorem r_tk2 (op a b : Int) (K : XV → Prop) : (quietGo (TA2 0) 80 (callI (TA2 0) 80 20) 39 [.int .i64 op, .int .u32 a, .int .u32 b] K) = (bif decide (op = 34) then K (.bool (decide (a = b)))
else bif decide (op = 35) then K (.bool (decide ¬a = b)) else bif decide (op = 36) then bif decide (0 ≤
 a) then bif decide (a ≤ 4294967295) then bif decide (0 ≤ b) then bif decide (b ≤ 4294967295) then K (.bool (decide (i32 a < i32 b))) else False else False else False
 else False else bif decide (op = 37) then bif decide (0 ≤ a) then bif decide (a ≤ 4294967295) then bif decide (0 ≤ b) then bif decide (b ≤ 4294967295) then K (.bool
 (decide (i32 a ≥ i32 b))) else False else False else False else False else bif decide (op = 38) then K (.bool (decide (a < b))) else bif decide (op = 39) then K
 (.bool (decide (a ≥ b))) else K (.bool false)) := by kernel_rfl
theorem tk1 {op a b : Int} (h0 : 0 ≤ a) (h1 : a ≤ 4294967295) (h2 : 0 ≤ b) (h3 : b ≤ 4294967295) : Pure Try.prog 53 (cons [.int .i64 op, .int .u32 a, .int .u32 b]) (con (.bool (tkB op a b))) := by
  refine pureX (u := 80) (k := 20) mix (TA2ok 0) ?_
  rw [r_tk1]
  try simp only [h0, h1, h2, h3, decide_true, cond_true, pk_or, pk_and]
  unfold tkB i32
  by_cases g34 : op = 34
  · subst g34
    simp [← Int.not_lt]
  by_cases g35 : op = 35
  · subst g35
    simp [← Int.not_lt]
  by_cases g36 : op = 36
  · subst g36
    simp [← Int.not_lt]
  by_cases g37 : op = 37
  · subst g37
    simp [← Int.not_lt]
  by_cases g38 : op = 38
  · subst g38
    simp [← Int.not_lt]
  by_cases g39 : op = 39
  · subst g39
    simp [← Int.not_lt]
  simp [g34, g35, g36, g37, g38, g39]
theorem sp_tk1 : SpOk Try.prog (53, tkSp) := fun args nd v h hn => by
  simp only [tkSp] at h
  split at h
  · simp only [Option.some.injEq, Prod.mk.injEq] at h
    obtain ⟨rfl, rfl⟩ := h
    simp only [allT_cons, decide_eq_true_eq] at hn
    exact tk1 hn.1 hn.2.1 hn.2.2.1 hn.2.2.2.1
  · cases h
theorem tk2 {op a b : Int} (h0 : 0 ≤ a) (h1 : a ≤ 4294967295) (h2 : 0 ≤ b) (h3 : b ≤ 4294967295) : Pure Try.prog 39 (cons [.int .i64 op, .int .u32 a, .int .u32 b]) (con (.bool (tkB op a b))) := by
  refine pureX (u := 80) (k := 20) mix (TA2ok 0) ?_
  rw [r_tk2]
  try simp only [h0, h1, h2, h3, decide_true, cond_true, pk_or, pk_and]
  unfold tkB i32
  by_cases g34 : op = 34
  · subst g34
    simp [← Int.not_lt]
  by_cases g35 : op = 35
  · subst g35
    simp [← Int.not_lt]
  by_cases g36 : op = 36
  · subst g36
    simp [← Int.not_lt]
  by_cases g37 : op = 37
  · subst g37
    simp [← Int.not_lt]
  by_cases g38 : op = 38
  · subst g38
    simp [← Int.not_lt]
  by_cases g39 : op = 39
  · subst g39
    simp [← Int.not_lt]
  simp [g34, g35, g36, g37, g38, g39]
theorem sp_tk2 : SpOk Try.prog (39, tkSp) := fun args nd v h hn => by
  simp only [tkSp] at h
  split at h
  · simp only [Option.some.injEq, Prod.mk.injEq] at h
    obtain ⟨rfl, rfl⟩ := h
    simp only [allT_cons, decide_eq_true_eq] at hn
    exact tk2 hn.1 hn.2.1 hn.2.2.1 hn.2.2.2.1
  · cases h
theorem one_rng (b : Bool) : 0 ≤ oneI b ∧ oneI b ≤ 1 := by cases b <;> decide
theorem mod_rng (n : Int) : 0 ≤ n % 4294967296 ∧ n % 4294967296 ≤ 4294967295 := by omega
theorem ite_rng {c : Prop} [Decidable c] {x y : Int} (h1 : c → 0 ≤ x ∧ x ≤ 4294967295) (h2 : ¬ c → 0 ≤ y ∧ y ≤ 4294967295) : 0 ≤ (if c then x else y) ∧ (if c then x else y) ≤ 4294967295 := by
  by_cases h : c
  · rw [if_pos h]; exact h1 h
  · rw [if_neg h]; exact h2 h
theorem alW_rng (p : Int) {a b : Int} (h0 : 0 ≤ a) (h1 : a ≤ 4294967295) (h2 : 0 ≤ b) (h3 : b ≤ 4294967295) : 0 ≤ alW p a b ∧ alW p a b ≤ 4294967295 := by
  obtain ⟨A, rfl⟩ := Int.eq_ofNat_of_zero_le h0
  obtain ⟨B, rfl⟩ := Int.eq_ofNat_of_zero_le h2
  have hA : A < 4294967296 := by omega
  have hB : B < 4294967296 := by omega
  have g1 := and_lt (B := B) hA
  have g2 := or_lt hA hB
  have g3 := xor_lt hA hB
  have g4 := one_rng (decide (i32 (A : Int) < i32 (B : Int)))
  have g5 := one_rng (decide ((A : Int) < (B : Int)))
  have g6 : 0 ≤ (A : Int) / 2 ^ ((B : Int) % 32).toNat := Int.ediv_nonneg h0 (Int.pow_nonneg (by omega))
  have g7 : (A : Int) / 2 ^ ((B : Int) % 32).toNat ≤ A := Int.ediv_le_self _ h0
  have g8 := udiv_rng (b := (B : Int)) h0 h1 h2
  unfold alW
  rw [bAnd hA hB, bOr hA hB, bXor hA hB]
  repeat' refine ite_rng (fun _ => ?_) (fun _ => ?_)
  all_goals first | exact mod_rng _ | omega | exact umod_rng h0 h1 (by omega) h3
end Go.Proofs.Ytmfbaglhmiadjaa.Alu

/- One step of a program, plainly, and as the document tells it. -/
namespace Go.Proofs.Ytmfbaglhmiadjaa
open Go.Ra
set_option linter.unusedVariables false
set_option linter.unusedSimpArgs false
def T_Rslt : Ty := .agg 23 [.int .i64, T_Trp, .int .i64, .arr 16 1 (.int .u32), .slice 1 1 (.int .u8), .slice 3 24 T_Wr]
def rsWf (s : Rslt) : Prop := i64R s.fin ∧ s.trap.wf ∧ i64R s.steps ∧ (∀ i, i < 16 → u32R (s.regs i)) ∧ ((∀ x ∈ s.mem, u8R x) ∧ s.mem.length * 1 ≤ 140737488351232) ∧ ((∀ x ∈ s.writes, x.wf) ∧ s.writes.length * 24 ≤ 140737488351232)
/-- A result that is not too long. -/
def rsOk (s : Rslt) : Prop := rsWf s ∧ s.mem.length ≤ 1000000 ∧ s.writes.length ≤ 1000000
def valF (g : Nat → Int) (n : Int) : Int := if n = 0 then 0 else g n.toNat
def valS : List XV → Option ((XV → Prop) → Prop) := skOf (fun q : (Nat → Int) × Int => [.tab 16 1 (fun i => .int .u32 (q.1 i)), .int .i64 q.2]) (fun q => 0 ≤ q.2 ∧ q.2 ≤ 15) (fun q => valF q.1 q.2) (fun y => .int .u32 y)
def TS0 : Tab := mkT2 qq cl_ref1 [] [] [] []
def cprS : List XV → Option ((XV → Prop) → Prop) := skOf (fun r : Rslt => [e_Rslt r]) (fun r => rsOk r) (fun r => r) (fun y => e_Rslt y)
def trapF (r : Rslt) (k pc : Int) : Rslt := { r with fin := 2, trap := ⟨k, r.steps, pc⟩ }
def setF (r : Rslt) (d v : Int) : Rslt := { r with regs := fun i => bif (!decide (d = 0) && Nat.beq i d.toNat) then v else r.regs i }
def tickF (r : Rslt) : Rslt := { r with steps := IntKind.i64.wrap (r.steps + 1) }
def adrF (r : Rslt) (i : Ins) : Int := IntKind.u32.wrap (valF r.regs i.a + IntKind.u32.wrap i.imm)
def stoR (r : Rslt) (a s v : Int) : Rslt := { r with mem := stoF r.mem ⟨a, s, v⟩, writes := r.writes ++ [⟨a, s, v⟩] }
def loadF (m : List Int) (op a : Int) : Int := loadI m.length (fun i => e_u8 (ix m i)) op a
/-- What an instruction leaves, and where it goes on. -/
def insF (i : Ins) (r : Rslt) (pc : Int) : Rslt × Int :=
  if (formI i.op = 4 ∨ formI i.op = 5) ∧ ¬ chkI (szI i.op) (adrF r i) r.mem.length = 0 then (trapF r (chkI (szI i.op) (adrF r i) r.mem.length) pc, pc)
  else if formI i.op = 4 then (tickF (setF r i.d (loadF r.mem i.op (adrF r i))), IntKind.i64.wrap (pc + 1))
  else if formI i.op = 5 then (tickF (stoR r (adrF r i) (szI i.op) (mskI (valF r.regs i.b) (szI i.op))), IntKind.i64.wrap (pc + 1))
  else if formI i.op = 6 then (tickF r, if Alu.tkB i.op (valF r.regs i.a) (valF r.regs i.b) then IntKind.i64.wrap (pc + i.imm) else IntKind.i64.wrap (pc + 1))
  else if formI i.op = 7 then (tickF r, IntKind.i64.wrap (pc + i.imm))
  else if formI i.op = 8 then ({ tickF r with fin := 1 }, pc)
  else if Alu.dkB i.op i.d i.a i.b i.imm (valF r.regs i.b) = false then (trapF r 3 pc, pc)
  else (tickF (setF r i.d (Alu.doI i.op i.d i.a i.b i.imm (valF r.regs i.a) (valF r.regs i.b))), IntKind.i64.wrap (pc + 1))
/-- A step of a program. -/
def stpF (p : Prog) (r : Rslt) (pc : Int) : Rslt × Int :=
  if ¬ r.fin = 0 ∨ rightProg p = false ∨ ¬ (r.mem.length : Int) = p.size then (r, pc)
  else if pc < 0 ∨ pc ≥ p.code.length then (trapF r 4 pc, pc) else insF (ix p.code pc.toNat) r pc
def e_RI (y : Rslt × Int) : XV := .tup [e_Rslt y.1, .int .i64 y.2]
def stpS : List XV → Option ((XV → Prop) → Prop) := skOf (fun q : Prog × Rslt × Int => [e_Prog q.1, e_Rslt q.2.1, .int .i64 q.2.2]) (fun q => q.1.wf ∧ rsOk q.2.1 ∧ q.2.1.writes.length ≤ 999999) (fun q => stpF q.1 q.2.1 q.2.2) e_RI
def TS1 : Tab := mkT2 qq cl_ref1 [(26, formSp), (35, szSp), (15, chkSp), (16, mskSp), (38, loadSp), (36, Alu.doSp), (39, Alu.tkSp)] [] [(12, rprS), (34, valS)] [(17, stoM)]
theorem TS0ok : TabOk Try.prog TS0 := mkT2_ok clok_ref1 trivial trivial trivial trivial
theorem r_val (g : Nat → Int) (n : Int) (r : XV) : (quietGo TS0 80 (callI TS0 80 20) 34 [.tab 16 1 (fun i => .int .u32 (g i)), .int .i64 n] (fun v => ResLe v r)) = (let q1 : Nat := Int.toNat n * 1;
bif decide (n = 0) then ResLe (.int .u32 0) r
else bif decide (0 ≤ n) then bif decide (n < 16) then bif Nat.beq q1 q1 then bif
 decide (Int.toNat n < 16) then ResLe (.int .u32 (g (Int.toNat n))) r else False else False else False else False) := by kernel_rfl
theorem r_cpr (s : Rslt) (r : XV) : (goQ Try.prog TS0 [(.cell 2 .true 23)] r (.run c_ref1_Copy) [] ⟨envX 0 [e_Rslt s], [], 0⟩) = (bif decide (List.length (Rslt.mem s) * 1 ≤ 140737488355328) then bif decide (List.length (Rslt.writes s) * 24 ≤ 140737488355328) then bif decide (List.length
 (Rslt.mem s) ≤ List.length (Rslt.mem s)) then bif decide (List.length (Rslt.writes s) ≤ List.length (Rslt.writes s)) then ResLe (e_Rslt s) r else False else False
 else False
else False) := by kernel_rfl
theorem r_stp (p : Prog) (s : Rslt) (pc : Int) (r : XV) : (quietGo TS1 80 (callI TS1 80 20) 22 [e_Prog p, e_Rslt s, .int .i64 pc] (fun v => ResLe v r)) = (let q1 : Bool := decide ¬Rslt.fin s = 0;
let q2 : Bool → Bool := fun y => bif q1 then true else !y;
let q3 : Int := (↑(pl 0 (List.length (Rslt.mem s))) : Int);
let
 q4 : Bool := decide (List.length (Rslt.mem s) ≤ List.length (Rslt.mem s));
let q5 : Bool := decide (List.length (Rslt.writes s) ≤ List.length (Rslt.writes s));
let
 q6 : XV := .tup [e_Rslt s, .int .i64 pc];
let q7 : Bool := decide (pc < 0);
let q8 : List XV := [.int .i64 (Rslt.steps s), .int .i64 pc];
let q9 : XV := .tab 16
 1 fun i => .int .u32 (Rslt.regs s i);
let q10 : List XV := [e_row 1 e_u8 (Rslt.mem s), e_row 3 e_Wr (Rslt.writes s)];
let q11 : List XV := q9 :: q10;
let q12 : List
 XV := .int .i64 (Rslt.steps s) :: q11;
let q13 : (Nat → Int) × Int → List XV := fun (s : (Nat → Int) × Int) => [.tab 16 1 fun i => .int .u32 (Prod.fst s i), .int
 .i64 (Prod.snd s)];
let q14 : (Nat → Int) × Int → Int := fun (s : (Nat → Int) × Int) => valF (Prod.fst s) (Prod.snd s);
let q15 : Bool := decide (formI (Ins.op (ix
 (Prog.code p) (Int.toNat pc))) = 4);
let q16 : Bool := decide (formI (Ins.op (ix (Prog.code p) (Int.toNat pc))) = 5);
let q17 : Int → Int := fun y => IntKind.wrap
 .u32 (y + IntKind.wrap .u32 (Ins.imm (ix (Prog.code p) (Int.toNat pc))));
let q18 : Int → Int := fun y => chkI (szI (Ins.op (ix (Prog.code p) (Int.toNat pc)))) (q17
 y) (Prog.size p);
let q19 : Bool := decide (formI (Ins.op (ix (Prog.code p) (Int.toNat pc))) = 1);
let q20 : Int → Bool := fun y => decide (0 ≤ y);
let q21 : Int
 → Bool := fun y => decide (y ≤ 4294967295);
let q22 : Int → Bool := fun y => !Alu.dkB (Ins.op (ix (Prog.code p) (Int.toNat pc))) (Ins.d (ix (Prog.code p) (Int.toNat
 pc))) (Ins.a (ix (Prog.code p) (Int.toNat pc))) (Ins.b (ix (Prog.code p) (Int.toNat pc))) (Ins.imm (ix (Prog.code p) (Int.toNat pc))) y;
let q23 : XV := .tup [.agg
 23 (.int .i64 2 :: .agg 3 (.int .i64 3 :: q8) :: q12), .int .i64 pc];
let q24 : Bool := decide ¬Ins.d (ix (Prog.code p) (Int.toNat pc)) = 0;
let q25 : Bool := decide
 (0 ≤ Ins.d (ix (Prog.code p) (Int.toNat pc)));
let q26 : Bool := decide (Ins.d (ix (Prog.code p) (Int.toNat pc)) < 16);
let q27 : Nat := pl 5 (Int.toNat (Ins.d (ix
 (Prog.code p) (Int.toNat pc))) * 1);
let q28 : Bool := Nat.beq q27 q27;
let q29 : Bool := decide (Int.toNat (Ins.d (ix (Prog.code p) (Int.toNat pc))) < 16);
let
 q30 : Bool := decide (Rslt.fin s = 1);
let q31 : XV := .int .i64 (IntKind.wrap .i64 (Rslt.steps s + (1 : Int)));
let q32 : Int → Int → XV := fun (y y_1 : Int) =>
 .agg 23 (.int .i64 (Rslt.fin s) :: e_Trp (Rslt.trap s) :: q31 :: (.tab 16 1 fun j => .int .u32 (bif Nat.beq j (Int.toNat (Ins.d (ix (Prog.code p) (Int.toNat pc))))
 then Alu.doI (Ins.op (ix (Prog.code p) (Int.toNat pc))) (Ins.d (ix (Prog.code p) (Int.toNat pc))) (Ins.a (ix (Prog.code p) (Int.toNat pc))) (Ins.b (ix (Prog.code
 p) (Int.toNat pc))) (Ins.imm (ix (Prog.code p) (Int.toNat pc))) y y_1 else Rslt.regs s j)) :: q10);
let q33 : Int → Int → XV := fun (y y_1 : Int) => .tup [q32 y
 y_1, .int .i64 pc];
let q34 : List XV := [.int .i64 (IntKind.wrap .i64 (pc + (1 : Int)))];
let q35 : Int → Int → XV := fun (y y_1 : Int) => .tup (q32 y y_1 :: q34);
let
 q36 : List XV := e_Trp (Rslt.trap s) :: q31 :: q11;
let q37 : XV := .agg 23 (.int .i64 (Rslt.fin s) :: q36);
let q38 : XV := .tup [q37, .int .i64 pc];
let q39 :
 XV := .tup (q37 :: q34);
let q40 : Bool := decide (List.length (Rslt.mem s) ≤ 1099511627776);
let q41 : Bool := rngB (List.length (Rslt.mem s)) fun i => e_u8 (ix
 (Rslt.mem s) i);
let q42 : Int → Bool := fun y => decide (0 ≤ q17 y);
let q43 : Int → Bool := fun y => decide (q17 y ≤ 4294967295);
let q44 : Int → XV := fun y =>
 .agg 23 (.int .i64 (Rslt.fin s) :: e_Trp (Rslt.trap s) :: q31 :: (.tab 16 1 fun j => .int .u32 (bif Nat.beq j (Int.toNat (Ins.d (ix (Prog.code p) (Int.toNat pc))))
 then loadI (List.length (Rslt.mem s)) (fun i => e_u8 (ix (Rslt.mem s) i)) (Ins.op (ix (Prog.code p) (Int.toNat pc))) (q17 y) else Rslt.regs s j)) :: q10);
let q45
 : Int → XV := fun y => .tup [q44 y, .int .i64 pc];
let q46 : Int → XV := fun y => .tup (q44 y :: q34);
let q47 : Int → Int := fun y => IntKind.wrap .i64 (q17 y);
let
 q48 : Int → Int → List XV := fun (y y_1 : Int) => [e_row 1 e_u8 (Rslt.mem s), .agg 3 [.int .i64 (q47 y), .int .i64 (szI (Ins.op (ix (Prog.code p) (Int.toNat pc)))),
 .int .u32 (mskI y_1 (szI (Ins.op (ix (Prog.code p) (Int.toNat pc)))))]];
let q49 : List Int × Wr → List XV := fun (s : List Int × Wr) => [e_row 1 e_u8 (Prod.fst
 s), e_Wr (Prod.snd s)];
let q50 : Nat := pl (pl 0 (List.length (Rslt.writes s))) (List.length [AX.t 154]);
let q51 : Bool := decide (pl (List.length (Rslt.writes
 s)) 1 * 24 ≤ 140737488355328);
let q52 : List Int → Bool := fun (y : List Int) => decide (List.length y ≤ List.length y);
let q53 : Bool := decide (pl (List.length
 (Rslt.writes s)) 1 ≤ pl (List.length (Rslt.writes s)) 1);
let q54 : Nat → Bool := fun i => decide (i < List.length (Rslt.writes s));
let q55 : List Int → Int → Int
 → XV := fun (y : List Int) (y_1 y_2 : Int) => .agg 23 [.int .i64 (Rslt.fin s), e_Trp (Rslt.trap s), q31, q9, e_row 1 e_u8 y, .row false 3 (pl (List.length (Rslt.writes
 s)) 1) fun i => .agg 3 [.int .i64 (bif q54 i then Wr.addr (ix (Rslt.writes s) i) else q47 y_1), .int .i64 (bif q54 i then Wr.size (ix (Rslt.writes s) i) else szI
 (Ins.op (ix (Prog.code p) (Int.toNat pc)))), .int .u32 (bif q54 i then Wr.val (ix (Rslt.writes s) i) else mskI y_2 (szI (Ins.op (ix (Prog.code p) (Int.toNat pc)))))]];
let
 q56 : List Int → Int → Int → XV := fun (y : List Int) (y_1 y_2 : Int) => .tup [q55 y y_1 y_2, .int .i64 pc];
let q57 : List Int → Int → Int → XV := fun (y : List
 Int) (y_1 y_2 : Int) => .tup (q55 y y_1 y_2 :: q34);
let q58 : Bool := decide (formI (Ins.op (ix (Prog.code p) (Int.toNat pc))) = 6);
let q59 : XV := .tup [q37,
 .int .i64 (IntKind.wrap .i64 (pc + Ins.imm (ix (Prog.code p) (Int.toNat pc))))];
let q60 : Bool := decide (formI (Ins.op (ix (Prog.code p) (Int.toNat pc))) = 7);
let
 q61 : Bool := decide (formI (Ins.op (ix (Prog.code p) (Int.toNat pc))) = 8);
let q62 : XV := .tup [.agg 23 (.int .i64 1 :: q36), .int .i64 pc];
let q63 : Bool :=
 decide (formI (Ins.op (ix (Prog.code p) (Int.toNat pc))) = 2);
let q64 : Bool := decide (formI (Ins.op (ix (Prog.code p) (Int.toNat pc))) = 3);
bif decide (List.length
 (Rslt.mem s) * 1 ≤ 140737488355328) then bif decide (List.length (Rslt.writes s) * 24 ≤ 140737488355328) then bif !q1 then ∃ (s_1 : Prog), ArgsLe [e_Prog p] [e_Prog
 s_1] ∧ PreIs (Prog.wf s_1) ∧ ∀ (y : Bool), y = rightProg s_1 → bif bif q2 y then true else !q2 y then bif bif q2 y then true else decide ¬(↑(List.length (Rslt.mem
 s)) : Int) = Prog.size p then bif q4 then bif q5 then ResLe q6 r else False else False else bif bif q7 then true else !q7 then bif bif q7 then true else decide (pc
 ≥ (↑(List.length (Prog.code p)) : Int)) then bif q4 then bif q5 then ResLe (.tup [.agg 23 (.int .i64 2 :: .agg 3 (.int .i64 4 :: q8) :: q12), .int .i64 pc]) r else
 False else False else bif decide (0 ≤ pc) then bif decide (pc < (↑(List.length (Prog.code p)) : Int)) then ∃ (s_2 : (Nat → Int) × Int), ArgsLe [q9, .int .i64 (Ins.a
 (ix (Prog.code p) (Int.toNat pc)))] (q13 s_2) ∧ PreIs (0 ≤ Prod.snd s_2 ∧ Prod.snd s_2 ≤ 15) ∧ ∀ (y : Int), y = q14 s_2 → ∃ (s_3 : (Nat → Int) × Int), ArgsLe [q9,
 .int .i64 (Ins.b (ix (Prog.code p) (Int.toNat pc)))] (q13 s_3) ∧ PreIs (0 ≤ Prod.snd s_3 ∧ Prod.snd s_3 ≤ 15) ∧ ∀ (y_1 : Int), y_1 = q14 s_3 → bif bif q15 then true
 else !q15 then bif bif q15 then true else q16 then bif decide ¬q18 y = 0 then bif q4 then bif q5 then ResLe (.tup [.agg 23 (.int .i64 2 :: .agg 3 (.int .i64 (q18
 y) :: q8) :: q12), .int .i64 pc]) r else False else False else bif q19 then bif q19 then bif q20 y then bif q21 y then bif q20 y_1 then bif q21 y_1 then bif q22
 y_1 then bif q4 then bif q5 then ResLe q23 r else False else False else bif q24 then bif q25 then bif q26 then bif q28 then bif q29 then bif q29 then bif q30 then
 bif q4 then bif q5 then ResLe (q33 y y_1) r else False else False else bif q4 then bif q5 then ResLe (q35 y y_1) r else False else False else False else False else
 False else False else False else bif q30 then bif q4 then bif q5 then ResLe q38 r else False else False else bif q4 then bif q5 then ResLe q39 r else False else
 False else False else False else False else False else bif q15 then bif q4 then bif q40 then bif allN (fun i => true) (List.length (Rslt.mem s)) then bif q41 then
 bif q42 y then bif q43 y then bif q24 then bif q25 then bif q26 then bif q28 then bif q29 then bif q29 then bif q30 then bif q4 then bif q5 then ResLe (q45 y) r
 else False else False else bif q4 then bif q5 then ResLe (q46 y) r else False else False else False else False else False else False else False else bif q30 then
 bif q4 then bif q5 then ResLe q38 r else False else False else bif q4 then bif q5 then ResLe q39 r else False else False else False else False else False else False
 else False else False else bif q16 then bif q4 then ∃ (s : List Int × Wr), ArgsLe (q48 y y_1) (q49 s) ∧ PreIs (List.length (Prod.fst s) ≤ 1000000) ∧ ∀ (y_2 : List
 Int), y_2 = stoF (Prod.fst s) (Prod.snd s) → bif q5 then bif q51 then bif q30 then bif q52 y_2 then bif q53 then ResLe (q56 y_2 y y_1) r else False else False else
 bif q52 y_2 then bif q53 then ResLe (q57 y_2 y y_1) r else False else False else False else False else False else bif q58 then bif q20 y then bif q21 y then bif
 q20 y_1 then bif q21 y_1 then bif Alu.tkB (Ins.op (ix (Prog.code p) (Int.toNat pc))) y y_1 then bif q30 then bif q4 then bif q5 then ResLe q38 r else False else
 False else bif q4 then bif q5 then ResLe q59 r else False else False else bif q30 then bif q4 then bif q5 then ResLe q38 r else False else False else bif q4 then
 bif q5 then ResLe q39 r else False else False else False else False else False else False else bif q60 then bif q30 then bif q4 then bif q5 then ResLe q38 r else
 False else False else bif q4 then bif q5 then ResLe q59 r else False else False else bif q61 then bif q4 then bif q5 then ResLe q62 r else False else False else
 bif q30 then bif q4 then bif q5 then ResLe q38 r else False else False else bif q4 then bif q5 then ResLe q39 r else False else False else bif q63 then bif q63 then
 bif q20 y then bif q21 y then bif q20 y_1 then bif q21 y_1 then bif q22 y_1 then bif q4 then bif q5 then ResLe q23 r else False else False else bif q24 then bif
 q25 then bif q26 then bif q28 then bif q29 then bif q29 then bif q30 then bif q4 then bif q5 then ResLe (q33 y y_1) r else False else False else bif q4 then bif
 q5 then ResLe (q35 y y_1) r else False else False else False else False else False else False else False else bif q30 then bif q4 then bif q5 then ResLe q38 r else
 False else False else bif q4 then bif q5 then ResLe q39 r else False else False else False else False else False else False else bif q15 then bif q4 then bif q40
 then bif allN (fun i => true) (List.length (Rslt.mem s)) then bif q41 then bif q42 y then bif q43 y then bif q24 then bif q25 then bif q26 then bif q28 then bif
 q29 then bif q29 then bif q30 then bif q4 then bif q5 then ResLe (q45 y) r else False else False else bif q4 then bif q5 then ResLe (q46 y) r else False else False
 else False else False else False else False else False else bif q30 then bif q4 then bif q5 then ResLe q38 r else False else False else bif q4 then bif q5 then ResLe
 q39 r else False else False else False else False else False else False else False else False else bif q16 then bif q4 then ∃ (s : List Int × Wr), ArgsLe (q48 y
 y_1) (q49 s) ∧ PreIs (List.length (Prod.fst s) ≤ 1000000) ∧ ∀ (y_2 : List Int), y_2 = stoF (Prod.fst s) (Prod.snd s) → bif q5 then bif q51 then bif q30 then bif
 q52 y_2 then bif q53 then ResLe (q56 y_2 y y_1) r else False else False else bif q52 y_2 then bif q53 then ResLe (q57 y_2 y y_1) r else False else False else False
 else False else False else bif q58 then bif q20 y then bif q21 y then bif q20 y_1 then bif q21 y_1 then bif Alu.tkB (Ins.op (ix (Prog.code p) (Int.toNat pc))) y
 y_1 then bif q30 then bif q4 then bif q5 then ResLe q38 r else False else False else bif q4 then bif q5 then ResLe q59 r else False else False else bif q30 then
 bif q4 then bif q5 then ResLe q38 r else False else False else bif q4 then bif q5 then ResLe q39 r else False else False else False else False else False else False
 else bif q60 then bif q30 then bif q4 then bif q5 then ResLe q38 r else False else False else bif q4 then bif q5 then ResLe q59 r else False else False else bif
 q61 then bif q4 then bif q5 then ResLe q62 r else False else False else bif q30 then bif q4 then bif q5 then ResLe q38 r else False else False else bif q4 then bif
 q5 then ResLe q39 r else False else False else bif q64 then bif q20 y then bif q21 y then bif q20 y_1 then bif q21 y_1 then bif q22 y_1 then bif q4 then bif q5 then
 ResLe q23 r else False else False else bif q24 then bif q25 then bif q26 then bif q28 then bif q29 then bif q29 then bif q30 then bif q4 then bif q5 then ResLe (q33
 y y_1) r else False else False else bif q4 then bif q5 then ResLe (q35 y y_1) r else False else False else False else False else False else False else False else
 bif q30 then bif q4 then bif q5 then ResLe q38 r else False else False else bif q4 then bif q5 then ResLe q39 r else False else False else False else False else
 False else False else bif q15 then bif q4 then bif q40 then bif allN (fun i => true) (List.length (Rslt.mem s)) then bif q41 then bif q42 y then bif q43 y then bif
 q24 then bif q25 then bif q26 then bif q28 then bif q29 then bif q29 then bif q30 then bif q4 then bif q5 then ResLe (q45 y) r else False else False else bif q4
 then bif q5 then ResLe (q46 y) r else False else False else False else False else False else False else False else bif q30 then bif q4 then bif q5 then ResLe q38
 r else False else False else bif q4 then bif q5 then ResLe q39 r else False else False else False else False else False else False else False else False else bif
 q16 then bif q4 then ∃ (s : List Int × Wr), ArgsLe (q48 y y_1) (q49 s) ∧ PreIs (List.length (Prod.fst s) ≤ 1000000) ∧ ∀ (y_2 : List Int), y_2 = stoF (Prod.fst s)
 (Prod.snd s) → bif q5 then bif q51 then bif q30 then bif q52 y_2 then bif q53 then ResLe (q56 y_2 y y_1) r else False else False else bif q52 y_2 then bif q53 then
 ResLe (q57 y_2 y y_1) r else False else False else False else False else False else bif q58 then bif q20 y then bif q21 y then bif q20 y_1 then bif q21 y_1 then
 bif Alu.tkB (Ins.op (ix (Prog.code p) (Int.toNat pc))) y y_1 then bif q30 then bif q4 then bif q5 then ResLe q38 r else False else False else bif q4 then bif q5
 then ResLe q59 r else False else False else bif q30 then bif q4 then bif q5 then ResLe q38 r else False else False else bif q4 then bif q5 then ResLe q39 r else
 False else False else False else False else False else False else bif q60 then bif q30 then bif q4 then bif q5 then ResLe q38 r else False else False else bif q4
 then bif q5 then ResLe q59 r else False else False else bif q61 then bif q4 then bif q5 then ResLe q62 r else False else False else bif q30 then bif q4 then bif
 q5 then ResLe q38 r else False else False else bif q4 then bif q5 then ResLe q39 r else False else False else bif q19 then bif q19 then bif q20 y then bif q21 y
 then bif q20 y_1 then bif q21 y_1 then bif q22 y_1 then bif q4 then bif q5 then ResLe q23 r else False else False else bif q24 then bif q25 then bif q26 then bif
 q28 then bif q29 then bif q29 then bif q30 then bif q4 then bif q5 then ResLe (q33 y y_1) r else False else False else bif q4 then bif q5 then ResLe (q35 y y_1)
 r else False else False else False else False else False else False else False else bif q30 then bif q4 then bif q5 then ResLe q38 r else False else False else bif
 q4 then bif q5 then ResLe q39 r else False else False else False else False else False else False else bif q15 then bif q4 then bif q40 then bif allN (fun i => true)
 (List.length (Rslt.mem s)) then bif q41 then bif q42 y then bif q43 y then bif q24 then bif q25 then bif q26 then bif q28 then bif q29 then bif q29 then bif q30
 then bif q4 then bif q5 then ResLe (q45 y) r else False else False else bif q4 then bif q5 then ResLe (q46 y) r else False else False else False else False else
 False else False else False else bif q30 then bif q4 then bif q5 then ResLe q38 r else False else False else bif q4 then bif q5 then ResLe q39 r else False else
 False else False else False else False else False else False else False else bif q16 then bif q4 then ∃ (s : List Int × Wr), ArgsLe (q48 y y_1) (q49 s) ∧ PreIs (List.length
 (Prod.fst s) ≤ 1000000) ∧ ∀ (y_2 : List Int), y_2 = stoF (Prod.fst s) (Prod.snd s) → bif q5 then bif q51 then bif q30 then bif q52 y_2 then bif q53 then ResLe (q56
 y_2 y y_1) r else False else False else bif q52 y_2 then bif q53 then ResLe (q57 y_2 y y_1) r else False else False else False else False else False else bif q58
 then bif q20 y then bif q21 y then bif q20 y_1 then bif q21 y_1 then bif Alu.tkB (Ins.op (ix (Prog.code p) (Int.toNat pc))) y y_1 then bif q30 then bif q4 then bif
 q5 then ResLe q38 r else False else False else bif q4 then bif q5 then ResLe q59 r else False else False else bif q30 then bif q4 then bif q5 then ResLe q38 r else
 False else False else bif q4 then bif q5 then ResLe q39 r else False else False else False else False else False else False else bif q60 then bif q30 then bif q4
 then bif q5 then ResLe q38 r else False else False else bif q4 then bif q5 then ResLe q59 r else False else False else bif q61 then bif q4 then bif q5 then ResLe
 q62 r else False else False else bif q30 then bif q4 then bif q5 then ResLe q38 r else False else False else bif q4 then bif q5 then ResLe q39 r else False else
 False else bif q63 then bif q63 then bif q20 y then bif q21 y then bif q20 y_1 then bif q21 y_1 then bif q22 y_1 then bif q4 then bif q5 then ResLe q23 r else False
 else False else bif q24 then bif q25 then bif q26 then bif q28 then bif q29 then bif q29 then bif q30 then bif q4 then bif q5 then ResLe (q33 y y_1) r else False
 else False else bif q4 then bif q5 then ResLe (q35 y y_1) r else False else False else False else False else False else False else False else bif q30 then bif q4
 then bif q5 then ResLe q38 r else False else False else bif q4 then bif q5 then ResLe q39 r else False else False else False else False else False else False else
 bif q15 then bif q4 then bif q40 then bif allN (fun i => true) (List.length (Rslt.mem s)) then bif q41 then bif q42 y then bif q43 y then bif q24 then bif q25 then
 bif q26 then bif q28 then bif q29 then bif q29 then bif q30 then bif q4 then bif q5 then ResLe (q45 y) r else False else False else bif q4 then bif q5 then ResLe
 (q46 y) r else False else False else False else False else False else False else False else bif q30 then bif q4 then bif q5 then ResLe q38 r else False else False
 else bif q4 then bif q5 then ResLe q39 r else False else False else False else False else False else False else False else False else bif q16 then bif q4 then ∃
 (s : List Int × Wr), ArgsLe (q48 y y_1) (q49 s) ∧ PreIs (List.length (Prod.fst s) ≤ 1000000) ∧ ∀ (y_2 : List Int), y_2 = stoF (Prod.fst s) (Prod.snd s) → bif q5
 then bif q51 then bif q30 then bif q52 y_2 then bif q53 then ResLe (q56 y_2 y y_1) r else False else False else bif q52 y_2 then bif q53 then ResLe (q57 y_2 y y_1)
 r else False else False else False else False else False else bif q58 then bif q20 y then bif q21 y then bif q20 y_1 then bif q21 y_1 then bif Alu.tkB (Ins.op (ix
 (Prog.code p) (Int.toNat pc))) y y_1 then bif q30 then bif q4 then bif q5 then ResLe q38 r else False else False else bif q4 then bif q5 then ResLe q59 r else False
 else False else bif q30 then bif q4 then bif q5 then ResLe q38 r else False else False else bif q4 then bif q5 then ResLe q39 r else False else False else False
 else False else False else False else bif q60 then bif q30 then bif q4 then bif q5 then ResLe q38 r else False else False else bif q4 then bif q5 then ResLe q59
 r else False else False else bif q61 then bif q4 then bif q5 then ResLe q62 r else False else False else bif q30 then bif q4 then bif q5 then ResLe q38 r else False
 else False else bif q4 then bif q5 then ResLe q39 r else False else False else bif q64 then bif q20 y then bif q21 y then bif q20 y_1 then bif q21 y_1 then bif q22
 y_1 then bif q4 then bif q5 then ResLe q23 r else False else False else bif q24 then bif q25 then bif q26 then bif q28 then bif q29 then bif q29 then bif q30 then
 bif q4 then bif q5 then ResLe (q33 y y_1) r else False else False else bif q4 then bif q5 then ResLe (q35 y y_1) r else False else False else False else False else
 False else False else False else bif q30 then bif q4 then bif q5 then ResLe q38 r else False else False else bif q4 then bif q5 then ResLe q39 r else False else
 False else False else False else False else False else bif q15 then bif q4 then bif q40 then bif allN (fun i => true) (List.length (Rslt.mem s)) then bif q41 then
 bif q42 y then bif q43 y then bif q24 then bif q25 then bif q26 then bif q28 then bif q29 then bif q29 then bif q30 then bif q4 then bif q5 then ResLe (q45 y) r
 else False else False else bif q4 then bif q5 then ResLe (q46 y) r else False else False else False else False else False else False else False else bif q30 then
 bif q4 then bif q5 then ResLe q38 r else False else False else bif q4 then bif q5 then ResLe q39 r else False else False else False else False else False else False
 else False else False else bif q16 then bif q4 then ∃ (s : List Int × Wr), ArgsLe (q48 y y_1) (q49 s) ∧ PreIs (List.length (Prod.fst s) ≤ 1000000) ∧ ∀ (y_2 : List
 Int), y_2 = stoF (Prod.fst s) (Prod.snd s) → bif q5 then bif q51 then bif q30 then bif q52 y_2 then bif q53 then ResLe (q56 y_2 y y_1) r else False else False else
 bif q52 y_2 then bif q53 then ResLe (q57 y_2 y y_1) r else False else False else False else False else False else bif q58 then bif q20 y then bif q21 y then bif
 q20 y_1 then bif q21 y_1 then bif Alu.tkB (Ins.op (ix (Prog.code p) (Int.toNat pc))) y y_1 then bif q30 then bif q4 then bif q5 then ResLe q38 r else False else
 False else bif q4 then bif q5 then ResLe q59 r else False else False else bif q30 then bif q4 then bif q5 then ResLe q38 r else False else False else bif q4 then
 bif q5 then ResLe q39 r else False else False else False else False else False else False else bif q60 then bif q30 then bif q4 then bif q5 then ResLe q38 r else
 False else False else bif q4 then bif q5 then ResLe q59 r else False else False else bif q61 then bif q4 then bif q5 then ResLe q62 r else False else False else
 bif q30 then bif q4 then bif q5 then ResLe q38 r else False else False else bif q4 then bif q5 then ResLe q39 r else False else False else False else False else
 False else False else False else bif q1 then bif q4 then bif q5 then ResLe q6 r else False else False else False else False
else False) := by kernel_rfl
end Go.Proofs.Ytmfbaglhmiadjaa

/- What results may be; a step keeps it. -/
namespace Go.Proofs.Ytmfbaglhmiadjaa
open Go.Ra
set_option linter.unusedVariables false
set_option linter.unusedSimpArgs false
theorem has_Rslt (a : AV) (h : T_Rslt.has a) : ∃ s : Rslt, a = con (e_Rslt s) ∧ rsWf s := by
  simp only [T_Rslt, Ty.has, Ty.hasL] at h
  obtain ⟨_, rfl, h⟩ := h
  obtain ⟨a0, _, rfl, h0, h⟩ := h
  obtain ⟨a1, _, rfl, h1, h⟩ := h
  obtain ⟨a2, _, rfl, h2, h⟩ := h
  obtain ⟨a3, _, rfl, h3, h⟩ := h
  obtain ⟨a4, _, rfl, h4, h⟩ := h
  obtain ⟨a5, _, rfl, h5, h⟩ := h
  subst h
  obtain ⟨x0, rfl, w0⟩ := has_i64' _ (by simp only [Ty.has]; exact h0)
  obtain ⟨x1, rfl, w1⟩ := has_Trp _ h1
  obtain ⟨x2, rfl, w2⟩ := has_i64' _ (by simp only [Ty.has]; exact h2)
  obtain ⟨x3, rfl, w3⟩ := has_tabI has_u32' (by simp only [Ty.has]; exact h3)
  obtain ⟨x4, rfl, w4⟩ := has_row (en := e_u8) (wf := u8R) has_u8' (by simp only [Ty.has]; exact h4)
  obtain ⟨x5, rfl, w5⟩ := has_row (en := e_Wr) (wf := Wr.wf) has_Wr (by simp only [Ty.has]; exact h5)
  exact ⟨⟨x0, x1, x2, x3, x4, x5⟩, rfl, ⟨w0, w1, w2, w3, w4, w5⟩⟩
theorem sto_len {m : List Int} {w : Wr} : (stoF m w).length = m.length := tabL_len
theorem sto_u8 {m : List Int} {w : Wr} (h : ∀ x ∈ m, u8R x) : ∀ x ∈ stoF m w, u8R x := fun x hx => by
  obtain ⟨j, hj, rfl⟩ := List.mem_iff_getElem.1 hx
  rw [← ix_lt hj]
  rw [sto_len] at hj
  unfold stoF
  rw [ix_tabL hj]
  show u8R (bif _ then _ else _)
  cases (okW m.length w.addr w.size && (decide (w.addr.toNat ≤ j) && decide (j < w.addr.toNat + w.size.toNat))) with
  | true => rw [cond_true]; unfold u8R; omega
  | false => rw [cond_false]; exact h _ (ix_mem hj)
theorem ext_u32 {op w : Int} (h : 0 ≤ w ∧ w ≤ 4294967295) : u32R (extI op w) := by
  unfold extI u32R
  repeat' split
  all_goals omega
theorem load_u32 {m : List Int} {op a : Int} (hm : ∀ x ∈ m, u8R x) (hl : m.length ≤ 1000000) (ha : 0 ≤ a) (ha2 : a ≤ 4294967295) : u32R (loadF m op a) := by
  unfold loadF loadI
  split
  · rename_i h
    refine ext_u32 ?_
    have hs := sz_load h.1 h.2.1
    obtain ⟨h1, _⟩ := chk_in hs ha ha2 (by omega) h.2.2
    have hb := wrd_bd (n := m.length) (f := fun i => e_u8 (ix m i)) (fun i hi => hm _ (ix_mem hi)) a.toNat (szI op).toNat (by omega)
    have : (2 : Int) ^ (8 * (szI op).toNat) ≤ 4294967296 := by
      rcases hs with e | e | e <;> rw [e] <;> decide
    omega
  · unfold u32R; omega
theorem w64_rng (x : Int) : i64R (IntKind.i64.wrap x) := by
  rw [IntKind.wrap_i64]
  unfold i64R
  omega
theorem w32_rng (x : Int) : u32R (IntKind.u32.wrap x) := by
  rw [IntKind.wrap_u32]
  unfold u32R
  omega
theorem do_u32 (op d x y m : Int) {a b : Int} (ha : u32R a) (hb : u32R b) : u32R (Alu.doI op d x y m a b) := by
  unfold Alu.doI
  split
  · unfold u32R; omega
  · split
    · unfold u32R; omega
    · split
      · exact Alu.alW_rng _ ha.1 ha.2 (by omega) (by omega)
      · exact Alu.alW_rng _ ha.1 ha.2 hb.1 hb.2
theorem msk_u32 {w n : Int} (h : u32R w) : u32R (mskI w n) := by
  unfold mskI
  split
  · exact w32_rng _
  split
  · exact w32_rng _
  split
  · exact h
  · unfold u32R; omega
theorem regB_rng {n : Int} {t : Bool} (h : regB n t = true) : 0 ≤ n ∧ n ≤ 15 := by
  unfold regB at h
  simp only [Bool.or_eq_true, Bool.and_eq_true, decide_eq_true_eq] at h
  omega
theorem right_regs {i : Ins} (h : rightIns i = true) : (0 ≤ i.d ∧ i.d ≤ 15) ∧ (0 ≤ i.a ∧ i.a ≤ 15) ∧ (0 ≤ i.b ∧ i.b ≤ 15) ∧ ¬ formI i.op = 0 := by
  simp only [rightIns, Bool.and_eq_true, decide_eq_true_eq] at h
  exact ⟨regB_rng h.2.1, regB_rng h.2.2.1, regB_rng h.2.2.2.1, h.1⟩
theorem right_ins {p : Prog} (h : rightProg p = true) {n : Nat} (hn : n < p.code.length) : rightIns (ix p.code n) = true := by
  simp only [rightProg, Bool.and_eq_true] at h
  exact allN_iff.1 h.2.1 n hn
theorem val_u32 {g : Nat → Int} (hg : ∀ i, i < 16 → u32R (g i)) {n : Int} (h0 : 0 ≤ n) (h1 : n ≤ 15) : u32R (valF g n) := by
  unfold valF
  split
  · unfold u32R; omega
  · exact hg _ (by omega)
theorem form_rng (op : Int) : 0 ≤ formI op ∧ formI op ≤ 8 := by
  unfold formI
  repeat' split
  all_goals omega
/-- What a step keeps. -/
def stpI (r s : Rslt) : Prop := rsWf s ∧ s.mem.length = r.mem.length ∧ (s.writes.length = r.writes.length ∨ s.writes.length = r.writes.length + 1)
theorem set_wf {r : Rslt} {d v : Int} (h : rsWf r) (hv : u32R v) : rsWf (tickF (setF r d v)) := by
  obtain ⟨h1, h2, h3, h4, h5, h6⟩ := h
  refine ⟨h1, h2, w64_rng _, fun i hi => ?_, h5, h6⟩
  show u32R (bif _ then v else r.regs i)
  cases (!decide (d = 0) && Nat.beq i d.toNat) with
  | true => exact hv
  | false => exact h4 i hi
theorem trap_wf {r : Rslt} {k pc : Int} (h : rsWf r) (hk : i64R k) (hp : i64R pc) : rsWf (trapF r k pc) := by
  obtain ⟨h1, h2, h3, h4, h5, h6⟩ := h
  exact ⟨by show i64R 2; unfold i64R; omega, ⟨hk, h3, hp⟩, h3, h4, h5, h6⟩
theorem tick_wf {r : Rslt} (h : rsWf r) : rsWf (tickF r) := by
  obtain ⟨h1, h2, h3, h4, h5, h6⟩ := h
  exact ⟨h1, h2, w64_rng _, h4, h5, h6⟩
theorem chk_i64 (s a n : Int) : i64R (chkI s a n) := by
  unfold chkI i64R
  repeat' split
  all_goals omega
theorem ins_inv {i : Ins} {r : Rslt} {pc : Int} (hi : rightIns i = true) (h : rsOk r) (hw : r.writes.length ≤ 999999) (hp : i64R pc) : stpI r (insF i r pc).1 ∧ i64R (insF i r pc).2 := by
  obtain ⟨hwf, hm, _⟩ := h
  obtain ⟨hd, ha, hb, _⟩ := right_regs hi
  have va := val_u32 hwf.2.2.2.1 ha.1 ha.2
  have vb := val_u32 hwf.2.2.2.1 hb.1 hb.2
  have ad : u32R (adrF r i) := w32_rng _
  have k3 : i64R 3 := by unfold i64R; omega
  unfold insF
  repeat' split
  · exact ⟨⟨trap_wf hwf (chk_i64 _ _ _) hp, rfl, .inl rfl⟩, hp⟩
  · exact ⟨⟨set_wf hwf (load_u32 hwf.2.2.2.2.1.1 hm ad.1 ad.2), rfl, .inl rfl⟩, w64_rng _⟩
  · refine ⟨⟨?_, sto_len, .inr (app_len _ _)⟩, w64_rng _⟩
    obtain ⟨h1, h2, h3, h4, h5, h6⟩ := hwf
    refine ⟨h1, h2, w64_rng _, h4, ⟨sto_u8 h5.1, by show (stoF _ _).length * 1 ≤ _; rw [sto_len]; exact h5.2⟩, fun x hx => ?_, by show (r.writes ++ [_]).length * 24 ≤ _; rw [app_len]; omega⟩
    rcases List.mem_append.1 hx with hx | hx
    · exact h6.1 x hx
    · obtain rfl := List.mem_singleton.1 hx
      refine ⟨by unfold u32R at ad; show i64R (adrF r i); unfold i64R; omega, ?_, msk_u32 vb⟩
      show i64R (szI i.op)
      unfold szI i64R
      repeat' split
      all_goals omega
  · exact ⟨⟨tick_wf hwf, rfl, .inl rfl⟩, w64_rng _⟩
  · exact ⟨⟨tick_wf hwf, rfl, .inl rfl⟩, w64_rng _⟩
  · exact ⟨⟨tick_wf hwf, rfl, .inl rfl⟩, w64_rng _⟩
  · obtain ⟨h1, h2, h3, h4, h5, h6⟩ := hwf
    exact ⟨⟨⟨by show i64R 1; unfold i64R; omega, h2, w64_rng _, h4, h5, h6⟩, rfl, .inl rfl⟩, hp⟩
  · exact ⟨⟨trap_wf hwf k3 hp, rfl, .inl rfl⟩, hp⟩
  · exact ⟨⟨set_wf hwf (do_u32 _ _ _ _ _ va vb), rfl, .inl rfl⟩, w64_rng _⟩
theorem stp_inv {p : Prog} {r : Rslt} {pc : Int} (h : rsOk r) (hw : r.writes.length ≤ 999999) (hp : i64R pc) : stpI r (stpF p r pc).1 ∧ i64R (stpF p r pc).2 := by
  unfold stpF
  split
  · exact ⟨⟨h.1, rfl, .inl rfl⟩, hp⟩
  · rename_i h1
    split
    · exact ⟨⟨trap_wf h.1 (by unfold i64R; omega) hp, rfl, .inl rfl⟩, hp⟩
    · rename_i h2
      have hr : rightProg p = true := by
        cases hr : rightProg p with
        | true => rfl
        | false => exact absurd (.inr (.inl hr)) h1
      exact ins_inv (right_ins hr (by omega)) h hw hp
theorem sk_val : SkOk Try.prog (34, valS) := skOf_ok fun ⟨g, n⟩ h => by
  obtain ⟨h0, h1⟩ : 0 ≤ n ∧ n ≤ 15 := h
  show Pure _ _ (cons [.tab 16 1 (fun i => .int .u32 (g i)), .int .i64 n]) (con (.int .u32 (valF g n)))
  refine pureR (u := 80) (k := 20) mix TS0ok ?_
  refine Eq.mpr (r_val g n _) ?_
  unfold valF
  by_cases hz : n = 0
  · simp only [hz, decide_true, cond_true, if_true]
    exact .rfl
  · have h2 : n < 16 := by omega
    have h3 : n.toNat < 16 := by omega
    simp only [hz, h0, h2, h3, Nat.beq_refl, decide_true, decide_false, cond_true, cond_false, if_false]
    exact .rfl
theorem sk_cpr : SkOk Try.prog (21, cprS) := skOf_ok fun s h => by
  obtain ⟨hw, hm, hl⟩ : rsOk s := h
  refine pureQ mix TS0ok t_ref1_Copy (Nat.le_of_ble_eq_true rfl) ?_
  refine Eq.mpr (r_cpr s _) ?_
  have b1 : s.mem.length * 1 ≤ 140737488355328 := by omega
  have b2 : s.writes.length * 24 ≤ 140737488355328 := by omega
  simp only [b1, b2, Nat.le_refl, decide_true, cond_true]
  exact .rfl
theorem TS1ok : TabOk Try.prog TS1 := mkT2_ok clok_ref1 ⟨sp_form, sp_size2, sp_check2, sp_mask, sp_rload, Alu.sp_do2, Alu.sp_tk2, trivial⟩ trivial ⟨sk_rpr, sk_val, trivial⟩ ⟨mk_sto, trivial⟩
theorem resF {s : Rslt} {pc : Int} (hf : s.fin = 0) : ResLe (.tup [.agg 23 [.int .i64 0, e_Trp s.trap, .int .i64 s.steps, .tab 16 1 fun i => .int .u32 (s.regs i), e_row 1 e_u8 s.mem, e_row 3 e_Wr s.writes], .int .i64 pc]) (e_RI (s, pc)) := by
  rw [← hf]; exact .rfl
theorem res0 {y : Rslt} {pc : Int} (hf : y.fin = 0) : ResLe (.tup [.agg 23 [.int .i64 0, e_Trp y.trap, .int .i64 y.steps, .tab 16 1 (fun i => .int .u32 (y.regs i)), e_row 1 e_u8 y.mem, e_row 3 e_Wr y.writes], .int .i64 pc]) (e_RI (y, pc)) := by
  obtain ⟨f, t, st, g, m, w⟩ := y
  have hf : f = 0 := hf
  subst hf
  exact .rfl
theorem set_nz {s : Rslt} {d v : Int} (h : ¬ d = 0) : setF s d v = { s with regs := fun i => bif Nat.beq i d.toNat then v else s.regs i } := by
  unfold setF
  congr
  funext i
  rw [decide_eq_false h]
  rfl
theorem set_z {s : Rslt} {d v : Int} (h : d = 0) : setF s d v = s := by
  subst h
  rfl
theorem lq_app {α : Type} [Inhabited α] {x : Bool} {es : Nat} {f : Nat → XV} {en : α → XV} {l : List α} {a : α} (h1 : ∀ j, j < l.length → con (f j) = con (en (ix l j))) (h2 : con (f l.length) = con (en a)) : leQ (con (.row x es (l.length + 1) f)) (con (e_row es en (l ++ [a]))) :=
  lq_erow (app_len _ _).symm (.inl rfl) fun j hj => by
    by_cases hlt : j < l.length
    · rw [ix_app_lt hlt, h1 j hlt]; exact .refl _
    · obtain rfl : j = l.length := by omega
      rw [ix_app_eq, h2]; exact .refl _
theorem sk_stp : SkOk Try.prog (22, stpS) := skOf_ok fun ⟨p, s, pc⟩ h => by
  obtain ⟨hp, ho, hl⟩ : p.wf ∧ rsOk s ∧ s.writes.length ≤ 999999 := h
  obtain ⟨hw, hm, _⟩ := ho
  show Pure _ _ (cons [e_Prog p, e_Rslt s, .int .i64 pc]) (con (e_RI (stpF p s pc)))
  refine pureR (u := 80) (k := 20) mix TS1ok ?_
  refine Eq.mpr (r_stp p s pc _) ?_
  have b1 : s.mem.length * 1 ≤ 140737488355328 := by omega
  have b2 : s.writes.length * 24 ≤ 140737488355328 := by omega
  have b3 : (s.writes.length + 1) * 24 ≤ 140737488355328 := by omega
  have b4 : s.mem.length ≤ 1099511627776 := by omega
  have hu : rngB s.mem.length (fun i => e_u8 (ix s.mem i)) = true := rngB_iff.2 fun i hi => hw.2.2.2.2.1.1 _ (ix_mem hi)
  simp only [b1, b2, b3, b4, hu, pl_eq, Nat.le_refl, allN_true, decide_true, cond_true]
  have q1 : (¬ s.fin = 0 ∨ rightProg p = false ∨ ¬ (s.mem.length : Int) = p.size) → stpF p s pc = (s, pc) := fun h => by unfold stpF; rw [if_pos h]
  have q2 : ¬ (¬ s.fin = 0 ∨ rightProg p = false ∨ ¬ (s.mem.length : Int) = p.size) → stpF p s pc = if pc < 0 ∨ pc ≥ p.code.length then (trapF s 4 pc, pc) else insF (ix p.code pc.toNat) s pc := fun h => by unfold stpF; rw [if_neg h]
  by_cases hf : s.fin = 0
  case neg =>
    rw [q1 (.inl hf)]
    simp only [hf, not_false_eq_true, decide_true, Bool.not_true, cond_true, cond_false]
    exact .rfl
  simp only [hf, not_true_eq_false, decide_false, Bool.not_false, cond_true, cond_false]
  refine ⟨p, .rfl, ⟨hp⟩, ?_⟩
  intro y hy
  replace hy : y = rightProg p := hy
  cases y with
  | false =>
    rw [q1 (.inr (.inl hy.symm))]
    simp only [Bool.not_false, cond_true]
    exact .rfl
  | true =>
  by_cases hsz : (s.mem.length : Int) = p.size
  case neg =>
    rw [q1 (.inr (.inr hsz))]
    simp only [hsz, not_false_eq_true, decide_true, Bool.not_true, Bool.not_false, cond_true, cond_false]
    exact .rfl
  have q3 := q2 (fun h => by
    rcases h with h | h | h
    · exact h hf
    · rw [h] at hy; cases hy
    · exact h hsz)
  simp only [hsz, not_true_eq_false, decide_false, Bool.not_true, Bool.not_false, cond_true, cond_false]
  by_cases h1 : pc < 0
  · rw [q3, if_pos (.inl h1)]
    simp only [h1, decide_true, Bool.not_true, cond_true, cond_false]
    exact .rfl
  by_cases h2 : pc ≥ p.code.length
  · rw [q3, if_pos (.inr h2)]
    simp only [h1, h2, decide_true, decide_false, Bool.not_false, cond_true, cond_false]
    exact .rfl
  rw [q3, if_neg (by omega)]
  clear q1 q2 q3
  have h3 : 0 ≤ pc := by omega
  have h4 : pc < p.code.length := by omega
  have hi := right_ins hy.symm (n := pc.toNat) (by omega)
  obtain ⟨hd, ha, hb, hfz⟩ := right_regs hi
  simp only [h1, h2, h3, h4, decide_true, decide_false, Bool.not_false, cond_true, cond_false]
  refine ⟨(s.regs, (ix p.code pc.toNat).a), .rfl, ⟨ha⟩, ?_⟩
  intro a hav
  replace hav : a = valF s.regs (ix p.code pc.toNat).a := hav
  refine ⟨(s.regs, (ix p.code pc.toNat).b), .rfl, ⟨hb⟩, ?_⟩
  intro b hbv
  replace hbv : b = valF s.regs (ix p.code pc.toNat).b := hbv
  have va := val_u32 hw.2.2.2.1 ha.1 ha.2
  have vb := val_u32 hw.2.2.2.1 hb.1 hb.2
  rw [← hav] at va
  rw [← hbv] at vb
  obtain ⟨a0, a1⟩ : 0 ≤ a ∧ a ≤ 4294967295 := va
  obtain ⟨c0, c1⟩ : 0 ≤ b ∧ b ≤ 4294967295 := vb
  generalize ix p.code pc.toNat = i at hi hd ha hb hfz hav hbv ⊢
  have d1 : i.d < 16 := by omega
  have d2 : i.d.toNat < 16 := by omega
  have hadr : adrF s i = IntKind.u32.wrap (a + IntKind.u32.wrap i.imm) := by unfold adrF; rw [← hav]
  have adr := w32_rng (a + IntKind.u32.wrap i.imm)
  obtain ⟨e0, e1⟩ : 0 ≤ IntKind.u32.wrap (a + IntKind.u32.wrap i.imm) ∧ IntKind.u32.wrap (a + IntKind.u32.wrap i.imm) ≤ 4294967295 := adr
  have ewa : IntKind.u32.wrap (IntKind.u32.wrap (a + IntKind.u32.wrap i.imm)) = IntKind.u32.wrap (a + IntKind.u32.wrap i.imm) := wrap_u32 e0 e1
  unfold insF
  rw [hadr, ← hav, ← hbv, hsz]
  have hfr := form_rng i.op
  rcases (by omega : formI i.op = 1 ∨ formI i.op = 2 ∨ formI i.op = 3 ∨ formI i.op = 4 ∨ formI i.op = 5 ∨ formI i.op = 6 ∨ formI i.op = 7 ∨ formI i.op = 8) with hfm | hfm | hfm | hfm | hfm | hfm | hfm | hfm
  iterate 3
    · simp only [hfm, Int.reduceEq, hd.1, d1, d2, a0, a1, c0, c1, false_and, false_or, or_false, decide_true, decide_false, cond_true, cond_false, if_false, Nat.beq_refl, Bool.not_false, Bool.not_true]
      cases hdk : Alu.dkB i.op i.d i.a i.b i.imm b with
      | false => simp only [Bool.not_false, cond_true, if_true]; exact .rfl
      | true =>
        simp only [Bool.not_true, cond_false, Bool.true_eq_false, if_false]
        by_cases hz : i.d = 0
        · simp only [hz, not_true_eq_false, decide_false, cond_false]
          rw [set_z rfl]
          exact res0 (y := tickF s) hf
        · simp only [hz, not_false_eq_true, decide_true, cond_true]
          rw [set_nz hz]
          exact res0 (y := tickF { s with regs := fun j => bif Nat.beq j i.d.toNat then Alu.doI i.op i.d i.a i.b i.imm a b else s.regs j }) hf
  · simp only [hfm, Int.reduceEq, hd.1, d1, d2, a0, a1, c0, c1, e0, e1, false_and, false_or, or_false, true_or, true_and, decide_true, decide_false, cond_true, cond_false, if_false, if_true, Nat.beq_refl, Bool.not_false, Bool.not_true]
    by_cases hk : chkI (szI i.op) (IntKind.u32.wrap (a + IntKind.u32.wrap i.imm)) p.size = 0
    case neg =>
      simp only [hk, not_false_eq_true, decide_true, cond_true, if_true]
      exact .rfl
    simp only [hk, not_true_eq_false, decide_false, cond_false, if_false]
    by_cases hz : i.d = 0
    · simp only [hz, not_true_eq_false, decide_false, cond_false]
      rw [set_z rfl]
      exact res0 (y := tickF s) hf
    · simp only [hz, not_false_eq_true, decide_true, cond_true]
      rw [set_nz hz]
      exact res0 (y := tickF { s with regs := fun j => bif Nat.beq j i.d.toNat then loadF s.mem i.op (IntKind.u32.wrap (a + IntKind.u32.wrap i.imm)) else s.regs j }) hf
  · simp only [hfm, Int.reduceEq, hd.1, d1, d2, a0, a1, c0, c1, e0, e1, false_and, false_or, or_false, true_or, or_true, true_and, decide_true, decide_false, cond_true, cond_false, if_false, if_true, Nat.beq_refl, Bool.not_false, Bool.not_true]
    by_cases hk : chkI (szI i.op) (IntKind.u32.wrap (a + IntKind.u32.wrap i.imm)) p.size = 0
    case neg =>
      simp only [hk, not_false_eq_true, decide_true, cond_true, if_true]
      exact .rfl
    simp only [hk, not_true_eq_false, decide_false, cond_false, if_false]
    have w64 : IntKind.i64.wrap (IntKind.u32.wrap (a + IntKind.u32.wrap i.imm)) = IntKind.u32.wrap (a + IntKind.u32.wrap i.imm) := wrap_i64 (by omega) (by omega)
    simp only [w64]
    refine ⟨(s.mem, ⟨IntKind.u32.wrap (a + IntKind.u32.wrap i.imm), szI i.op, mskI b (szI i.op)⟩), .rfl, ⟨hm⟩, ?_⟩
    intro y hy
    replace hy : y = stoF s.mem ⟨IntKind.u32.wrap (a + IntKind.u32.wrap i.imm), szI i.op, mskI b (szI i.op)⟩ := hy
    subst hy
    refine ⟨lq_tup (lqs_cons (lq_agg (lqs_cons (lq_int hf.symm) (lqs_cons (.refl _) (lqs_cons (.refl _) (lqs_cons (.refl _) (lqs_cons (.refl _) (lqs_cons (lq_app (fun j hj => ?_) ?_) lqs_nil))))))) (lqs_cons (.refl _) lqs_nil))⟩
    · simp only [hj, decide_true, cond_true]; rfl
    · simp; rfl
  · simp only [hfm, Int.reduceEq, hd.1, d1, d2, a0, a1, c0, c1, e0, e1, false_and, false_or, or_false, true_or, or_true, true_and, decide_true, decide_false, cond_true, cond_false, if_false, if_true, Nat.beq_refl, Bool.not_false, Bool.not_true]
    cases htk : Alu.tkB i.op a b with
    | false => simp only [cond_false, Bool.false_eq_true, if_false]; exact res0 (y := tickF s) hf
    | true => simp only [cond_true, if_true]; exact res0 (y := tickF s) hf
  · simp only [hfm, Int.reduceEq, hd.1, d1, d2, a0, a1, c0, c1, e0, e1, false_and, false_or, or_false, true_or, or_true, true_and, decide_true, decide_false, cond_true, cond_false, if_false, if_true, Nat.beq_refl, Bool.not_false, Bool.not_true]
    exact res0 (y := tickF s) hf
  · simp only [hfm, Int.reduceEq, hd.1, d1, d2, a0, a1, c0, c1, e0, e1, false_and, false_or, or_false, true_or, or_true, true_and, decide_true, decide_false, cond_true, cond_false, if_false, if_true, Nat.beq_refl, Bool.not_false, Bool.not_true]
    exact .rfl
end Go.Proofs.Ytmfbaglhmiadjaa

/- A whole run, as the document tells it. -/
namespace Go.Proofs.Ytmfbaglhmiadjaa
open Go.Ra
set_option linter.unusedVariables false
set_option linter.unusedSimpArgs false
def memF (p : Prog) : List Int := tabL p.size.toNat fun i => bif decide (i < p.data.length) then ix p.data i else 0
def r0F (m : List Int) : Rslt := ⟨0, ⟨0, 0, 0⟩, 0, fun _ => 0, m, []⟩
/-- So many steps, or until the end. -/
def itR (p : Prog) : Nat → Rslt × Int
  | 0 => (r0F (memF p), 0)
  | k + 1 => if (itR p k).1.fin = 0 then stpF p (itR p k).1 (itR p k).2 else itR p k
def fuelF (fuel : Int) : Nat := if fuel < 0 then 0 else if fuel > 100000 then 100000 else fuel.toNat
/-- A whole run. -/
def runF (p : Prog) (fuel : Int) : Rslt := if rightProg p then (if (itR p (fuelF fuel)).1.fin = 0 then { (itR p (fuelF fuel)).1 with fin := 3 } else (itR p (fuelF fuel)).1) else r0F []
def runS : List XV → Option ((XV → Prop) → Prop) := skOf (fun q : Prog × Int => [e_Prog q.1, .int .i64 q.2]) (fun q => q.1.wf) (fun q => runF q.1 q.2) (fun y => e_Rslt y)
def TS2 : Tab := mkT2 qq cl_ref1 [] [] [(12, rprS), (22, stpS)] []
def zR : XV := .agg 23 [.int .i64 0, .agg 3 [.int .i64 0, .int .i64 0, .int .i64 0], .int .i64 0, .tab 16 1 (fun _ => .int .u32 0), .row true 0 0 (fun _ => .unk), .row true 0 0 (fun _ => .unk)]
def rnSt (p : Prog) (F : Int) (s : Rslt) (pc : Int) (k : Nat) : XSt := ⟨[(7, .int .i64 k), (1, .int .i64 F), (6, .int .i64 pc), (5, .ptr 2 [] 0), (4, .ptr 1 [] 0), (2, .ptr 0 [] 0)], [(2, some (e_Rslt s)), (1, some zR), (0, some (e_Prog p))], 3⟩
theorem TS2ok : TabOk Try.prog TS2 := mkT2_ok clok_ref1 trivial trivial ⟨sk_rpr, sk_stp, trivial⟩ trivial
theorem r_run0 (p : Prog) (fuel : Int) (r : XV) : (goQ Try.prog TS2 [(.cell 4 .true 23)] r (.run c_ref1_Run) [] ⟨envX 0 [e_Prog p, .int .i64 fuel], [], 0⟩) = (let q1 : XV := .agg 3 [.int .i64 0, .int .i64 0, .int .i64 0];
let q2 : XV := .tab 16 1 fun x => .int .u32 0;
let q3 : XV := .row true 0 0 fun x => .unk;
let
 q4 : List XV := [q3];
let q5 : XV := .agg 23 (.int .i64 0 :: q1 :: .int .i64 0 :: q2 :: q3 :: q4);
let q6 : Nat := Int.toNat (Prog.size p) * 1;
let q7 : List (Nat
 × XV) := [(6, .int .i64 0), (5, .ptr 2 [] 0), (4, .ptr 1 [] 0), (2, .ptr 0 [] 0)];
let q8 : List (Nat × Option XV) := [(2, some (.agg 23 (.int .i64 0 :: q1 :: .int
 .i64 0 :: q2 :: (.row false 1 (Int.toNat (Prog.size p)) fun i => .int .u8 (bif decide (i < List.length (Prog.data p)) then ix (Prog.data p) i else (0 : Int))) ::
 q4))), (1, some q5), (0, some (e_Prog p))];
let q9 : List Frm := [Frm.blk 0, Frm.seq c_ref1_Run_p1];
let q10 : List AR := [AR.cell 4 true 23];
∃ (s : Prog), ArgsLe
 [e_Prog p] [e_Prog s] ∧ PreIs (Prog.wf s) ∧ ∀ (y : Bool), y = rightProg s → bif !y then ResLe q5 r else bif decide (0 ≤ Prog.size p) then bif decide (q6 ≤ 140737488355328)
 then bif Nat.beq (Int.toNat (Prog.size p)) (Int.toNat (Prog.size p)) then bif decide (Int.toNat (Prog.size p) ≤ Int.toNat (Prog.size p)) then bif decide (fuel <
 0) then LoopAt (Ok Try.prog (Tab.q TS2)) c_ref1_Run_l1 (XSt.mk ((7, .int .i64 0) :: (1, .int .i64 0) :: q7) q8 3) q9 (finQR q10 r) else bif decide (fuel > 100000)
 then LoopAt (Ok Try.prog (Tab.q TS2)) c_ref1_Run_l1 (XSt.mk ((7, .int .i64 0) :: (1, .int .i64 100000) :: q7) q8 3) q9 (finQR q10 r) else LoopAt (Ok Try.prog (Tab.q
 TS2)) c_ref1_Run_l1 (XSt.mk ((7, .int .i64 0) :: (1, .int .i64 fuel) :: q7) q8 3) q9 (finQR q10 r) else False else False else False else False) := by kernel_rfl 

theorem r_run1 (p : Prog) (F : Int) (s : Rslt) (pc : Int) (k : Nat) (r : XV) (A : XSt → Prop) : (goQ Try.prog TS2 [(.cell 4 .true 23)] r (.run c_ref1_Run_l1) [.lp c_ref1_Run_l1 A, .blk 0, .seq c_ref1_Run_p1] (rnSt p F s pc k)) = (let q1 : Bool := decide ((↑k : Int) < F);
let q2 : Bool := decide (Rslt.fin s = 0);
let q3 : XV := .row true 0 0 fun x => .unk;
bif bif q1 then q1 else true
 then bif bif q1 then q2 else false then ∃ (s_1 : Prog × Rslt × Int), ArgsLe [e_Prog p, e_Rslt s, .int .i64 pc] [e_Prog (Prod.fst s_1), e_Rslt (Prod.fst (Prod.snd
 s_1)), .int .i64 (Prod.snd (Prod.snd s_1))] ∧ PreIs (Prog.wf (Prod.fst s_1) ∧ rsOk (Prod.fst (Prod.snd s_1)) ∧ List.length (Rslt.writes (Prod.fst (Prod.snd s_1)))
 ≤ 999999) ∧ ∀ (y : Rslt × Int), y = stpF (Prod.fst s_1) (Prod.fst (Prod.snd s_1)) (Prod.snd (Prod.snd s_1)) → A (XSt.mk [(7, .int .i64 (IntKind.wrap .i64 ((↑k :
 Int) + (1 : Int)))), (6, .int .i64 (Prod.snd y)), (1, .int .i64 F), (5, .ptr 2 [] 0), (4, .ptr 1 [] 0), (2, .ptr 0 [] 0)] [(2, some (e_Rslt (Prod.fst y))), (1, some
 (.agg 23 [.int .i64 0, .agg 3 [.int .i64 0, .int .i64 0, .int .i64 0], .int .i64 0, .tab 16 1 fun x => .int .u32 0, q3, q3])), (0, some (e_Prog p))] 3) else bif
 q2 then ResLe (.agg 23 [.int .i64 3, e_Trp (Rslt.trap s), .int .i64 (Rslt.steps s), .tab 16 1 fun i => .int .u32 (Rslt.regs s i), e_row 1 e_u8 (Rslt.mem s), e_row
 3 e_Wr (Rslt.writes s)]) r else ResLe (e_Rslt s) r
else False) := by kernel_rfl
theorem r0_ok {m : List Int} (hm : ∀ x ∈ m, u8R x) (hl : m.length ≤ 65536) : rsOk (r0F m) := by
  have z : i64R 0 := by unfold i64R; omega
  refine ⟨⟨z, ⟨z, z, z⟩, z, fun i _ => by show u32R 0; unfold u32R; omega, ⟨hm, by show m.length * 1 ≤ _; omega⟩, ⟨fun x hx => (by cases hx), by show 0 * 24 ≤ _; omega⟩⟩, by show m.length ≤ _; omega, by show 0 ≤ _; omega⟩
theorem mem_len {p : Prog} : (memF p).length = p.size.toNat := tabL_len
theorem mem_u8 {p : Prog} (hw : p.wf) : ∀ x ∈ memF p, u8R x := fun x hx => by
  obtain ⟨j, hj, rfl⟩ := List.mem_iff_getElem.1 hx
  rw [← ix_lt hj]
  have hj' : j < p.size.toNat := by rw [← mem_len]; exact hj
  unfold memF
  rw [ix_tabL hj']
  by_cases hd : j < p.data.length
  · rw [decide_eq_true hd]; exact hw.2.2.1 _ (ix_mem hd)
  · rw [decide_eq_false hd]; show u8R 0; unfold u8R; omega
theorem right_size {p : Prog} (h : rightProg p = true) : 0 ≤ p.size ∧ p.size ≤ 65536 ∧ 1 ≤ p.code.length ∧ p.code.length ≤ 2000 := by
  simp only [rightProg, Bool.and_eq_true, decide_eq_true_eq] at h
  omega
theorem it_inv {p : Prog} (hw : p.wf) (hr : rightProg p = true) : ∀ k : Nat, k ≤ 900000 → rsWf (itR p k).1 ∧ (itR p k).1.mem.length = p.size.toNat ∧ (itR p k).1.writes.length ≤ k ∧ i64R (itR p k).2
  | 0, _ => by
    have hs := right_size hr
    have h := r0_ok (mem_u8 hw) (by rw [mem_len]; omega)
    exact ⟨h.1, mem_len, Nat.le_refl _, by show i64R 0; unfold i64R; omega⟩
  | k + 1, hk => by
    obtain ⟨a1, a2, a3, a4⟩ := it_inv hw hr k (by omega)
    have hs := right_size hr
    unfold itR
    split
    · obtain ⟨⟨b1, b2, b3⟩, b4⟩ := stp_inv (p := p) (r := (itR p k).1) (pc := (itR p k).2) ⟨a1, by omega, by omega⟩ (by omega) a4
      exact ⟨b1, b2.trans a2, by omega, b4⟩
    · exact ⟨a1, a2, by omega, a4⟩
theorem it_stop {p : Prog} {k : Nat} (h : ¬ (itR p k).1.fin = 0) : ∀ j, itR p (k + j) = itR p k
  | 0 => rfl
  | j + 1 => by
    show itR p ((k + j) + 1) = itR p k
    have := it_stop h j
    show (if (itR p (k + j)).1.fin = 0 then _ else itR p (k + j)) = itR p k
    rw [this, if_neg h]
theorem sk_run : SkOk Try.prog (24, runS) := skOf_ok fun ⟨p, fuel⟩ hw => by
  have hw : p.wf := hw
  show Pure _ _ (cons [e_Prog p, .int .i64 fuel]) (con (e_Rslt (runF p fuel)))
  refine pureQ mix TS2ok t_ref1_Run (Nat.le_of_ble_eq_true rfl) ?_
  refine Eq.mpr (r_run0 p fuel _) ?_
  refine ⟨p, .rfl, ⟨hw⟩, ?_⟩
  intro y hy
  replace hy : y = rightProg p := hy
  cases y with
  | false =>
    unfold runF
    rw [if_neg (by rw [← hy]; simp)]
    simp only [Bool.not_false, cond_true]
    exact ⟨lq_agg (lqs_cons (.refl _) (lqs_cons (.refl _) (lqs_cons (.refl _) (lqs_cons (.refl _) (lqs_cons lq_lit0 (lqs_cons lq_lit0 lqs_nil))))))⟩
  | true =>
  have hs := right_size hy.symm
  have hrun : runF p fuel = if (itR p (fuelF fuel)).1.fin = 0 then { (itR p (fuelF fuel)).1 with fin := 3 } else (itR p (fuelF fuel)).1 := by
    unfold runF
    rw [if_pos hy.symm]
  have b1 : p.size.toNat * 1 ≤ 140737488355328 := by omega
  simp only [b1, hs.1, Nat.beq_refl, Nat.le_refl, Bool.not_true, decide_true, cond_true, cond_false]
  have key : ∀ F : Int, F = (fuelF fuel : Nat) → LoopAt (Ok Try.prog (Tab.q TS2)) c_ref1_Run_l1 (XSt.mk [(7, .int .i64 0), (1, .int .i64 F), (6, .int .i64 0), (5, .ptr 2 [] 0), (4, .ptr 1 [] 0), (2, .ptr 0 [] 0)] [(2, some (.agg 23 [.int .i64 0, .agg 3 [.int .i64 0, .int .i64 0, .int .i64 0], .int .i64 0, .tab 16 1 (fun _ => .int .u32 0), .row false 1 p.size.toNat (fun i => .int .u8 (bif decide (i < p.data.length) then ix p.data i else 0)), .row true 0 0 (fun _ => .unk)])), (1, some zR), (0, some (e_Prog p))] 3) [Frm.blk 0, Frm.seq c_ref1_Run_p1] (finQR [AR.cell 4 true 23] (e_Rslt (runF p fuel))) := by
    intro F hF
    have hfl : fuelF fuel ≤ 100000 := by
      unfold fuelF
      split
      · omega
      · split <;> omega
    refine loopQ mix TS2ok (fun k : Nat => rnSt p F (itR p k).1 (itR p k).2 k) (fun k => k ≤ fuelF fuel) (fun k => fuelF fuel - k) 0 (Nat.zero_le _) ?_ ?_
    · refine weakM [(0, 0), (1, 1), (2, 2)] rfl rfl rfl rfl rfl ⟨k_is rfl rfl, k_is rfl rfl, k_is rfl rfl, .ptr rfl, .ptr rfl, .ptr rfl, trivial⟩ ⟨.agg (.cons (k_is rfl rfl) (.cons (k_is rfl rfl) (.cons (k_is rfl rfl) (.cons (k_is rfl rfl) (.cons (k_row mem_len.symm (.inl rfl) fun i hi => ?_) (.cons (k_row rfl (.inr rfl) fun j hj => absurd hj (Nat.not_lt_zero _)) .nil)))))), k_is rfl rfl, k_is rfl rfl, trivial⟩
      show _ = con (e_u8 (ix (memF p) i))
      unfold memF
      rw [ix_tabL hi]; rfl
    intro k hk
    replace hk : k ≤ fuelF fuel := hk
    obtain ⟨i1, i2, i3, i4⟩ := it_inv hw hy.symm k (by omega)
    have hnx : (itR p k).1.fin = 0 → itR p (k + 1) = stpF p (itR p k).1 (itR p k).2 := fun h => by
      show (if (itR p k).1.fin = 0 then _ else _) = _
      rw [if_pos h]
    have hst : ¬ (itR p k).1.fin = 0 → itR p (fuelF fuel) = itR p k := fun h => by
      have := it_stop h (fuelF fuel - k)
      rwa [show k + (fuelF fuel - k) = fuelF fuel by omega] at this
    refine Eq.mpr (r_run1 p F _ _ k _ _) ?_
    by_cases hlt : k < fuelF fuel
    · have g1 : (k : Int) < F := by omega
      have w1 : IntKind.i64.wrap ((k : Int) + 1) = ((k + 1 : Nat) : Int) := wrap_i64 (by omega) (by omega)
      by_cases hf : (itR p k).1.fin = 0
      · simp only [g1, hf, w1, decide_true, cond_true]
        refine ⟨(p, (itR p k).1, (itR p k).2), .rfl, ⟨hw, ⟨i1, by show (itR p k).1.mem.length ≤ _; omega, by show (itR p k).1.writes.length ≤ _; omega⟩, by show (itR p k).1.writes.length ≤ _; omega⟩, ?_⟩
        intro y hy2
        replace hy2 : y = stpF p (itR p k).1 (itR p k).2 := hy2
        rw [← hnx hf] at hy2
        subst hy2
        exact ⟨k + 1, hlt, .of (weakX ⟨rfl, rfl, rfl, rfl, rfl, rfl, trivial⟩ ⟨rfl, rfl, rfl, trivial⟩ (Nat.le_refl _)), by omega⟩
      · simp only [g1, hf, decide_true, decide_false, cond_true, cond_false]
        rw [hrun, hst hf, if_neg hf]
        exact .rfl
    · have g1 : ¬ (k : Int) < F := by omega
      obtain rfl : k = fuelF fuel := by omega
      by_cases hf : (itR p (fuelF fuel)).1.fin = 0
      · simp only [g1, hf, decide_true, decide_false, cond_true, cond_false]
        rw [hrun, if_pos hf]
        exact .rfl
      · simp only [g1, hf, decide_true, decide_false, cond_true, cond_false]
        rw [hrun, if_neg hf]
        exact .rfl
  by_cases f1 : fuel < 0
  · simp only [f1, decide_true, cond_true]
    exact key 0 (by unfold fuelF; rw [if_pos f1]; rfl)
  · by_cases f2 : fuel > 100000
    · simp only [f1, f2, decide_true, decide_false, cond_true, cond_false]
      exact key 100000 (by unfold fuelF; rw [if_neg f1, if_pos f2]; rfl)
    · simp only [f1, f2, decide_false, cond_false]
      exact key fuel (by unfold fuelF; rw [if_neg f1, if_neg f2]; omega)
end Go.Proofs.Ytmfbaglhmiadjaa

/- Abstract code of the functions of image: printed by a program from what the given translation yields. -/
namespace Go.Proofs.Ytmfbaglhmiadjaa
open Go.Ra
def c_image_Right : AC := (.seq (.ops [⟨(.some 1), (.box (.t 0)), .none⟩, ⟨(.some 2), (.mv (.c (.sc (.bool .false)))), .none⟩]) (.seq (.ops [⟨(.some 3), (.mv (.c (.clo 45 []))), .none⟩]) (.seq (.ops [⟨(.some 4), (.fadr 0 0 1 (.t 1)), .none⟩, ⟨(.some 5), (.load .false 1 (.t 4)), .none⟩, ⟨(.some 6), (.len .none (.t 5)), .none⟩, ⟨(.some 7), (.fadr 1 1 1 (.t 1)), .none⟩, ⟨(.some 8), (.load .false 1 (.t 7)), .none⟩, ⟨(.some 9), (.fadr 2 2 1 (.t 1)), .none⟩, ⟨(.some 10), (.load .false 1 (.t 9)), .none⟩, ⟨(.some 11), (.len .none (.t 10)), .none⟩, ⟨(.some 12), (.call 47 [(.t 6), (.t 8), (.t 11)]), .none⟩, ⟨(.some 13), (.mv (.t 12)), .none⟩, ⟨(.some 14), (.fadr 0 0 1 (.t 1)), (.some (13, .true))⟩, ⟨(.some 15), (.load .false 1 (.t 14)), (.some (13, .true))⟩, ⟨(.some 16), (.mv (.t 3)), (.some (13, .true))⟩, ⟨(.some 17), (.call 48 [(.t 15), (.t 16)]), (.some (13, .true))⟩, ⟨(.some 18), (.un .not (.t 17)), (.some (13, .true))⟩, ⟨(.some 19), (.pick (.t 13) (.t 18) (.c (.sc (.bool .false)))), .none⟩, ⟨(.some 20), (.mv (.t 19)), .none⟩, ⟨(.some 21), (.load .true 3 (.t 1)), (.some (20, .true))⟩, ⟨(.some 22), (.call 49 [(.t 21)]), (.some (20, .true))⟩, ⟨(.some 23), (.bin .eql (.t 22) (.c (.sc (.int .i64 0)))), (.some (20, .true))⟩, ⟨(.some 24), (.pick (.t 20) (.t 23) (.c (.sc (.bool .false)))), .none⟩, ⟨(.some 2), (.mv (.t 24)), .none⟩]) .ret)))
theorem t_image_Right : trF Try.prog qq 28 = some (25, [(.tmp 2)], c_image_Right) := by kernel_rfl
def c_image_Right_1 : AC := (.seq (.ops [⟨(.some 1), (.box (.t 0)), .none⟩, ⟨(.some 2), (.mv (.c (.sc (.bool .false)))), .none⟩]) (.seq (.ops [⟨(.some 3), (.load .true 5 (.t 1)), .none⟩, ⟨(.some 4), (.call 46 [(.t 3)]), .none⟩, ⟨(.some 5), (.un .not (.t 4)), .none⟩, ⟨(.some 2), (.mv (.t 5)), .none⟩]) .ret))
theorem t_image_Right_1 : trF Try.prog qq 45 = some (6, [(.tmp 2)], c_image_Right_1) := by kernel_rfl
def c_image_sizes : AC := (.seq (.ops [⟨(.some 6), (.mv (.c (.sc (.bool .false)))), .none⟩]) (.seq (.ops [⟨(.some 7), (.mv (.t 0)), .none⟩, ⟨(.some 8), (.bin .geq (.t 7) (.c (.sc (.int .i64 1)))), .none⟩, ⟨(.some 9), (.mv (.t 8)), .none⟩, ⟨(.some 10), (.mv (.t 0)), (.some (9, .true))⟩, ⟨(.some 11), (.bin .leq (.t 10) (.c (.sc (.int .i64 2000)))), (.some (9, .true))⟩, ⟨(.some 12), (.pick (.t 9) (.t 11) (.c (.sc (.bool .false)))), .none⟩, ⟨(.some 13), (.mv (.t 12)), .none⟩, ⟨(.some 14), (.mv (.t 1)), (.some (13, .true))⟩, ⟨(.some 15), (.bin .geq (.t 14) (.c (.sc (.int .i64 0)))), (.some (13, .true))⟩, ⟨(.some 16), (.pick (.t 13) (.t 15) (.c (.sc (.bool .false)))), .none⟩, ⟨(.some 17), (.mv (.t 16)), .none⟩, ⟨(.some 18), (.mv (.t 1)), (.some (17, .true))⟩, ⟨(.some 19), (.bin .leq (.t 18) (.c (.sc (.int .i64 65536)))), (.some (17, .true))⟩, ⟨(.some 20), (.pick (.t 17) (.t 19) (.c (.sc (.bool .false)))), .none⟩, ⟨(.some 21), (.mv (.t 20)), .none⟩, ⟨(.some 22), (.mv (.t 2)), (.some (21, .true))⟩, ⟨(.some 23), (.mv (.t 1)), (.some (21, .true))⟩, ⟨(.some 24), (.bin .leq (.t 22) (.t 23)), (.some (21, .true))⟩, ⟨(.some 25), (.pick (.t 21) (.t 24) (.c (.sc (.bool .false)))), .none⟩, ⟨(.some 6), (.mv (.t 25)), .none⟩]) .ret))
theorem t_image_sizes : trF Try.prog qq 47 = some (26, [(.tmp 6)], c_image_sizes) := by kernel_rfl
def c_image_Targets_l1 : AC := (.seq (.ops [⟨(.some 11), (.bin .lss (.t 10) (.t 9)), .none⟩]) (.seq (.cond (.t 11) .skip (.exit 0)) (.seq (.block 1 (.seq (.ops [⟨(.some 12), (.mv (.t 10)), .none⟩, ⟨(.some 13), (.iadr .none 5 (.t 8) (.t 10)), .none⟩, ⟨(.some 14), (.load .true 5 (.t 13)), .none⟩, ⟨(.some 4), (.box (.c (.agg 5 [(.sc (.int .i64 0)), (.sc (.int .i64 0)), (.sc (.int .i64 0)), (.sc (.int .i64 0)), (.sc (.int .i64 0))]))), .none⟩, ⟨(.some 3), (.mv (.t 12)), .none⟩, ⟨.none, (.store 5 (.t 4) (.t 14)), .none⟩]) (.seq (.ops [⟨(.some 16), (.load .true 3 (.t 1)), .none⟩, ⟨(.some 17), (.mv (.t 3)), .none⟩, ⟨(.some 18), (.call 67 [(.t 16), (.t 17)]), .none⟩, ⟨(.some 15), (.mv (.t 18)), .none⟩, ⟨(.some 19), (.ext (.t 15) 0), .none⟩, ⟨(.some 20), (.ext (.t 15) 1), .none⟩, ⟨(.some 5), (.mv (.t 19)), .none⟩, ⟨(.some 6), (.mv (.t 20)), .none⟩]) (.seq (.ops [⟨(.some 21), (.mv (.t 6)), .none⟩, ⟨(.some 22), (.mv (.t 21)), .none⟩, ⟨(.some 23), (.fadr 4 4 1 (.t 4)), (.some (22, .true))⟩, ⟨(.some 24), (.load .false 1 (.t 23)), (.some (22, .true))⟩, ⟨(.some 25), (.mv (.t 3)), (.some (22, .true))⟩, ⟨(.some 26), (.un .neg (.t 25)), (.some (22, .true))⟩, ⟨(.some 27), (.bin .lss (.t 24) (.t 26)), (.some (22, .true))⟩, ⟨(.some 28), (.mv (.t 27)), (.some (22, .true))⟩, ⟨(.some 29), (.fadr 4 4 1 (.t 4)), (.some (28, .false))⟩, ⟨(.some 30), (.load .false 1 (.t 29)), (.some (28, .false))⟩, ⟨(.some 31), (.fadr 0 0 1 (.t 1)), (.some (28, .false))⟩, ⟨(.some 32), (.load .false 1 (.t 31)), (.some (28, .false))⟩, ⟨(.some 33), (.len .none (.t 32)), (.some (28, .false))⟩, ⟨(.some 34), (.mv (.t 3)), (.some (28, .false))⟩, ⟨(.some 35), (.bin .sub (.t 33) (.t 34)), (.some (28, .false))⟩, ⟨(.some 36), (.bin .geq (.t 30) (.t 35)), (.some (28, .false))⟩, ⟨(.some 37), (.pick (.t 28) (.c (.sc (.bool .true))) (.t 36)), (.some (22, .true))⟩, ⟨(.some 38), (.pick (.t 22) (.t 37) (.c (.sc (.bool .false)))), .none⟩]) (.cond (.t 38) (.seq (.ops [⟨(.some 2), (.mv (.c (.sc (.int .i64 4)))), .none⟩]) .ret) .skip))))) (.ops [⟨(.some 39), (.bin .add (.t 10) (.c (.sc (.int .i64 1)))), .none⟩, ⟨(.some 10), (.mv (.t 39)), .none⟩]))))
def c_image_Targets_p1 : AC := (.seq (.ops [⟨(.some 2), (.mv (.c (.sc (.int .i64 0)))), .none⟩]) .ret)
def c_image_Targets : AC := (.seq (.ops [⟨(.some 1), (.box (.t 0)), .none⟩, ⟨(.some 2), (.mv (.c (.sc (.int .i64 0)))), .none⟩]) (.seq (.seq (.ops [⟨(.some 7), (.fadr 0 0 1 (.t 1)), .none⟩, ⟨(.some 8), (.load .false 1 (.t 7)), .none⟩, ⟨(.some 9), (.len .none (.t 8)), .none⟩, ⟨(.some 10), (.mv (.c (.sc (.int .i64 0)))), .none⟩]) (.block 0 (.loop c_image_Targets_l1))) c_image_Targets_p1))
theorem t_image_Targets : trF Try.prog qq 49 = some (40, [(.tmp 2)], c_image_Targets) := by kernel_rfl
def c_image_Target : AC := (.seq (.ops [⟨(.some 2), (.box (.t 0)), .none⟩, ⟨(.some 4), (.mv (.c (.sc (.int .i64 0)))), .none⟩, ⟨(.some 5), (.mv (.c (.sc (.bool .false)))), .none⟩]) (.seq (.ops [⟨(.some 7), (.fadr 0 0 1 (.t 2)), .none⟩, ⟨(.some 8), (.load .false 1 (.t 7)), .none⟩, ⟨(.some 9), (.mv (.t 1)), .none⟩, ⟨(.some 10), (.iadr .none 5 (.t 8) (.t 9)), .none⟩, ⟨(.some 11), (.fadr 0 0 1 (.t 10)), .none⟩, ⟨(.some 12), (.load .false 1 (.t 11)), .none⟩, ⟨(.some 13), (.call 51 [(.t 12)]), .none⟩, ⟨(.some 6), (.mv (.t 13)), .none⟩]) (.seq (.ops [⟨(.some 14), (.mv (.t 1)), .none⟩, ⟨(.some 15), (.fadr 0 0 1 (.t 2)), .none⟩, ⟨(.some 16), (.load .false 1 (.t 15)), .none⟩, ⟨(.some 17), (.mv (.t 1)), .none⟩, ⟨(.some 18), (.iadr .none 5 (.t 16) (.t 17)), .none⟩, ⟨(.some 19), (.fadr 4 4 1 (.t 18)), .none⟩, ⟨(.some 20), (.load .false 1 (.t 19)), .none⟩, ⟨(.some 21), (.bin .add (.t 14) (.t 20)), .none⟩, ⟨(.some 22), (.mv (.t 6)), .none⟩, ⟨(.some 23), (.bin .eql (.t 22) (.c (.sc (.int .i64 6)))), .none⟩, ⟨(.some 24), (.mv (.t 23)), .none⟩, ⟨(.some 25), (.mv (.t 6)), (.some (24, .false))⟩, ⟨(.some 26), (.bin .eql (.t 25) (.c (.sc (.int .i64 7)))), (.some (24, .false))⟩, ⟨(.some 27), (.pick (.t 24) (.c (.sc (.bool .true))) (.t 26)), .none⟩, ⟨(.some 4), (.mv (.t 21)), .none⟩, ⟨(.some 5), (.mv (.t 27)), .none⟩]) .ret)))
theorem t_image_Target : trF Try.prog qq 67 = some (28, [(.tmp 4), (.tmp 5)], c_image_Target) := by kernel_rfl
/-- The functions of image. -/
def cl_image : CodeL := [(28, 25, [(.tmp 2)], c_image_Right), (45, 6, [(.tmp 2)], c_image_Right_1), (47, 26, [(.tmp 6)], c_image_sizes), (49, 40, [(.tmp 2)], c_image_Targets), (67, 28, [(.tmp 4), (.tmp 5)], c_image_Target)]
theorem clok_image : AllL (fun p => trF Try.prog qq p.1 = some p.2) cl_image := ⟨t_image_Right, t_image_Right_1, t_image_sizes, t_image_Targets, t_image_Target, trivial⟩
end Go.Proofs.Ytmfbaglhmiadjaa

/- Which programs may be, as package image tells. -/
namespace Go.Proofs.Ytmfbaglhmiadjaa
open Go.Ra
set_option linter.unusedVariables false
set_option linter.unusedSimpArgs false
def TI0 : Tab := mkT2 qq cl_isa [] [] [] []
def h1Sp (f : Int → Bool) : List XV → Option (List Bool × XV)
  | [.int .i64 a] => some ([], .bool (f a))
  | _ => none
def inW (n : Int) (t : Bool) (lo hi : Int) : Bool := bif t then decide (lo ≤ n ∧ n ≤ hi) else decide (n = 0)
def inwSp : List XV → Option (List Bool × XV)
  | [.int .i64 n, .bool t, .int .i64 lo, .int .i64 hi] => some ([], .bool (inW n t lo hi))
  | _ => none
def TI1 : Tab := mkT2 qq cl_isa [(51, formSp), (62, h1Sp hasD), (63, h1Sp hasA), (64, h1Sp hasB), (65, h1Sp hasI), (61, inwSp)] [] [] []
def TI2 : Tab := mkT2 qq (cl_image ++ cl_slices) [(46, rtSp), (51, formSp)] [] [] []
def wrgF (i : Ins) : Bool := !rightIns i
def idiS : List XV → Option ((XV → Prop) → Prop) := skOf (fun l : List Ins => [e_row 5 e_Ins l, .clo 45 []]) (fun l => l.length ≤ 1000000000) (fun l => idxF wrgF l) (fun y => .int .i64 y)
/-- Does an instruction lead into the code, if it leads anywhere? -/
def jmpOk (p : Prog) (i : Nat) : Bool := !((decide (formI (ix p.code i).op = 6) || decide (formI (ix p.code i).op = 7)) && (decide ((ix p.code i).imm < -(i : Int)) || decide ((ix p.code i).imm ≥ (p.code.length : Int) - i)))
def jmpsF (p : Prog) : Bool := allN (jmpOk p) p.code.length
def imtS : List XV → Option ((XV → Prop) → Prop) := skOf (fun p : Prog => [e_Prog p]) (fun p => p.wf) (fun p => (if jmpsF p then 0 else 4 : Int)) (fun y => .int .i64 y)
def TI3 : Tab := mkT2 qq (cl_image ++ cl_slices) [] [] [(66, idiS), (49, imtS)] []
theorem TI0ok : TabOk Try.prog TI0 := mkT2_ok clok_isa trivial trivial trivial trivial
theorem r_iform (a : Int) (K : XV → Prop) : (quietGo TI0 80 (callI TI0 80 20) 51 [.int .i64 a] K) = (bif bif decide (a < 1) then true else !decide (a < 1) then bif bif decide (a < 1) then true else decide (a > 41) then K (.int .i64 0) else bif decide (a ≤ 16)
 then K (.int .i64 1) else bif decide (a ≤ 24) then K (.int .i64 2) else bif decide (a = 25) then K (.int .i64 3) else bif decide (a ≤ 30) then K (.int .i64 4) else
 bif decide (a ≤ 33) then K (.int .i64 5) else bif decide (a ≤ 39) then K (.int .i64 6) else bif decide (a = 40) then K (.int .i64 7) else K (.int .i64 8)
else False)
 := by kernel_rfl
theorem r_ihd (a : Int) (K : XV → Prop) : (quietGo TI0 80 (callI TI0 80 20) 62 [.int .i64 a] K) = (bif bif decide (a ≥ 1) then decide (a ≥ 1) else true then K (.bool (bif decide (a ≥ 1) then decide (a ≤ 4) else false)) else False) := by kernel_rfl
theorem r_iha (a : Int) (K : XV → Prop) : (quietGo TI0 80 (callI TI0 80 20) 63 [.int .i64 a] K) = (bif bif decide (a = 1) then true else !decide (a = 1) then bif bif bif decide (a = 1) then true else decide (a = 2) then true else !bif decide (a = 1) then true
 else decide (a = 2) then bif bif bif bif decide (a = 1) then true else decide (a = 2) then true else decide (a = 4) then true else !bif bif decide (a = 1) then true
 else decide (a = 2) then true else decide (a = 4) then bif bif bif bif bif decide (a = 1) then true else decide (a = 2) then true else decide (a = 4) then true else
 decide (a = 5) then true else !bif bif bif decide (a = 1) then true else decide (a = 2) then true else decide (a = 4) then true else decide (a = 5) then K (.bool
 (bif bif bif bif decide (a = 1) then true else decide (a = 2) then true else decide (a = 4) then true else decide (a = 5) then true else decide (a = 6))) else False
 else False else False
else False) := by kernel_rfl
theorem r_ihb (a : Int) (K : XV → Prop) : (quietGo TI0 80 (callI TI0 80 20) 64 [.int .i64 a] K) = (bif bif decide (a = 1) then true else !decide (a = 1) then bif bif bif decide (a = 1) then true else decide (a = 5) then true else !bif decide (a = 1) then true
 else decide (a = 5) then K (.bool (bif bif decide (a = 1) then true else decide (a = 5) then true else decide (a = 6))) else False
else False) := by kernel_rfl
theorem r_ihi (a : Int) (K : XV → Prop) : (quietGo TI0 80 (callI TI0 80 20) 65 [.int .i64 a] K) = (bif bif decide (a ≥ 2) then decide (a ≥ 2) else true then K (.bool (bif decide (a ≥ 2) then decide (a ≤ 7) else false)) else False) := by kernel_rfl
theorem r_iwi (n : Int) (t : Bool) (lo hi : Int) (K : XV → Prop) : (quietGo TI0 80 (callI TI0 80 20) 61 [.int .i64 n, .bool t, .int .i64 lo, .int .i64 hi] K) = (bif !t then K (.bool (decide (n = 0))) else bif bif decide (n ≥ lo) then decide (n ≥ lo) else true then K (.bool (bif decide (n ≥ lo) then decide (n ≤ hi) else
 false)) else False) := by kernel_rfl
theorem r_irt (i : Ins) (K : XV → Prop) : (quietGo TI1 80 (callI TI1 80 20) 46 [e_Ins i] K) = (bif bif decide (Ins.op i = 22) then true else !decide (Ins.op i = 22) then bif bif bif decide (Ins.op i = 22) then true else decide (Ins.op i = 23) then true
 else !bif decide (Ins.op i = 22) then true else decide (Ins.op i = 23) then bif bif bif decide (Ins.op i = 22) then true else decide (Ins.op i = 23) then true else
 decide (Ins.op i = 24) then bif bif decide (formI (Ins.op i) > 0) then decide (formI (Ins.op i) > 0) else true then bif bif bif decide (formI (Ins.op i) > 0) then
 inW (Ins.d i) (hasD (formI (Ins.op i))) (0 : Int) (15 : Int) else false then bif decide (formI (Ins.op i) > 0) then inW (Ins.d i) (hasD (formI (Ins.op i))) (0 :
 Int) (15 : Int) else false else true then bif bif bif bif decide (formI (Ins.op i) > 0) then inW (Ins.d i) (hasD (formI (Ins.op i))) (0 : Int) (15 : Int) else false
 then inW (Ins.a i) (hasA (formI (Ins.op i))) (0 : Int) (15 : Int) else false then bif bif decide (formI (Ins.op i) > 0) then inW (Ins.d i) (hasD (formI (Ins.op i)))
 (0 : Int) (15 : Int) else false then inW (Ins.a i) (hasA (formI (Ins.op i))) (0 : Int) (15 : Int) else false else true then bif bif bif bif bif decide (formI (Ins.op
 i) > 0) then inW (Ins.d i) (hasD (formI (Ins.op i))) (0 : Int) (15 : Int) else false then inW (Ins.a i) (hasA (formI (Ins.op i))) (0 : Int) (15 : Int) else false
 then inW (Ins.b i) (hasB (formI (Ins.op i))) (0 : Int) (15 : Int) else false then bif bif bif decide (formI (Ins.op i) > 0) then inW (Ins.d i) (hasD (formI (Ins.op
 i))) (0 : Int) (15 : Int) else false then inW (Ins.a i) (hasA (formI (Ins.op i))) (0 : Int) (15 : Int) else false then inW (Ins.b i) (hasB (formI (Ins.op i))) (0
 : Int) (15 : Int) else false else true then K (.bool (bif bif bif bif decide (formI (Ins.op i) > 0) then inW (Ins.d i) (hasD (formI (Ins.op i))) (0 : Int) (15 :
 Int) else false then inW (Ins.a i) (hasA (formI (Ins.op i))) (0 : Int) (15 : Int) else false then inW (Ins.b i) (hasB (formI (Ins.op i))) (0 : Int) (15 : Int) else
 false then inW (Ins.imm i) (hasI (formI (Ins.op i))) (0 : Int) (31 : Int) else false)) else False else False else False else False else bif bif decide (formI (Ins.op
 i) > 0) then decide (formI (Ins.op i) > 0) else true then bif bif bif decide (formI (Ins.op i) > 0) then inW (Ins.d i) (hasD (formI (Ins.op i))) (0 : Int) (15 :
 Int) else false then bif decide (formI (Ins.op i) > 0) then inW (Ins.d i) (hasD (formI (Ins.op i))) (0 : Int) (15 : Int) else false else true then bif bif bif bif
 decide (formI (Ins.op i) > 0) then inW (Ins.d i) (hasD (formI (Ins.op i))) (0 : Int) (15 : Int) else false then inW (Ins.a i) (hasA (formI (Ins.op i))) (0 : Int)
 (15 : Int) else false then bif bif decide (formI (Ins.op i) > 0) then inW (Ins.d i) (hasD (formI (Ins.op i))) (0 : Int) (15 : Int) else false then inW (Ins.a i)
 (hasA (formI (Ins.op i))) (0 : Int) (15 : Int) else false else true then bif bif bif bif bif decide (formI (Ins.op i) > 0) then inW (Ins.d i) (hasD (formI (Ins.op
 i))) (0 : Int) (15 : Int) else false then inW (Ins.a i) (hasA (formI (Ins.op i))) (0 : Int) (15 : Int) else false then inW (Ins.b i) (hasB (formI (Ins.op i))) (0
 : Int) (15 : Int) else false then bif bif bif decide (formI (Ins.op i) > 0) then inW (Ins.d i) (hasD (formI (Ins.op i))) (0 : Int) (15 : Int) else false then inW
 (Ins.a i) (hasA (formI (Ins.op i))) (0 : Int) (15 : Int) else false then inW (Ins.b i) (hasB (formI (Ins.op i))) (0 : Int) (15 : Int) else false else true then K
 (.bool (bif bif bif bif decide (formI (Ins.op i) > 0) then inW (Ins.d i) (hasD (formI (Ins.op i))) (0 : Int) (15 : Int) else false then inW (Ins.a i) (hasA (formI
 (Ins.op i))) (0 : Int) (15 : Int) else false then inW (Ins.b i) (hasB (formI (Ins.op i))) (0 : Int) (15 : Int) else false then inW (Ins.imm i) (hasI (formI (Ins.op
 i))) (-8192 : Int) (8191 : Int) else false)) else False else False else False else False else False
else False) := by kernel_rfl
theorem h1_ok {f : Int → Bool} {n : Nat} (h : ∀ a, Pure Try.prog n (cons [.int .i64 a]) (con (.bool (f a)))) : SpOk Try.prog (n, h1Sp f) := by
  intro args nd v ha hn
  simp only [h1Sp] at ha
  split at ha <;> simp only [Option.some.injEq, Prod.mk.injEq, reduceCtorEq] at ha
  obtain ⟨hnd, rfl⟩ := ha
  exact h _
theorem sp_iform : SpOk Try.prog (51, formSp) := by
  intro args nd v ha hn
  simp only [formSp] at ha
  split at ha <;> simp only [Option.some.injEq, Prod.mk.injEq, reduceCtorEq] at ha
  obtain ⟨hnd, rfl⟩ := ha
  clear hnd hn
  rename_i a
  refine pureX (u := 80) (k := 20) mix TI0ok ?_
  rw [r_iform]
  unfold formI
  simp only [g1, g2, g3, g4, g5, g6, g7, allN_true, cond_true, Nat.le_refl, decide_true, pl_eq]
  by_cases h0 : a < 1 ∨ a > 41
  · rw [if_pos h0]
    rcases h0 with h | h <;> simp [h]
  · rw [if_neg h0]
    have h1 : ¬ a < 1 := fun h => h0 (.inl h)
    have h2 : ¬ a > 41 := fun h => h0 (.inr h)
    simp only [h1, h2, decide_false, cond_false]
    by_cases h3 : a ≤ 16
    · simp [h3]
    by_cases h4 : a ≤ 24
    · simp [h3, h4]
    by_cases h5 : a = 25
    · simp [h5]
    by_cases h6 : a ≤ 30
    · simp [h3, h4, h5, h6]
    by_cases h7 : a ≤ 33
    · simp [h3, h4, h5, h6, h7]
    by_cases h8 : a ≤ 39
    · simp [h3, h4, h5, h6, h7, h8]
    by_cases h9 : a = 40
    · simp [h9]
    simp [h3, h4, h5, h6, h7, h8, h9]
theorem sp_ihd : SpOk Try.prog (62, h1Sp hasD) := h1_ok fun a => by
  refine pureX (u := 80) (k := 20) mix TI0ok ?_
  rw [r_ihd]
  simp only [g1, g2, g3, g4, g5, g6, g7, allN_true, cond_true, Nat.le_refl, decide_true, pl_eq, bor, band]
  refine conB ?_
  unfold hasD
  rw [Bool.eq_iff_iff]
  simp
  omega
theorem sp_iha : SpOk Try.prog (63, h1Sp hasA) := h1_ok fun a => by
  refine pureX (u := 80) (k := 20) mix TI0ok ?_
  rw [r_iha]
  simp only [g1, g2, g3, g4, g5, g6, g7, allN_true, cond_true, Nat.le_refl, decide_true, pl_eq]
  simp only [bor, band]
  refine conB ?_
  unfold hasA
  rw [Bool.eq_iff_iff]
  simp
  omega
theorem sp_ihb : SpOk Try.prog (64, h1Sp hasB) := h1_ok fun a => by
  refine pureX (u := 80) (k := 20) mix TI0ok ?_
  rw [r_ihb]
  simp only [g1, g2, g3, g4, g5, g6, g7, allN_true, cond_true, Nat.le_refl, decide_true, pl_eq]
  simp only [bor, band]
  refine conB ?_
  unfold hasB
  rw [Bool.eq_iff_iff]
  simp
  omega
theorem sp_ihi : SpOk Try.prog (65, h1Sp hasI) := h1_ok fun a => by
  refine pureX (u := 80) (k := 20) mix TI0ok ?_
  rw [r_ihi]
  simp only [g1, g2, g3, g4, g5, g6, g7, allN_true, cond_true, Nat.le_refl, decide_true, pl_eq]
  simp only [bor, band]
  refine conB ?_
  unfold hasI
  rw [Bool.eq_iff_iff]
  simp
  omega
theorem sp_iwi : SpOk Try.prog (61, inwSp) := by
  intro args nd v ha hn
  simp only [inwSp] at ha
  split at ha <;> simp only [Option.some.injEq, Prod.mk.injEq, reduceCtorEq] at ha
  obtain ⟨hnd, rfl⟩ := ha
  clear hnd hn
  rename_i n t lo hi
  refine pureX (u := 80) (k := 20) mix TI0ok ?_
  rw [r_iwi]
  cases t with
  | false => exact conB (by rfl)
  | true =>
    simp only [g1, g2, g3, g4, g5, g6, g7, allN_true, cond_true, Nat.le_refl, decide_true, pl_eq, Bool.not_true]
    simp only [bor, band]
    refine conB ?_
    unfold inW
    rw [Bool.eq_iff_iff]
    simp
theorem reg_in {n : Int} {t : Bool} : regB n t = inW n t 0 15 := by
  unfold regB inW
  rw [Bool.eq_iff_iff]
  cases t <;> simp
  omega
theorem TI1ok : TabOk Try.prog TI1 := mkT2_ok clok_isa ⟨sp_iform, sp_ihd, sp_iha, sp_ihb, sp_ihi, sp_iwi, trivial⟩ trivial trivial trivial
theorem form_ge {a : Int} : 0 ≤ formI a := by
  unfold formI
  repeat' split
  all_goals omega
theorem sp_irt : SpOk Try.prog (46, rtSp) := by
  intro args nd v ha hn
  simp only [rtSp] at ha
  split at ha <;> simp only [Option.some.injEq, Prod.mk.injEq, reduceCtorEq] at ha
  obtain ⟨hnd, rfl⟩ := ha
  clear hnd hn
  rename_i op d a b m
  refine pureX (u := 80) (k := 20) mix TI1ok ?_
  refine Eq.mpr (r_irt ⟨op, d, a, b, m⟩ _) ?_
  simp only [g1, g2, g3, g4, g5, g6, g7, allN_true, cond_true, Nat.le_refl, decide_true, pl_eq]
  simp only [bor, band]
  unfold rightIns
  dsimp only
  have fg := form_ge (a := op)
  generalize formI op = f at *
  simp only [reg_in]
  refine cnd2 (fun h => conB ?_) (fun h => conB ?_) <;> simp only [Bool.or_eq_true, Bool.or_eq_false_iff, decide_eq_true_eq, decide_eq_false_iff_not] at h
  · have h' : op = 22 ∨ op = 23 ∨ op = 24 := by omega
    rw [if_pos h']
    have e0 : decide (f > 0) = decide (¬ f = 0) := decide_eq_decide.2 (by omega)
    have e1 : inW m (hasI f) 0 31 = ((hasI f || decide (m = 0)) && decide (0 ≤ m ∧ m ≤ 31)) := by
      unfold inW
      rw [Bool.eq_iff_iff]
      cases hasI f <;> simp
      omega
    rw [e0, e1]
    simp only [Bool.and_assoc]
  · have h' : ¬ (op = 22 ∨ op = 23 ∨ op = 24) := by omega
    rw [if_neg h']
    have e0 : decide (f > 0) = decide (¬ f = 0) := decide_eq_decide.2 (by omega)
    have e1 : inW m (hasI f) (-8192) 8191 = ((hasI f || decide (m = 0)) && decide (-8192 ≤ m ∧ m ≤ 8191)) := by
      unfold inW
      rw [Bool.eq_iff_iff]
      cases hasI f <;> simp
      omega
    rw [e0, e1]
    simp only [Bool.and_assoc]
theorem r_im0 (l : List Ins) (r : XV) : (goQ Try.prog TI2 [(.tmp 4)] r (.run c_slices_IndexFunc_Ins_Ins) [] ⟨envX 0 [e_row 5 e_Ins l, .clo 45 []], [], 0⟩) = (LoopAt (Ok Try.prog (Tab.q TI2)) c_slices_IndexFunc_Ins_Ins_l1 (XSt.mk [(8, .int .i64 0), (7, .int .i64 (↑(List.length l) : Int)), (4, .int .i64 0), (0, e_row
 5 e_Ins l), (1, .clo 45 [])] [] 0) [Frm.blk 0, Frm.seq c_slices_IndexFunc_Ins_Ins_p1] (finQR [AR.tmp 4] r)) := by kernel_rfl
theorem r_im1 (l : List Ins) (i : Nat) (r : XV) (A : XSt → Prop) : (goQ Try.prog TI2 [(.tmp 4)] r (.run c_slices_IndexFunc_Ins_Ins_l1) [.lp c_slices_IndexFunc_Ins_Ins_l1 A, .blk 0, .seq c_slices_IndexFunc_Ins_Ins_p1] ⟨[(0, e_row 5 e_Ins l), (1, .clo 45 []), (8, .int .i64 i), (7, .int .i64 l.length)], [], 0⟩) = (bif decide ((↑i : Int) < (↑(List.length l) : Int)) then bif decide ((↑i : Int) < (↑(List.length l) : Int)) then bif !rightIns (ix l i) then ResLe (.int .i64
 (↑i : Int)) r else A (XSt.mk [(8, .int .i64 (IntKind.wrap .i64 ((↑i : Int) + (1 : Int)))), (0, e_row 5 e_Ins l), (1, .clo 45 []), (7, .int .i64 (↑(List.length l)
 : Int))] [] 0) else False
else ResLe (.int .i64 (-1 : Int)) r) := by kernel_rfl
theorem r_it0 (p : Prog) (r : XV) : (goQ Try.prog TI2 [(.tmp 2)] r (.run c_image_Targets) [] ⟨envX 0 [e_Prog p], [], 0⟩) = (LoopAt (Ok Try.prog (Tab.q TI2)) c_image_Targets_l1 (XSt.mk [(10, .int .i64 0), (9, .int .i64 (↑(List.length (Prog.code p)) : Int)), (8, e_row 5 e_Ins (Prog.code
 p)), (2, .int .i64 0), (1, .ptr 0 [] 0)] [(0, some (e_Prog p))] 1) [Frm.blk 0, Frm.seq c_image_Targets_p1] (finQR [AR.tmp 2] r)) := by kernel_rfl
theorem r_it1 (p : Prog) (i : Nat) (r : XV) (A : XSt → Prop) : (goQ Try.prog TI2 [(.tmp 2)] r (.run c_image_Targets_l1) [.lp c_image_Targets_l1 A, .blk 0, .seq c_image_Targets_p1] ⟨[(10, .int .i64 i), (9, .int .i64 p.code.length), (8, e_row 5 e_Ins p.code), (1, .ptr 0 [] 0)], [(0, some (e_Prog p))], 1⟩) = (bif decide ((↑i : Int) < (↑(List.length (Prog.code p)) : Int)) then bif decide ((↑i : Int) < (↑(List.length (Prog.code p)) : Int)) then bif decide ((↑i : Int)
 < (↑(List.length (Prog.code p)) : Int)) then bif decide ((↑i : Int) < (↑(List.length (Prog.code p)) : Int)) then bif bif decide (formI (Ins.op (ix (Prog.code p)
 i)) = 6) then true else !decide (formI (Ins.op (ix (Prog.code p) i)) = 6) then bif bif bif decide (formI (Ins.op (ix (Prog.code p) i)) = 6) then true else decide
 (formI (Ins.op (ix (Prog.code p) i)) = 7) then true else !bif decide (formI (Ins.op (ix (Prog.code p) i)) = 6) then true else decide (formI (Ins.op (ix (Prog.code
 p) i)) = 7) then bif bif bif decide (Ins.imm (ix (Prog.code p) i) < IntKind.wrap .i64 ((0 : Int) - (↑i : Int))) then true else bif bif decide (formI (Ins.op (ix
 (Prog.code p) i)) = 6) then true else decide (formI (Ins.op (ix (Prog.code p) i)) = 7) then !decide (Ins.imm (ix (Prog.code p) i) < IntKind.wrap .i64 ((0 : Int)
 - (↑i : Int))) else false then true else !bif decide (formI (Ins.op (ix (Prog.code p) i)) = 6) then true else decide (formI (Ins.op (ix (Prog.code p) i)) = 7) then
 bif bif bif decide (formI (Ins.op (ix (Prog.code p) i)) = 6) then true else decide (formI (Ins.op (ix (Prog.code p) i)) = 7) then bif decide (formI (Ins.op (ix (Prog.code
 p) i)) = 6) then true else decide (formI (Ins.op (ix (Prog.code p) i)) = 7) else true then bif bif bif decide (formI (Ins.op (ix (Prog.code p) i)) = 6) then true
 else decide (formI (Ins.op (ix (Prog.code p) i)) = 7) then bif decide (Ins.imm (ix (Prog.code p) i) < IntKind.wrap .i64 ((0 : Int) - (↑i : Int))) then true else
 decide (Ins.imm (ix (Prog.code p) i) ≥ IntKind.wrap .i64 ((↑(List.length (Prog.code p)) : Int) - (↑i : Int))) else false then ResLe (.int .i64 4) r else A (XSt.mk
 [(10, .int .i64 (IntKind.wrap .i64 ((↑i : Int) + (1 : Int)))), (9, .int .i64 (↑(List.length (Prog.code p)) : Int)), (8, e_row 5 e_Ins (Prog.code p)), (1, .ptr 0
 [] 0)] [(1, some (e_Ins (ix (Prog.code p) i))), (0, some (e_Prog p))] 2) else False else False else False else False else False else False else False
else ResLe
 (.int .i64 0) r) := by kernel_rfl
theorem TI2ok : TabOk Try.prog TI2 := mkT2_ok (clok_image.app clok_slices) ⟨sp_irt, sp_iform, trivial⟩ trivial trivial trivial
theorem sk_idi : SkOk Try.prog (66, idiS) := skOf_ok fun l h => by
  have hl : l.length ≤ 1000000000 := h
  show Pure _ _ (cons [e_row 5 e_Ins l, .clo 45 []]) (con (.int .i64 (idxF wrgF l)))
  refine pureQ mix TI2ok t_slices_IndexFunc_Ins_Ins (Nat.le_of_ble_eq_true rfl) ?_
  refine Eq.mpr (r_im0 l _) ?_
  refine loopQ mix TI2ok (fun i : Nat => ⟨[(0, e_row 5 e_Ins l), (1, .clo 45 []), (8, .int .i64 i), (7, .int .i64 l.length)], [], 0⟩) (fun i => i ≤ l.length ∧ ∀ j, j < i → wrgF (ix l j) = false) (fun i => l.length - i) 0 ⟨Nat.zero_le _, fun j hj => by omega⟩ (.of (weakX ⟨rfl, rfl, rfl, rfl, trivial⟩ trivial (Nat.le_refl _))) ?_
  rintro i ⟨hi1, hp⟩
  refine Eq.mpr (r_im1 l i _ _) ?_
  by_cases hlt : i < l.length
  · have h1 : (i : Int) < (l.length : Int) := by omega
    have w1 : IntKind.i64.wrap ((i : Int) + 1) = ((i + 1 : Nat) : Int) := wrap_i64 (by omega) (by omega)
    simp only [g1, g2, g3, g4, g5, g6, g7, allN_true, cond_true, Nat.le_refl, decide_true, pl_eq, h1, w1]
    refine cnd2 (fun h => ?_) (fun h => ?_)
    · have e : idxF wrgF l = i := idxF_some hlt h hp
      rw [e]; exact .rfl
    · refine ⟨i + 1, ⟨hlt, fun j hj => ?_⟩, .of (weakX ⟨rfl, rfl, rfl, rfl, trivial⟩ trivial (Nat.le_refl _)), by omega⟩
      by_cases hji : j = i
      · subst hji; exact h
      · exact hp j (by omega)
  · have h1 : ¬ (i : Int) < (l.length : Int) := by omega
    simp only [h1, decide_false, cond_false]
    have e : idxF wrgF l = -1 := idxF_none fun j hj => hp j (by omega)
    rw [e]; exact .rfl
theorem tgt_eq {p : Prog} {i : Nat} (h : i < p.code.length) (hr : rightIns (ix p.code i) = true) : tgtOk p i = jmpOk p i := by
  have him : decide (formI (ix p.code i).op = 6) || decide (formI (ix p.code i).op = 7) = true → -8192 ≤ (ix p.code i).imm ∧ (ix p.code i).imm ≤ 8191 := fun hc => by
    simp only [rightIns, Bool.and_eq_true] at hr
    obtain ⟨_, _, _, _, _, h5⟩ := hr
    split at h5 <;> simp at h5 <;> omega
  unfold tgtOk targetF jmpOk
  rw [Bool.eq_iff_iff]
  cases hc : (decide (formI (ix p.code i).op = 6) || decide (formI (ix p.code i).op = 7)) with
  | false => simp
  | true =>
    have := him (by simpa using hc)
    split <;> simp at * <;> omega
theorem tgs_eq {p : Prog} (h : allN (fun n => rightIns (ix p.code n)) p.code.length = true) : tgsOk p = jmpsF p := by
  unfold tgsOk jmpsF
  rw [Bool.eq_iff_iff, allN_iff, allN_iff]
  have h := allN_iff.1 h
  exact ⟨fun g i hi => by rw [← tgt_eq hi (h i hi)]; exact g i hi, fun g i hi => by rw [tgt_eq hi (h i hi)]; exact g i hi⟩
theorem g8 (a b : Bool) : (a || b && !a || !b) = true := by cases a <;> cases b <;> rfl
theorem sk_imt : SkOk Try.prog (49, imtS) := skOf_ok fun p hw => by
  have hw : p.wf := hw
  have hl := hw.1.2
  refine pureQ mix TI2ok t_image_Targets (Nat.le_of_ble_eq_true rfl) ?_
  refine Eq.mpr (r_it0 p _) ?_
  refine loopQ mix TI2ok (fun i : Nat => ⟨[(10, .int .i64 i), (9, .int .i64 p.code.length), (8, e_row 5 e_Ins p.code), (1, .ptr 0 [] 0)], [(0, some (e_Prog p))], 1⟩) (fun i => i ≤ p.code.length ∧ ∀ j, j < i → jmpOk p j = true) (fun i => p.code.length - i) 0 ⟨Nat.zero_le _, fun j hj => by omega⟩ (.of (weakX ⟨rfl, rfl, rfl, rfl, trivial⟩ ⟨rfl, trivial⟩ (Nat.le_refl _))) ?_
  rintro i ⟨hi, hp⟩
  refine Eq.mpr (r_it1 p i _ _) ?_
  by_cases hlt : i < p.code.length
  · have h1 : (i : Int) < (p.code.length : Int) := by omega
    have w1 : IntKind.i64.wrap ((i : Int) + 1) = ((i + 1 : Nat) : Int) := wrap_i64 (by omega) (by omega)
    have w2 : IntKind.i64.wrap (0 - (i : Int)) = -(i : Int) := by rw [wrap_i64 (by omega) (by omega)]; omega
    have w3 : IntKind.i64.wrap ((p.code.length : Int) - i) = (p.code.length : Int) - i := wrap_i64 (by omega) (by omega)
    have te : jmpOk p i = !((decide (formI (ix p.code i).op = 6) || decide (formI (ix p.code i).op = 7)) && (decide ((ix p.code i).imm < -(i : Int)) || decide ((ix p.code i).imm ≥ (p.code.length : Int) - i))) := rfl
    simp only [g1, g2, g3, g4, g5, g6, g7, allN_true, cond_true, Nat.le_refl, decide_true, pl_eq, h1, w1, w2, w3]
    simp only [bor, band]
    simp only [g8, cond_true]
    cases hc : (decide (formI (ix p.code i).op = 6) || decide (formI (ix p.code i).op = 7)) && (decide ((ix p.code i).imm < -(i : Int)) || decide ((ix p.code i).imm ≥ (p.code.length : Int) - i)) with
    | true =>
      rw [hc] at te
      have : jmpsF p = false := allN_false hlt te
      rw [this]
      exact .rfl
    | false =>
      rw [hc] at te
      refine ⟨i + 1, ⟨hlt, fun j hj => ?_⟩, .ofL (weakT ⟨le_is rfl, le_is rfl, le_is rfl, le_is rfl, trivial⟩ ⟨rfl, trivial⟩ (Nat.le_refl _) rfl), by omega⟩
      by_cases hji : j = i
      · subst hji; exact te
      · exact hp j (by omega)
  · have h1 : ¬ (i : Int) < (p.code.length : Int) := by omega
    simp only [h1, decide_false, cond_false]
    have : jmpsF p = true := allN_iff.2 fun j hj => hp j (by omega)
    rw [this]
    exact .rfl
theorem TI3ok : TabOk Try.prog TI3 := mkT2_ok (clok_image.app clok_slices) trivial trivial ⟨sk_idi, sk_imt, trivial⟩ trivial
theorem r_ir (p : Prog) (r : XV) : (quietGo TI3 80 (callI TI3 80 20) 28 [e_Prog p] (fun v => ResLe v r)) = (bif bif decide ((↑(List.length (Prog.code p)) : Int) ≥ 1) then decide ((↑(List.length (Prog.code p)) : Int) ≥ 1) else true then bif bif bif decide ((↑(List.length
 (Prog.code p)) : Int) ≥ 1) then decide ((↑(List.length (Prog.code p)) : Int) ≤ 2000) else false then bif decide ((↑(List.length (Prog.code p)) : Int) ≥ 1) then decide
 ((↑(List.length (Prog.code p)) : Int) ≤ 2000) else false else true then bif bif bif bif decide ((↑(List.length (Prog.code p)) : Int) ≥ 1) then decide ((↑(List.length
 (Prog.code p)) : Int) ≤ 2000) else false then decide (Prog.size p ≥ 0) else false then bif bif decide ((↑(List.length (Prog.code p)) : Int) ≥ 1) then decide ((↑(List.length
 (Prog.code p)) : Int) ≤ 2000) else false then decide (Prog.size p ≥ 0) else false else true then bif bif bif bif bif decide ((↑(List.length (Prog.code p)) : Int)
 ≥ 1) then decide ((↑(List.length (Prog.code p)) : Int) ≤ 2000) else false then decide (Prog.size p ≥ 0) else false then decide (Prog.size p ≤ 65536) else false then
 bif bif bif decide ((↑(List.length (Prog.code p)) : Int) ≥ 1) then decide ((↑(List.length (Prog.code p)) : Int) ≤ 2000) else false then decide (Prog.size p ≥ 0)
 else false then decide (Prog.size p ≤ 65536) else false else true then bif bif bif bif bif decide ((↑(List.length (Prog.code p)) : Int) ≥ 1) then decide ((↑(List.length
 (Prog.code p)) : Int) ≤ 2000) else false then decide (Prog.size p ≥ 0) else false then decide (Prog.size p ≤ 65536) else false then decide ((↑(List.length (Prog.data
 p)) : Int) ≤ Prog.size p) else false then ∃ (s : List Ins), ArgsLe [e_row 5 e_Ins (Prog.code p), .clo 45 []] [e_row 5 e_Ins s, .clo 45 []] ∧ PreIs (List.length s
 ≤ 1000000000) ∧ ∀ (y : Int), y = idxF wrgF s → bif bif bif bif bif bif decide ((↑(List.length (Prog.code p)) : Int) ≥ 1) then decide ((↑(List.length (Prog.code p))
 : Int) ≤ 2000) else false then decide (Prog.size p ≥ 0) else false then decide (Prog.size p ≤ 65536) else false then decide ((↑(List.length (Prog.data p)) : Int)
 ≤ Prog.size p) else false then !decide (y ≥ 0) else false then ∃ (s : Prog), ArgsLe [e_Prog p] [e_Prog s] ∧ PreIs (Prog.wf s) ∧ ∀ (y_1 : Int), (y_1 = if jmpsF s
 = true then (0 : Int) else (4 : Int)) → ResLe (.bool (bif bif bif bif bif bif decide ((↑(List.length (Prog.code p)) : Int) ≥ 1) then decide ((↑(List.length (Prog.code
 p)) : Int) ≤ 2000) else false then decide (Prog.size p ≥ 0) else false then decide (Prog.size p ≤ 65536) else false then decide ((↑(List.length (Prog.data p)) :
 Int) ≤ Prog.size p) else false then !decide (y ≥ 0) else false then decide (y_1 = 0) else false)) r else bif !bif bif bif bif bif decide ((↑(List.length (Prog.code
 p)) : Int) ≥ 1) then decide ((↑(List.length (Prog.code p)) : Int) ≤ 2000) else false then decide (Prog.size p ≥ 0) else false then decide (Prog.size p ≤ 65536) else
 false then decide ((↑(List.length (Prog.data p)) : Int) ≤ Prog.size p) else false then !decide (y ≥ 0) else false then ResLe (.bool false) r else False else bif
 !bif bif bif bif decide ((↑(List.length (Prog.code p)) : Int) ≥ 1) then decide ((↑(List.length (Prog.code p)) : Int) ≤ 2000) else false then decide (Prog.size p
 ≥ 0) else false then decide (Prog.size p ≤ 65536) else false then decide ((↑(List.length (Prog.data p)) : Int) ≤ Prog.size p) else false then ResLe (.bool false)
 r else False else False else False else False
else False) := by kernel_rfl
theorem sk_imr : SkOk Try.prog (28, rprS) := skOf_ok fun p hw => by
  have hw : p.wf := hw
  have hl := hw.1.2
  show Pure _ _ (cons [e_Prog p]) (con (.bool (rightProg p)))
  refine pureR (u := 80) (k := 20) mix TI3ok ?_
  refine Eq.mpr (r_ir p _) ?_
  simp only [g1, g2, g3, g4, g5, g6, g7, allN_true, cond_true, Nat.le_refl, decide_true, pl_eq]
  simp only [bor, band]
  have e : (decide ((p.code.length : Int) ≥ 1) && decide ((p.code.length : Int) ≤ 2000) && decide (p.size ≥ 0) && decide (p.size ≤ 65536) && decide ((p.data.length : Int) ≤ p.size)) = decide (1 ≤ p.code.length ∧ p.code.length ≤ 2000 ∧ 0 ≤ p.size ∧ p.size ≤ 65536 ∧ (p.data.length : Int) ≤ p.size) := by
    rw [Bool.eq_iff_iff]
    simp only [Bool.and_eq_true, decide_eq_true_eq]
    omega
  rw [e]
  unfold rightProg
  cases hsz : decide (1 ≤ p.code.length ∧ p.code.length ≤ 2000 ∧ 0 ≤ p.size ∧ p.size ≤ 65536 ∧ (p.data.length : Int) ≤ p.size) with
  | false => exact .rfl
  | true =>
  have hsz := of_decide_eq_true hsz
  refine ⟨p.code, .rfl, ⟨by show p.code.length ≤ 1000000000; omega⟩, ?_⟩
  intro y hy
  replace hy : y = idxF wrgF p.code := hy
  subst hy
  simp only [idxF_ge, Bool.true_and]
  have e2 : p.code.any wrgF = !allN (fun n => rightIns (ix p.code n)) p.code.length := by
    rw [Bool.eq_iff_iff, List.any_eq_true, Bool.not_eq_true', ← Bool.not_eq_true, allN_iff]
    constructor
    · rintro ⟨x, hx, h⟩ h2
      obtain ⟨j, hj, rfl⟩ := List.mem_iff_getElem.1 hx
      have := h2 j hj
      rw [ix_lt hj] at this
      simp [wrgF, this] at h
    · intro h
      apply Classical.byContradiction
      intro h2
      refine h fun i hi => ?_
      apply Classical.byContradiction
      intro h3
      exact h2 ⟨_, ix_mem hi, by simp [wrgF, h3]⟩
  rw [e2]
  cases hr : allN (fun n => rightIns (ix p.code n)) p.code.length with
  | false => exact .rfl
  | true =>
  refine ⟨p, .rfl, ⟨hw⟩, ?_⟩
  intro y hy
  replace hy : y = if jmpsF p then 0 else 4 := hy
  subst hy
  rw [tgs_eq hr]
  cases jmpsF p <;> exact .rfl
end Go.Proofs.Ytmfbaglhmiadjaa

