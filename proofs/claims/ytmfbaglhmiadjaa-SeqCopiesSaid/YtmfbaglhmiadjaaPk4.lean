/- Texts put together. -/
import Derived.Test.YtmfbaglhmiadjaaPk3
/- What the functions that reckon give: forms, and which instructions may be. -/
namespace Go.Proofs.Ytmfbaglhmiadjaa
open Go.Ra
set_option linter.unusedVariables false
set_option linter.unusedSimpArgs false
def TA0 : Tab := mkT qq (cl_alu ++ cl_isa ++ cl_word ++ cl_ref1 ++ cl_math) [] []
/-- The form of an operation. -/
def fmI (op : Int) : Int := if op < 1 ∨ op > 41 then 0 else if op ≤ 16 then 1 else if op ≤ 24 then 2 else if op = 25 then 3 else if op ≤ 30 then 4 else if op ≤ 33 then 5 else if op ≤ 39 then 6 else if op = 40 then 7 else 8
def fmSp : List XV → Option (List Bool × XV)
  | [.int .i64 op] => some ([], .int .i64 (fmI op))
  | _ => none
def oneI (b : Bool) : Int := bif b then 1 else 0
def oneSp : List XV → Option (List Bool × XV)
  | [.bool b] => some ([], .int .u32 (oneI b))
  | _ => none
/-- May a field be that? -/
def rgP (n : Int) (h : Prop) : Prop := (h ∧ 0 ≤ n ∧ n ≤ 15) ∨ (¬ h ∧ n = 0)
/-- May an instruction be? -/
def rtP (op f d x y m : Int) : Prop := f ≠ 0 ∧ rgP d (1 ≤ f ∧ f ≤ 4) ∧ rgP x (f = 1 ∨ f = 2 ∨ f = 4 ∨ f = 5 ∨ f = 6) ∧ rgP y (f = 1 ∨ f = 5 ∨ f = 6) ∧ (m = 0 ∨ (2 ≤ f ∧ f ≤ 7 ∧ ((¬ (op = 22 ∨ op = 23 ∨ op = 24) ∧ -8192 ≤ m ∧ m ≤ 8191) ∨ ((op = 22 ∨ op = 23 ∨ op = 24) ∧ 0 ≤ m ∧ m ≤ 31))))
instance {n : Int} {h : Prop} [Decidable h] : Decidable (rgP n h) := by unfold rgP; infer_instance
instance {op f d x y m : Int} : Decidable (rtP op f d x y m) := by unfold rtP; infer_instance
def rtB (op d x y m : Int) : Bool := decide (rtP op (fmI op) d x y m)
def rtSp : List XV → Option (List Bool × XV)
  | [.agg 5 [.int .i64 op, .int .i64 d, .int .i64 x, .int .i64 y, .int .i64 m]] => some ([], .bool (rtB op d x y m))
  | _ => none
/-- The same, where it is known. -/
def fmSpF (f : Int) : List XV → Option (List Bool × XV)
  | [.int .i64 op] => some ([decide (fmI op = f)], .int .i64 f)
  | _ => none
def TA1 (f : Int) : Tab := mkT qq (cl_alu ++ cl_isa ++ cl_word ++ cl_ref1 ++ cl_math) [(51, fmSpF f), (26, fmSpF f)] []
theorem TA0ok : TabOk Try.prog TA0 := mkT_ok ((((clok_alu.app clok_isa).app clok_word).app clok_ref1).app clok_math) trivial trivial
theorem r_fm1 (a : Int) (K : XV → Prop) : (quietGo TA0 80 (callI TA0 80 20) 51 [.int .i64 a] K) = (bif bif decide (a < 1) then true else !decide (a < 1) then bif bif decide (a < 1) then true else decide (a > 41) then K (.int .i64 0) else bif decide (a ≤ 16)
 then K (.int .i64 1) else bif decide (a ≤ 24) then K (.int .i64 2) else bif decide (a = 25) then K (.int .i64 3) else bif decide (a ≤ 30) then K (.int .i64 4) else
 bif decide (a ≤ 33) then K (.int .i64 5) else bif decide (a ≤ 39) then K (.int .i64 6) else bif decide (a = 40) then K (.int .i64 7) else K (.int .i64 8)
else False)
 := by kernel_rfl
theorem r_fm2 (a : Int) (K : XV → Prop) : (quietGo TA0 80 (callI TA0 80 20) 26 [.int .i64 a] K) = (bif bif decide (a < 1) then true else !decide (a < 1) then bif bif decide (a < 1) then true else decide (a > 41) then K (.int .i64 0) else bif decide (a ≤ 16)
 then K (.int .i64 1) else bif decide (a ≤ 24) then K (.int .i64 2) else bif decide (a = 25) then K (.int .i64 3) else bif decide (a ≤ 30) then K (.int .i64 4) else
 bif decide (a ≤ 33) then K (.int .i64 5) else bif decide (a ≤ 39) then K (.int .i64 6) else bif decide (a = 40) then K (.int .i64 7) else K (.int .i64 8)
else False)
 := by kernel_rfl
theorem r_one1 (a : Bool) (K : XV → Prop) : (quietGo TA0 80 (callI TA0 80 20) 77 [.bool a] K) = (bif a then K (.int .u32 1) else K (.int .u32 0)) := by kernel_rfl
theorem r_one2 (a : Bool) (K : XV → Prop) : (quietGo TA0 80 (callI TA0 80 20) 58 [.bool a] K) = (bif a then K (.int .u32 1) else K (.int .u32 0)) := by kernel_rfl
theorem r_rt1_0 (op d x y m : Int) (K : XV → Prop) : (quietGo (TA1 0) 80 (callI (TA1 0) 80 20) 46 [.agg 5 [.int .i64 op, .int .i64 d, .int .i64 x, .int .i64 y, .int .i64 m]] K) = (bif decide (fmI op = 0) then bif bif decide (op = 22) then true else !decide (op = 22) then bif bif bif decide (op = 22) then true else decide (op = 23) then
 true else !bif decide (op = 22) then true else decide (op = 23) then bif bif bif decide (op = 22) then true else decide (op = 23) then true else decide (op = 24)
 then K (.bool false) else K (.bool false) else False else False
else False) := by kernel_rfl
theorem r_rt1_1 (op d x y m : Int) (K : XV → Prop) : (quietGo (TA1 1) 80 (callI (TA1 1) 80 20) 46 [.agg 5 [.int .i64 op, .int .i64 d, .int .i64 x, .int .i64 y, .int .i64 m]] K) = (bif decide (fmI op = 1) then bif bif decide (op = 22) then true else !decide (op = 22) then bif bif bif decide (op = 22) then true else decide (op = 23) then
 true else !bif decide (op = 22) then true else decide (op = 23) then bif bif bif decide (op = 22) then true else decide (op = 23) then true else decide (op = 24)
 then bif bif decide (d ≥ 0) then decide (d ≥ 0) else true then bif bif decide (d ≥ 0) then decide (d ≤ 15) else false then bif bif decide (x ≥ 0) then decide (x
 ≥ 0) else true then bif bif bif decide (d ≥ 0) then decide (d ≤ 15) else false then bif decide (x ≥ 0) then decide (x ≤ 15) else false else false then bif bif decide
 (y ≥ 0) then decide (y ≥ 0) else true then bif bif bif bif decide (d ≥ 0) then decide (d ≤ 15) else false then bif decide (x ≥ 0) then decide (x ≤ 15) else false
 else false then bif decide (y ≥ 0) then decide (y ≤ 15) else false else false then K (.bool (bif bif bif bif decide (d ≥ 0) then decide (d ≤ 15) else false then
 bif decide (x ≥ 0) then decide (x ≤ 15) else false else false then bif decide (y ≥ 0) then decide (y ≤ 15) else false else false then decide (m = 0) else false))
 else bif !bif bif bif decide (d ≥ 0) then decide (d ≤ 15) else false then bif decide (x ≥ 0) then decide (x ≤ 15) else false else false then bif decide (y ≥ 0) then
 decide (y ≤ 15) else false else false then K (.bool false) else False else False else bif !bif bif decide (d ≥ 0) then decide (d ≤ 15) else false then bif decide
 (x ≥ 0) then decide (x ≤ 15) else false else false then K (.bool false) else False else False else bif !bif decide (d ≥ 0) then decide (d ≤ 15) else false then K
 (.bool false) else False else False else bif bif decide (d ≥ 0) then decide (d ≥ 0) else true then bif bif decide (d ≥ 0) then decide (d ≤ 15) else false then bif
 bif decide (x ≥ 0) then decide (x ≥ 0) else true then bif bif bif decide (d ≥ 0) then decide (d ≤ 15) else false then bif decide (x ≥ 0) then decide (x ≤ 15) else
 false else false then bif bif decide (y ≥ 0) then decide (y ≥ 0) else true then bif bif bif bif decide (d ≥ 0) then decide (d ≤ 15) else false then bif decide (x
 ≥ 0) then decide (x ≤ 15) else false else false then bif decide (y ≥ 0) then decide (y ≤ 15) else false else false then K (.bool (bif bif bif bif decide (d ≥ 0)
 then decide (d ≤ 15) else false then bif decide (x ≥ 0) then decide (x ≤ 15) else false else false then bif decide (y ≥ 0) then decide (y ≤ 15) else false else false
 then decide (m = 0) else false)) else bif !bif bif bif decide (d ≥ 0) then decide (d ≤ 15) else false then bif decide (x ≥ 0) then decide (x ≤ 15) else false else
 false then bif decide (y ≥ 0) then decide (y ≤ 15) else false else false then K (.bool false) else False else False else bif !bif bif decide (d ≥ 0) then decide
 (d ≤ 15) else false then bif decide (x ≥ 0) then decide (x ≤ 15) else false else false then K (.bool false) else False else False else bif !bif decide (d ≥ 0) then
 decide (d ≤ 15) else false then K (.bool false) else False else False else False else False
else False) := by kernel_rfl
theorem r_rt1_2 (op d x y m : Int) (K : XV → Prop) : (quietGo (TA1 2) 80 (callI (TA1 2) 80 20) 46 [.agg 5 [.int .i64 op, .int .i64 d, .int .i64 x, .int .i64 y, .int .i64 m]] K) = (bif decide (fmI op = 2) then bif bif decide (op = 22) then true else !decide (op = 22) then bif bif bif decide (op = 22) then true else decide (op = 23) then
 true else !bif decide (op = 22) then true else decide (op = 23) then bif bif bif decide (op = 22) then true else decide (op = 23) then true else decide (op = 24)
 then bif bif decide (d ≥ 0) then decide (d ≥ 0) else true then bif bif decide (d ≥ 0) then decide (d ≤ 15) else false then bif bif decide (x ≥ 0) then decide (x
 ≥ 0) else true then bif bif bif decide (d ≥ 0) then decide (d ≤ 15) else false then bif decide (x ≥ 0) then decide (x ≤ 15) else false else false then bif bif bif
 bif decide (d ≥ 0) then decide (d ≤ 15) else false then bif decide (x ≥ 0) then decide (x ≤ 15) else false else false then decide (y = 0) else false then bif bif
 decide (m ≥ 0) then decide (m ≥ 0) else true then K (.bool (bif bif bif bif decide (d ≥ 0) then decide (d ≤ 15) else false then bif decide (x ≥ 0) then decide (x
 ≤ 15) else false else false then decide (y = 0) else false then bif decide (m ≥ 0) then decide (m ≤ 31) else false else false)) else False else bif !bif bif bif
 decide (d ≥ 0) then decide (d ≤ 15) else false then bif decide (x ≥ 0) then decide (x ≤ 15) else false else false then decide (y = 0) else false then K (.bool false)
 else False else bif !bif bif decide (d ≥ 0) then decide (d ≤ 15) else false then bif decide (x ≥ 0) then decide (x ≤ 15) else false else false then K (.bool false)
 else False else False else bif !bif decide (d ≥ 0) then decide (d ≤ 15) else false then K (.bool false) else False else False else bif bif decide (d ≥ 0) then decide
 (d ≥ 0) else true then bif bif decide (d ≥ 0) then decide (d ≤ 15) else false then bif bif decide (x ≥ 0) then decide (x ≥ 0) else true then bif bif bif decide (d
 ≥ 0) then decide (d ≤ 15) else false then bif decide (x ≥ 0) then decide (x ≤ 15) else false else false then bif bif bif bif decide (d ≥ 0) then decide (d ≤ 15)
 else false then bif decide (x ≥ 0) then decide (x ≤ 15) else false else false then decide (y = 0) else false then bif bif decide (m ≥ (-8192 : Int)) then decide
 (m ≥ (-8192 : Int)) else true then K (.bool (bif bif bif bif decide (d ≥ 0) then decide (d ≤ 15) else false then bif decide (x ≥ 0) then decide (x ≤ 15) else false
 else false then decide (y = 0) else false then bif decide (m ≥ (-8192 : Int)) then decide (m ≤ 8191) else false else false)) else False else bif !bif bif bif decide
 (d ≥ 0) then decide (d ≤ 15) else false then bif decide (x ≥ 0) then decide (x ≤ 15) else false else false then decide (y = 0) else false then K (.bool false) else
 False else bif !bif bif decide (d ≥ 0) then decide (d ≤ 15) else false then bif decide (x ≥ 0) then decide (x ≤ 15) else false else false then K (.bool false) else
 False else False else bif !bif decide (d ≥ 0) then decide (d ≤ 15) else false then K (.bool false) else False else False else False else False
else False) := by
 kernel_rfl
theorem r_rt1_3 (op d x y m : Int) (K : XV → Prop) : (quietGo (TA1 3) 80 (callI (TA1 3) 80 20) 46 [.agg 5 [.int .i64 op, .int .i64 d, .int .i64 x, .int .i64 y, .int .i64 m]] K) = (bif decide (fmI op = 3) then bif bif decide (op = 22) then true else !decide (op = 22) then bif bif bif decide (op = 22) then true else decide (op = 23) then
 true else !bif decide (op = 22) then true else decide (op = 23) then bif bif bif decide (op = 22) then true else decide (op = 23) then true else decide (op = 24)
 then bif bif decide (d ≥ 0) then decide (d ≥ 0) else true then bif bif decide (d ≥ 0) then decide (d ≤ 15) else false then bif bif bif decide (d ≥ 0) then decide
 (d ≤ 15) else false then decide (x = 0) else false then bif bif bif bif decide (d ≥ 0) then decide (d ≤ 15) else false then decide (x = 0) else false then decide
 (y = 0) else false then bif bif decide (m ≥ 0) then decide (m ≥ 0) else true then K (.bool (bif bif bif bif decide (d ≥ 0) then decide (d ≤ 15) else false then decide
 (x = 0) else false then decide (y = 0) else false then bif decide (m ≥ 0) then decide (m ≤ 31) else false else false)) else False else bif !bif bif bif decide (d
 ≥ 0) then decide (d ≤ 15) else false then decide (x = 0) else false then decide (y = 0) else false then K (.bool false) else False else bif !bif bif decide (d ≥
 0) then decide (d ≤ 15) else false then decide (x = 0) else false then K (.bool false) else False else bif !bif decide (d ≥ 0) then decide (d ≤ 15) else false then
 K (.bool false) else False else False else bif bif decide (d ≥ 0) then decide (d ≥ 0) else true then bif bif decide (d ≥ 0) then decide (d ≤ 15) else false then
 bif bif bif decide (d ≥ 0) then decide (d ≤ 15) else false then decide (x = 0) else false then bif bif bif bif decide (d ≥ 0) then decide (d ≤ 15) else false then
 decide (x = 0) else false then decide (y = 0) else false then bif bif decide (m ≥ (-8192 : Int)) then decide (m ≥ (-8192 : Int)) else true then K (.bool (bif bif
 bif bif decide (d ≥ 0) then decide (d ≤ 15) else false then decide (x = 0) else false then decide (y = 0) else false then bif decide (m ≥ (-8192 : Int)) then decide
 (m ≤ 8191) else false else false)) else False else bif !bif bif bif decide (d ≥ 0) then decide (d ≤ 15) else false then decide (x = 0) else false then decide (y
 = 0) else false then K (.bool false) else False else bif !bif bif decide (d ≥ 0) then decide (d ≤ 15) else false then decide (x = 0) else false then K (.bool false)
 else False else bif !bif decide (d ≥ 0) then decide (d ≤ 15) else false then K (.bool false) else False else False else False else False
else False) := by kernel_rfl 

theorem r_rt1_4 (op d x y m : Int) (K : XV → Prop) : (quietGo (TA1 4) 80 (callI (TA1 4) 80 20) 46 [.agg 5 [.int .i64 op, .int .i64 d, .int .i64 x, .int .i64 y, .int .i64 m]] K) = (bif decide (fmI op = 4) then bif bif decide (op = 22) then true else !decide (op = 22) then bif bif bif decide (op = 22) then true else decide (op = 23) then
 true else !bif decide (op = 22) then true else decide (op = 23) then bif bif bif decide (op = 22) then true else decide (op = 23) then true else decide (op = 24)
 then bif bif decide (d ≥ 0) then decide (d ≥ 0) else true then bif bif decide (d ≥ 0) then decide (d ≤ 15) else false then bif bif decide (x ≥ 0) then decide (x
 ≥ 0) else true then bif bif bif decide (d ≥ 0) then decide (d ≤ 15) else false then bif decide (x ≥ 0) then decide (x ≤ 15) else false else false then bif bif bif
 bif decide (d ≥ 0) then decide (d ≤ 15) else false then bif decide (x ≥ 0) then decide (x ≤ 15) else false else false then decide (y = 0) else false then bif bif
 decide (m ≥ 0) then decide (m ≥ 0) else true then K (.bool (bif bif bif bif decide (d ≥ 0) then decide (d ≤ 15) else false then bif decide (x ≥ 0) then decide (x
 ≤ 15) else false else false then decide (y = 0) else false then bif decide (m ≥ 0) then decide (m ≤ 31) else false else false)) else False else bif !bif bif bif
 decide (d ≥ 0) then decide (d ≤ 15) else false then bif decide (x ≥ 0) then decide (x ≤ 15) else false else false then decide (y = 0) else false then K (.bool false)
 else False else bif !bif bif decide (d ≥ 0) then decide (d ≤ 15) else false then bif decide (x ≥ 0) then decide (x ≤ 15) else false else false then K (.bool false)
 else False else False else bif !bif decide (d ≥ 0) then decide (d ≤ 15) else false then K (.bool false) else False else False else bif bif decide (d ≥ 0) then decide
 (d ≥ 0) else true then bif bif decide (d ≥ 0) then decide (d ≤ 15) else false then bif bif decide (x ≥ 0) then decide (x ≥ 0) else true then bif bif bif decide (d
 ≥ 0) then decide (d ≤ 15) else false then bif decide (x ≥ 0) then decide (x ≤ 15) else false else false then bif bif bif bif decide (d ≥ 0) then decide (d ≤ 15)
 else false then bif decide (x ≥ 0) then decide (x ≤ 15) else false else false then decide (y = 0) else false then bif bif decide (m ≥ (-8192 : Int)) then decide
 (m ≥ (-8192 : Int)) else true then K (.bool (bif bif bif bif decide (d ≥ 0) then decide (d ≤ 15) else false then bif decide (x ≥ 0) then decide (x ≤ 15) else false
 else false then decide (y = 0) else false then bif decide (m ≥ (-8192 : Int)) then decide (m ≤ 8191) else false else false)) else False else bif !bif bif bif decide
 (d ≥ 0) then decide (d ≤ 15) else false then bif decide (x ≥ 0) then decide (x ≤ 15) else false else false then decide (y = 0) else false then K (.bool false) else
 False else bif !bif bif decide (d ≥ 0) then decide (d ≤ 15) else false then bif decide (x ≥ 0) then decide (x ≤ 15) else false else false then K (.bool false) else
 False else False else bif !bif decide (d ≥ 0) then decide (d ≤ 15) else false then K (.bool false) else False else False else False else False
else False) := by
 kernel_rfl
theorem r_rt1_5 (op d x y m : Int) (K : XV → Prop) : (quietGo (TA1 5) 80 (callI (TA1 5) 80 20) 46 [.agg 5 [.int .i64 op, .int .i64 d, .int .i64 x, .int .i64 y, .int .i64 m]] K) = (bif decide (fmI op = 5) then bif bif decide (op = 22) then true else !decide (op = 22) then bif bif bif decide (op = 22) then true else decide (op = 23) then
 true else !bif decide (op = 22) then true else decide (op = 23) then bif bif bif decide (op = 22) then true else decide (op = 23) then true else decide (op = 24)
 then bif decide (d = 0) then bif bif decide (x ≥ 0) then decide (x ≥ 0) else true then bif bif decide (d = 0) then bif decide (x ≥ 0) then decide (x ≤ 15) else false
 else false then bif bif decide (y ≥ 0) then decide (y ≥ 0) else true then bif bif bif decide (d = 0) then bif decide (x ≥ 0) then decide (x ≤ 15) else false else
 false then bif decide (y ≥ 0) then decide (y ≤ 15) else false else false then bif bif decide (m ≥ 0) then decide (m ≥ 0) else true then K (.bool (bif bif bif decide
 (d = 0) then bif decide (x ≥ 0) then decide (x ≤ 15) else false else false then bif decide (y ≥ 0) then decide (y ≤ 15) else false else false then bif decide (m
 ≥ 0) then decide (m ≤ 31) else false else false)) else False else bif !bif bif decide (d = 0) then bif decide (x ≥ 0) then decide (x ≤ 15) else false else false
 then bif decide (y ≥ 0) then decide (y ≤ 15) else false else false then K (.bool false) else False else False else bif !bif decide (d = 0) then bif decide (x ≥ 0)
 then decide (x ≤ 15) else false else false then K (.bool false) else False else False else bif !decide (d = 0) then K (.bool false) else False else bif decide (d
 = 0) then bif bif decide (x ≥ 0) then decide (x ≥ 0) else true then bif bif decide (d = 0) then bif decide (x ≥ 0) then decide (x ≤ 15) else false else false then
 bif bif decide (y ≥ 0) then decide (y ≥ 0) else true then bif bif bif decide (d = 0) then bif decide (x ≥ 0) then decide (x ≤ 15) else false else false then bif
 decide (y ≥ 0) then decide (y ≤ 15) else false else false then bif bif decide (m ≥ (-8192 : Int)) then decide (m ≥ (-8192 : Int)) else true then K (.bool (bif bif
 bif decide (d = 0) then bif decide (x ≥ 0) then decide (x ≤ 15) else false else false then bif decide (y ≥ 0) then decide (y ≤ 15) else false else false then bif
 decide (m ≥ (-8192 : Int)) then decide (m ≤ 8191) else false else false)) else False else bif !bif bif decide (d = 0) then bif decide (x ≥ 0) then decide (x ≤ 15)
 else false else false then bif decide (y ≥ 0) then decide (y ≤ 15) else false else false then K (.bool false) else False else False else bif !bif decide (d = 0)
 then bif decide (x ≥ 0) then decide (x ≤ 15) else false else false then K (.bool false) else False else False else bif !decide (d = 0) then K (.bool false) else
 False else False else False
else False) := by kernel_rfl
theorem r_rt1_6 (op d x y m : Int) (K : XV → Prop) : (quietGo (TA1 6) 80 (callI (TA1 6) 80 20) 46 [.agg 5 [.int .i64 op, .int .i64 d, .int .i64 x, .int .i64 y, .int .i64 m]] K) = (bif decide (fmI op = 6) then bif bif decide (op = 22) then true else !decide (op = 22) then bif bif bif decide (op = 22) then true else decide (op = 23) then
 true else !bif decide (op = 22) then true else decide (op = 23) then bif bif bif decide (op = 22) then true else decide (op = 23) then true else decide (op = 24)
 then bif decide (d = 0) then bif bif decide (x ≥ 0) then decide (x ≥ 0) else true then bif bif decide (d = 0) then bif decide (x ≥ 0) then decide (x ≤ 15) else false
 else false then bif bif decide (y ≥ 0) then decide (y ≥ 0) else true then bif bif bif decide (d = 0) then bif decide (x ≥ 0) then decide (x ≤ 15) else false else
 false then bif decide (y ≥ 0) then decide (y ≤ 15) else false else false then bif bif decide (m ≥ 0) then decide (m ≥ 0) else true then K (.bool (bif bif bif decide
 (d = 0) then bif decide (x ≥ 0) then decide (x ≤ 15) else false else false then bif decide (y ≥ 0) then decide (y ≤ 15) else false else false then bif decide (m
 ≥ 0) then decide (m ≤ 31) else false else false)) else False else bif !bif bif decide (d = 0) then bif decide (x ≥ 0) then decide (x ≤ 15) else false else false
 then bif decide (y ≥ 0) then decide (y ≤ 15) else false else false then K (.bool false) else False else False else bif !bif decide (d = 0) then bif decide (x ≥ 0)
 then decide (x ≤ 15) else false else false then K (.bool false) else False else False else bif !decide (d = 0) then K (.bool false) else False else bif decide (d
 = 0) then bif bif decide (x ≥ 0) then decide (x ≥ 0) else true then bif bif decide (d = 0) then bif decide (x ≥ 0) then decide (x ≤ 15) else false else false then
 bif bif decide (y ≥ 0) then decide (y ≥ 0) else true then bif bif bif decide (d = 0) then bif decide (x ≥ 0) then decide (x ≤ 15) else false else false then bif
 decide (y ≥ 0) then decide (y ≤ 15) else false else false then bif bif decide (m ≥ (-8192 : Int)) then decide (m ≥ (-8192 : Int)) else true then K (.bool (bif bif
 bif decide (d = 0) then bif decide (x ≥ 0) then decide (x ≤ 15) else false else false then bif decide (y ≥ 0) then decide (y ≤ 15) else false else false then bif
 decide (m ≥ (-8192 : Int)) then decide (m ≤ 8191) else false else false)) else False else bif !bif bif decide (d = 0) then bif decide (x ≥ 0) then decide (x ≤ 15)
 else false else false then bif decide (y ≥ 0) then decide (y ≤ 15) else false else false then K (.bool false) else False else False else bif !bif decide (d = 0)
 then bif decide (x ≥ 0) then decide (x ≤ 15) else false else false then K (.bool false) else False else False else bif !decide (d = 0) then K (.bool false) else
 False else False else False
else False) := by kernel_rfl
theorem r_rt1_7 (op d x y m : Int) (K : XV → Prop) : (quietGo (TA1 7) 80 (callI (TA1 7) 80 20) 46 [.agg 5 [.int .i64 op, .int .i64 d, .int .i64 x, .int .i64 y, .int .i64 m]] K) = (bif decide (fmI op = 7) then bif bif decide (op = 22) then true else !decide (op = 22) then bif bif bif decide (op = 22) then true else decide (op = 23) then
 true else !bif decide (op = 22) then true else decide (op = 23) then bif bif bif decide (op = 22) then true else decide (op = 23) then true else decide (op = 24)
 then bif decide (d = 0) then bif bif decide (d = 0) then decide (x = 0) else false then bif bif bif decide (d = 0) then decide (x = 0) else false then decide (y
 = 0) else false then bif bif decide (m ≥ 0) then decide (m ≥ 0) else true then K (.bool (bif bif bif decide (d = 0) then decide (x = 0) else false then decide (y
 = 0) else false then bif decide (m ≥ 0) then decide (m ≤ 31) else false else false)) else False else bif !bif bif decide (d = 0) then decide (x = 0) else false then
 decide (y = 0) else false then K (.bool false) else False else bif !bif decide (d = 0) then decide (x = 0) else false then K (.bool false) else False else bif !decide
 (d = 0) then K (.bool false) else False else bif decide (d = 0) then bif bif decide (d = 0) then decide (x = 0) else false then bif bif bif decide (d = 0) then decide
 (x = 0) else false then decide (y = 0) else false then bif bif decide (m ≥ (-8192 : Int)) then decide (m ≥ (-8192 : Int)) else true then K (.bool (bif bif bif decide
 (d = 0) then decide (x = 0) else false then decide (y = 0) else false then bif decide (m ≥ (-8192 : Int)) then decide (m ≤ 8191) else false else false)) else False
 else bif !bif bif decide (d = 0) then decide (x = 0) else false then decide (y = 0) else false then K (.bool false) else False else bif !bif decide (d = 0) then
 decide (x = 0) else false then K (.bool false) else False else bif !decide (d = 0) then K (.bool false) else False else False else False
else False) := by kernel_rfl 

theorem r_rt1_8 (op d x y m : Int) (K : XV → Prop) : (quietGo (TA1 8) 80 (callI (TA1 8) 80 20) 46 [.agg 5 [.int .i64 op, .int .i64 d, .int .i64 x, .int .i64 y, .int .i64 m]] K) = (bif decide (fmI op = 8) then bif bif decide (op = 22) then true else !decide (op = 22) then bif bif bif decide (op = 22) then true else decide (op = 23) then
 true else !bif decide (op = 22) then true else decide (op = 23) then bif bif bif decide (op = 22) then true else decide (op = 23) then true else decide (op = 24)
 then bif decide (d = 0) then bif bif decide (d = 0) then decide (x = 0) else false then bif bif bif decide (d = 0) then decide (x = 0) else false then decide (y
 = 0) else false then K (.bool (bif bif bif decide (d = 0) then decide (x = 0) else false then decide (y = 0) else false then decide (m = 0) else false)) else bif
 !bif bif decide (d = 0) then decide (x = 0) else false then decide (y = 0) else false then K (.bool false) else False else bif !bif decide (d = 0) then decide (x
 = 0) else false then K (.bool false) else False else bif !decide (d = 0) then K (.bool false) else False else bif decide (d = 0) then bif bif decide (d = 0) then
 decide (x = 0) else false then bif bif bif decide (d = 0) then decide (x = 0) else false then decide (y = 0) else false then K (.bool (bif bif bif decide (d = 0)
 then decide (x = 0) else false then decide (y = 0) else false then decide (m = 0) else false)) else bif !bif bif decide (d = 0) then decide (x = 0) else false then
 decide (y = 0) else false then K (.bool false) else False else bif !bif decide (d = 0) then decide (x = 0) else false then K (.bool false) else False else bif !decide
 (d = 0) then K (.bool false) else False else False else False
else False) := by kernel_rfl
theorem r_rt2_0 (op d x y m : Int) (K : XV → Prop) : (quietGo (TA1 0) 80 (callI (TA1 0) 80 20) 25 [.agg 5 [.int .i64 op, .int .i64 d, .int .i64 x, .int .i64 y, .int .i64 m]] K) = (bif decide (fmI op = 0) then K (.bool false) else False) := by kernel_rfl
theorem r_rt2_1 (op d x y m : Int) (K : XV → Prop) : (quietGo (TA1 1) 80 (callI (TA1 1) 80 20) 25 [.agg 5 [.int .i64 op, .int .i64 d, .int .i64 x, .int .i64 y, .int .i64 m]] K) = (bif decide (fmI op = 1) then bif bif !decide (d = 0) then true else !!decide (d = 0) then bif bif bif !decide (d = 0) then true else false then true else !!decide
 (d = 0) then bif bif !decide (d = 0) then true else !!decide (d = 0) then bif bif bif decide (d > 0) then bif !decide (d = 0) then decide (d > 0) else false else
 true then true else !!decide (d = 0) then bif bif decide (d = 0) then true else !decide (d = 0) then bif !!bif decide (d = 0) then true else bif decide (d > 0) then
 decide (d ≤ 15) else false then bif bif !decide (x = 0) then true else !!decide (x = 0) then bif bif bif !decide (x = 0) then true else false then true else !!decide
 (x = 0) then bif bif !decide (x = 0) then true else !!decide (x = 0) then bif bif bif decide (x > 0) then bif !decide (x = 0) then decide (x > 0) else false else
 true then true else !!decide (x = 0) then bif bif decide (x = 0) then true else !decide (x = 0) then bif !bif !bif decide (d = 0) then true else bif decide (d >
 0) then decide (d ≤ 15) else false then true else !bif decide (x = 0) then true else bif decide (x > 0) then decide (x ≤ 15) else false then bif bif !decide (y =
 0) then true else !!decide (y = 0) then bif bif bif !decide (y = 0) then true else false then true else !!decide (y = 0) then bif bif !decide (y = 0) then true else
 !!decide (y = 0) then bif bif bif decide (y > 0) then bif !decide (y = 0) then decide (y > 0) else false else true then true else !!decide (y = 0) then bif bif decide
 (y = 0) then true else !decide (y = 0) then bif bif !bif bif !bif decide (d = 0) then true else bif decide (d > 0) then decide (d ≤ 15) else false then true else
 !bif decide (x = 0) then true else bif decide (x > 0) then decide (x ≤ 15) else false then true else !bif decide (y = 0) then true else bif decide (y > 0) then decide
 (y ≤ 15) else false then true else !!bif bif !bif decide (d = 0) then true else bif decide (d > 0) then decide (d ≤ 15) else false then true else !bif decide (x
 = 0) then true else bif decide (x > 0) then decide (x ≤ 15) else false then true else !bif decide (y = 0) then true else bif decide (y > 0) then decide (y ≤ 15)
 else false then bif bif bif !bif bif !bif decide (d = 0) then true else bif decide (d > 0) then decide (d ≤ 15) else false then true else !bif decide (x = 0) then
 true else bif decide (x > 0) then decide (x ≤ 15) else false then true else !bif decide (y = 0) then true else bif decide (y > 0) then decide (y ≤ 15) else false
 then true else false then true else !!bif bif !bif decide (d = 0) then true else bif decide (d > 0) then decide (d ≤ 15) else false then true else !bif decide (x
 = 0) then true else bif decide (x > 0) then decide (x ≤ 15) else false then true else !bif decide (y = 0) then true else bif decide (y > 0) then decide (y ≤ 15)
 else false then bif bif bif bif !bif decide (d = 0) then true else bif decide (d > 0) then decide (d ≤ 15) else false then true else !bif decide (x = 0) then true
 else bif decide (x > 0) then decide (x ≤ 15) else false then true else !bif decide (y = 0) then true else bif decide (y > 0) then decide (y ≤ 15) else false then
 true else !bif bif !bif decide (d = 0) then true else bif decide (d > 0) then decide (d ≤ 15) else false then true else !bif decide (x = 0) then true else bif decide
 (x > 0) then decide (x ≤ 15) else false then true else !bif decide (y = 0) then true else bif decide (y > 0) then decide (y ≤ 15) else false then bif bif bif bif
 !bif decide (d = 0) then true else bif decide (d > 0) then decide (d ≤ 15) else false then true else !bif decide (x = 0) then true else bif decide (x > 0) then decide
 (x ≤ 15) else false then true else !bif decide (y = 0) then true else bif decide (y > 0) then decide (y ≤ 15) else false then true else decide ¬m = 0 then K (.bool
 false) else bif bif decide (op = 22) then true else !decide (op = 22) then bif bif bif decide (op = 22) then true else decide (op = 23) then true else !bif decide
 (op = 22) then true else decide (op = 23) then bif bif bif decide (op = 22) then true else decide (op = 23) then true else decide (op = 24) then bif bif decide (m
 ≥ 0) then decide (m ≥ 0) else true then K (.bool (bif decide (m ≥ 0) then decide (m ≤ 31) else false)) else False else bif bif decide (m ≥ (-8192 : Int)) then decide
 (m ≥ (-8192 : Int)) else true then K (.bool (bif decide (m ≥ (-8192 : Int)) then decide (m ≤ 8191) else false)) else False else False else False else False else
 False else False else False else False else False else False else False else bif bif !bif decide (d = 0) then true else bif decide (d > 0) then decide (d ≤ 15) else
 false then true else !bif decide (x = 0) then true else bif decide (x > 0) then decide (x ≤ 15) else false then K (.bool false) else False else False else False
 else False else False else False else bif !bif decide (d = 0) then true else bif decide (d > 0) then decide (d ≤ 15) else false then K (.bool false) else False else
 False else False else False else False else False
else False) := by kernel_rfl
theorem r_rt2_2 (op d x y m : Int) (K : XV → Prop) : (quietGo (TA1 2) 80 (callI (TA1 2) 80 20) 25 [.agg 5 [.int .i64 op, .int .i64 d, .int .i64 x, .int .i64 y, .int .i64 m]] K) = (bif decide (fmI op = 2) then bif bif !decide (d = 0) then true else !!decide (d = 0) then bif bif bif !decide (d = 0) then true else false then true else !!decide
 (d = 0) then bif bif !decide (d = 0) then true else !!decide (d = 0) then bif bif bif decide (d > 0) then bif !decide (d = 0) then decide (d > 0) else false else
 true then true else !!decide (d = 0) then bif bif decide (d = 0) then true else !decide (d = 0) then bif !!bif decide (d = 0) then true else bif decide (d > 0) then
 decide (d ≤ 15) else false then bif bif !decide (x = 0) then true else !!decide (x = 0) then bif bif bif !decide (x = 0) then true else false then true else !!decide
 (x = 0) then bif bif !decide (x = 0) then true else !!decide (x = 0) then bif bif bif decide (x > 0) then bif !decide (x = 0) then decide (x > 0) else false else
 true then true else !!decide (x = 0) then bif bif decide (x = 0) then true else !decide (x = 0) then bif !bif !bif decide (d = 0) then true else bif decide (d >
 0) then decide (d ≤ 15) else false then true else !bif decide (x = 0) then true else bif decide (x > 0) then decide (x ≤ 15) else false then bif bif !decide (y =
 0) then true else !!decide (y = 0) then bif bif !decide (y = 0) then true else !!decide (y = 0) then bif bif decide (y = 0) then true else !decide (y = 0) then bif
 bif !bif bif !bif decide (d = 0) then true else bif decide (d > 0) then decide (d ≤ 15) else false then true else !bif decide (x = 0) then true else bif decide (x
 > 0) then decide (x ≤ 15) else false then true else !bif decide (y = 0) then true else false then true else !!bif bif !bif decide (d = 0) then true else bif decide
 (d > 0) then decide (d ≤ 15) else false then true else !bif decide (x = 0) then true else bif decide (x > 0) then decide (x ≤ 15) else false then true else !bif
 decide (y = 0) then true else false then bif bif bif bif !bif decide (d = 0) then true else bif decide (d > 0) then decide (d ≤ 15) else false then true else !bif
 decide (x = 0) then true else bif decide (x > 0) then decide (x ≤ 15) else false then true else !bif decide (y = 0) then true else false then true else !bif bif
 !bif decide (d = 0) then true else bif decide (d > 0) then decide (d ≤ 15) else false then true else !bif decide (x = 0) then true else bif decide (x > 0) then decide
 (x ≤ 15) else false then true else !bif decide (y = 0) then true else false then bif bif bif bif !bif decide (d = 0) then true else bif decide (d > 0) then decide
 (d ≤ 15) else false then true else !bif decide (x = 0) then true else bif decide (x > 0) then decide (x ≤ 15) else false then true else !bif decide (y = 0) then
 true else false then true else false then K (.bool false) else bif bif decide (op = 22) then true else !decide (op = 22) then bif bif bif decide (op = 22) then true
 else decide (op = 23) then true else !bif decide (op = 22) then true else decide (op = 23) then bif bif bif decide (op = 22) then true else decide (op = 23) then
 true else decide (op = 24) then bif bif decide (m ≥ 0) then decide (m ≥ 0) else true then K (.bool (bif decide (m ≥ 0) then decide (m ≤ 31) else false)) else False
 else bif bif decide (m ≥ (-8192 : Int)) then decide (m ≥ (-8192 : Int)) else true then K (.bool (bif decide (m ≥ (-8192 : Int)) then decide (m ≤ 8191) else false))
 else False else False else False else False else False else False else False else False else bif bif !bif decide (d = 0) then true else bif decide (d > 0) then decide
 (d ≤ 15) else false then true else !bif decide (x = 0) then true else bif decide (x > 0) then decide (x ≤ 15) else false then K (.bool false) else False else False
 else False else False else False else False else bif !bif decide (d = 0) then true else bif decide (d > 0) then decide (d ≤ 15) else false then K (.bool false) else
 False else False else False else False else False else False
else False) := by kernel_rfl
theorem r_rt2_3 (op d x y m : Int) (K : XV → Prop) : (quietGo (TA1 3) 80 (callI (TA1 3) 80 20) 25 [.agg 5 [.int .i64 op, .int .i64 d, .int .i64 x, .int .i64 y, .int .i64 m]] K) = (bif decide (fmI op = 3) then bif bif !decide (d = 0) then true else !!decide (d = 0) then bif bif bif !decide (d = 0) then true else false then true else !!decide
 (d = 0) then bif bif !decide (d = 0) then true else !!decide (d = 0) then bif bif bif decide (d > 0) then bif !decide (d = 0) then decide (d > 0) else false else
 true then true else !!decide (d = 0) then bif bif decide (d = 0) then true else !decide (d = 0) then bif !!bif decide (d = 0) then true else bif decide (d > 0) then
 decide (d ≤ 15) else false then bif bif !decide (x = 0) then true else !!decide (x = 0) then bif bif !decide (x = 0) then true else !!decide (x = 0) then bif bif
 decide (x = 0) then true else !decide (x = 0) then bif !bif !bif decide (d = 0) then true else bif decide (d > 0) then decide (d ≤ 15) else false then true else
 !bif decide (x = 0) then true else false then bif bif !decide (y = 0) then true else !!decide (y = 0) then bif bif !decide (y = 0) then true else !!decide (y = 0)
 then bif bif decide (y = 0) then true else !decide (y = 0) then bif bif !bif bif !bif decide (d = 0) then true else bif decide (d > 0) then decide (d ≤ 15) else
 false then true else !bif decide (x = 0) then true else false then true else !bif decide (y = 0) then true else false then true else !!bif bif !bif decide (d = 0)
 then true else bif decide (d > 0) then decide (d ≤ 15) else false then true else !bif decide (x = 0) then true else false then true else !bif decide (y = 0) then
 true else false then bif bif bif bif !bif decide (d = 0) then true else bif decide (d > 0) then decide (d ≤ 15) else false then true else !bif decide (x = 0) then
 true else false then true else !bif decide (y = 0) then true else false then true else !bif bif !bif decide (d = 0) then true else bif decide (d > 0) then decide
 (d ≤ 15) else false then true else !bif decide (x = 0) then true else false then true else !bif decide (y = 0) then true else false then bif bif bif bif !bif decide
 (d = 0) then true else bif decide (d > 0) then decide (d ≤ 15) else false then true else !bif decide (x = 0) then true else false then true else !bif decide (y =
 0) then true else false then true else false then K (.bool false) else bif bif decide (op = 22) then true else !decide (op = 22) then bif bif bif decide (op = 22)
 then true else decide (op = 23) then true else !bif decide (op = 22) then true else decide (op = 23) then bif bif bif decide (op = 22) then true else decide (op
 = 23) then true else decide (op = 24) then bif bif decide (m ≥ 0) then decide (m ≥ 0) else true then K (.bool (bif decide (m ≥ 0) then decide (m ≤ 31) else false))
 else False else bif bif decide (m ≥ (-8192 : Int)) then decide (m ≥ (-8192 : Int)) else true then K (.bool (bif decide (m ≥ (-8192 : Int)) then decide (m ≤ 8191)
 else false)) else False else False else False else False else False else False else False else False else bif bif !bif decide (d = 0) then true else bif decide (d
 > 0) then decide (d ≤ 15) else false then true else !bif decide (x = 0) then true else false then K (.bool false) else False else False else False else False else
 bif !bif decide (d = 0) then true else bif decide (d > 0) then decide (d ≤ 15) else false then K (.bool false) else False else False else False else False else False
 else False
else False) := by kernel_rfl
theorem r_rt2_4 (op d x y m : Int) (K : XV → Prop) : (quietGo (TA1 4) 80 (callI (TA1 4) 80 20) 25 [.agg 5 [.int .i64 op, .int .i64 d, .int .i64 x, .int .i64 y, .int .i64 m]] K) = (bif decide (fmI op = 4) then bif bif !decide (d = 0) then true else !!decide (d = 0) then bif bif bif !decide (d = 0) then true else false then true else !!decide
 (d = 0) then bif bif !decide (d = 0) then true else !!decide (d = 0) then bif bif bif decide (d > 0) then bif !decide (d = 0) then decide (d > 0) else false else
 true then true else !!decide (d = 0) then bif bif decide (d = 0) then true else !decide (d = 0) then bif !!bif decide (d = 0) then true else bif decide (d > 0) then
 decide (d ≤ 15) else false then bif bif !decide (x = 0) then true else !!decide (x = 0) then bif bif bif !decide (x = 0) then true else false then true else !!decide
 (x = 0) then bif bif !decide (x = 0) then true else !!decide (x = 0) then bif bif bif decide (x > 0) then bif !decide (x = 0) then decide (x > 0) else false else
 true then true else !!decide (x = 0) then bif bif decide (x = 0) then true else !decide (x = 0) then bif !bif !bif decide (d = 0) then true else bif decide (d >
 0) then decide (d ≤ 15) else false then true else !bif decide (x = 0) then true else bif decide (x > 0) then decide (x ≤ 15) else false then bif bif !decide (y =
 0) then true else !!decide (y = 0) then bif bif !decide (y = 0) then true else !!decide (y = 0) then bif bif decide (y = 0) then true else !decide (y = 0) then bif
 bif !bif bif !bif decide (d = 0) then true else bif decide (d > 0) then decide (d ≤ 15) else false then true else !bif decide (x = 0) then true else bif decide (x
 > 0) then decide (x ≤ 15) else false then true else !bif decide (y = 0) then true else false then true else !!bif bif !bif decide (d = 0) then true else bif decide
 (d > 0) then decide (d ≤ 15) else false then true else !bif decide (x = 0) then true else bif decide (x > 0) then decide (x ≤ 15) else false then true else !bif
 decide (y = 0) then true else false then bif bif bif bif !bif decide (d = 0) then true else bif decide (d > 0) then decide (d ≤ 15) else false then true else !bif
 decide (x = 0) then true else bif decide (x > 0) then decide (x ≤ 15) else false then true else !bif decide (y = 0) then true else false then true else !bif bif
 !bif decide (d = 0) then true else bif decide (d > 0) then decide (d ≤ 15) else false then true else !bif decide (x = 0) then true else bif decide (x > 0) then decide
 (x ≤ 15) else false then true else !bif decide (y = 0) then true else false then bif bif bif bif !bif decide (d = 0) then true else bif decide (d > 0) then decide
 (d ≤ 15) else false then true else !bif decide (x = 0) then true else bif decide (x > 0) then decide (x ≤ 15) else false then true else !bif decide (y = 0) then
 true else false then true else false then K (.bool false) else bif bif decide (op = 22) then true else !decide (op = 22) then bif bif bif decide (op = 22) then true
 else decide (op = 23) then true else !bif decide (op = 22) then true else decide (op = 23) then bif bif bif decide (op = 22) then true else decide (op = 23) then
 true else decide (op = 24) then bif bif decide (m ≥ 0) then decide (m ≥ 0) else true then K (.bool (bif decide (m ≥ 0) then decide (m ≤ 31) else false)) else False
 else bif bif decide (m ≥ (-8192 : Int)) then decide (m ≥ (-8192 : Int)) else true then K (.bool (bif decide (m ≥ (-8192 : Int)) then decide (m ≤ 8191) else false))
 else False else False else False else False else False else False else False else False else bif bif !bif decide (d = 0) then true else bif decide (d > 0) then decide
 (d ≤ 15) else false then true else !bif decide (x = 0) then true else bif decide (x > 0) then decide (x ≤ 15) else false then K (.bool false) else False else False
 else False else False else False else False else bif !bif decide (d = 0) then true else bif decide (d > 0) then decide (d ≤ 15) else false then K (.bool false) else
 False else False else False else False else False else False
else False) := by kernel_rfl
theorem r_rt2_5 (op d x y m : Int) (K : XV → Prop) : (quietGo (TA1 5) 80 (callI (TA1 5) 80 20) 25 [.agg 5 [.int .i64 op, .int .i64 d, .int .i64 x, .int .i64 y, .int .i64 m]] K) = (bif decide (fmI op = 5) then bif bif !decide (d = 0) then true else !!decide (d = 0) then bif bif !decide (d = 0) then true else !!decide (d = 0) then bif bif
 decide (d = 0) then true else !decide (d = 0) then bif !!bif decide (d = 0) then true else false then bif bif !decide (x = 0) then true else !!decide (x = 0) then
 bif bif bif !decide (x = 0) then true else false then true else !!decide (x = 0) then bif bif !decide (x = 0) then true else !!decide (x = 0) then bif bif bif decide
 (x > 0) then bif !decide (x = 0) then decide (x > 0) else false else true then true else !!decide (x = 0) then bif bif decide (x = 0) then true else !decide (x =
 0) then bif !bif !bif decide (d = 0) then true else false then true else !bif decide (x = 0) then true else bif decide (x > 0) then decide (x ≤ 15) else false then
 bif bif !decide (y = 0) then true else !!decide (y = 0) then bif bif bif !decide (y = 0) then true else false then true else !!decide (y = 0) then bif bif !decide
 (y = 0) then true else !!decide (y = 0) then bif bif bif decide (y > 0) then bif !decide (y = 0) then decide (y > 0) else false else true then true else !!decide
 (y = 0) then bif bif decide (y = 0) then true else !decide (y = 0) then bif bif !bif bif !bif decide (d = 0) then true else false then true else !bif decide (x =
 0) then true else bif decide (x > 0) then decide (x ≤ 15) else false then true else !bif decide (y = 0) then true else bif decide (y > 0) then decide (y ≤ 15) else
 false then true else !!bif bif !bif decide (d = 0) then true else false then true else !bif decide (x = 0) then true else bif decide (x > 0) then decide (x ≤ 15)
 else false then true else !bif decide (y = 0) then true else bif decide (y > 0) then decide (y ≤ 15) else false then bif bif bif bif !bif decide (d = 0) then true
 else false then true else !bif decide (x = 0) then true else bif decide (x > 0) then decide (x ≤ 15) else false then true else !bif decide (y = 0) then true else
 bif decide (y > 0) then decide (y ≤ 15) else false then true else !bif bif !bif decide (d = 0) then true else false then true else !bif decide (x = 0) then true
 else bif decide (x > 0) then decide (x ≤ 15) else false then true else !bif decide (y = 0) then true else bif decide (y > 0) then decide (y ≤ 15) else false then
 bif bif bif bif !bif decide (d = 0) then true else false then true else !bif decide (x = 0) then true else bif decide (x > 0) then decide (x ≤ 15) else false then
 true else !bif decide (y = 0) then true else bif decide (y > 0) then decide (y ≤ 15) else false then true else false then K (.bool false) else bif bif decide (op
 = 22) then true else !decide (op = 22) then bif bif bif decide (op = 22) then true else decide (op = 23) then true else !bif decide (op = 22) then true else decide
 (op = 23) then bif bif bif decide (op = 22) then true else decide (op = 23) then true else decide (op = 24) then bif bif decide (m ≥ 0) then decide (m ≥ 0) else
 true then K (.bool (bif decide (m ≥ 0) then decide (m ≤ 31) else false)) else False else bif bif decide (m ≥ (-8192 : Int)) then decide (m ≥ (-8192 : Int)) else
 true then K (.bool (bif decide (m ≥ (-8192 : Int)) then decide (m ≤ 8191) else false)) else False else False else False else False else False else False else False
 else False else False else False else bif bif !bif decide (d = 0) then true else false then true else !bif decide (x = 0) then true else bif decide (x > 0) then
 decide (x ≤ 15) else false then K (.bool false) else False else False else False else False else False else False else bif !bif decide (d = 0) then true else false
 then K (.bool false) else False else False else False else False
else False) := by kernel_rfl
theorem r_rt2_6 (op d x y m : Int) (K : XV → Prop) : (quietGo (TA1 6) 80 (callI (TA1 6) 80 20) 25 [.agg 5 [.int .i64 op, .int .i64 d, .int .i64 x, .int .i64 y, .int .i64 m]] K) = (bif decide (fmI op = 6) then bif bif !decide (d = 0) then true else !!decide (d = 0) then bif bif !decide (d = 0) then true else !!decide (d = 0) then bif bif
 decide (d = 0) then true else !decide (d = 0) then bif !!bif decide (d = 0) then true else false then bif bif !decide (x = 0) then true else !!decide (x = 0) then
 bif bif bif !decide (x = 0) then true else false then true else !!decide (x = 0) then bif bif !decide (x = 0) then true else !!decide (x = 0) then bif bif bif decide
 (x > 0) then bif !decide (x = 0) then decide (x > 0) else false else true then true else !!decide (x = 0) then bif bif decide (x = 0) then true else !decide (x =
 0) then bif !bif !bif decide (d = 0) then true else false then true else !bif decide (x = 0) then true else bif decide (x > 0) then decide (x ≤ 15) else false then
 bif bif !decide (y = 0) then true else !!decide (y = 0) then bif bif bif !decide (y = 0) then true else false then true else !!decide (y = 0) then bif bif !decide
 (y = 0) then true else !!decide (y = 0) then bif bif bif decide (y > 0) then bif !decide (y = 0) then decide (y > 0) else false else true then true else !!decide
 (y = 0) then bif bif decide (y = 0) then true else !decide (y = 0) then bif bif !bif bif !bif decide (d = 0) then true else false then true else !bif decide (x =
 0) then true else bif decide (x > 0) then decide (x ≤ 15) else false then true else !bif decide (y = 0) then true else bif decide (y > 0) then decide (y ≤ 15) else
 false then true else !!bif bif !bif decide (d = 0) then true else false then true else !bif decide (x = 0) then true else bif decide (x > 0) then decide (x ≤ 15)
 else false then true else !bif decide (y = 0) then true else bif decide (y > 0) then decide (y ≤ 15) else false then bif bif bif bif !bif decide (d = 0) then true
 else false then true else !bif decide (x = 0) then true else bif decide (x > 0) then decide (x ≤ 15) else false then true else !bif decide (y = 0) then true else
 bif decide (y > 0) then decide (y ≤ 15) else false then true else !bif bif !bif decide (d = 0) then true else false then true else !bif decide (x = 0) then true
 else bif decide (x > 0) then decide (x ≤ 15) else false then true else !bif decide (y = 0) then true else bif decide (y > 0) then decide (y ≤ 15) else false then
 bif bif bif bif !bif decide (d = 0) then true else false then true else !bif decide (x = 0) then true else bif decide (x > 0) then decide (x ≤ 15) else false then
 true else !bif decide (y = 0) then true else bif decide (y > 0) then decide (y ≤ 15) else false then true else false then K (.bool false) else bif bif decide (op
 = 22) then true else !decide (op = 22) then bif bif bif decide (op = 22) then true else decide (op = 23) then true else !bif decide (op = 22) then true else decide
 (op = 23) then bif bif bif decide (op = 22) then true else decide (op = 23) then true else decide (op = 24) then bif bif decide (m ≥ 0) then decide (m ≥ 0) else
 true then K (.bool (bif decide (m ≥ 0) then decide (m ≤ 31) else false)) else False else bif bif decide (m ≥ (-8192 : Int)) then decide (m ≥ (-8192 : Int)) else
 true then K (.bool (bif decide (m ≥ (-8192 : Int)) then decide (m ≤ 8191) else false)) else False else False else False else False else False else False else False
 else False else False else False else bif bif !bif decide (d = 0) then true else false then true else !bif decide (x = 0) then true else bif decide (x > 0) then
 decide (x ≤ 15) else false then K (.bool false) else False else False else False else False else False else False else bif !bif decide (d = 0) then true else false
 then K (.bool false) else False else False else False else False
else False) := by kernel_rfl
theorem r_rt2_7 (op d x y m : Int) (K : XV → Prop) : (quietGo (TA1 7) 80 (callI (TA1 7) 80 20) 25 [.agg 5 [.int .i64 op, .int .i64 d, .int .i64 x, .int .i64 y, .int .i64 m]] K) = (bif decide (fmI op = 7) then bif bif !decide (d = 0) then true else !!decide (d = 0) then bif bif !decide (d = 0) then true else !!decide (d = 0) then bif bif
 decide (d = 0) then true else !decide (d = 0) then bif !!bif decide (d = 0) then true else false then bif bif !decide (x = 0) then true else !!decide (x = 0) then
 bif bif !decide (x = 0) then true else !!decide (x = 0) then bif bif decide (x = 0) then true else !decide (x = 0) then bif !bif !bif decide (d = 0) then true else
 false then true else !bif decide (x = 0) then true else false then bif bif !decide (y = 0) then true else !!decide (y = 0) then bif bif !decide (y = 0) then true
 else !!decide (y = 0) then bif bif decide (y = 0) then true else !decide (y = 0) then bif bif !bif bif !bif decide (d = 0) then true else false then true else !bif
 decide (x = 0) then true else false then true else !bif decide (y = 0) then true else false then true else !!bif bif !bif decide (d = 0) then true else false then
 true else !bif decide (x = 0) then true else false then true else !bif decide (y = 0) then true else false then bif bif bif bif !bif decide (d = 0) then true else
 false then true else !bif decide (x = 0) then true else false then true else !bif decide (y = 0) then true else false then true else !bif bif !bif decide (d = 0)
 then true else false then true else !bif decide (x = 0) then true else false then true else !bif decide (y = 0) then true else false then bif bif bif bif !bif decide
 (d = 0) then true else false then true else !bif decide (x = 0) then true else false then true else !bif decide (y = 0) then true else false then true else false
 then K (.bool false) else bif bif decide (op = 22) then true else !decide (op = 22) then bif bif bif decide (op = 22) then true else decide (op = 23) then true else
 !bif decide (op = 22) then true else decide (op = 23) then bif bif bif decide (op = 22) then true else decide (op = 23) then true else decide (op = 24) then bif
 bif decide (m ≥ 0) then decide (m ≥ 0) else true then K (.bool (bif decide (m ≥ 0) then decide (m ≤ 31) else false)) else False else bif bif decide (m ≥ (-8192 :
 Int)) then decide (m ≥ (-8192 : Int)) else true then K (.bool (bif decide (m ≥ (-8192 : Int)) then decide (m ≤ 8191) else false)) else False else False else False
 else False else False else False else False else False else bif bif !bif decide (d = 0) then true else false then true else !bif decide (x = 0) then true else false
 then K (.bool false) else False else False else False else False else bif !bif decide (d = 0) then true else false then K (.bool false) else False else False else
 False else False
else False) := by kernel_rfl
theorem r_rt2_8 (op d x y m : Int) (K : XV → Prop) : (quietGo (TA1 8) 80 (callI (TA1 8) 80 20) 25 [.agg 5 [.int .i64 op, .int .i64 d, .int .i64 x, .int .i64 y, .int .i64 m]] K) = (bif decide (fmI op = 8) then bif bif !decide (d = 0) then true else !!decide (d = 0) then bif bif !decide (d = 0) then true else !!decide (d = 0) then bif bif
 decide (d = 0) then true else !decide (d = 0) then bif !!bif decide (d = 0) then true else false then bif bif !decide (x = 0) then true else !!decide (x = 0) then
 bif bif !decide (x = 0) then true else !!decide (x = 0) then bif bif decide (x = 0) then true else !decide (x = 0) then bif !bif !bif decide (d = 0) then true else
 false then true else !bif decide (x = 0) then true else false then bif bif !decide (y = 0) then true else !!decide (y = 0) then bif bif !decide (y = 0) then true
 else !!decide (y = 0) then bif bif decide (y = 0) then true else !decide (y = 0) then bif bif !bif bif !bif decide (d = 0) then true else false then true else !bif
 decide (x = 0) then true else false then true else !bif decide (y = 0) then true else false then true else !!bif bif !bif decide (d = 0) then true else false then
 true else !bif decide (x = 0) then true else false then true else !bif decide (y = 0) then true else false then bif bif bif !bif bif !bif decide (d = 0) then true
 else false then true else !bif decide (x = 0) then true else false then true else !bif decide (y = 0) then true else false then true else false then true else !!bif
 bif !bif decide (d = 0) then true else false then true else !bif decide (x = 0) then true else false then true else !bif decide (y = 0) then true else false then
 bif bif bif bif !bif decide (d = 0) then true else false then true else !bif decide (x = 0) then true else false then true else !bif decide (y = 0) then true else
 false then true else !bif bif !bif decide (d = 0) then true else false then true else !bif decide (x = 0) then true else false then true else !bif decide (y = 0)
 then true else false then bif bif bif bif !bif decide (d = 0) then true else false then true else !bif decide (x = 0) then true else false then true else !bif decide
 (y = 0) then true else false then true else decide ¬m = 0 then K (.bool false) else bif bif decide (op = 22) then true else !decide (op = 22) then bif bif bif decide
 (op = 22) then true else decide (op = 23) then true else !bif decide (op = 22) then true else decide (op = 23) then bif bif bif decide (op = 22) then true else decide
 (op = 23) then true else decide (op = 24) then bif bif decide (m ≥ 0) then decide (m ≥ 0) else true then K (.bool (bif decide (m ≥ 0) then decide (m ≤ 31) else false))
 else False else bif bif decide (m ≥ (-8192 : Int)) then decide (m ≥ (-8192 : Int)) else true then K (.bool (bif decide (m ≥ (-8192 : Int)) then decide (m ≤ 8191)
 else false)) else False else False else False else False else False else False else False else False else False else bif bif !bif decide (d = 0) then true else false
 then true else !bif decide (x = 0) then true else false then K (.bool false) else False else False else False else False else bif !bif decide (d = 0) then true else
 false then K (.bool false) else False else False else False else False
else False) := by kernel_rfl
-- printed by genal.py
theorem pk3 (p z : Bool) : (bif (bif p then (bif !z then p else false) else true) then true else !!z) = true := by cases p <;> cases z <;> rfl
theorem pk4 (z : Bool) : (bif (bif !z then true else false) then true else !!z) = true := by cases z <;> rfl
theorem pk5 (z : Bool) : (bif z then true else !!!z) = true := by cases z <;> rfl
theorem pk6 (z : Bool) : (bif !!z then true else !z) = true := by cases z <;> rfl
theorem isa_form (op : Int) : Pure Try.prog 51 (cons [.int .i64 op]) (con (.int .i64 (fmI op))) := by
  refine pureX (u := 80) (k := 20) mix TA0ok ?_
  rw [r_fm1]
  unfold fmI
  simp only [pk_or, cond_true]
  by_cases h0 : op < 1 ∨ op > 41
  · rw [if_pos h0]
    rcases h0 with h | h <;> simp [h]
  · rw [if_neg h0]
    have h1 : ¬ op < 1 := fun h => h0 (.inl h)
    have h2 : ¬ op > 41 := fun h => h0 (.inr h)
    simp only [h1, h2, decide_false, cond_false]
    by_cases h3 : op ≤ 16
    · simp only [h3, decide_true, cond_true, if_true]
    simp only [h3, decide_false, cond_false, if_false]
    by_cases h4 : op ≤ 24
    · simp only [h4, decide_true, cond_true, if_true]
    simp only [h4, decide_false, cond_false, if_false]
    by_cases h5 : op = 25
    · simp only [h5, decide_true, cond_true, if_true]
    simp only [h5, decide_false, cond_false, if_false]
    by_cases h6 : op ≤ 30
    · simp only [h6, decide_true, cond_true, if_true]
    simp only [h6, decide_false, cond_false, if_false]
    by_cases h7 : op ≤ 33
    · simp only [h7, decide_true, cond_true, if_true]
    simp only [h7, decide_false, cond_false, if_false]
    by_cases h8 : op ≤ 39
    · simp only [h8, decide_true, cond_true, if_true]
    simp only [h8, decide_false, cond_false, if_false]
    by_cases h9 : op = 40
    · simp only [h9, decide_true, cond_true, if_true]
    simp only [h9, decide_false, cond_false, if_false]
theorem ref_form (op : Int) : Pure Try.prog 26 (cons [.int .i64 op]) (con (.int .i64 (fmI op))) := by
  refine pureX (u := 80) (k := 20) mix TA0ok ?_
  rw [r_fm2]
  unfold fmI
  simp only [pk_or, cond_true]
  by_cases h0 : op < 1 ∨ op > 41
  · rw [if_pos h0]
    rcases h0 with h | h <;> simp [h]
  · rw [if_neg h0]
    have h1 : ¬ op < 1 := fun h => h0 (.inl h)
    have h2 : ¬ op > 41 := fun h => h0 (.inr h)
    simp only [h1, h2, decide_false, cond_false]
    by_cases h3 : op ≤ 16
    · simp only [h3, decide_true, cond_true, if_true]
    simp only [h3, decide_false, cond_false, if_false]
    by_cases h4 : op ≤ 24
    · simp only [h4, decide_true, cond_true, if_true]
    simp only [h4, decide_false, cond_false, if_false]
    by_cases h5 : op = 25
    · simp only [h5, decide_true, cond_true, if_true]
    simp only [h5, decide_false, cond_false, if_false]
    by_cases h6 : op ≤ 30
    · simp only [h6, decide_true, cond_true, if_true]
    simp only [h6, decide_false, cond_false, if_false]
    by_cases h7 : op ≤ 33
    · simp only [h7, decide_true, cond_true, if_true]
    simp only [h7, decide_false, cond_false, if_false]
    by_cases h8 : op ≤ 39
    · simp only [h8, decide_true, cond_true, if_true]
    simp only [h8, decide_false, cond_false, if_false]
    by_cases h9 : op = 40
    · simp only [h9, decide_true, cond_true, if_true]
    simp only [h9, decide_false, cond_false, if_false]
theorem sp_form1 : SpOk Try.prog (51, fmSp) := fun args nd v h hn => by
  simp only [fmSp] at h
  split at h
  · simp only [Option.some.injEq, Prod.mk.injEq] at h
    obtain ⟨rfl, rfl⟩ := h
    exact isa_form _
  · cases h
theorem sp_form2 : SpOk Try.prog (26, fmSp) := fun args nd v h hn => by
  simp only [fmSp] at h
  split at h
  · simp only [Option.some.injEq, Prod.mk.injEq] at h
    obtain ⟨rfl, rfl⟩ := h
    exact ref_form _
  · cases h
theorem sp_formF1 (f : Int) : SpOk Try.prog (51, fmSpF f) := fun args nd v h hn => by
  simp only [fmSpF] at h
  split at h
  · rename_i op
    simp only [Option.some.injEq, Prod.mk.injEq] at h
    obtain ⟨rfl, rfl⟩ := h
    have : fmI op = f := of_decide_eq_true (hn _ (by simp))
    rw [← this]
    exact isa_form _
  · cases h
theorem sp_formF2 (f : Int) : SpOk Try.prog (26, fmSpF f) := fun args nd v h hn => by
  simp only [fmSpF] at h
  split at h
  · rename_i op
    simp only [Option.some.injEq, Prod.mk.injEq] at h
    obtain ⟨rfl, rfl⟩ := h
    have : fmI op = f := of_decide_eq_true (hn _ (by simp))
    rw [← this]
    exact ref_form _
  · cases h
theorem TA1ok (f : Int) : TabOk Try.prog (TA1 f) := mkT_ok ((((clok_alu.app clok_isa).app clok_word).app clok_ref1).app clok_math) ⟨sp_formF1 f, sp_formF2 f, trivial⟩ trivial
theorem fm_in (op : Int) : fmI op = 0 ∨ fmI op = 1 ∨ fmI op = 2 ∨ fmI op = 3 ∨ fmI op = 4 ∨ fmI op = 5 ∨ fmI op = 6 ∨ fmI op = 7 ∨ fmI op = 8 := by
  unfold fmI
  repeat' split
  all_goals omega
theorem one1 (b : Bool) : Pure Try.prog 77 (cons [.bool b]) (con (.int .u32 (oneI b))) := by
  refine pureX (u := 80) (k := 20) mix TA0ok ?_
  rw [r_one1]
  cases b <;> rfl
theorem one2 (b : Bool) : Pure Try.prog 58 (cons [.bool b]) (con (.int .u32 (oneI b))) := by
  refine pureX (u := 80) (k := 20) mix TA0ok ?_
  rw [r_one2]
  cases b <;> rfl
theorem sp_one1 : SpOk Try.prog (77, oneSp) := fun args nd v h hn => by
  simp only [oneSp] at h
  split at h
  · simp only [Option.some.injEq, Prod.mk.injEq] at h
    obtain ⟨rfl, rfl⟩ := h
    exact one1 _
  · cases h
theorem sp_one2 : SpOk Try.prog (58, oneSp) := fun args nd v h hn => by
  simp only [oneSp] at h
  split at h
  · simp only [Option.some.injEq, Prod.mk.injEq] at h
    obtain ⟨rfl, rfl⟩ := h
    exact one2 _
  · cases h
theorem rt1_0 (op d x y m : Int) (h : fmI op = 0) : Pure Try.prog 46 (cons [.agg 5 [.int .i64 op, .int .i64 d, .int .i64 x, .int .i64 y, .int .i64 m]]) (con (.bool (rtB op d x y m))) := by
  refine pureX (u := 80) (k := 20) mix (TA1ok 0) ?_
  rw [r_rt1_0]
  have e : rtB op d x y m = false := by
    unfold rtB rtP
    rw [h]
    simp
  rw [e]
  simp only [h, pk_or, pk_and, pk3, pk4, pk5, pk6, decide_true, cond_true, cond_false, Bool.not_true, Bool.not_false]
  try cases decide (op = 22) <;> cases decide (op = 23) <;> cases decide (op = 24) <;> trivial
theorem rt1_1 (op d x y m : Int) (h : fmI op = 1) : Pure Try.prog 46 (cons [.agg 5 [.int .i64 op, .int .i64 d, .int .i64 x, .int .i64 y, .int .i64 m]]) (con (.bool (rtB op d x y m))) := by
  refine pureX (u := 80) (k := 20) mix (TA1ok 1) ?_
  rw [r_rt1_1]
  have e : rtB op d x y m = ((bif decide (d ≥ 0) then decide (d ≤ 15) else false) && ((bif decide (x ≥ 0) then decide (x ≤ 15) else false) && ((bif decide (y ≥ 0) then decide (y ≤ 15) else false) && decide (m = 0)))) := by
    unfold rtB
    rw [h, Bool.eq_iff_iff]
    by_cases ho : (op = 22 ∨ op = 23 ∨ op = 24)
    · have ho2 : (bif bif decide (op = 22) then true else decide (op = 23) then true else decide (op = 24)) = true := by rcases ho with h | h | h <;> simp [h]
      try rw [ho2]
      simp only [decide_eq_true_eq, Bool.and_eq_true, cond_true, rtP, rgP, Bool.cond_true_left, Bool.cond_false_right, Bool.cond_true_right, Bool.cond_false_left, Bool.or_eq_false_iff, Bool.or_eq_true, Bool.and_eq_true, Bool.and_eq_false_iff, decide_eq_false_iff_not, decide_eq_true_eq, Bool.not_eq_true', Bool.not_eq_false', Bool.not_not, Int.not_lt, Int.not_le, gt_iff_lt, ge_iff_le]
      simp <;> omega
    · have ho2 : (bif bif decide (op = 22) then true else decide (op = 23) then true else decide (op = 24)) = false := by simp only [not_or] at ho; simp [ho]
      try rw [ho2]
      simp only [decide_eq_true_eq, Bool.and_eq_true, cond_false, rtP, rgP, Bool.cond_true_left, Bool.cond_false_right, Bool.cond_true_right, Bool.cond_false_left, Bool.or_eq_false_iff, Bool.or_eq_true, Bool.and_eq_true, Bool.and_eq_false_iff, decide_eq_false_iff_not, decide_eq_true_eq, Bool.not_eq_true', Bool.not_eq_false', Bool.not_not, Int.not_lt, Int.not_le, gt_iff_lt, ge_iff_le]
      simp <;> omega
  rw [e]
  simp only [h, pk_or, pk_and, pk3, pk4, pk5, pk6, decide_true, cond_true, decide_not]
  generalize (bif decide (d ≥ 0) then decide (d ≤ 15) else false) = D
  generalize (bif decide (x ≥ 0) then decide (x ≤ 15) else false) = X
  generalize (bif decide (y ≥ 0) then decide (y ≤ 15) else false) = Y
  generalize (bif bif decide (op = 22) then true else decide (op = 23) then true else decide (op = 24)) = O
  generalize decide (m = 0) = M
  cases D <;> cases X <;> cases Y <;> cases O <;> cases M <;> rfl
theorem rt1_2 (op d x y m : Int) (h : fmI op = 2) : Pure Try.prog 46 (cons [.agg 5 [.int .i64 op, .int .i64 d, .int .i64 x, .int .i64 y, .int .i64 m]]) (con (.bool (rtB op d x y m))) := by
  refine pureX (u := 80) (k := 20) mix (TA1ok 2) ?_
  rw [r_rt1_2]
  have e : rtB op d x y m = ((bif decide (d ≥ 0) then decide (d ≤ 15) else false) && ((bif decide (x ≥ 0) then decide (x ≤ 15) else false) && (decide (y = 0) && (bif (bif bif decide (op = 22) then true else decide (op = 23) then true else decide (op = 24)) then (bif decide (m ≥ 0) then decide (m ≤ 31) else false) else (bif decide (m ≥ -8192) then decide (m ≤ 8191) else false))))) := by
    unfold rtB
    rw [h, Bool.eq_iff_iff]
    by_cases ho : (op = 22 ∨ op = 23 ∨ op = 24)
    · have ho2 : (bif bif decide (op = 22) then true else decide (op = 23) then true else decide (op = 24)) = true := by rcases ho with h | h | h <;> simp [h]
      try rw [ho2]
      simp only [decide_eq_true_eq, Bool.and_eq_true, cond_true, rtP, rgP, Bool.cond_true_left, Bool.cond_false_right, Bool.cond_true_right, Bool.cond_false_left, Bool.or_eq_false_iff, Bool.or_eq_true, Bool.and_eq_true, Bool.and_eq_false_iff, decide_eq_false_iff_not, decide_eq_true_eq, Bool.not_eq_true', Bool.not_eq_false', Bool.not_not, Int.not_lt, Int.not_le, gt_iff_lt, ge_iff_le]
      simp <;> omega
    · have ho2 : (bif bif decide (op = 22) then true else decide (op = 23) then true else decide (op = 24)) = false := by simp only [not_or] at ho; simp [ho]
      try rw [ho2]
      simp only [decide_eq_true_eq, Bool.and_eq_true, cond_false, rtP, rgP, Bool.cond_true_left, Bool.cond_false_right, Bool.cond_true_right, Bool.cond_false_left, Bool.or_eq_false_iff, Bool.or_eq_true, Bool.and_eq_true, Bool.and_eq_false_iff, decide_eq_false_iff_not, decide_eq_true_eq, Bool.not_eq_true', Bool.not_eq_false', Bool.not_not, Int.not_lt, Int.not_le, gt_iff_lt, ge_iff_le]
      simp <;> omega
  rw [e]
  simp only [h, pk_or, pk_and, pk3, pk4, pk5, pk6, decide_true, cond_true, decide_not]
  generalize (bif decide (d ≥ 0) then decide (d ≤ 15) else false) = D
  generalize (bif decide (x ≥ 0) then decide (x ≤ 15) else false) = X
  generalize decide (y = 0) = Y
  generalize (bif bif decide (op = 22) then true else decide (op = 23) then true else decide (op = 24)) = O
  generalize (bif decide (m ≥ 0) then decide (m ≤ 31) else false) = M1
  generalize (bif decide (m ≥ -8192) then decide (m ≤ 8191) else false) = M2
  cases D <;> cases X <;> cases Y <;> cases O <;> cases M1 <;> cases M2 <;> rfl
theorem rt1_3 (op d x y m : Int) (h : fmI op = 3) : Pure Try.prog 46 (cons [.agg 5 [.int .i64 op, .int .i64 d, .int .i64 x, .int .i64 y, .int .i64 m]]) (con (.bool (rtB op d x y m))) := by
  refine pureX (u := 80) (k := 20) mix (TA1ok 3) ?_
  rw [r_rt1_3]
  have e : rtB op d x y m = ((bif decide (d ≥ 0) then decide (d ≤ 15) else false) && (decide (x = 0) && (decide (y = 0) && (bif (bif bif decide (op = 22) then true else decide (op = 23) then true else decide (op = 24)) then (bif decide (m ≥ 0) then decide (m ≤ 31) else false) else (bif decide (m ≥ -8192) then decide (m ≤ 8191) else false))))) := by
    unfold rtB
    rw [h, Bool.eq_iff_iff]
    by_cases ho : (op = 22 ∨ op = 23 ∨ op = 24)
    · have ho2 : (bif bif decide (op = 22) then true else decide (op = 23) then true else decide (op = 24)) = true := by rcases ho with h | h | h <;> simp [h]
      try rw [ho2]
      simp only [decide_eq_true_eq, Bool.and_eq_true, cond_true, rtP, rgP, Bool.cond_true_left, Bool.cond_false_right, Bool.cond_true_right, Bool.cond_false_left, Bool.or_eq_false_iff, Bool.or_eq_true, Bool.and_eq_true, Bool.and_eq_false_iff, decide_eq_false_iff_not, decide_eq_true_eq, Bool.not_eq_true', Bool.not_eq_false', Bool.not_not, Int.not_lt, Int.not_le, gt_iff_lt, ge_iff_le]
      simp <;> omega
    · have ho2 : (bif bif decide (op = 22) then true else decide (op = 23) then true else decide (op = 24)) = false := by simp only [not_or] at ho; simp [ho]
      try rw [ho2]
      simp only [decide_eq_true_eq, Bool.and_eq_true, cond_false, rtP, rgP, Bool.cond_true_left, Bool.cond_false_right, Bool.cond_true_right, Bool.cond_false_left, Bool.or_eq_false_iff, Bool.or_eq_true, Bool.and_eq_true, Bool.and_eq_false_iff, decide_eq_false_iff_not, decide_eq_true_eq, Bool.not_eq_true', Bool.not_eq_false', Bool.not_not, Int.not_lt, Int.not_le, gt_iff_lt, ge_iff_le]
      simp <;> omega
  rw [e]
  simp only [h, pk_or, pk_and, pk3, pk4, pk5, pk6, decide_true, cond_true, decide_not]
  generalize (bif decide (d ≥ 0) then decide (d ≤ 15) else false) = D
  generalize decide (x = 0) = X
  generalize decide (y = 0) = Y
  generalize (bif bif decide (op = 22) then true else decide (op = 23) then true else decide (op = 24)) = O
  generalize (bif decide (m ≥ 0) then decide (m ≤ 31) else false) = M1
  generalize (bif decide (m ≥ -8192) then decide (m ≤ 8191) else false) = M2
  cases D <;> cases X <;> cases Y <;> cases O <;> cases M1 <;> cases M2 <;> rfl
theorem rt1_4 (op d x y m : Int) (h : fmI op = 4) : Pure Try.prog 46 (cons [.agg 5 [.int .i64 op, .int .i64 d, .int .i64 x, .int .i64 y, .int .i64 m]]) (con (.bool (rtB op d x y m))) := by
  refine pureX (u := 80) (k := 20) mix (TA1ok 4) ?_
  rw [r_rt1_4]
  have e : rtB op d x y m = ((bif decide (d ≥ 0) then decide (d ≤ 15) else false) && ((bif decide (x ≥ 0) then decide (x ≤ 15) else false) && (decide (y = 0) && (bif (bif bif decide (op = 22) then true else decide (op = 23) then true else decide (op = 24)) then (bif decide (m ≥ 0) then decide (m ≤ 31) else false) else (bif decide (m ≥ -8192) then decide (m ≤ 8191) else false))))) := by
    unfold rtB
    rw [h, Bool.eq_iff_iff]
    by_cases ho : (op = 22 ∨ op = 23 ∨ op = 24)
    · have ho2 : (bif bif decide (op = 22) then true else decide (op = 23) then true else decide (op = 24)) = true := by rcases ho with h | h | h <;> simp [h]
      try rw [ho2]
      simp only [decide_eq_true_eq, Bool.and_eq_true, cond_true, rtP, rgP, Bool.cond_true_left, Bool.cond_false_right, Bool.cond_true_right, Bool.cond_false_left, Bool.or_eq_false_iff, Bool.or_eq_true, Bool.and_eq_true, Bool.and_eq_false_iff, decide_eq_false_iff_not, decide_eq_true_eq, Bool.not_eq_true', Bool.not_eq_false', Bool.not_not, Int.not_lt, Int.not_le, gt_iff_lt, ge_iff_le]
      simp <;> omega
    · have ho2 : (bif bif decide (op = 22) then true else decide (op = 23) then true else decide (op = 24)) = false := by simp only [not_or] at ho; simp [ho]
      try rw [ho2]
      simp only [decide_eq_true_eq, Bool.and_eq_true, cond_false, rtP, rgP, Bool.cond_true_left, Bool.cond_false_right, Bool.cond_true_right, Bool.cond_false_left, Bool.or_eq_false_iff, Bool.or_eq_true, Bool.and_eq_true, Bool.and_eq_false_iff, decide_eq_false_iff_not, decide_eq_true_eq, Bool.not_eq_true', Bool.not_eq_false', Bool.not_not, Int.not_lt, Int.not_le, gt_iff_lt, ge_iff_le]
      simp <;> omega
  rw [e]
  simp only [h, pk_or, pk_and, pk3, pk4, pk5, pk6, decide_true, cond_true, decide_not]
  generalize (bif decide (d ≥ 0) then decide (d ≤ 15) else false) = D
  generalize (bif decide (x ≥ 0) then decide (x ≤ 15) else false) = X
  generalize decide (y = 0) = Y
  generalize (bif bif decide (op = 22) then true else decide (op = 23) then true else decide (op = 24)) = O
  generalize (bif decide (m ≥ 0) then decide (m ≤ 31) else false) = M1
  generalize (bif decide (m ≥ -8192) then decide (m ≤ 8191) else false) = M2
  cases D <;> cases X <;> cases Y <;> cases O <;> cases M1 <;> cases M2 <;> rfl
theorem rt1_5 (op d x y m : Int) (h : fmI op = 5) : Pure Try.prog 46 (cons [.agg 5 [.int .i64 op, .int .i64 d, .int .i64 x, .int .i64 y, .int .i64 m]]) (con (.bool (rtB op d x y m))) := by
  refine pureX (u := 80) (k := 20) mix (TA1ok 5) ?_
  rw [r_rt1_5]
  have e : rtB op d x y m = (decide (d = 0) && ((bif decide (x ≥ 0) then decide (x ≤ 15) else false) && ((bif decide (y ≥ 0) then decide (y ≤ 15) else false) && (bif (bif bif decide (op = 22) then true else decide (op = 23) then true else decide (op = 24)) then (bif decide (m ≥ 0) then decide (m ≤ 31) else false) else (bif decide (m ≥ -8192) then decide (m ≤ 8191) else false))))) := by
    unfold rtB
    rw [h, Bool.eq_iff_iff]
    by_cases ho : (op = 22 ∨ op = 23 ∨ op = 24)
    · have ho2 : (bif bif decide (op = 22) then true else decide (op = 23) then true else decide (op = 24)) = true := by rcases ho with h | h | h <;> simp [h]
      try rw [ho2]
      simp only [decide_eq_true_eq, Bool.and_eq_true, cond_true, rtP, rgP, Bool.cond_true_left, Bool.cond_false_right, Bool.cond_true_right, Bool.cond_false_left, Bool.or_eq_false_iff, Bool.or_eq_true, Bool.and_eq_true, Bool.and_eq_false_iff, decide_eq_false_iff_not, decide_eq_true_eq, Bool.not_eq_true', Bool.not_eq_false', Bool.not_not, Int.not_lt, Int.not_le, gt_iff_lt, ge_iff_le]
      simp <;> omega
    · have ho2 : (bif bif decide (op = 22) then true else decide (op = 23) then true else decide (op = 24)) = false := by simp only [not_or] at ho; simp [ho]
      try rw [ho2]
      simp only [decide_eq_true_eq, Bool.and_eq_true, cond_false, rtP, rgP, Bool.cond_true_left, Bool.cond_false_right, Bool.cond_true_right, Bool.cond_false_left, Bool.or_eq_false_iff, Bool.or_eq_true, Bool.and_eq_true, Bool.and_eq_false_iff, decide_eq_false_iff_not, decide_eq_true_eq, Bool.not_eq_true', Bool.not_eq_false', Bool.not_not, Int.not_lt, Int.not_le, gt_iff_lt, ge_iff_le]
      simp <;> omega
  rw [e]
  simp only [h, pk_or, pk_and, pk3, pk4, pk5, pk6, decide_true, cond_true, decide_not]
  generalize decide (d = 0) = D
  generalize (bif decide (x ≥ 0) then decide (x ≤ 15) else false) = X
  generalize (bif decide (y ≥ 0) then decide (y ≤ 15) else false) = Y
  generalize (bif bif decide (op = 22) then true else decide (op = 23) then true else decide (op = 24)) = O
  generalize (bif decide (m ≥ 0) then decide (m ≤ 31) else false) = M1
  generalize (bif decide (m ≥ -8192) then decide (m ≤ 8191) else false) = M2
  cases D <;> cases X <;> cases Y <;> cases O <;> cases M1 <;> cases M2 <;> rfl
theorem rt1_6 (op d x y m : Int) (h : fmI op = 6) : Pure Try.prog 46 (cons [.agg 5 [.int .i64 op, .int .i64 d, .int .i64 x, .int .i64 y, .int .i64 m]]) (con (.bool (rtB op d x y m))) := by
  refine pureX (u := 80) (k := 20) mix (TA1ok 6) ?_
  rw [r_rt1_6]
  have e : rtB op d x y m = (decide (d = 0) && ((bif decide (x ≥ 0) then decide (x ≤ 15) else false) && ((bif decide (y ≥ 0) then decide (y ≤ 15) else false) && (bif (bif bif decide (op = 22) then true else decide (op = 23) then true else decide (op = 24)) then (bif decide (m ≥ 0) then decide (m ≤ 31) else false) else (bif decide (m ≥ -8192) then decide (m ≤ 8191) else false))))) := by
    unfold rtB
    rw [h, Bool.eq_iff_iff]
    by_cases ho : (op = 22 ∨ op = 23 ∨ op = 24)
    · have ho2 : (bif bif decide (op = 22) then true else decide (op = 23) then true else decide (op = 24)) = true := by rcases ho with h | h | h <;> simp [h]
      try rw [ho2]
      simp only [decide_eq_true_eq, Bool.and_eq_true, cond_true, rtP, rgP, Bool.cond_true_left, Bool.cond_false_right, Bool.cond_true_right, Bool.cond_false_left, Bool.or_eq_false_iff, Bool.or_eq_true, Bool.and_eq_true, Bool.and_eq_false_iff, decide_eq_false_iff_not, decide_eq_true_eq, Bool.not_eq_true', Bool.not_eq_false', Bool.not_not, Int.not_lt, Int.not_le, gt_iff_lt, ge_iff_le]
      simp <;> omega
    · have ho2 : (bif bif decide (op = 22) then true else decide (op = 23) then true else decide (op = 24)) = false := by simp only [not_or] at ho; simp [ho]
      try rw [ho2]
      simp only [decide_eq_true_eq, Bool.and_eq_true, cond_false, rtP, rgP, Bool.cond_true_left, Bool.cond_false_right, Bool.cond_true_right, Bool.cond_false_left, Bool.or_eq_false_iff, Bool.or_eq_true, Bool.and_eq_true, Bool.and_eq_false_iff, decide_eq_false_iff_not, decide_eq_true_eq, Bool.not_eq_true', Bool.not_eq_false', Bool.not_not, Int.not_lt, Int.not_le, gt_iff_lt, ge_iff_le]
      simp <;> omega
  rw [e]
  simp only [h, pk_or, pk_and, pk3, pk4, pk5, pk6, decide_true, cond_true, decide_not]
  generalize decide (d = 0) = D
  generalize (bif decide (x ≥ 0) then decide (x ≤ 15) else false) = X
  generalize (bif decide (y ≥ 0) then decide (y ≤ 15) else false) = Y
  generalize (bif bif decide (op = 22) then true else decide (op = 23) then true else decide (op = 24)) = O
  generalize (bif decide (m ≥ 0) then decide (m ≤ 31) else false) = M1
  generalize (bif decide (m ≥ -8192) then decide (m ≤ 8191) else false) = M2
  cases D <;> cases X <;> cases Y <;> cases O <;> cases M1 <;> cases M2 <;> rfl
theorem rt1_7 (op d x y m : Int) (h : fmI op = 7) : Pure Try.prog 46 (cons [.agg 5 [.int .i64 op, .int .i64 d, .int .i64 x, .int .i64 y, .int .i64 m]]) (con (.bool (rtB op d x y m))) := by
  refine pureX (u := 80) (k := 20) mix (TA1ok 7) ?_
  rw [r_rt1_7]
  have e : rtB op d x y m = (decide (d = 0) && (decide (x = 0) && (decide (y = 0) && (bif (bif bif decide (op = 22) then true else decide (op = 23) then true else decide (op = 24)) then (bif decide (m ≥ 0) then decide (m ≤ 31) else false) else (bif decide (m ≥ -8192) then decide (m ≤ 8191) else false))))) := by
    unfold rtB
    rw [h, Bool.eq_iff_iff]
    by_cases ho : (op = 22 ∨ op = 23 ∨ op = 24)
    · have ho2 : (bif bif decide (op = 22) then true else decide (op = 23) then true else decide (op = 24)) = true := by rcases ho with h | h | h <;> simp [h]
      try rw [ho2]
      simp only [decide_eq_true_eq, Bool.and_eq_true, cond_true, rtP, rgP, Bool.cond_true_left, Bool.cond_false_right, Bool.cond_true_right, Bool.cond_false_left, Bool.or_eq_false_iff, Bool.or_eq_true, Bool.and_eq_true, Bool.and_eq_false_iff, decide_eq_false_iff_not, decide_eq_true_eq, Bool.not_eq_true', Bool.not_eq_false', Bool.not_not, Int.not_lt, Int.not_le, gt_iff_lt, ge_iff_le]
      simp <;> omega
    · have ho2 : (bif bif decide (op = 22) then true else decide (op = 23) then true else decide (op = 24)) = false := by simp only [not_or] at ho; simp [ho]
      try rw [ho2]
      simp only [decide_eq_true_eq, Bool.and_eq_true, cond_false, rtP, rgP, Bool.cond_true_left, Bool.cond_false_right, Bool.cond_true_right, Bool.cond_false_left, Bool.or_eq_false_iff, Bool.or_eq_true, Bool.and_eq_true, Bool.and_eq_false_iff, decide_eq_false_iff_not, decide_eq_true_eq, Bool.not_eq_true', Bool.not_eq_false', Bool.not_not, Int.not_lt, Int.not_le, gt_iff_lt, ge_iff_le]
      simp <;> omega
  rw [e]
  simp only [h, pk_or, pk_and, pk3, pk4, pk5, pk6, decide_true, cond_true, decide_not]
  generalize decide (d = 0) = D
  generalize decide (x = 0) = X
  generalize decide (y = 0) = Y
  generalize (bif bif decide (op = 22) then true else decide (op = 23) then true else decide (op = 24)) = O
  generalize (bif decide (m ≥ 0) then decide (m ≤ 31) else false) = M1
  generalize (bif decide (m ≥ -8192) then decide (m ≤ 8191) else false) = M2
  cases D <;> cases X <;> cases Y <;> cases O <;> cases M1 <;> cases M2 <;> rfl
theorem rt1_8 (op d x y m : Int) (h : fmI op = 8) : Pure Try.prog 46 (cons [.agg 5 [.int .i64 op, .int .i64 d, .int .i64 x, .int .i64 y, .int .i64 m]]) (con (.bool (rtB op d x y m))) := by
  refine pureX (u := 80) (k := 20) mix (TA1ok 8) ?_
  rw [r_rt1_8]
  have e : rtB op d x y m = (decide (d = 0) && (decide (x = 0) && (decide (y = 0) && decide (m = 0)))) := by
    unfold rtB
    rw [h, Bool.eq_iff_iff]
    by_cases ho : (op = 22 ∨ op = 23 ∨ op = 24)
    · have ho2 : (bif bif decide (op = 22) then true else decide (op = 23) then true else decide (op = 24)) = true := by rcases ho with h | h | h <;> simp [h]
      try rw [ho2]
      simp only [decide_eq_true_eq, Bool.and_eq_true, cond_true, rtP, rgP, Bool.cond_true_left, Bool.cond_false_right, Bool.cond_true_right, Bool.cond_false_left, Bool.or_eq_false_iff, Bool.or_eq_true, Bool.and_eq_true, Bool.and_eq_false_iff, decide_eq_false_iff_not, decide_eq_true_eq, Bool.not_eq_true', Bool.not_eq_false', Bool.not_not, Int.not_lt, Int.not_le, gt_iff_lt, ge_iff_le]
      simp <;> omega
    · have ho2 : (bif bif decide (op = 22) then true else decide (op = 23) then true else decide (op = 24)) = false := by simp only [not_or] at ho; simp [ho]
      try rw [ho2]
      simp only [decide_eq_true_eq, Bool.and_eq_true, cond_false, rtP, rgP, Bool.cond_true_left, Bool.cond_false_right, Bool.cond_true_right, Bool.cond_false_left, Bool.or_eq_false_iff, Bool.or_eq_true, Bool.and_eq_true, Bool.and_eq_false_iff, decide_eq_false_iff_not, decide_eq_true_eq, Bool.not_eq_true', Bool.not_eq_false', Bool.not_not, Int.not_lt, Int.not_le, gt_iff_lt, ge_iff_le]
      simp <;> omega
  rw [e]
  simp only [h, pk_or, pk_and, pk3, pk4, pk5, pk6, decide_true, cond_true, decide_not]
  generalize decide (d = 0) = D
  generalize decide (x = 0) = X
  generalize decide (y = 0) = Y
  generalize (bif bif decide (op = 22) then true else decide (op = 23) then true else decide (op = 24)) = O
  generalize decide (m = 0) = M
  cases D <;> cases X <;> cases Y <;> cases O <;> cases M <;> rfl
theorem rt2_0 (op d x y m : Int) (h : fmI op = 0) : Pure Try.prog 25 (cons [.agg 5 [.int .i64 op, .int .i64 d, .int .i64 x, .int .i64 y, .int .i64 m]]) (con (.bool (rtB op d x y m))) := by
  refine pureX (u := 80) (k := 20) mix (TA1ok 0) ?_
  rw [r_rt2_0]
  have e : rtB op d x y m = false := by
    unfold rtB rtP
    rw [h]
    simp
  rw [e]
  simp only [h, pk_or, pk_and, pk3, pk4, pk5, pk6, decide_true, cond_true, cond_false, Bool.not_true, Bool.not_false]
  try cases decide (op = 22) <;> cases decide (op = 23) <;> cases decide (op = 24) <;> trivial
theorem rt2_1 (op d x y m : Int) (h : fmI op = 1) : Pure Try.prog 25 (cons [.agg 5 [.int .i64 op, .int .i64 d, .int .i64 x, .int .i64 y, .int .i64 m]]) (con (.bool (rtB op d x y m))) := by
  refine pureX (u := 80) (k := 20) mix (TA1ok 1) ?_
  rw [r_rt2_1]
  have e : rtB op d x y m = ((bif decide (d = 0) then true else bif decide (d > 0) then decide (d ≤ 15) else false) && ((bif decide (x = 0) then true else bif decide (x > 0) then decide (x ≤ 15) else false) && ((bif decide (y = 0) then true else bif decide (y > 0) then decide (y ≤ 15) else false) && decide (m = 0)))) := by
    unfold rtB
    rw [h, Bool.eq_iff_iff]
    by_cases ho : (op = 22 ∨ op = 23 ∨ op = 24)
    · have ho2 : (bif bif decide (op = 22) then true else decide (op = 23) then true else decide (op = 24)) = true := by rcases ho with h | h | h <;> simp [h]
      try rw [ho2]
      simp only [decide_eq_true_eq, Bool.and_eq_true, cond_true, rtP, rgP, Bool.cond_true_left, Bool.cond_false_right, Bool.cond_true_right, Bool.cond_false_left, Bool.or_eq_false_iff, Bool.or_eq_true, Bool.and_eq_true, Bool.and_eq_false_iff, decide_eq_false_iff_not, decide_eq_true_eq, Bool.not_eq_true', Bool.not_eq_false', Bool.not_not, Int.not_lt, Int.not_le, gt_iff_lt, ge_iff_le]
      simp <;> omega
    · have ho2 : (bif bif decide (op = 22) then true else decide (op = 23) then true else decide (op = 24)) = false := by simp only [not_or] at ho; simp [ho]
      try rw [ho2]
      simp only [decide_eq_true_eq, Bool.and_eq_true, cond_false, rtP, rgP, Bool.cond_true_left, Bool.cond_false_right, Bool.cond_true_right, Bool.cond_false_left, Bool.or_eq_false_iff, Bool.or_eq_true, Bool.and_eq_true, Bool.and_eq_false_iff, decide_eq_false_iff_not, decide_eq_true_eq, Bool.not_eq_true', Bool.not_eq_false', Bool.not_not, Int.not_lt, Int.not_le, gt_iff_lt, ge_iff_le]
      simp <;> omega
  rw [e]
  simp only [h, pk_or, pk_and, pk3, pk4, pk5, pk6, decide_true, cond_true, decide_not]
  generalize (bif decide (d = 0) then true else bif decide (d > 0) then decide (d ≤ 15) else false) = D
  generalize (bif decide (x = 0) then true else bif decide (x > 0) then decide (x ≤ 15) else false) = X
  generalize (bif decide (y = 0) then true else bif decide (y > 0) then decide (y ≤ 15) else false) = Y
  generalize (bif bif decide (op = 22) then true else decide (op = 23) then true else decide (op = 24)) = O
  by_cases hm : m = 0
  · subst hm
    cases D <;> cases X <;> cases Y <;> cases O <;> rfl
  · rw [decide_eq_false hm]
    generalize (bif decide (m ≥ 0) then decide (m ≤ 31) else false) = M1
    generalize (bif decide (m ≥ -8192) then decide (m ≤ 8191) else false) = M2
    cases D <;> cases X <;> cases Y <;> cases O <;> rfl
theorem rt2_2 (op d x y m : Int) (h : fmI op = 2) : Pure Try.prog 25 (cons [.agg 5 [.int .i64 op, .int .i64 d, .int .i64 x, .int .i64 y, .int .i64 m]]) (con (.bool (rtB op d x y m))) := by
  refine pureX (u := 80) (k := 20) mix (TA1ok 2) ?_
  rw [r_rt2_2]
  have e : rtB op d x y m = ((bif decide (d = 0) then true else bif decide (d > 0) then decide (d ≤ 15) else false) && ((bif decide (x = 0) then true else bif decide (x > 0) then decide (x ≤ 15) else false) && (decide (y = 0) && (bif (bif bif decide (op = 22) then true else decide (op = 23) then true else decide (op = 24)) then (bif decide (m ≥ 0) then decide (m ≤ 31) else false) else (bif decide (m ≥ -8192) then decide (m ≤ 8191) else false))))) := by
    unfold rtB
    rw [h, Bool.eq_iff_iff]
    by_cases ho : (op = 22 ∨ op = 23 ∨ op = 24)
    · have ho2 : (bif bif decide (op = 22) then true else decide (op = 23) then true else decide (op = 24)) = true := by rcases ho with h | h | h <;> simp [h]
      try rw [ho2]
      simp only [decide_eq_true_eq, Bool.and_eq_true, cond_true, rtP, rgP, Bool.cond_true_left, Bool.cond_false_right, Bool.cond_true_right, Bool.cond_false_left, Bool.or_eq_false_iff, Bool.or_eq_true, Bool.and_eq_true, Bool.and_eq_false_iff, decide_eq_false_iff_not, decide_eq_true_eq, Bool.not_eq_true', Bool.not_eq_false', Bool.not_not, Int.not_lt, Int.not_le, gt_iff_lt, ge_iff_le]
      simp <;> omega
    · have ho2 : (bif bif decide (op = 22) then true else decide (op = 23) then true else decide (op = 24)) = false := by simp only [not_or] at ho; simp [ho]
      try rw [ho2]
      simp only [decide_eq_true_eq, Bool.and_eq_true, cond_false, rtP, rgP, Bool.cond_true_left, Bool.cond_false_right, Bool.cond_true_right, Bool.cond_false_left, Bool.or_eq_false_iff, Bool.or_eq_true, Bool.and_eq_true, Bool.and_eq_false_iff, decide_eq_false_iff_not, decide_eq_true_eq, Bool.not_eq_true', Bool.not_eq_false', Bool.not_not, Int.not_lt, Int.not_le, gt_iff_lt, ge_iff_le]
      simp <;> omega
  rw [e]
  simp only [h, pk_or, pk_and, pk3, pk4, pk5, pk6, decide_true, cond_true, decide_not]
  generalize (bif decide (d = 0) then true else bif decide (d > 0) then decide (d ≤ 15) else false) = D
  generalize (bif decide (x = 0) then true else bif decide (x > 0) then decide (x ≤ 15) else false) = X
  generalize decide (y = 0) = Y
  generalize (bif bif decide (op = 22) then true else decide (op = 23) then true else decide (op = 24)) = O
  generalize (bif decide (m ≥ 0) then decide (m ≤ 31) else false) = M1
  generalize (bif decide (m ≥ -8192) then decide (m ≤ 8191) else false) = M2
  cases D <;> cases X <;> cases Y <;> cases O <;> cases M1 <;> cases M2 <;> rfl
theorem rt2_3 (op d x y m : Int) (h : fmI op = 3) : Pure Try.prog 25 (cons [.agg 5 [.int .i64 op, .int .i64 d, .int .i64 x, .int .i64 y, .int .i64 m]]) (con (.bool (rtB op d x y m))) := by
  refine pureX (u := 80) (k := 20) mix (TA1ok 3) ?_
  rw [r_rt2_3]
  have e : rtB op d x y m = ((bif decide (d = 0) then true else bif decide (d > 0) then decide (d ≤ 15) else false) && (decide (x = 0) && (decide (y = 0) && (bif (bif bif decide (op = 22) then true else decide (op = 23) then true else decide (op = 24)) then (bif decide (m ≥ 0) then decide (m ≤ 31) else false) else (bif decide (m ≥ -8192) then decide (m ≤ 8191) else false))))) := by
    unfold rtB
    rw [h, Bool.eq_iff_iff]
    by_cases ho : (op = 22 ∨ op = 23 ∨ op = 24)
    · have ho2 : (bif bif decide (op = 22) then true else decide (op = 23) then true else decide (op = 24)) = true := by rcases ho with h | h | h <;> simp [h]
      try rw [ho2]
      simp only [decide_eq_true_eq, Bool.and_eq_true, cond_true, rtP, rgP, Bool.cond_true_left, Bool.cond_false_right, Bool.cond_true_right, Bool.cond_false_left, Bool.or_eq_false_iff, Bool.or_eq_true, Bool.and_eq_true, Bool.and_eq_false_iff, decide_eq_false_iff_not, decide_eq_true_eq, Bool.not_eq_true', Bool.not_eq_false', Bool.not_not, Int.not_lt, Int.not_le, gt_iff_lt, ge_iff_le]
      simp <;> omega
    · have ho2 : (bif bif decide (op = 22) then true else decide (op = 23) then true else decide (op = 24)) = false := by simp only [not_or] at ho; simp [ho]
      try rw [ho2]
      simp only [decide_eq_true_eq, Bool.and_eq_true, cond_false, rtP, rgP, Bool.cond_true_left, Bool.cond_false_right, Bool.cond_true_right, Bool.cond_false_left, Bool.or_eq_false_iff, Bool.or_eq_true, Bool.and_eq_true, Bool.and_eq_false_iff, decide_eq_false_iff_not, decide_eq_true_eq, Bool.not_eq_true', Bool.not_eq_false', Bool.not_not, Int.not_lt, Int.not_le, gt_iff_lt, ge_iff_le]
      simp <;> omega
  rw [e]
  simp only [h, pk_or, pk_and, pk3, pk4, pk5, pk6, decide_true, cond_true, decide_not]
  generalize (bif decide (d = 0) then true else bif decide (d > 0) then decide (d ≤ 15) else false) = D
  generalize decide (x = 0) = X
  generalize decide (y = 0) = Y
  generalize (bif bif decide (op = 22) then true else decide (op = 23) then true else decide (op = 24)) = O
  generalize (bif decide (m ≥ 0) then decide (m ≤ 31) else false) = M1
  generalize (bif decide (m ≥ -8192) then decide (m ≤ 8191) else false) = M2
  cases D <;> cases X <;> cases Y <;> cases O <;> cases M1 <;> cases M2 <;> rfl
theorem rt2_4 (op d x y m : Int) (h : fmI op = 4) : Pure Try.prog 25 (cons [.agg 5 [.int .i64 op, .int .i64 d, .int .i64 x, .int .i64 y, .int .i64 m]]) (con (.bool (rtB op d x y m))) := by
  refine pureX (u := 80) (k := 20) mix (TA1ok 4) ?_
  rw [r_rt2_4]
  have e : rtB op d x y m = ((bif decide (d = 0) then true else bif decide (d > 0) then decide (d ≤ 15) else false) && ((bif decide (x = 0) then true else bif decide (x > 0) then decide (x ≤ 15) else false) && (decide (y = 0) && (bif (bif bif decide (op = 22) then true else decide (op = 23) then true else decide (op = 24)) then (bif decide (m ≥ 0) then decide (m ≤ 31) else false) else (bif decide (m ≥ -8192) then decide (m ≤ 8191) else false))))) := by
    unfold rtB
    rw [h, Bool.eq_iff_iff]
    by_cases ho : (op = 22 ∨ op = 23 ∨ op = 24)
    · have ho2 : (bif bif decide (op = 22) then true else decide (op = 23) then true else decide (op = 24)) = true := by rcases ho with h | h | h <;> simp [h]
      try rw [ho2]
      simp only [decide_eq_true_eq, Bool.and_eq_true, cond_true, rtP, rgP, Bool.cond_true_left, Bool.cond_false_right, Bool.cond_true_right, Bool.cond_false_left, Bool.or_eq_false_iff, Bool.or_eq_true, Bool.and_eq_true, Bool.and_eq_false_iff, decide_eq_false_iff_not, decide_eq_true_eq, Bool.not_eq_true', Bool.not_eq_false', Bool.not_not, Int.not_lt, Int.not_le, gt_iff_lt, ge_iff_le]
      simp <;> omega
    · have ho2 : (bif bif decide (op = 22) then true else decide (op = 23) then true else decide (op = 24)) = false := by simp only [not_or] at ho; simp [ho]
      try rw [ho2]
      simp only [decide_eq_true_eq, Bool.and_eq_true, cond_false, rtP, rgP, Bool.cond_true_left, Bool.cond_false_right, Bool.cond_true_right, Bool.cond_false_left, Bool.or_eq_false_iff, Bool.or_eq_true, Bool.and_eq_true, Bool.and_eq_false_iff, decide_eq_false_iff_not, decide_eq_true_eq, Bool.not_eq_true', Bool.not_eq_false', Bool.not_not, Int.not_lt, Int.not_le, gt_iff_lt, ge_iff_le]
      simp <;> omega
  rw [e]
  simp only [h, pk_or, pk_and, pk3, pk4, pk5, pk6, decide_true, cond_true, decide_not]
  generalize (bif decide (d = 0) then true else bif decide (d > 0) then decide (d ≤ 15) else false) = D
  generalize (bif decide (x = 0) then true else bif decide (x > 0) then decide (x ≤ 15) else false) = X
  generalize decide (y = 0) = Y
  generalize (bif bif decide (op = 22) then true else decide (op = 23) then true else decide (op = 24)) = O
  generalize (bif decide (m ≥ 0) then decide (m ≤ 31) else false) = M1
  generalize (bif decide (m ≥ -8192) then decide (m ≤ 8191) else false) = M2
  cases D <;> cases X <;> cases Y <;> cases O <;> cases M1 <;> cases M2 <;> rfl
theorem rt2_5 (op d x y m : Int) (h : fmI op = 5) : Pure Try.prog 25 (cons [.agg 5 [.int .i64 op, .int .i64 d, .int .i64 x, .int .i64 y, .int .i64 m]]) (con (.bool (rtB op d x y m))) := by
  refine pureX (u := 80) (k := 20) mix (TA1ok 5) ?_
  rw [r_rt2_5]
  have e : rtB op d x y m = (decide (d = 0) && ((bif decide (x = 0) then true else bif decide (x > 0) then decide (x ≤ 15) else false) && ((bif decide (y = 0) then true else bif decide (y > 0) then decide (y ≤ 15) else false) && (bif (bif bif decide (op = 22) then true else decide (op = 23) then true else decide (op = 24)) then (bif decide (m ≥ 0) then decide (m ≤ 31) else false) else (bif decide (m ≥ -8192) then decide (m ≤ 8191) else false))))) := by
    unfold rtB
    rw [h, Bool.eq_iff_iff]
    by_cases ho : (op = 22 ∨ op = 23 ∨ op = 24)
    · have ho2 : (bif bif decide (op = 22) then true else decide (op = 23) then true else decide (op = 24)) = true := by rcases ho with h | h | h <;> simp [h]
      try rw [ho2]
      simp only [decide_eq_true_eq, Bool.and_eq_true, cond_true, rtP, rgP, Bool.cond_true_left, Bool.cond_false_right, Bool.cond_true_right, Bool.cond_false_left, Bool.or_eq_false_iff, Bool.or_eq_true, Bool.and_eq_true, Bool.and_eq_false_iff, decide_eq_false_iff_not, decide_eq_true_eq, Bool.not_eq_true', Bool.not_eq_false', Bool.not_not, Int.not_lt, Int.not_le, gt_iff_lt, ge_iff_le]
      simp <;> omega
    · have ho2 : (bif bif decide (op = 22) then true else decide (op = 23) then true else decide (op = 24)) = false := by simp only [not_or] at ho; simp [ho]
      try rw [ho2]
      simp only [decide_eq_true_eq, Bool.and_eq_true, cond_false, rtP, rgP, Bool.cond_true_left, Bool.cond_false_right, Bool.cond_true_right, Bool.cond_false_left, Bool.or_eq_false_iff, Bool.or_eq_true, Bool.and_eq_true, Bool.and_eq_false_iff, decide_eq_false_iff_not, decide_eq_true_eq, Bool.not_eq_true', Bool.not_eq_false', Bool.not_not, Int.not_lt, Int.not_le, gt_iff_lt, ge_iff_le]
      simp <;> omega
  rw [e]
  simp only [h, pk_or, pk_and, pk3, pk4, pk5, pk6, decide_true, cond_true, decide_not]
  generalize decide (d = 0) = D
  generalize (bif decide (x = 0) then true else bif decide (x > 0) then decide (x ≤ 15) else false) = X
  generalize (bif decide (y = 0) then true else bif decide (y > 0) then decide (y ≤ 15) else false) = Y
  generalize (bif bif decide (op = 22) then true else decide (op = 23) then true else decide (op = 24)) = O
  generalize (bif decide (m ≥ 0) then decide (m ≤ 31) else false) = M1
  generalize (bif decide (m ≥ -8192) then decide (m ≤ 8191) else false) = M2
  cases D <;> cases X <;> cases Y <;> cases O <;> cases M1 <;> cases M2 <;> rfl
theorem rt2_6 (op d x y m : Int) (h : fmI op = 6) : Pure Try.prog 25 (cons [.agg 5 [.int .i64 op, .int .i64 d, .int .i64 x, .int .i64 y, .int .i64 m]]) (con (.bool (rtB op d x y m))) := by
  refine pureX (u := 80) (k := 20) mix (TA1ok 6) ?_
  rw [r_rt2_6]
  have e : rtB op d x y m = (decide (d = 0) && ((bif decide (x = 0) then true else bif decide (x > 0) then decide (x ≤ 15) else false) && ((bif decide (y = 0) then true else bif decide (y > 0) then decide (y ≤ 15) else false) && (bif (bif bif decide (op = 22) then true else decide (op = 23) then true else decide (op = 24)) then (bif decide (m ≥ 0) then decide (m ≤ 31) else false) else (bif decide (m ≥ -8192) then decide (m ≤ 8191) else false))))) := by
    unfold rtB
    rw [h, Bool.eq_iff_iff]
    by_cases ho : (op = 22 ∨ op = 23 ∨ op = 24)
    · have ho2 : (bif bif decide (op = 22) then true else decide (op = 23) then true else decide (op = 24)) = true := by rcases ho with h | h | h <;> simp [h]
      try rw [ho2]
      simp only [decide_eq_true_eq, Bool.and_eq_true, cond_true, rtP, rgP, Bool.cond_true_left, Bool.cond_false_right, Bool.cond_true_right, Bool.cond_false_left, Bool.or_eq_false_iff, Bool.or_eq_true, Bool.and_eq_true, Bool.and_eq_false_iff, decide_eq_false_iff_not, decide_eq_true_eq, Bool.not_eq_true', Bool.not_eq_false', Bool.not_not, Int.not_lt, Int.not_le, gt_iff_lt, ge_iff_le]
      simp <;> omega
    · have ho2 : (bif bif decide (op = 22) then true else decide (op = 23) then true else decide (op = 24)) = false := by simp only [not_or] at ho; simp [ho]
      try rw [ho2]
      simp only [decide_eq_true_eq, Bool.and_eq_true, cond_false, rtP, rgP, Bool.cond_true_left, Bool.cond_false_right, Bool.cond_true_right, Bool.cond_false_left, Bool.or_eq_false_iff, Bool.or_eq_true, Bool.and_eq_true, Bool.and_eq_false_iff, decide_eq_false_iff_not, decide_eq_true_eq, Bool.not_eq_true', Bool.not_eq_false', Bool.not_not, Int.not_lt, Int.not_le, gt_iff_lt, ge_iff_le]
      simp <;> omega
  rw [e]
  simp only [h, pk_or, pk_and, pk3, pk4, pk5, pk6, decide_true, cond_true, decide_not]
  generalize decide (d = 0) = D
  generalize (bif decide (x = 0) then true else bif decide (x > 0) then decide (x ≤ 15) else false) = X
  generalize (bif decide (y = 0) then true else bif decide (y > 0) then decide (y ≤ 15) else false) = Y
  generalize (bif bif decide (op = 22) then true else decide (op = 23) then true else decide (op = 24)) = O
  generalize (bif decide (m ≥ 0) then decide (m ≤ 31) else false) = M1
  generalize (bif decide (m ≥ -8192) then decide (m ≤ 8191) else false) = M2
  cases D <;> cases X <;> cases Y <;> cases O <;> cases M1 <;> cases M2 <;> rfl
theorem rt2_7 (op d x y m : Int) (h : fmI op = 7) : Pure Try.prog 25 (cons [.agg 5 [.int .i64 op, .int .i64 d, .int .i64 x, .int .i64 y, .int .i64 m]]) (con (.bool (rtB op d x y m))) := by
  refine pureX (u := 80) (k := 20) mix (TA1ok 7) ?_
  rw [r_rt2_7]
  have e : rtB op d x y m = (decide (d = 0) && (decide (x = 0) && (decide (y = 0) && (bif (bif bif decide (op = 22) then true else decide (op = 23) then true else decide (op = 24)) then (bif decide (m ≥ 0) then decide (m ≤ 31) else false) else (bif decide (m ≥ -8192) then decide (m ≤ 8191) else false))))) := by
    unfold rtB
    rw [h, Bool.eq_iff_iff]
    by_cases ho : (op = 22 ∨ op = 23 ∨ op = 24)
    · have ho2 : (bif bif decide (op = 22) then true else decide (op = 23) then true else decide (op = 24)) = true := by rcases ho with h | h | h <;> simp [h]
      try rw [ho2]
      simp only [decide_eq_true_eq, Bool.and_eq_true, cond_true, rtP, rgP, Bool.cond_true_left, Bool.cond_false_right, Bool.cond_true_right, Bool.cond_false_left, Bool.or_eq_false_iff, Bool.or_eq_true, Bool.and_eq_true, Bool.and_eq_false_iff, decide_eq_false_iff_not, decide_eq_true_eq, Bool.not_eq_true', Bool.not_eq_false', Bool.not_not, Int.not_lt, Int.not_le, gt_iff_lt, ge_iff_le]
      simp <;> omega
    · have ho2 : (bif bif decide (op = 22) then true else decide (op = 23) then true else decide (op = 24)) = false := by simp only [not_or] at ho; simp [ho]
      try rw [ho2]
      simp only [decide_eq_true_eq, Bool.and_eq_true, cond_false, rtP, rgP, Bool.cond_true_left, Bool.cond_false_right, Bool.cond_true_right, Bool.cond_false_left, Bool.or_eq_false_iff, Bool.or_eq_true, Bool.and_eq_true, Bool.and_eq_false_iff, decide_eq_false_iff_not, decide_eq_true_eq, Bool.not_eq_true', Bool.not_eq_false', Bool.not_not, Int.not_lt, Int.not_le, gt_iff_lt, ge_iff_le]
      simp <;> omega
  rw [e]
  simp only [h, pk_or, pk_and, pk3, pk4, pk5, pk6, decide_true, cond_true, decide_not]
  generalize decide (d = 0) = D
  generalize decide (x = 0) = X
  generalize decide (y = 0) = Y
  generalize (bif bif decide (op = 22) then true else decide (op = 23) then true else decide (op = 24)) = O
  generalize (bif decide (m ≥ 0) then decide (m ≤ 31) else false) = M1
  generalize (bif decide (m ≥ -8192) then decide (m ≤ 8191) else false) = M2
  cases D <;> cases X <;> cases Y <;> cases O <;> cases M1 <;> cases M2 <;> rfl
theorem rt2_8 (op d x y m : Int) (h : fmI op = 8) : Pure Try.prog 25 (cons [.agg 5 [.int .i64 op, .int .i64 d, .int .i64 x, .int .i64 y, .int .i64 m]]) (con (.bool (rtB op d x y m))) := by
  refine pureX (u := 80) (k := 20) mix (TA1ok 8) ?_
  rw [r_rt2_8]
  have e : rtB op d x y m = (decide (d = 0) && (decide (x = 0) && (decide (y = 0) && decide (m = 0)))) := by
    unfold rtB
    rw [h, Bool.eq_iff_iff]
    by_cases ho : (op = 22 ∨ op = 23 ∨ op = 24)
    · have ho2 : (bif bif decide (op = 22) then true else decide (op = 23) then true else decide (op = 24)) = true := by rcases ho with h | h | h <;> simp [h]
      try rw [ho2]
      simp only [decide_eq_true_eq, Bool.and_eq_true, cond_true, rtP, rgP, Bool.cond_true_left, Bool.cond_false_right, Bool.cond_true_right, Bool.cond_false_left, Bool.or_eq_false_iff, Bool.or_eq_true, Bool.and_eq_true, Bool.and_eq_false_iff, decide_eq_false_iff_not, decide_eq_true_eq, Bool.not_eq_true', Bool.not_eq_false', Bool.not_not, Int.not_lt, Int.not_le, gt_iff_lt, ge_iff_le]
      simp <;> omega
    · have ho2 : (bif bif decide (op = 22) then true else decide (op = 23) then true else decide (op = 24)) = false := by simp only [not_or] at ho; simp [ho]
      try rw [ho2]
      simp only [decide_eq_true_eq, Bool.and_eq_true, cond_false, rtP, rgP, Bool.cond_true_left, Bool.cond_false_right, Bool.cond_true_right, Bool.cond_false_left, Bool.or_eq_false_iff, Bool.or_eq_true, Bool.and_eq_true, Bool.and_eq_false_iff, decide_eq_false_iff_not, decide_eq_true_eq, Bool.not_eq_true', Bool.not_eq_false', Bool.not_not, Int.not_lt, Int.not_le, gt_iff_lt, ge_iff_le]
      simp <;> omega
  rw [e]
  simp only [h, pk_or, pk_and, pk3, pk4, pk5, pk6, decide_true, cond_true, decide_not]
  generalize decide (d = 0) = D
  generalize decide (x = 0) = X
  generalize decide (y = 0) = Y
  generalize (bif bif decide (op = 22) then true else decide (op = 23) then true else decide (op = 24)) = O
  by_cases hm : m = 0
  · subst hm
    cases D <;> cases X <;> cases Y <;> cases O <;> rfl
  · rw [decide_eq_false hm]
    generalize (bif decide (m ≥ 0) then decide (m ≤ 31) else false) = M1
    generalize (bif decide (m ≥ -8192) then decide (m ≤ 8191) else false) = M2
    cases D <;> cases X <;> cases Y <;> cases O <;> rfl
end Go.Proofs.Ytmfbaglhmiadjaa

/- What instructions reckon: the program's function, and the document's. -/
namespace Go.Proofs.Ytmfbaglhmiadjaa
open Go.Ra
set_option linter.unusedVariables false
set_option linter.unusedSimpArgs false
def i32 (a : Int) : Int := IntKind.i32.wrap a
def intSp : List XV → Option (List Bool × XV)
  | [.int .u32 w] => some ([decide (0 ≤ w), decide (w ≤ 4294967295)], .int .i64 (i32 w))
  | _ => none
/-- What an operation of two words gives. -/
def alW (p a b : Int) : Int :=
  if p = 1 then (a + b) % 4294967296
  else if p = 2 then (a - b) % 4294967296
  else if p = 3 then bitsI .and .u32 a b
  else if p = 4 then bitsI .or .u32 a b
  else if p = 5 then bitsI .xor .u32 a b
  else if p = 6 then (a * 2 ^ (b % 32).toNat) % 4294967296
  else if p = 7 then a / 2 ^ (b % 32).toNat
  else if p = 8 then (i32 a / 2 ^ (b % 32).toNat) % 4294967296
  else if p = 9 then oneI (decide (i32 a < i32 b))
  else if p = 10 then oneI (decide (a < b))
  else if p = 11 then (a * b) % 4294967296
  else if p = 12 then ((i32 a * i32 b) / 4294967296) % 4294967296
  else if b = 0 then 0
  else if p = 13 then (Int.tdiv (i32 a) (i32 b)) % 4294967296
  else if p = 14 then a / b
  else if p = 15 then (Int.tmod (i32 a) (i32 b)) % 4294967296
  else a % b
/-- The operation that one with a number is like. -/
def plI (op : Int) : Int := if op = 17 then 1 else if op = 18 then 3 else if op = 19 then 4 else if op = 20 then 5 else if op = 21 then 9 else if op = 22 then 6 else if op = 23 then 7 else if op = 24 then 8 else op
def doI (op d x y m a b : Int) : Int := if rtB op d x y m = false ∨ fmI op > 3 then 0 else if op = 25 then (m * 262144) % 4294967296 else if fmI op = 2 then alW (plI op) a (m % 4294967296) else alW op a b
def dkB (op d x y m b : Int) : Bool := if rtB op d x y m = false ∨ fmI op > 3 then true else !decide (13 ≤ op ∧ op ≤ 16 ∧ b = 0)
def doSp : List XV → Option (List Bool × XV)
  | [.agg 5 [.int .i64 op, .int .i64 d, .int .i64 x, .int .i64 y, .int .i64 m], .int .u32 a, .int .u32 b] => some ([decide (0 ≤ a), decide (a ≤ 4294967295), decide (0 ≤ b), decide (b ≤ 4294967295)], .tup [.int .u32 (doI op d x y m a b), .bool (dkB op d x y m b)])
  | _ => none
def TA2 (f : Int) : Tab := mkT qq (cl_alu ++ cl_isa ++ cl_word ++ cl_ref1 ++ cl_math) [(51, fmSpF f), (26, fmSpF f), (46, rtSp), (25, rtSp), (77, oneSp), (58, oneSp), (57, intSp)] []
theorem r_int (a : Int) (K : XV → Prop) : (quietGo TA0 80 (callI TA0 80 20) 57 [.int .u32 a] K) = (bif decide (IntKind.wrap .i64 a ≥ 2147483648) then K (.int .i64 (IntKind.wrap .i64 (IntKind.wrap .i64 a - (4294967296 : Int))))
else K (.int .i64 (IntKind.wrap
 .i64 a))) := by kernel_rfl
theorem r_do1_1 (d x y m a b : Int) (K : XV → Prop) : (quietGo (TA2 1) 80 (callI (TA2 1) 80 20) 55 [.agg 5 [.int .i64 1, .int .i64 d, .int .i64 x, .int .i64 y, .int .i64 m], .int .u32 a, .int .u32 b] K) = (bif bif !rtB (1 : Int) d x y m then true else !!rtB (1 : Int) d x y m then bif bif !rtB (1 : Int) d x y m then true else false then K (.tup [.int .u32 0, .bool
 true]) else K (.tup [.int .u32 (IntKind.wrap .u32 (a + b)), .bool true])
else False) := by kernel_rfl
theorem r_do1_2 (d x y m a b : Int) (K : XV → Prop) : (quietGo (TA2 1) 80 (callI (TA2 1) 80 20) 55 [.agg 5 [.int .i64 2, .int .i64 d, .int .i64 x, .int .i64 y, .int .i64 m], .int .u32 a, .int .u32 b] K) = (bif bif !rtB (2 : Int) d x y m then true else !!rtB (2 : Int) d x y m then bif bif !rtB (2 : Int) d x y m then true else false then K (.tup [.int .u32 0, .bool
 true]) else K (.tup [.int .u32 (IntKind.wrap .u32 (a - b)), .bool true])
else False) := by kernel_rfl
theorem r_do1_3 (d x y m a b : Int) (K : XV → Prop) : (quietGo (TA2 1) 80 (callI (TA2 1) 80 20) 55 [.agg 5 [.int .i64 3, .int .i64 d, .int .i64 x, .int .i64 y, .int .i64 m], .int .u32 a, .int .u32 b] K) = (bif bif !rtB (3 : Int) d x y m then true else !!rtB (3 : Int) d x y m then bif bif !rtB (3 : Int) d x y m then true else false then K (.tup [.int .u32 0, .bool
 true]) else K (.tup [.int .u32 (bitsI .and .u32 a b), .bool true])
else False) := by kernel_rfl
theorem r_do1_4 (d x y m a b : Int) (K : XV → Prop) : (quietGo (TA2 1) 80 (callI (TA2 1) 80 20) 55 [.agg 5 [.int .i64 4, .int .i64 d, .int .i64 x, .int .i64 y, .int .i64 m], .int .u32 a, .int .u32 b] K) = (bif bif !rtB (4 : Int) d x y m then true else !!rtB (4 : Int) d x y m then bif bif !rtB (4 : Int) d x y m then true else false then K (.tup [.int .u32 0, .bool
 true]) else K (.tup [.int .u32 (bitsI .or .u32 a b), .bool true])
else False) := by kernel_rfl
theorem r_do1_5 (d x y m a b : Int) (K : XV → Prop) : (quietGo (TA2 1) 80 (callI (TA2 1) 80 20) 55 [.agg 5 [.int .i64 5, .int .i64 d, .int .i64 x, .int .i64 y, .int .i64 m], .int .u32 a, .int .u32 b] K) = (bif bif !rtB (5 : Int) d x y m then true else !!rtB (5 : Int) d x y m then bif bif !rtB (5 : Int) d x y m then true else false then K (.tup [.int .u32 0, .bool
 true]) else K (.tup [.int .u32 (bitsI .xor .u32 a b), .bool true])
else False) := by kernel_rfl
theorem r_do1_6 (d x y m a b : Int) (K : XV → Prop) : (quietGo (TA2 1) 80 (callI (TA2 1) 80 20) 55 [.agg 5 [.int .i64 6, .int .i64 d, .int .i64 x, .int .i64 y, .int .i64 m], .int .u32 a, .int .u32 b] K) = (bif bif !rtB (6 : Int) d x y m then true else !!rtB (6 : Int) d x y m then bif bif !rtB (6 : Int) d x y m then true else false then K (.tup [.int .u32 0, .bool
 true]) else K (.tup [.int .u32 (IntKind.wrap .u32 (a * (2 : Int) ^ Nat.min (Int.toNat (bitsI .and .u32 b (31 : Int))) 32)), .bool true])
else False) := by kernel_rfl 

theorem r_do1_7 (d x y m a b : Int) (K : XV → Prop) : (quietGo (TA2 1) 80 (callI (TA2 1) 80 20) 55 [.agg 5 [.int .i64 7, .int .i64 d, .int .i64 x, .int .i64 y, .int .i64 m], .int .u32 a, .int .u32 b] K) = (bif bif !rtB (7 : Int) d x y m then true else !!rtB (7 : Int) d x y m then bif bif !rtB (7 : Int) d x y m then true else false then K (.tup [.int .u32 0, .bool
 true]) else K (.tup [.int .u32 (Int.fdiv a ((2 : Int) ^ Nat.min (Int.toNat (bitsI .and .u32 b (31 : Int))) 32)), .bool true])
else False) := by kernel_rfl
theorem r_do1_8 (d x y m a b : Int) (K : XV → Prop) : (quietGo (TA2 1) 80 (callI (TA2 1) 80 20) 55 [.agg 5 [.int .i64 8, .int .i64 d, .int .i64 x, .int .i64 y, .int .i64 m], .int .u32 a, .int .u32 b] K) = (bif bif !rtB (8 : Int) d x y m then true else !!rtB (8 : Int) d x y m then bif bif !rtB (8 : Int) d x y m then true else false then K (.tup [.int .u32 0, .bool
 true]) else K (.tup [.int .u32 (IntKind.wrap .u32 (Int.fdiv (IntKind.wrap .i32 a) ((2 : Int) ^ Nat.min (Int.toNat (bitsI .and .u32 b (31 : Int))) 32))), .bool true])
else
 False) := by kernel_rfl
theorem r_do1_9 (d x y m a b : Int) (K : XV → Prop) : (quietGo (TA2 1) 80 (callI (TA2 1) 80 20) 55 [.agg 5 [.int .i64 9, .int .i64 d, .int .i64 x, .int .i64 y, .int .i64 m], .int .u32 a, .int .u32 b] K) = (bif bif !rtB (9 : Int) d x y m then true else !!rtB (9 : Int) d x y m then bif bif !rtB (9 : Int) d x y m then true else false then K (.tup [.int .u32 0, .bool
 true]) else K (.tup [.int .u32 (oneI (decide (IntKind.wrap .i32 a < IntKind.wrap .i32 b))), .bool true])
else False) := by kernel_rfl
theorem r_do1_10 (d x y m a b : Int) (K : XV → Prop) : (quietGo (TA2 1) 80 (callI (TA2 1) 80 20) 55 [.agg 5 [.int .i64 10, .int .i64 d, .int .i64 x, .int .i64 y, .int .i64 m], .int .u32 a, .int .u32 b] K) = (bif bif !rtB (10 : Int) d x y m then true else !!rtB (10 : Int) d x y m then bif bif !rtB (10 : Int) d x y m then true else false then K (.tup [.int .u32 0,
 .bool true]) else K (.tup [.int .u32 (oneI (decide (a < b))), .bool true])
else False) := by kernel_rfl
theorem r_do1_11 (d x y m a b : Int) (K : XV → Prop) : (quietGo (TA2 1) 80 (callI (TA2 1) 80 20) 55 [.agg 5 [.int .i64 11, .int .i64 d, .int .i64 x, .int .i64 y, .int .i64 m], .int .u32 a, .int .u32 b] K) = (bif bif !rtB (11 : Int) d x y m then true else !!rtB (11 : Int) d x y m then bif bif !rtB (11 : Int) d x y m then true else false then K (.tup [.int .u32 0,
 .bool true]) else K (.tup [.int .u32 (IntKind.wrap .u32 (a * b)), .bool true])
else False) := by kernel_rfl
theorem r_do1_12 (d x y m a b : Int) (K : XV → Prop) : (quietGo (TA2 1) 80 (callI (TA2 1) 80 20) 55 [.agg 5 [.int .i64 12, .int .i64 d, .int .i64 x, .int .i64 y, .int .i64 m], .int .u32 a, .int .u32 b] K) = (bif bif !rtB (12 : Int) d x y m then true else !!rtB (12 : Int) d x y m then bif bif !rtB (12 : Int) d x y m then true else false then K (.tup [.int .u32 0,
 .bool true]) else K (.tup [.int .u32 (IntKind.wrap .u32 (Int.fdiv (IntKind.wrap .i64 (IntKind.wrap .i64 (IntKind.wrap .i32 a) * IntKind.wrap .i64 (IntKind.wrap .i32
 b))) (4294967296 : Int))), .bool true])
else False) := by kernel_rfl
theorem r_do1_13 (d x y m a b : Int) (K : XV → Prop) : (quietGo (TA2 1) 80 (callI (TA2 1) 80 20) 55 [.agg 5 [.int .i64 13, .int .i64 d, .int .i64 x, .int .i64 y, .int .i64 m], .int .u32 a, .int .u32 b] K) = (bif bif !rtB (13 : Int) d x y m then true else !!rtB (13 : Int) d x y m then bif bif !rtB (13 : Int) d x y m then true else false then K (.tup [.int .u32 0,
 .bool true]) else bif decide (b = 0) then K (.tup [.int .u32 0, .bool false]) else bif bif decide (IntKind.wrap .i32 a = (-2147483648 : Int)) then decide (IntKind.wrap
 .i32 a = (-2147483648 : Int)) else true then bif bif decide (IntKind.wrap .i32 a = (-2147483648 : Int)) then decide (IntKind.wrap .i32 b = (-1 : Int)) else false
 then K (.tup [.int .u32 a, .bool true]) else bif !decide (IntKind.wrap .i32 b = 0) then K (.tup [.int .u32 (IntKind.wrap .u32 (IntKind.wrap .i32 (Int.tdiv (IntKind.wrap
 .i32 a) (IntKind.wrap .i32 b)))), .bool true]) else False else False
else False) := by kernel_rfl
theorem r_do1_14 (d x y m a b : Int) (K : XV → Prop) : (quietGo (TA2 1) 80 (callI (TA2 1) 80 20) 55 [.agg 5 [.int .i64 14, .int .i64 d, .int .i64 x, .int .i64 y, .int .i64 m], .int .u32 a, .int .u32 b] K) = (bif bif !rtB (14 : Int) d x y m then true else !!rtB (14 : Int) d x y m then bif bif !rtB (14 : Int) d x y m then true else false then K (.tup [.int .u32 0,
 .bool true]) else bif decide (b = 0) then K (.tup [.int .u32 0, .bool false]) else bif bif decide (IntKind.wrap .i32 a = (-2147483648 : Int)) then decide (IntKind.wrap
 .i32 a = (-2147483648 : Int)) else true then bif bif decide ¬b = 0 then decide ¬b = 0 else true then bif bif decide ¬b = 0 then decide (b ≤ 0) else false then False
 else bif !decide (IntKind.wrap .u64 b = 0) then bif !decide (IntKind.wrap .u64 b = 0) then K (.tup [.int .u32 (IntKind.wrap .u32 (IntKind.wrap .u64 (Int.tdiv (bitsI
 .or .u64 (0 : Int) (IntKind.wrap .u64 a)) (IntKind.wrap .u64 b)))), .bool true]) else False else False else False else False
else False) := by kernel_rfl
theorem r_do1_15 (d x y m a b : Int) (K : XV → Prop) : (quietGo (TA2 1) 80 (callI (TA2 1) 80 20) 55 [.agg 5 [.int .i64 15, .int .i64 d, .int .i64 x, .int .i64 y, .int .i64 m], .int .u32 a, .int .u32 b] K) = (bif bif !rtB (15 : Int) d x y m then true else !!rtB (15 : Int) d x y m then bif bif !rtB (15 : Int) d x y m then true else false then K (.tup [.int .u32 0,
 .bool true]) else bif decide (b = 0) then K (.tup [.int .u32 0, .bool false]) else bif bif decide (IntKind.wrap .i32 a = (-2147483648 : Int)) then decide (IntKind.wrap
 .i32 a = (-2147483648 : Int)) else true then bif bif decide (IntKind.wrap .i32 a = (-2147483648 : Int)) then decide (IntKind.wrap .i32 b = (-1 : Int)) else false
 then K (.tup [.int .u32 0, .bool true]) else bif !decide (IntKind.wrap .i32 b = 0) then K (.tup [.int .u32 (IntKind.wrap .u32 (Int.tmod (IntKind.wrap .i32 a) (IntKind.wrap
 .i32 b))), .bool true]) else False else False
else False) := by kernel_rfl
theorem r_do1_16 (d x y m a b : Int) (K : XV → Prop) : (quietGo (TA2 1) 80 (callI (TA2 1) 80 20) 55 [.agg 5 [.int .i64 16, .int .i64 d, .int .i64 x, .int .i64 y, .int .i64 m], .int .u32 a, .int .u32 b] K) = (bif bif !rtB (16 : Int) d x y m then true else !!rtB (16 : Int) d x y m then bif bif !rtB (16 : Int) d x y m then true else false then K (.tup [.int .u32 0,
 .bool true]) else bif decide (b = 0) then K (.tup [.int .u32 0, .bool false]) else bif bif decide (IntKind.wrap .i32 a = (-2147483648 : Int)) then decide (IntKind.wrap
 .i32 a = (-2147483648 : Int)) else true then bif !decide (IntKind.wrap .u64 b = 0) then K (.tup [.int .u32 (IntKind.wrap .u32 (Int.tmod (bitsI .or .u64 (0 : Int)
 (IntKind.wrap .u64 a)) (IntKind.wrap .u64 b))), .bool true]) else False else False
else False) := by kernel_rfl
theorem r_do1_17 (d x y m a b : Int) (K : XV → Prop) : (quietGo (TA2 2) 80 (callI (TA2 2) 80 20) 55 [.agg 5 [.int .i64 17, .int .i64 d, .int .i64 x, .int .i64 y, .int .i64 m], .int .u32 a, .int .u32 b] K) = (bif bif !rtB (17 : Int) d x y m then true else !!rtB (17 : Int) d x y m then bif bif !rtB (17 : Int) d x y m then true else false then K (.tup [.int .u32 0,
 .bool true]) else K (.tup [.int .u32 (IntKind.wrap .u32 (a + IntKind.wrap .u32 m)), .bool true])
else False) := by kernel_rfl
theorem r_do1_18 (d x y m a b : Int) (K : XV → Prop) : (quietGo (TA2 2) 80 (callI (TA2 2) 80 20) 55 [.agg 5 [.int .i64 18, .int .i64 d, .int .i64 x, .int .i64 y, .int .i64 m], .int .u32 a, .int .u32 b] K) = (bif bif !rtB (18 : Int) d x y m then true else !!rtB (18 : Int) d x y m then bif bif !rtB (18 : Int) d x y m then true else false then K (.tup [.int .u32 0,
 .bool true]) else K (.tup [.int .u32 (bitsI .and .u32 a (IntKind.wrap .u32 m)), .bool true])
else False) := by kernel_rfl
theorem r_do1_19 (d x y m a b : Int) (K : XV → Prop) : (quietGo (TA2 2) 80 (callI (TA2 2) 80 20) 55 [.agg 5 [.int .i64 19, .int .i64 d, .int .i64 x, .int .i64 y, .int .i64 m], .int .u32 a, .int .u32 b] K) = (bif bif !rtB (19 : Int) d x y m then true else !!rtB (19 : Int) d x y m then bif bif !rtB (19 : Int) d x y m then true else false then K (.tup [.int .u32 0,
 .bool true]) else K (.tup [.int .u32 (bitsI .or .u32 a (IntKind.wrap .u32 m)), .bool true])
else False) := by kernel_rfl
theorem r_do1_20 (d x y m a b : Int) (K : XV → Prop) : (quietGo (TA2 2) 80 (callI (TA2 2) 80 20) 55 [.agg 5 [.int .i64 20, .int .i64 d, .int .i64 x, .int .i64 y, .int .i64 m], .int .u32 a, .int .u32 b] K) = (bif bif !rtB (20 : Int) d x y m then true else !!rtB (20 : Int) d x y m then bif bif !rtB (20 : Int) d x y m then true else false then K (.tup [.int .u32 0,
 .bool true]) else K (.tup [.int .u32 (bitsI .xor .u32 a (IntKind.wrap .u32 m)), .bool true])
else False) := by kernel_rfl
theorem r_do1_21 (d x y m a b : Int) (K : XV → Prop) : (quietGo (TA2 2) 80 (callI (TA2 2) 80 20) 55 [.agg 5 [.int .i64 21, .int .i64 d, .int .i64 x, .int .i64 y, .int .i64 m], .int .u32 a, .int .u32 b] K) = (bif bif !rtB (21 : Int) d x y m then true else !!rtB (21 : Int) d x y m then bif bif !rtB (21 : Int) d x y m then true else false then K (.tup [.int .u32 0,
 .bool true]) else K (.tup [.int .u32 (oneI (decide (IntKind.wrap .i32 a < IntKind.wrap .i32 (IntKind.wrap .u32 m)))), .bool true])
else False) := by kernel_rfl
theorem r_do1_22 (d x y m a b : Int) (K : XV → Prop) : (quietGo (TA2 2) 80 (callI (TA2 2) 80 20) 55 [.agg 5 [.int .i64 22, .int .i64 d, .int .i64 x, .int .i64 y, .int .i64 m], .int .u32 a, .int .u32 b] K) = (bif bif !rtB (22 : Int) d x y m then true else !!rtB (22 : Int) d x y m then bif bif !rtB (22 : Int) d x y m then true else false then K (.tup [.int .u32 0,
 .bool true]) else K (.tup [.int .u32 (IntKind.wrap .u32 (a * (2 : Int) ^ Nat.min (Int.toNat (bitsI .and .u32 (IntKind.wrap .u32 m) (31 : Int))) 32)), .bool true])
else
 False) := by kernel_rfl
theorem r_do1_23 (d x y m a b : Int) (K : XV → Prop) : (quietGo (TA2 2) 80 (callI (TA2 2) 80 20) 55 [.agg 5 [.int .i64 23, .int .i64 d, .int .i64 x, .int .i64 y, .int .i64 m], .int .u32 a, .int .u32 b] K) = (bif bif !rtB (23 : Int) d x y m then true else !!rtB (23 : Int) d x y m then bif bif !rtB (23 : Int) d x y m then true else false then K (.tup [.int .u32 0,
 .bool true]) else K (.tup [.int .u32 (Int.fdiv a ((2 : Int) ^ Nat.min (Int.toNat (bitsI .and .u32 (IntKind.wrap .u32 m) (31 : Int))) 32)), .bool true])
else False)
 := by kernel_rfl
theorem r_do1_24 (d x y m a b : Int) (K : XV → Prop) : (quietGo (TA2 2) 80 (callI (TA2 2) 80 20) 55 [.agg 5 [.int .i64 24, .int .i64 d, .int .i64 x, .int .i64 y, .int .i64 m], .int .u32 a, .int .u32 b] K) = (bif bif !rtB (24 : Int) d x y m then true else !!rtB (24 : Int) d x y m then bif bif !rtB (24 : Int) d x y m then true else false then K (.tup [.int .u32 0,
 .bool true]) else K (.tup [.int .u32 (IntKind.wrap .u32 (Int.fdiv (IntKind.wrap .i32 a) ((2 : Int) ^ Nat.min (Int.toNat (bitsI .and .u32 (IntKind.wrap .u32 m) (31
 : Int))) 32))), .bool true])
else False) := by kernel_rfl
theorem r_do1_25 (d x y m a b : Int) (K : XV → Prop) : (quietGo (TA2 3) 80 (callI (TA2 3) 80 20) 55 [.agg 5 [.int .i64 25, .int .i64 d, .int .i64 x, .int .i64 y, .int .i64 m], .int .u32 a, .int .u32 b] K) = (bif bif !rtB (25 : Int) d x y m then true else !!rtB (25 : Int) d x y m then bif bif !rtB (25 : Int) d x y m then true else false then K (.tup [.int .u32 0,
 .bool true]) else K (.tup [.int .u32 (IntKind.wrap .u32 (IntKind.wrap .i64 (m * (262144 : Int)))), .bool true])
else False) := by kernel_rfl
theorem r_dox1_0 (op d x y m a b : Int) (K : XV → Prop) : (quietGo (TA2 0) 80 (callI (TA2 0) 80 20) 55 [.agg 5 [.int .i64 op, .int .i64 d, .int .i64 x, .int .i64 y, .int .i64 m], .int .u32 a, .int .u32 b] K) = (bif decide (fmI op = 0) then bif bif !rtB op d x y m then true else !!rtB op d x y m then bif bif !rtB op d x y m then true else false then K (.tup [.int .u32
 0, .bool true]) else bif decide (op = 17) then K (.tup [.int .u32 (IntKind.wrap .u32 (a + b)), .bool true]) else bif decide (op = 18) then K (.tup [.int .u32 (bitsI
 .and .u32 a b), .bool true]) else bif decide (op = 19) then K (.tup [.int .u32 (bitsI .or .u32 a b), .bool true]) else bif decide (op = 20) then K (.tup [.int .u32
 (bitsI .xor .u32 a b), .bool true]) else bif decide (op = 21) then K (.tup [.int .u32 (oneI (decide (IntKind.wrap .i32 a < IntKind.wrap .i32 b))), .bool true]) else
 bif decide (op = 22) then K (.tup [.int .u32 (IntKind.wrap .u32 (a * (2 : Int) ^ Nat.min (Int.toNat (bitsI .and .u32 b (31 : Int))) 32)), .bool true]) else bif decide
 (op = 23) then K (.tup [.int .u32 (Int.fdiv a ((2 : Int) ^ Nat.min (Int.toNat (bitsI .and .u32 b (31 : Int))) 32)), .bool true]) else bif decide (op = 24) then K
 (.tup [.int .u32 (IntKind.wrap .u32 (Int.fdiv (IntKind.wrap .i32 a) ((2 : Int) ^ Nat.min (Int.toNat (bitsI .and .u32 b (31 : Int))) 32))), .bool true]) else bif
 decide (op = 1) then K (.tup [.int .u32 (IntKind.wrap .u32 (a + b)), .bool true]) else bif decide (op = 2) then K (.tup [.int .u32 (IntKind.wrap .u32 (a - b)), .bool
 true]) else bif decide (op = 3) then K (.tup [.int .u32 (bitsI .and .u32 a b), .bool true]) else bif decide (op = 4) then K (.tup [.int .u32 (bitsI .or .u32 a b),
 .bool true]) else bif decide (op = 5) then K (.tup [.int .u32 (bitsI .xor .u32 a b), .bool true]) else bif decide (op = 6) then K (.tup [.int .u32 (IntKind.wrap
 .u32 (a * (2 : Int) ^ Nat.min (Int.toNat (bitsI .and .u32 b (31 : Int))) 32)), .bool true]) else bif decide (op = 7) then K (.tup [.int .u32 (Int.fdiv a ((2 : Int)
 ^ Nat.min (Int.toNat (bitsI .and .u32 b (31 : Int))) 32)), .bool true]) else bif decide (op = 8) then K (.tup [.int .u32 (IntKind.wrap .u32 (Int.fdiv (IntKind.wrap
 .i32 a) ((2 : Int) ^ Nat.min (Int.toNat (bitsI .and .u32 b (31 : Int))) 32))), .bool true]) else bif decide (op = 9) then K (.tup [.int .u32 (oneI (decide (IntKind.wrap
 .i32 a < IntKind.wrap .i32 b))), .bool true]) else bif decide (op = 10) then K (.tup [.int .u32 (oneI (decide (a < b))), .bool true]) else bif decide (op = 11) then
 K (.tup [.int .u32 (IntKind.wrap .u32 (a * b)), .bool true]) else bif decide (op = 12) then K (.tup [.int .u32 (IntKind.wrap .u32 (Int.fdiv (IntKind.wrap .i64 (IntKind.wrap
 .i64 (IntKind.wrap .i32 a) * IntKind.wrap .i64 (IntKind.wrap .i32 b))) (4294967296 : Int))), .bool true]) else bif decide (b = 0) then K (.tup [.int .u32 0, .bool
 false]) else bif bif decide (IntKind.wrap .i32 a = (-2147483648 : Int)) then decide (IntKind.wrap .i32 a = (-2147483648 : Int)) else true then bif decide (op = 14)
 then bif bif decide ¬b = 0 then decide ¬b = 0 else true then bif bif decide ¬b = 0 then decide (b ≤ 0) else false then False else bif !decide (IntKind.wrap .u64
 b = 0) then bif !decide (IntKind.wrap .u64 b = 0) then K (.tup [.int .u32 (IntKind.wrap .u32 (IntKind.wrap .u64 (Int.tdiv (bitsI .or .u64 (0 : Int) (IntKind.wrap
 .u64 a)) (IntKind.wrap .u64 b)))), .bool true]) else False else False else False else bif decide (op = 16) then bif !decide (IntKind.wrap .u64 b = 0) then K (.tup
 [.int .u32 (IntKind.wrap .u32 (Int.tmod (bitsI .or .u64 (0 : Int) (IntKind.wrap .u64 a)) (IntKind.wrap .u64 b))), .bool true]) else False else bif bif decide (op
 = 13) then decide (op = 13) else true then bif bif decide (op = 13) then bif decide (IntKind.wrap .i32 a = (-2147483648 : Int)) then decide (IntKind.wrap .i32 b
 = (-1 : Int)) else false else false then K (.tup [.int .u32 a, .bool true]) else bif decide (op = 13) then bif !decide (IntKind.wrap .i32 b = 0) then K (.tup [.int
 .u32 (IntKind.wrap .u32 (IntKind.wrap .i32 (Int.tdiv (IntKind.wrap .i32 a) (IntKind.wrap .i32 b)))), .bool true]) else False else bif bif decide (IntKind.wrap .i32
 a = (-2147483648 : Int)) then decide (IntKind.wrap .i32 b = (-1 : Int)) else false then K (.tup [.int .u32 0, .bool true]) else bif !decide (IntKind.wrap .i32 b
 = 0) then K (.tup [.int .u32 (IntKind.wrap .u32 (Int.tmod (IntKind.wrap .i32 a) (IntKind.wrap .i32 b))), .bool true]) else False else False else False else False
else
 False) := by kernel_rfl
theorem r_dox1_4 (op d x y m a b : Int) (K : XV → Prop) : (quietGo (TA2 4) 80 (callI (TA2 4) 80 20) 55 [.agg 5 [.int .i64 op, .int .i64 d, .int .i64 x, .int .i64 y, .int .i64 m], .int .u32 a, .int .u32 b] K) = (bif decide (fmI op = 4) then bif bif !rtB op d x y m then true else !!rtB op d x y m then bif bif !rtB op d x y m then true else true then K (.tup [.int .u32
 0, .bool true]) else bif decide (op = 17) then K (.tup [.int .u32 (IntKind.wrap .u32 (a + b)), .bool true]) else bif decide (op = 18) then K (.tup [.int .u32 (bitsI
 .and .u32 a b), .bool true]) else bif decide (op = 19) then K (.tup [.int .u32 (bitsI .or .u32 a b), .bool true]) else bif decide (op = 20) then K (.tup [.int .u32
 (bitsI .xor .u32 a b), .bool true]) else bif decide (op = 21) then K (.tup [.int .u32 (oneI (decide (IntKind.wrap .i32 a < IntKind.wrap .i32 b))), .bool true]) else
 bif decide (op = 22) then K (.tup [.int .u32 (IntKind.wrap .u32 (a * (2 : Int) ^ Nat.min (Int.toNat (bitsI .and .u32 b (31 : Int))) 32)), .bool true]) else bif decide
 (op = 23) then K (.tup [.int .u32 (Int.fdiv a ((2 : Int) ^ Nat.min (Int.toNat (bitsI .and .u32 b (31 : Int))) 32)), .bool true]) else bif decide (op = 24) then K
 (.tup [.int .u32 (IntKind.wrap .u32 (Int.fdiv (IntKind.wrap .i32 a) ((2 : Int) ^ Nat.min (Int.toNat (bitsI .and .u32 b (31 : Int))) 32))), .bool true]) else bif
 decide (op = 1) then K (.tup [.int .u32 (IntKind.wrap .u32 (a + b)), .bool true]) else bif decide (op = 2) then K (.tup [.int .u32 (IntKind.wrap .u32 (a - b)), .bool
 true]) else bif decide (op = 3) then K (.tup [.int .u32 (bitsI .and .u32 a b), .bool true]) else bif decide (op = 4) then K (.tup [.int .u32 (bitsI .or .u32 a b),
 .bool true]) else bif decide (op = 5) then K (.tup [.int .u32 (bitsI .xor .u32 a b), .bool true]) else bif decide (op = 6) then K (.tup [.int .u32 (IntKind.wrap
 .u32 (a * (2 : Int) ^ Nat.min (Int.toNat (bitsI .and .u32 b (31 : Int))) 32)), .bool true]) else bif decide (op = 7) then K (.tup [.int .u32 (Int.fdiv a ((2 : Int)
 ^ Nat.min (Int.toNat (bitsI .and .u32 b (31 : Int))) 32)), .bool true]) else bif decide (op = 8) then K (.tup [.int .u32 (IntKind.wrap .u32 (Int.fdiv (IntKind.wrap
 .i32 a) ((2 : Int) ^ Nat.min (Int.toNat (bitsI .and .u32 b (31 : Int))) 32))), .bool true]) else bif decide (op = 9) then K (.tup [.int .u32 (oneI (decide (IntKind.wrap
 .i32 a < IntKind.wrap .i32 b))), .bool true]) else bif decide (op = 10) then K (.tup [.int .u32 (oneI (decide (a < b))), .bool true]) else bif decide (op = 11) then
 K (.tup [.int .u32 (IntKind.wrap .u32 (a * b)), .bool true]) else bif decide (op = 12) then K (.tup [.int .u32 (IntKind.wrap .u32 (Int.fdiv (IntKind.wrap .i64 (IntKind.wrap
 .i64 (IntKind.wrap .i32 a) * IntKind.wrap .i64 (IntKind.wrap .i32 b))) (4294967296 : Int))), .bool true]) else bif decide (b = 0) then K (.tup [.int .u32 0, .bool
 false]) else bif bif decide (IntKind.wrap .i32 a = (-2147483648 : Int)) then decide (IntKind.wrap .i32 a = (-2147483648 : Int)) else true then bif decide (op = 14)
 then bif bif decide ¬b = 0 then decide ¬b = 0 else true then bif bif decide ¬b = 0 then decide (b ≤ 0) else false then False else bif !decide (IntKind.wrap .u64
 b = 0) then bif !decide (IntKind.wrap .u64 b = 0) then K (.tup [.int .u32 (IntKind.wrap .u32 (IntKind.wrap .u64 (Int.tdiv (bitsI .or .u64 (0 : Int) (IntKind.wrap
 .u64 a)) (IntKind.wrap .u64 b)))), .bool true]) else False else False else False else bif decide (op = 16) then bif !decide (IntKind.wrap .u64 b = 0) then K (.tup
 [.int .u32 (IntKind.wrap .u32 (Int.tmod (bitsI .or .u64 (0 : Int) (IntKind.wrap .u64 a)) (IntKind.wrap .u64 b))), .bool true]) else False else bif bif decide (op
 = 13) then decide (op = 13) else true then bif bif decide (op = 13) then bif decide (IntKind.wrap .i32 a = (-2147483648 : Int)) then decide (IntKind.wrap .i32 b
 = (-1 : Int)) else false else false then K (.tup [.int .u32 a, .bool true]) else bif decide (op = 13) then bif !decide (IntKind.wrap .i32 b = 0) then K (.tup [.int
 .u32 (IntKind.wrap .u32 (IntKind.wrap .i32 (Int.tdiv (IntKind.wrap .i32 a) (IntKind.wrap .i32 b)))), .bool true]) else False else bif bif decide (IntKind.wrap .i32
 a = (-2147483648 : Int)) then decide (IntKind.wrap .i32 b = (-1 : Int)) else false then K (.tup [.int .u32 0, .bool true]) else bif !decide (IntKind.wrap .i32 b
 = 0) then K (.tup [.int .u32 (IntKind.wrap .u32 (Int.tmod (IntKind.wrap .i32 a) (IntKind.wrap .i32 b))), .bool true]) else False else False else False else False
else
 False) := by kernel_rfl
theorem r_dox1_5 (op d x y m a b : Int) (K : XV → Prop) : (quietGo (TA2 5) 80 (callI (TA2 5) 80 20) 55 [.agg 5 [.int .i64 op, .int .i64 d, .int .i64 x, .int .i64 y, .int .i64 m], .int .u32 a, .int .u32 b] K) = (bif decide (fmI op = 5) then bif bif !rtB op d x y m then true else !!rtB op d x y m then bif bif !rtB op d x y m then true else true then K (.tup [.int .u32
 0, .bool true]) else bif decide (op = 17) then K (.tup [.int .u32 (IntKind.wrap .u32 (a + b)), .bool true]) else bif decide (op = 18) then K (.tup [.int .u32 (bitsI
 .and .u32 a b), .bool true]) else bif decide (op = 19) then K (.tup [.int .u32 (bitsI .or .u32 a b), .bool true]) else bif decide (op = 20) then K (.tup [.int .u32
 (bitsI .xor .u32 a b), .bool true]) else bif decide (op = 21) then K (.tup [.int .u32 (oneI (decide (IntKind.wrap .i32 a < IntKind.wrap .i32 b))), .bool true]) else
 bif decide (op = 22) then K (.tup [.int .u32 (IntKind.wrap .u32 (a * (2 : Int) ^ Nat.min (Int.toNat (bitsI .and .u32 b (31 : Int))) 32)), .bool true]) else bif decide
 (op = 23) then K (.tup [.int .u32 (Int.fdiv a ((2 : Int) ^ Nat.min (Int.toNat (bitsI .and .u32 b (31 : Int))) 32)), .bool true]) else bif decide (op = 24) then K
 (.tup [.int .u32 (IntKind.wrap .u32 (Int.fdiv (IntKind.wrap .i32 a) ((2 : Int) ^ Nat.min (Int.toNat (bitsI .and .u32 b (31 : Int))) 32))), .bool true]) else bif
 decide (op = 1) then K (.tup [.int .u32 (IntKind.wrap .u32 (a + b)), .bool true]) else bif decide (op = 2) then K (.tup [.int .u32 (IntKind.wrap .u32 (a - b)), .bool
 true]) else bif decide (op = 3) then K (.tup [.int .u32 (bitsI .and .u32 a b), .bool true]) else bif decide (op = 4) then K (.tup [.int .u32 (bitsI .or .u32 a b),
 .bool true]) else bif decide (op = 5) then K (.tup [.int .u32 (bitsI .xor .u32 a b), .bool true]) else bif decide (op = 6) then K (.tup [.int .u32 (IntKind.wrap
 .u32 (a * (2 : Int) ^ Nat.min (Int.toNat (bitsI .and .u32 b (31 : Int))) 32)), .bool true]) else bif decide (op = 7) then K (.tup [.int .u32 (Int.fdiv a ((2 : Int)
 ^ Nat.min (Int.toNat (bitsI .and .u32 b (31 : Int))) 32)), .bool true]) else bif decide (op = 8) then K (.tup [.int .u32 (IntKind.wrap .u32 (Int.fdiv (IntKind.wrap
 .i32 a) ((2 : Int) ^ Nat.min (Int.toNat (bitsI .and .u32 b (31 : Int))) 32))), .bool true]) else bif decide (op = 9) then K (.tup [.int .u32 (oneI (decide (IntKind.wrap
 .i32 a < IntKind.wrap .i32 b))), .bool true]) else bif decide (op = 10) then K (.tup [.int .u32 (oneI (decide (a < b))), .bool true]) else bif decide (op = 11) then
 K (.tup [.int .u32 (IntKind.wrap .u32 (a * b)), .bool true]) else bif decide (op = 12) then K (.tup [.int .u32 (IntKind.wrap .u32 (Int.fdiv (IntKind.wrap .i64 (IntKind.wrap
 .i64 (IntKind.wrap .i32 a) * IntKind.wrap .i64 (IntKind.wrap .i32 b))) (4294967296 : Int))), .bool true]) else bif decide (b = 0) then K (.tup [.int .u32 0, .bool
 false]) else bif bif decide (IntKind.wrap .i32 a = (-2147483648 : Int)) then decide (IntKind.wrap .i32 a = (-2147483648 : Int)) else true then bif decide (op = 14)
 then bif bif decide ¬b = 0 then decide ¬b = 0 else true then bif bif decide ¬b = 0 then decide (b ≤ 0) else false then False else bif !decide (IntKind.wrap .u64
 b = 0) then bif !decide (IntKind.wrap .u64 b = 0) then K (.tup [.int .u32 (IntKind.wrap .u32 (IntKind.wrap .u64 (Int.tdiv (bitsI .or .u64 (0 : Int) (IntKind.wrap
 .u64 a)) (IntKind.wrap .u64 b)))), .bool true]) else False else False else False else bif decide (op = 16) then bif !decide (IntKind.wrap .u64 b = 0) then K (.tup
 [.int .u32 (IntKind.wrap .u32 (Int.tmod (bitsI .or .u64 (0 : Int) (IntKind.wrap .u64 a)) (IntKind.wrap .u64 b))), .bool true]) else False else bif bif decide (op
 = 13) then decide (op = 13) else true then bif bif decide (op = 13) then bif decide (IntKind.wrap .i32 a = (-2147483648 : Int)) then decide (IntKind.wrap .i32 b
 = (-1 : Int)) else false else false then K (.tup [.int .u32 a, .bool true]) else bif decide (op = 13) then bif !decide (IntKind.wrap .i32 b = 0) then K (.tup [.int
 .u32 (IntKind.wrap .u32 (IntKind.wrap .i32 (Int.tdiv (IntKind.wrap .i32 a) (IntKind.wrap .i32 b)))), .bool true]) else False else bif bif decide (IntKind.wrap .i32
 a = (-2147483648 : Int)) then decide (IntKind.wrap .i32 b = (-1 : Int)) else false then K (.tup [.int .u32 0, .bool true]) else bif !decide (IntKind.wrap .i32 b
 = 0) then K (.tup [.int .u32 (IntKind.wrap .u32 (Int.tmod (IntKind.wrap .i32 a) (IntKind.wrap .i32 b))), .bool true]) else False else False else False else False
else
 False) := by kernel_rfl
theorem r_dox1_6 (op d x y m a b : Int) (K : XV → Prop) : (quietGo (TA2 6) 80 (callI (TA2 6) 80 20) 55 [.agg 5 [.int .i64 op, .int .i64 d, .int .i64 x, .int .i64 y, .int .i64 m], .int .u32 a, .int .u32 b] K) = (bif decide (fmI op = 6) then bif bif !rtB op d x y m then true else !!rtB op d x y m then bif bif !rtB op d x y m then true else true then K (.tup [.int .u32
 0, .bool true]) else bif decide (op = 17) then K (.tup [.int .u32 (IntKind.wrap .u32 (a + b)), .bool true]) else bif decide (op = 18) then K (.tup [.int .u32 (bitsI
 .and .u32 a b), .bool true]) else bif decide (op = 19) then K (.tup [.int .u32 (bitsI .or .u32 a b), .bool true]) else bif decide (op = 20) then K (.tup [.int .u32
 (bitsI .xor .u32 a b), .bool true]) else bif decide (op = 21) then K (.tup [.int .u32 (oneI (decide (IntKind.wrap .i32 a < IntKind.wrap .i32 b))), .bool true]) else
 bif decide (op = 22) then K (.tup [.int .u32 (IntKind.wrap .u32 (a * (2 : Int) ^ Nat.min (Int.toNat (bitsI .and .u32 b (31 : Int))) 32)), .bool true]) else bif decide
 (op = 23) then K (.tup [.int .u32 (Int.fdiv a ((2 : Int) ^ Nat.min (Int.toNat (bitsI .and .u32 b (31 : Int))) 32)), .bool true]) else bif decide (op = 24) then K
 (.tup [.int .u32 (IntKind.wrap .u32 (Int.fdiv (IntKind.wrap .i32 a) ((2 : Int) ^ Nat.min (Int.toNat (bitsI .and .u32 b (31 : Int))) 32))), .bool true]) else bif
 decide (op = 1) then K (.tup [.int .u32 (IntKind.wrap .u32 (a + b)), .bool true]) else bif decide (op = 2) then K (.tup [.int .u32 (IntKind.wrap .u32 (a - b)), .bool
 true]) else bif decide (op = 3) then K (.tup [.int .u32 (bitsI .and .u32 a b), .bool true]) else bif decide (op = 4) then K (.tup [.int .u32 (bitsI .or .u32 a b),
 .bool true]) else bif decide (op = 5) then K (.tup [.int .u32 (bitsI .xor .u32 a b), .bool true]) else bif decide (op = 6) then K (.tup [.int .u32 (IntKind.wrap
 .u32 (a * (2 : Int) ^ Nat.min (Int.toNat (bitsI .and .u32 b (31 : Int))) 32)), .bool true]) else bif decide (op = 7) then K (.tup [.int .u32 (Int.fdiv a ((2 : Int)
 ^ Nat.min (Int.toNat (bitsI .and .u32 b (31 : Int))) 32)), .bool true]) else bif decide (op = 8) then K (.tup [.int .u32 (IntKind.wrap .u32 (Int.fdiv (IntKind.wrap
 .i32 a) ((2 : Int) ^ Nat.min (Int.toNat (bitsI .and .u32 b (31 : Int))) 32))), .bool true]) else bif decide (op = 9) then K (.tup [.int .u32 (oneI (decide (IntKind.wrap
 .i32 a < IntKind.wrap .i32 b))), .bool true]) else bif decide (op = 10) then K (.tup [.int .u32 (oneI (decide (a < b))), .bool true]) else bif decide (op = 11) then
 K (.tup [.int .u32 (IntKind.wrap .u32 (a * b)), .bool true]) else bif decide (op = 12) then K (.tup [.int .u32 (IntKind.wrap .u32 (Int.fdiv (IntKind.wrap .i64 (IntKind.wrap
 .i64 (IntKind.wrap .i32 a) * IntKind.wrap .i64 (IntKind.wrap .i32 b))) (4294967296 : Int))), .bool true]) else bif decide (b = 0) then K (.tup [.int .u32 0, .bool
 false]) else bif bif decide (IntKind.wrap .i32 a = (-2147483648 : Int)) then decide (IntKind.wrap .i32 a = (-2147483648 : Int)) else true then bif decide (op = 14)
 then bif bif decide ¬b = 0 then decide ¬b = 0 else true then bif bif decide ¬b = 0 then decide (b ≤ 0) else false then False else bif !decide (IntKind.wrap .u64
 b = 0) then bif !decide (IntKind.wrap .u64 b = 0) then K (.tup [.int .u32 (IntKind.wrap .u32 (IntKind.wrap .u64 (Int.tdiv (bitsI .or .u64 (0 : Int) (IntKind.wrap
 .u64 a)) (IntKind.wrap .u64 b)))), .bool true]) else False else False else False else bif decide (op = 16) then bif !decide (IntKind.wrap .u64 b = 0) then K (.tup
 [.int .u32 (IntKind.wrap .u32 (Int.tmod (bitsI .or .u64 (0 : Int) (IntKind.wrap .u64 a)) (IntKind.wrap .u64 b))), .bool true]) else False else bif bif decide (op
 = 13) then decide (op = 13) else true then bif bif decide (op = 13) then bif decide (IntKind.wrap .i32 a = (-2147483648 : Int)) then decide (IntKind.wrap .i32 b
 = (-1 : Int)) else false else false then K (.tup [.int .u32 a, .bool true]) else bif decide (op = 13) then bif !decide (IntKind.wrap .i32 b = 0) then K (.tup [.int
 .u32 (IntKind.wrap .u32 (IntKind.wrap .i32 (Int.tdiv (IntKind.wrap .i32 a) (IntKind.wrap .i32 b)))), .bool true]) else False else bif bif decide (IntKind.wrap .i32
 a = (-2147483648 : Int)) then decide (IntKind.wrap .i32 b = (-1 : Int)) else false then K (.tup [.int .u32 0, .bool true]) else bif !decide (IntKind.wrap .i32 b
 = 0) then K (.tup [.int .u32 (IntKind.wrap .u32 (Int.tmod (IntKind.wrap .i32 a) (IntKind.wrap .i32 b))), .bool true]) else False else False else False else False
else
 False) := by kernel_rfl
theorem r_dox1_7 (op d x y m a b : Int) (K : XV → Prop) : (quietGo (TA2 7) 80 (callI (TA2 7) 80 20) 55 [.agg 5 [.int .i64 op, .int .i64 d, .int .i64 x, .int .i64 y, .int .i64 m], .int .u32 a, .int .u32 b] K) = (bif decide (fmI op = 7) then bif bif !rtB op d x y m then true else !!rtB op d x y m then bif bif !rtB op d x y m then true else true then K (.tup [.int .u32
 0, .bool true]) else bif decide (op = 17) then K (.tup [.int .u32 (IntKind.wrap .u32 (a + b)), .bool true]) else bif decide (op = 18) then K (.tup [.int .u32 (bitsI
 .and .u32 a b), .bool true]) else bif decide (op = 19) then K (.tup [.int .u32 (bitsI .or .u32 a b), .bool true]) else bif decide (op = 20) then K (.tup [.int .u32
 (bitsI .xor .u32 a b), .bool true]) else bif decide (op = 21) then K (.tup [.int .u32 (oneI (decide (IntKind.wrap .i32 a < IntKind.wrap .i32 b))), .bool true]) else
 bif decide (op = 22) then K (.tup [.int .u32 (IntKind.wrap .u32 (a * (2 : Int) ^ Nat.min (Int.toNat (bitsI .and .u32 b (31 : Int))) 32)), .bool true]) else bif decide
 (op = 23) then K (.tup [.int .u32 (Int.fdiv a ((2 : Int) ^ Nat.min (Int.toNat (bitsI .and .u32 b (31 : Int))) 32)), .bool true]) else bif decide (op = 24) then K
 (.tup [.int .u32 (IntKind.wrap .u32 (Int.fdiv (IntKind.wrap .i32 a) ((2 : Int) ^ Nat.min (Int.toNat (bitsI .and .u32 b (31 : Int))) 32))), .bool true]) else bif
 decide (op = 1) then K (.tup [.int .u32 (IntKind.wrap .u32 (a + b)), .bool true]) else bif decide (op = 2) then K (.tup [.int .u32 (IntKind.wrap .u32 (a - b)), .bool
 true]) else bif decide (op = 3) then K (.tup [.int .u32 (bitsI .and .u32 a b), .bool true]) else bif decide (op = 4) then K (.tup [.int .u32 (bitsI .or .u32 a b),
 .bool true]) else bif decide (op = 5) then K (.tup [.int .u32 (bitsI .xor .u32 a b), .bool true]) else bif decide (op = 6) then K (.tup [.int .u32 (IntKind.wrap
 .u32 (a * (2 : Int) ^ Nat.min (Int.toNat (bitsI .and .u32 b (31 : Int))) 32)), .bool true]) else bif decide (op = 7) then K (.tup [.int .u32 (Int.fdiv a ((2 : Int)
 ^ Nat.min (Int.toNat (bitsI .and .u32 b (31 : Int))) 32)), .bool true]) else bif decide (op = 8) then K (.tup [.int .u32 (IntKind.wrap .u32 (Int.fdiv (IntKind.wrap
 .i32 a) ((2 : Int) ^ Nat.min (Int.toNat (bitsI .and .u32 b (31 : Int))) 32))), .bool true]) else bif decide (op = 9) then K (.tup [.int .u32 (oneI (decide (IntKind.wrap
 .i32 a < IntKind.wrap .i32 b))), .bool true]) else bif decide (op = 10) then K (.tup [.int .u32 (oneI (decide (a < b))), .bool true]) else bif decide (op = 11) then
 K (.tup [.int .u32 (IntKind.wrap .u32 (a * b)), .bool true]) else bif decide (op = 12) then K (.tup [.int .u32 (IntKind.wrap .u32 (Int.fdiv (IntKind.wrap .i64 (IntKind.wrap
 .i64 (IntKind.wrap .i32 a) * IntKind.wrap .i64 (IntKind.wrap .i32 b))) (4294967296 : Int))), .bool true]) else bif decide (b = 0) then K (.tup [.int .u32 0, .bool
 false]) else bif bif decide (IntKind.wrap .i32 a = (-2147483648 : Int)) then decide (IntKind.wrap .i32 a = (-2147483648 : Int)) else true then bif decide (op = 14)
 then bif bif decide ¬b = 0 then decide ¬b = 0 else true then bif bif decide ¬b = 0 then decide (b ≤ 0) else false then False else bif !decide (IntKind.wrap .u64
 b = 0) then bif !decide (IntKind.wrap .u64 b = 0) then K (.tup [.int .u32 (IntKind.wrap .u32 (IntKind.wrap .u64 (Int.tdiv (bitsI .or .u64 (0 : Int) (IntKind.wrap
 .u64 a)) (IntKind.wrap .u64 b)))), .bool true]) else False else False else False else bif decide (op = 16) then bif !decide (IntKind.wrap .u64 b = 0) then K (.tup
 [.int .u32 (IntKind.wrap .u32 (Int.tmod (bitsI .or .u64 (0 : Int) (IntKind.wrap .u64 a)) (IntKind.wrap .u64 b))), .bool true]) else False else bif bif decide (op
 = 13) then decide (op = 13) else true then bif bif decide (op = 13) then bif decide (IntKind.wrap .i32 a = (-2147483648 : Int)) then decide (IntKind.wrap .i32 b
 = (-1 : Int)) else false else false then K (.tup [.int .u32 a, .bool true]) else bif decide (op = 13) then bif !decide (IntKind.wrap .i32 b = 0) then K (.tup [.int
 .u32 (IntKind.wrap .u32 (IntKind.wrap .i32 (Int.tdiv (IntKind.wrap .i32 a) (IntKind.wrap .i32 b)))), .bool true]) else False else bif bif decide (IntKind.wrap .i32
 a = (-2147483648 : Int)) then decide (IntKind.wrap .i32 b = (-1 : Int)) else false then K (.tup [.int .u32 0, .bool true]) else bif !decide (IntKind.wrap .i32 b
 = 0) then K (.tup [.int .u32 (IntKind.wrap .u32 (Int.tmod (IntKind.wrap .i32 a) (IntKind.wrap .i32 b))), .bool true]) else False else False else False else False
else
 False) := by kernel_rfl
theorem r_dox1_8 (op d x y m a b : Int) (K : XV → Prop) : (quietGo (TA2 8) 80 (callI (TA2 8) 80 20) 55 [.agg 5 [.int .i64 op, .int .i64 d, .int .i64 x, .int .i64 y, .int .i64 m], .int .u32 a, .int .u32 b] K) = (bif decide (fmI op = 8) then bif bif !rtB op d x y m then true else !!rtB op d x y m then bif bif !rtB op d x y m then true else true then K (.tup [.int .u32
 0, .bool true]) else bif decide (op = 17) then K (.tup [.int .u32 (IntKind.wrap .u32 (a + b)), .bool true]) else bif decide (op = 18) then K (.tup [.int .u32 (bitsI
 .and .u32 a b), .bool true]) else bif decide (op = 19) then K (.tup [.int .u32 (bitsI .or .u32 a b), .bool true]) else bif decide (op = 20) then K (.tup [.int .u32
 (bitsI .xor .u32 a b), .bool true]) else bif decide (op = 21) then K (.tup [.int .u32 (oneI (decide (IntKind.wrap .i32 a < IntKind.wrap .i32 b))), .bool true]) else
 bif decide (op = 22) then K (.tup [.int .u32 (IntKind.wrap .u32 (a * (2 : Int) ^ Nat.min (Int.toNat (bitsI .and .u32 b (31 : Int))) 32)), .bool true]) else bif decide
 (op = 23) then K (.tup [.int .u32 (Int.fdiv a ((2 : Int) ^ Nat.min (Int.toNat (bitsI .and .u32 b (31 : Int))) 32)), .bool true]) else bif decide (op = 24) then K
 (.tup [.int .u32 (IntKind.wrap .u32 (Int.fdiv (IntKind.wrap .i32 a) ((2 : Int) ^ Nat.min (Int.toNat (bitsI .and .u32 b (31 : Int))) 32))), .bool true]) else bif
 decide (op = 1) then K (.tup [.int .u32 (IntKind.wrap .u32 (a + b)), .bool true]) else bif decide (op = 2) then K (.tup [.int .u32 (IntKind.wrap .u32 (a - b)), .bool
 true]) else bif decide (op = 3) then K (.tup [.int .u32 (bitsI .and .u32 a b), .bool true]) else bif decide (op = 4) then K (.tup [.int .u32 (bitsI .or .u32 a b),
 .bool true]) else bif decide (op = 5) then K (.tup [.int .u32 (bitsI .xor .u32 a b), .bool true]) else bif decide (op = 6) then K (.tup [.int .u32 (IntKind.wrap
 .u32 (a * (2 : Int) ^ Nat.min (Int.toNat (bitsI .and .u32 b (31 : Int))) 32)), .bool true]) else bif decide (op = 7) then K (.tup [.int .u32 (Int.fdiv a ((2 : Int)
 ^ Nat.min (Int.toNat (bitsI .and .u32 b (31 : Int))) 32)), .bool true]) else bif decide (op = 8) then K (.tup [.int .u32 (IntKind.wrap .u32 (Int.fdiv (IntKind.wrap
 .i32 a) ((2 : Int) ^ Nat.min (Int.toNat (bitsI .and .u32 b (31 : Int))) 32))), .bool true]) else bif decide (op = 9) then K (.tup [.int .u32 (oneI (decide (IntKind.wrap
 .i32 a < IntKind.wrap .i32 b))), .bool true]) else bif decide (op = 10) then K (.tup [.int .u32 (oneI (decide (a < b))), .bool true]) else bif decide (op = 11) then
 K (.tup [.int .u32 (IntKind.wrap .u32 (a * b)), .bool true]) else bif decide (op = 12) then K (.tup [.int .u32 (IntKind.wrap .u32 (Int.fdiv (IntKind.wrap .i64 (IntKind.wrap
 .i64 (IntKind.wrap .i32 a) * IntKind.wrap .i64 (IntKind.wrap .i32 b))) (4294967296 : Int))), .bool true]) else bif decide (b = 0) then K (.tup [.int .u32 0, .bool
 false]) else bif bif decide (IntKind.wrap .i32 a = (-2147483648 : Int)) then decide (IntKind.wrap .i32 a = (-2147483648 : Int)) else true then bif decide (op = 14)
 then bif bif decide ¬b = 0 then decide ¬b = 0 else true then bif bif decide ¬b = 0 then decide (b ≤ 0) else false then False else bif !decide (IntKind.wrap .u64
 b = 0) then bif !decide (IntKind.wrap .u64 b = 0) then K (.tup [.int .u32 (IntKind.wrap .u32 (IntKind.wrap .u64 (Int.tdiv (bitsI .or .u64 (0 : Int) (IntKind.wrap
 .u64 a)) (IntKind.wrap .u64 b)))), .bool true]) else False else False else False else bif decide (op = 16) then bif !decide (IntKind.wrap .u64 b = 0) then K (.tup
 [.int .u32 (IntKind.wrap .u32 (Int.tmod (bitsI .or .u64 (0 : Int) (IntKind.wrap .u64 a)) (IntKind.wrap .u64 b))), .bool true]) else False else bif bif decide (op
 = 13) then decide (op = 13) else true then bif bif decide (op = 13) then bif decide (IntKind.wrap .i32 a = (-2147483648 : Int)) then decide (IntKind.wrap .i32 b
 = (-1 : Int)) else false else false then K (.tup [.int .u32 a, .bool true]) else bif decide (op = 13) then bif !decide (IntKind.wrap .i32 b = 0) then K (.tup [.int
 .u32 (IntKind.wrap .u32 (IntKind.wrap .i32 (Int.tdiv (IntKind.wrap .i32 a) (IntKind.wrap .i32 b)))), .bool true]) else False else bif bif decide (IntKind.wrap .i32
 a = (-2147483648 : Int)) then decide (IntKind.wrap .i32 b = (-1 : Int)) else false then K (.tup [.int .u32 0, .bool true]) else bif !decide (IntKind.wrap .i32 b
 = 0) then K (.tup [.int .u32 (IntKind.wrap .u32 (Int.tmod (IntKind.wrap .i32 a) (IntKind.wrap .i32 b))), .bool true]) else False else False else False else False
else
 False) := by kernel_rfl
theorem i32_rng (a : Int) : -2147483648 ≤ IntKind.i32.wrap a ∧ IntKind.i32.wrap a ≤ 2147483647 := by rw [wI32]; omega
theorem mul_rng {x y : Int} (hx : -2147483648 ≤ x ∧ x ≤ 2147483647) (hy : -2147483648 ≤ y ∧ y ≤ 2147483647) : -4611686018427387904 ≤ x * y ∧ x * y ≤ 4611686018427387904 := by
  have h1 : x.natAbs ≤ 2147483648 := by omega
  have h2 : y.natAbs ≤ 2147483648 := by omega
  have h3 : (x * y).natAbs ≤ 2147483648 * 2147483648 := by rw [Int.natAbs_mul]; exact Nat.mul_le_mul h1 h2
  omega
theorem w32w64 (n : Int) : IntKind.u32.wrap (IntKind.i64.wrap n) = n % 4294967296 := by rw [wI64, wU32]; omega
theorem w32i32 (n : Int) : IntKind.u32.wrap (IntKind.i32.wrap n) = n % 4294967296 := by rw [wI32, wU32]; omega
theorem w64i32 (n : Int) : IntKind.i64.wrap (IntKind.i32.wrap n) = IntKind.i32.wrap n := by have := i32_rng n; exact wrap_i64 (by omega) (by omega)
theorem i32_mod (a : Int) : IntKind.i32.wrap a % 4294967296 = a % 4294967296 := by rw [wI32]; omega
theorem mul_mod (a b : Int) : (IntKind.i32.wrap a * IntKind.i32.wrap b) % 4294967296 = (a * b) % 4294967296 := by
  rw [Int.mul_emod, i32_mod, i32_mod, ← Int.mul_emod]
theorem w64mul (a b : Int) : IntKind.i64.wrap (IntKind.i32.wrap a * IntKind.i32.wrap b) = IntKind.i32.wrap a * IntKind.i32.wrap b := by
  have := mul_rng (i32_rng a) (i32_rng b)
  exact wrap_i64 (by omega) (by omega)
theorem and31 {b : Int} (h2 : 0 ≤ b) (h3 : b ≤ 4294967295) : bitsI .and .u32 b 31 = b % 32 := by
  obtain ⟨B, rfl⟩ := Int.eq_ofNat_of_zero_le h2
  have e := bAnd (A := B) (B := 31) (by omega) (by omega)
  have h : B &&& 31 = B % 32 := Nat.and_two_pow_sub_one_eq_mod B 5
  rw [h] at e
  exact e
theorem shA {b : Int} (h2 : 0 ≤ b) (h3 : b ≤ 4294967295) : Nat.min (Int.toNat (bitsI .and .u32 b 31)) 32 = (b % 32).toNat := by
  rw [and31 h2 h3]
  exact Nat.min_eq_left (by omega)
theorem shB {b : Int} (h2 : 0 ≤ b) (h3 : b ≤ 4294967295) : Nat.min (Int.toNat (bitsI .and .u32 b 31)) 64 = (b % 32).toNat := by
  rw [and31 h2 h3]
  exact Nat.min_eq_left (by omega)
theorem fdivP (a : Int) (k : Nat) : Int.fdiv a (2 ^ k) = a / 2 ^ k := Int.fdiv_eq_ediv_of_nonneg a (Int.pow_nonneg (by omega))
theorem fdivQ (a : Int) : Int.fdiv a 4294967296 = a / 4294967296 := Int.fdiv_eq_ediv_of_nonneg a (by omega)
theorem or0 {a : Int} (h0 : 0 ≤ a) (h1 : a ≤ 4294967295) : bitsI .or .u64 0 (IntKind.u64.wrap a) = a := by
  obtain ⟨A, rfl⟩ := Int.eq_ofNat_of_zero_le h0
  have e1 : IntKind.u64.wrap (A : Int) = (A : Int) := by rw [wU64]; omega
  rw [e1]
  show IntKind.u64.wrap (((BitVec.ofInt 64 0) ||| (BitVec.ofInt 64 (A : Int))).toNat : Int) = _
  have e2 : (BitVec.ofInt 64 (A : Int)).toNat = A := by rw [BitVec.toNat_ofInt]; omega
  have e3 : (BitVec.ofInt 64 0).toNat = 0 := rfl
  rw [BitVec.toNat_or, e2, e3, Nat.zero_or, wU64]
  omega
theorem tdiv_rng {x y : Int} (hx : -2147483648 ≤ x ∧ x ≤ 2147483647) : -2147483648 ≤ Int.tdiv x y ∧ Int.tdiv x y ≤ 2147483648 := by
  have h : (Int.tdiv x y).natAbs = x.natAbs / y.natAbs := Int.natAbs_tdiv x y
  have h2 : x.natAbs / y.natAbs ≤ x.natAbs := Nat.div_le_self _ _
  omega
theorem tmod_rng {x y : Int} (hx : -2147483648 ≤ x ∧ x ≤ 2147483647) : -2147483648 ≤ Int.tmod x y ∧ Int.tmod x y ≤ 2147483648 := by
  have h : (Int.tmod x y).natAbs = x.natAbs % y.natAbs := Int.natAbs_tmod x y
  have h2 : x.natAbs % y.natAbs ≤ x.natAbs := Nat.mod_le _ _
  omega
theorem i32_0 {b : Int} (h2 : 0 ≤ b) (h3 : b ≤ 4294967295) : IntKind.i32.wrap b = 0 ↔ b = 0 := by rw [wI32]; omega
theorem udiv_rng {a b : Int} (h0 : 0 ≤ a) (h1 : a ≤ 4294967295) (h2 : 0 ≤ b) : 0 ≤ a / b ∧ a / b ≤ 4294967295 := by
  have := Int.ediv_le_self b h0
  have := Int.ediv_nonneg h0 h2
  omega
theorem umod_rng {a b : Int} (h0 : 0 ≤ a) (h1 : a ≤ 4294967295) (h2 : 0 < b) (h3 : b ≤ 4294967295) : 0 ≤ a % b ∧ a % b ≤ 4294967295 := by
  have := Int.emod_lt_of_pos a h2
  have := Int.emod_nonneg a (show b ≠ 0 by omega)
  omega
theorem int_ref {a : Int} (h0 : 0 ≤ a) (h1 : a ≤ 4294967295) : Pure Try.prog 57 (cons [.int .u32 a]) (con (.int .i64 (i32 a))) := by
  refine pureX (u := 80) (k := 20) mix TA0ok ?_
  rw [r_int]
  have e1 : IntKind.i64.wrap a = a := wrap_i64 (by omega) (by omega)
  have e2 : IntKind.i64.wrap (a - 4294967296) = a - 4294967296 := wrap_i64 (by omega) (by omega)
  rw [e1, e2]
  unfold i32
  rw [wI32]
  by_cases h : a ≥ 2147483648
  · rw [decide_eq_true h]; exact conI (by omega)
  · rw [decide_eq_false h]; exact conI (by omega)
theorem sp_int : SpOk Try.prog (57, intSp) := fun args nd v h hn => by
  simp only [intSp] at h
  split at h
  · simp only [Option.some.injEq, Prod.mk.injEq] at h
    obtain ⟨rfl, rfl⟩ := h
    simp only [allT_cons, decide_eq_true_eq] at hn
    exact int_ref hn.1 hn.2.1
  · cases h
theorem right1 (op d x y m : Int) : Pure Try.prog 46 (cons [.agg 5 [.int .i64 op, .int .i64 d, .int .i64 x, .int .i64 y, .int .i64 m]]) (con (.bool (rtB op d x y m))) := by
  rcases fm_in op with h | h | h | h | h | h | h | h | h
  · exact rt1_0 op d x y m h
  · exact rt1_1 op d x y m h
  · exact rt1_2 op d x y m h
  · exact rt1_3 op d x y m h
  · exact rt1_4 op d x y m h
  · exact rt1_5 op d x y m h
  · exact rt1_6 op d x y m h
  · exact rt1_7 op d x y m h
  · exact rt1_8 op d x y m h
theorem right2 (op d x y m : Int) : Pure Try.prog 25 (cons [.agg 5 [.int .i64 op, .int .i64 d, .int .i64 x, .int .i64 y, .int .i64 m]]) (con (.bool (rtB op d x y m))) := by
  rcases fm_in op with h | h | h | h | h | h | h | h | h
  · exact rt2_0 op d x y m h
  · exact rt2_1 op d x y m h
  · exact rt2_2 op d x y m h
  · exact rt2_3 op d x y m h
  · exact rt2_4 op d x y m h
  · exact rt2_5 op d x y m h
  · exact rt2_6 op d x y m h
  · exact rt2_7 op d x y m h
  · exact rt2_8 op d x y m h
theorem sp_right1 : SpOk Try.prog (46, rtSp) := fun args nd v h hn => by
  simp only [rtSp] at h
  split at h
  · simp only [Option.some.injEq, Prod.mk.injEq] at h
    obtain ⟨rfl, rfl⟩ := h
    exact right1 _ _ _ _ _
  · cases h
theorem sp_right2 : SpOk Try.prog (25, rtSp) := fun args nd v h hn => by
  simp only [rtSp] at h
  split at h
  · simp only [Option.some.injEq, Prod.mk.injEq] at h
    obtain ⟨rfl, rfl⟩ := h
    exact right2 _ _ _ _ _
  · cases h
theorem TA2ok (f : Int) : TabOk Try.prog (TA2 f) := mkT_ok ((((clok_alu.app clok_isa).app clok_word).app clok_ref1).app clok_math) ⟨sp_formF1 f, sp_formF2 f, sp_right1, sp_right2, sp_one1, sp_one2, sp_int, trivial⟩ trivial
theorem fm1 {op : Int} (h : fmI op = 1) : 1 ≤ op ∧ op ≤ 16 := by unfold fmI at h; repeat' split at h; all_goals omega
theorem fm2 {op : Int} (h : fmI op = 2) : 17 ≤ op ∧ op ≤ 24 := by unfold fmI at h; repeat' split at h; all_goals omega
theorem fm3 {op : Int} (h : fmI op = 3) : op = 25 := by unfold fmI at h; repeat' split at h; all_goals omega
theorem fm4 {op : Int} (h : fmI op > 3) : op < 1 ∨ 25 < op := by unfold fmI at h; repeat' split at h; all_goals omega
theorem do_no {op d x y m a b : Int} (h : rtB op d x y m = false ∨ fmI op > 3) : doI op d x y m a b = 0 := by
  unfold doI
  rw [if_pos h]
theorem dk_no {op d x y m b : Int} (h : rtB op d x y m = false ∨ fmI op > 3) : dkB op d x y m b = true := by
  unfold dkB
  rw [if_pos h]
theorem do1_1 {d x y m a b : Int} (h0 : 0 ≤ a) (h1 : a ≤ 4294967295) (h2 : 0 ≤ b) (h3 : b ≤ 4294967295) : Pure Try.prog 55 (cons [.agg 5 [.int .i64 1, .int .i64 d, .int .i64 x, .int .i64 y, .int .i64 m], .int .u32 a, .int .u32 b]) (con (.tup [.int .u32 (doI 1 d x y m a b), .bool (dkB 1 d x y m b)])) := by
  refine pureX (u := 80) (k := 20) mix (TA2ok 1) ?_
  rw [r_do1_1]
  have m0 : 0 ≤ IntKind.u32.wrap m := by rw [wU32]; omega
  have m1 : IntKind.u32.wrap m ≤ 4294967295 := by rw [wU32]; omega
  cases hr : rtB 1 d x y m with
  | false =>
    rw [do_no (.inl hr), dk_no (.inl hr)]
    simp only [hr, h0, h1, h2, h3, m0, m1, decide_true, decide_false, cond_true, cond_false, pk_and, pk_or, pk3, pk4, Bool.not_true, Bool.not_false]
  | true =>
    have e1 : doI 1 d x y m a b = alW 1 a b := by
      unfold doI
      rw [hr, if_neg (by decide)]
      rfl
    have e2 : dkB 1 d x y m b = true := by
      unfold dkB
      rw [hr, if_neg (by decide)]
      simp
    rw [e1, e2]
    simp only [hr, h0, h1, h2, h3, m0, m1, decide_true, decide_false, cond_true, cond_false, pk_and, pk_or, pk3, pk4, Bool.not_true, Bool.not_false]
    refine conT2 (conI ?_) rfl
    simp only [alW, i32, shA h2 h3, shB h2 h3, shA m0 m1, shB m0 m1, fdivP, fdivQ, w32w64, w64i32, w64mul, mul_mod, if_true, if_false, Int.reduceEq]
    try rw [wU32, mul_mod]
    try rfl
theorem do1_2 {d x y m a b : Int} (h0 : 0 ≤ a) (h1 : a ≤ 4294967295) (h2 : 0 ≤ b) (h3 : b ≤ 4294967295) : Pure Try.prog 55 (cons [.agg 5 [.int .i64 2, .int .i64 d, .int .i64 x, .int .i64 y, .int .i64 m], .int .u32 a, .int .u32 b]) (con (.tup [.int .u32 (doI 2 d x y m a b), .bool (dkB 2 d x y m b)])) := by
  refine pureX (u := 80) (k := 20) mix (TA2ok 1) ?_
  rw [r_do1_2]
  have m0 : 0 ≤ IntKind.u32.wrap m := by rw [wU32]; omega
  have m1 : IntKind.u32.wrap m ≤ 4294967295 := by rw [wU32]; omega
  cases hr : rtB 2 d x y m with
  | false =>
    rw [do_no (.inl hr), dk_no (.inl hr)]
    simp only [hr, h0, h1, h2, h3, m0, m1, decide_true, decide_false, cond_true, cond_false, pk_and, pk_or, pk3, pk4, Bool.not_true, Bool.not_false]
  | true =>
    have e1 : doI 2 d x y m a b = alW 2 a b := by
      unfold doI
      rw [hr, if_neg (by decide)]
      rfl
    have e2 : dkB 2 d x y m b = true := by
      unfold dkB
      rw [hr, if_neg (by decide)]
      simp
    rw [e1, e2]
    simp only [hr, h0, h1, h2, h3, m0, m1, decide_true, decide_false, cond_true, cond_false, pk_and, pk_or, pk3, pk4, Bool.not_true, Bool.not_false]
    refine conT2 (conI ?_) rfl
    simp only [alW, i32, shA h2 h3, shB h2 h3, shA m0 m1, shB m0 m1, fdivP, fdivQ, w32w64, w64i32, w64mul, mul_mod, if_true, if_false, Int.reduceEq]
    try rw [wU32, mul_mod]
    try rfl
theorem do1_3 {d x y m a b : Int} (h0 : 0 ≤ a) (h1 : a ≤ 4294967295) (h2 : 0 ≤ b) (h3 : b ≤ 4294967295) : Pure Try.prog 55 (cons [.agg 5 [.int .i64 3, .int .i64 d, .int .i64 x, .int .i64 y, .int .i64 m], .int .u32 a, .int .u32 b]) (con (.tup [.int .u32 (doI 3 d x y m a b), .bool (dkB 3 d x y m b)])) := by
  refine pureX (u := 80) (k := 20) mix (TA2ok 1) ?_
  rw [r_do1_3]
  have m0 : 0 ≤ IntKind.u32.wrap m := by rw [wU32]; omega
  have m1 : IntKind.u32.wrap m ≤ 4294967295 := by rw [wU32]; omega
  cases hr : rtB 3 d x y m with
  | false =>
    rw [do_no (.inl hr), dk_no (.inl hr)]
    simp only [hr, h0, h1, h2, h3, m0, m1, decide_true, decide_false, cond_true, cond_false, pk_and, pk_or, pk3, pk4, Bool.not_true, Bool.not_false]
  | true =>
    have e1 : doI 3 d x y m a b = alW 3 a b := by
      unfold doI
      rw [hr, if_neg (by decide)]
      rfl
    have e2 : dkB 3 d x y m b = true := by
      unfold dkB
      rw [hr, if_neg (by decide)]
      simp
    rw [e1, e2]
    simp only [hr, h0, h1, h2, h3, m0, m1, decide_true, decide_false, cond_true, cond_false, pk_and, pk_or, pk3, pk4, Bool.not_true, Bool.not_false]
    refine conT2 (conI ?_) rfl
    simp only [alW, i32, shA h2 h3, shB h2 h3, shA m0 m1, shB m0 m1, fdivP, fdivQ, w32w64, w64i32, w64mul, mul_mod, if_true, if_false, Int.reduceEq]
    try rw [wU32, mul_mod]
    try rfl
theorem do1_4 {d x y m a b : Int} (h0 : 0 ≤ a) (h1 : a ≤ 4294967295) (h2 : 0 ≤ b) (h3 : b ≤ 4294967295) : Pure Try.prog 55 (cons [.agg 5 [.int .i64 4, .int .i64 d, .int .i64 x, .int .i64 y, .int .i64 m], .int .u32 a, .int .u32 b]) (con (.tup [.int .u32 (doI 4 d x y m a b), .bool (dkB 4 d x y m b)])) := by
  refine pureX (u := 80) (k := 20) mix (TA2ok 1) ?_
  rw [r_do1_4]
  have m0 : 0 ≤ IntKind.u32.wrap m := by rw [wU32]; omega
  have m1 : IntKind.u32.wrap m ≤ 4294967295 := by rw [wU32]; omega
  cases hr : rtB 4 d x y m with
  | false =>
    rw [do_no (.inl hr), dk_no (.inl hr)]
    simp only [hr, h0, h1, h2, h3, m0, m1, decide_true, decide_false, cond_true, cond_false, pk_and, pk_or, pk3, pk4, Bool.not_true, Bool.not_false]
  | true =>
    have e1 : doI 4 d x y m a b = alW 4 a b := by
      unfold doI
      rw [hr, if_neg (by decide)]
      rfl
    have e2 : dkB 4 d x y m b = true := by
      unfold dkB
      rw [hr, if_neg (by decide)]
      simp
    rw [e1, e2]
    simp only [hr, h0, h1, h2, h3, m0, m1, decide_true, decide_false, cond_true, cond_false, pk_and, pk_or, pk3, pk4, Bool.not_true, Bool.not_false]
    refine conT2 (conI ?_) rfl
    simp only [alW, i32, shA h2 h3, shB h2 h3, shA m0 m1, shB m0 m1, fdivP, fdivQ, w32w64, w64i32, w64mul, mul_mod, if_true, if_false, Int.reduceEq]
    try rw [wU32, mul_mod]
    try rfl
theorem do1_5 {d x y m a b : Int} (h0 : 0 ≤ a) (h1 : a ≤ 4294967295) (h2 : 0 ≤ b) (h3 : b ≤ 4294967295) : Pure Try.prog 55 (cons [.agg 5 [.int .i64 5, .int .i64 d, .int .i64 x, .int .i64 y, .int .i64 m], .int .u32 a, .int .u32 b]) (con (.tup [.int .u32 (doI 5 d x y m a b), .bool (dkB 5 d x y m b)])) := by
  refine pureX (u := 80) (k := 20) mix (TA2ok 1) ?_
  rw [r_do1_5]
  have m0 : 0 ≤ IntKind.u32.wrap m := by rw [wU32]; omega
  have m1 : IntKind.u32.wrap m ≤ 4294967295 := by rw [wU32]; omega
  cases hr : rtB 5 d x y m with
  | false =>
    rw [do_no (.inl hr), dk_no (.inl hr)]
    simp only [hr, h0, h1, h2, h3, m0, m1, decide_true, decide_false, cond_true, cond_false, pk_and, pk_or, pk3, pk4, Bool.not_true, Bool.not_false]
  | true =>
    have e1 : doI 5 d x y m a b = alW 5 a b := by
      unfold doI
      rw [hr, if_neg (by decide)]
      rfl
    have e2 : dkB 5 d x y m b = true := by
      unfold dkB
      rw [hr, if_neg (by decide)]
      simp
    rw [e1, e2]
    simp only [hr, h0, h1, h2, h3, m0, m1, decide_true, decide_false, cond_true, cond_false, pk_and, pk_or, pk3, pk4, Bool.not_true, Bool.not_false]
    refine conT2 (conI ?_) rfl
    simp only [alW, i32, shA h2 h3, shB h2 h3, shA m0 m1, shB m0 m1, fdivP, fdivQ, w32w64, w64i32, w64mul, mul_mod, if_true, if_false, Int.reduceEq]
    try rw [wU32, mul_mod]
    try rfl
theorem do1_6 {d x y m a b : Int} (h0 : 0 ≤ a) (h1 : a ≤ 4294967295) (h2 : 0 ≤ b) (h3 : b ≤ 4294967295) : Pure Try.prog 55 (cons [.agg 5 [.int .i64 6, .int .i64 d, .int .i64 x, .int .i64 y, .int .i64 m], .int .u32 a, .int .u32 b]) (con (.tup [.int .u32 (doI 6 d x y m a b), .bool (dkB 6 d x y m b)])) := by
  refine pureX (u := 80) (k := 20) mix (TA2ok 1) ?_
  rw [r_do1_6]
  have m0 : 0 ≤ IntKind.u32.wrap m := by rw [wU32]; omega
  have m1 : IntKind.u32.wrap m ≤ 4294967295 := by rw [wU32]; omega
  cases hr : rtB 6 d x y m with
  | false =>
    rw [do_no (.inl hr), dk_no (.inl hr)]
    simp only [hr, h0, h1, h2, h3, m0, m1, decide_true, decide_false, cond_true, cond_false, pk_and, pk_or, pk3, pk4, Bool.not_true, Bool.not_false]
  | true =>
    have e1 : doI 6 d x y m a b = alW 6 a b := by
      unfold doI
      rw [hr, if_neg (by decide)]
      rfl
    have e2 : dkB 6 d x y m b = true := by
      unfold dkB
      rw [hr, if_neg (by decide)]
      simp
    rw [e1, e2]
    simp only [hr, h0, h1, h2, h3, m0, m1, decide_true, decide_false, cond_true, cond_false, pk_and, pk_or, pk3, pk4, Bool.not_true, Bool.not_false]
    refine conT2 (conI ?_) rfl
    simp only [alW, i32, shA h2 h3, shB h2 h3, shA m0 m1, shB m0 m1, fdivP, fdivQ, w32w64, w64i32, w64mul, mul_mod, if_true, if_false, Int.reduceEq]
    try rw [wU32, mul_mod]
    try rfl
theorem do1_7 {d x y m a b : Int} (h0 : 0 ≤ a) (h1 : a ≤ 4294967295) (h2 : 0 ≤ b) (h3 : b ≤ 4294967295) : Pure Try.prog 55 (cons [.agg 5 [.int .i64 7, .int .i64 d, .int .i64 x, .int .i64 y, .int .i64 m], .int .u32 a, .int .u32 b]) (con (.tup [.int .u32 (doI 7 d x y m a b), .bool (dkB 7 d x y m b)])) := by
  refine pureX (u := 80) (k := 20) mix (TA2ok 1) ?_
  rw [r_do1_7]
  have m0 : 0 ≤ IntKind.u32.wrap m := by rw [wU32]; omega
  have m1 : IntKind.u32.wrap m ≤ 4294967295 := by rw [wU32]; omega
  cases hr : rtB 7 d x y m with
  | false =>
    rw [do_no (.inl hr), dk_no (.inl hr)]
    simp only [hr, h0, h1, h2, h3, m0, m1, decide_true, decide_false, cond_true, cond_false, pk_and, pk_or, pk3, pk4, Bool.not_true, Bool.not_false]
  | true =>
    have e1 : doI 7 d x y m a b = alW 7 a b := by
      unfold doI
      rw [hr, if_neg (by decide)]
      rfl
    have e2 : dkB 7 d x y m b = true := by
      unfold dkB
      rw [hr, if_neg (by decide)]
      simp
    rw [e1, e2]
    simp only [hr, h0, h1, h2, h3, m0, m1, decide_true, decide_false, cond_true, cond_false, pk_and, pk_or, pk3, pk4, Bool.not_true, Bool.not_false]
    refine conT2 (conI ?_) rfl
    simp only [alW, i32, shA h2 h3, shB h2 h3, shA m0 m1, shB m0 m1, fdivP, fdivQ, w32w64, w64i32, w64mul, mul_mod, if_true, if_false, Int.reduceEq]
    try rw [wU32, mul_mod]
    try rfl
theorem do1_8 {d x y m a b : Int} (h0 : 0 ≤ a) (h1 : a ≤ 4294967295) (h2 : 0 ≤ b) (h3 : b ≤ 4294967295) : Pure Try.prog 55 (cons [.agg 5 [.int .i64 8, .int .i64 d, .int .i64 x, .int .i64 y, .int .i64 m], .int .u32 a, .int .u32 b]) (con (.tup [.int .u32 (doI 8 d x y m a b), .bool (dkB 8 d x y m b)])) := by
  refine pureX (u := 80) (k := 20) mix (TA2ok 1) ?_
  rw [r_do1_8]
  have m0 : 0 ≤ IntKind.u32.wrap m := by rw [wU32]; omega
  have m1 : IntKind.u32.wrap m ≤ 4294967295 := by rw [wU32]; omega
  cases hr : rtB 8 d x y m with
  | false =>
    rw [do_no (.inl hr), dk_no (.inl hr)]
    simp only [hr, h0, h1, h2, h3, m0, m1, decide_true, decide_false, cond_true, cond_false, pk_and, pk_or, pk3, pk4, Bool.not_true, Bool.not_false]
  | true =>
    have e1 : doI 8 d x y m a b = alW 8 a b := by
      unfold doI
      rw [hr, if_neg (by decide)]
      rfl
    have e2 : dkB 8 d x y m b = true := by
      unfold dkB
      rw [hr, if_neg (by decide)]
      simp
    rw [e1, e2]
    simp only [hr, h0, h1, h2, h3, m0, m1, decide_true, decide_false, cond_true, cond_false, pk_and, pk_or, pk3, pk4, Bool.not_true, Bool.not_false]
    refine conT2 (conI ?_) rfl
    simp only [alW, i32, shA h2 h3, shB h2 h3, shA m0 m1, shB m0 m1, fdivP, fdivQ, w32w64, w64i32, w64mul, mul_mod, if_true, if_false, Int.reduceEq]
    try rw [wU32, mul_mod]
    try rfl
theorem do1_9 {d x y m a b : Int} (h0 : 0 ≤ a) (h1 : a ≤ 4294967295) (h2 : 0 ≤ b) (h3 : b ≤ 4294967295) : Pure Try.prog 55 (cons [.agg 5 [.int .i64 9, .int .i64 d, .int .i64 x, .int .i64 y, .int .i64 m], .int .u32 a, .int .u32 b]) (con (.tup [.int .u32 (doI 9 d x y m a b), .bool (dkB 9 d x y m b)])) := by
  refine pureX (u := 80) (k := 20) mix (TA2ok 1) ?_
  rw [r_do1_9]
  have m0 : 0 ≤ IntKind.u32.wrap m := by rw [wU32]; omega
  have m1 : IntKind.u32.wrap m ≤ 4294967295 := by rw [wU32]; omega
  cases hr : rtB 9 d x y m with
  | false =>
    rw [do_no (.inl hr), dk_no (.inl hr)]
    simp only [hr, h0, h1, h2, h3, m0, m1, decide_true, decide_false, cond_true, cond_false, pk_and, pk_or, pk3, pk4, Bool.not_true, Bool.not_false]
  | true =>
    have e1 : doI 9 d x y m a b = alW 9 a b := by
      unfold doI
      rw [hr, if_neg (by decide)]
      rfl
    have e2 : dkB 9 d x y m b = true := by
      unfold dkB
      rw [hr, if_neg (by decide)]
      simp
    rw [e1, e2]
    simp only [hr, h0, h1, h2, h3, m0, m1, decide_true, decide_false, cond_true, cond_false, pk_and, pk_or, pk3, pk4, Bool.not_true, Bool.not_false]
    refine conT2 (conI ?_) rfl
    simp only [alW, i32, shA h2 h3, shB h2 h3, shA m0 m1, shB m0 m1, fdivP, fdivQ, w32w64, w64i32, w64mul, mul_mod, if_true, if_false, Int.reduceEq]
    try rw [wU32, mul_mod]
    try rfl
theorem do1_10 {d x y m a b : Int} (h0 : 0 ≤ a) (h1 : a ≤ 4294967295) (h2 : 0 ≤ b) (h3 : b ≤ 4294967295) : Pure Try.prog 55 (cons [.agg 5 [.int .i64 10, .int .i64 d, .int .i64 x, .int .i64 y, .int .i64 m], .int .u32 a, .int .u32 b]) (con (.tup [.int .u32 (doI 10 d x y m a b), .bool (dkB 10 d x y m b)])) := by
  refine pureX (u := 80) (k := 20) mix (TA2ok 1) ?_
  rw [r_do1_10]
  have m0 : 0 ≤ IntKind.u32.wrap m := by rw [wU32]; omega
  have m1 : IntKind.u32.wrap m ≤ 4294967295 := by rw [wU32]; omega
  cases hr : rtB 10 d x y m with
  | false =>
    rw [do_no (.inl hr), dk_no (.inl hr)]
    simp only [hr, h0, h1, h2, h3, m0, m1, decide_true, decide_false, cond_true, cond_false, pk_and, pk_or, pk3, pk4, Bool.not_true, Bool.not_false]
  | true =>
    have e1 : doI 10 d x y m a b = alW 10 a b := by
      unfold doI
      rw [hr, if_neg (by decide)]
      rfl
    have e2 : dkB 10 d x y m b = true := by
      unfold dkB
      rw [hr, if_neg (by decide)]
      simp
    rw [e1, e2]
    simp only [hr, h0, h1, h2, h3, m0, m1, decide_true, decide_false, cond_true, cond_false, pk_and, pk_or, pk3, pk4, Bool.not_true, Bool.not_false]
    refine conT2 (conI ?_) rfl
    simp only [alW, i32, shA h2 h3, shB h2 h3, shA m0 m1, shB m0 m1, fdivP, fdivQ, w32w64, w64i32, w64mul, mul_mod, if_true, if_false, Int.reduceEq]
    try rw [wU32, mul_mod]
    try rfl
theorem do1_11 {d x y m a b : Int} (h0 : 0 ≤ a) (h1 : a ≤ 4294967295) (h2 : 0 ≤ b) (h3 : b ≤ 4294967295) : Pure Try.prog 55 (cons [.agg 5 [.int .i64 11, .int .i64 d, .int .i64 x, .int .i64 y, .int .i64 m], .int .u32 a, .int .u32 b]) (con (.tup [.int .u32 (doI 11 d x y m a b), .bool (dkB 11 d x y m b)])) := by
  refine pureX (u := 80) (k := 20) mix (TA2ok 1) ?_
  rw [r_do1_11]
  have m0 : 0 ≤ IntKind.u32.wrap m := by rw [wU32]; omega
  have m1 : IntKind.u32.wrap m ≤ 4294967295 := by rw [wU32]; omega
  cases hr : rtB 11 d x y m with
  | false =>
    rw [do_no (.inl hr), dk_no (.inl hr)]
    simp only [hr, h0, h1, h2, h3, m0, m1, decide_true, decide_false, cond_true, cond_false, pk_and, pk_or, pk3, pk4, Bool.not_true, Bool.not_false]
  | true =>
    have e1 : doI 11 d x y m a b = alW 11 a b := by
      unfold doI
      rw [hr, if_neg (by decide)]
      rfl
    have e2 : dkB 11 d x y m b = true := by
      unfold dkB
      rw [hr, if_neg (by decide)]
      simp
    rw [e1, e2]
    simp only [hr, h0, h1, h2, h3, m0, m1, decide_true, decide_false, cond_true, cond_false, pk_and, pk_or, pk3, pk4, Bool.not_true, Bool.not_false]
    refine conT2 (conI ?_) rfl
    simp only [alW, i32, shA h2 h3, shB h2 h3, shA m0 m1, shB m0 m1, fdivP, fdivQ, w32w64, w64i32, w64mul, mul_mod, if_true, if_false, Int.reduceEq]
    try rw [wU32, mul_mod]
    try rfl
theorem do1_12 {d x y m a b : Int} (h0 : 0 ≤ a) (h1 : a ≤ 4294967295) (h2 : 0 ≤ b) (h3 : b ≤ 4294967295) : Pure Try.prog 55 (cons [.agg 5 [.int .i64 12, .int .i64 d, .int .i64 x, .int .i64 y, .int .i64 m], .int .u32 a, .int .u32 b]) (con (.tup [.int .u32 (doI 12 d x y m a b), .bool (dkB 12 d x y m b)])) := by
  refine pureX (u := 80) (k := 20) mix (TA2ok 1) ?_
  rw [r_do1_12]
  have m0 : 0 ≤ IntKind.u32.wrap m := by rw [wU32]; omega
  have m1 : IntKind.u32.wrap m ≤ 4294967295 := by rw [wU32]; omega
  cases hr : rtB 12 d x y m with
  | false =>
    rw [do_no (.inl hr), dk_no (.inl hr)]
    simp only [hr, h0, h1, h2, h3, m0, m1, decide_true, decide_false, cond_true, cond_false, pk_and, pk_or, pk3, pk4, Bool.not_true, Bool.not_false]
  | true =>
    have e1 : doI 12 d x y m a b = alW 12 a b := by
      unfold doI
      rw [hr, if_neg (by decide)]
      rfl
    have e2 : dkB 12 d x y m b = true := by
      unfold dkB
      rw [hr, if_neg (by decide)]
      simp
    rw [e1, e2]
    simp only [hr, h0, h1, h2, h3, m0, m1, decide_true, decide_false, cond_true, cond_false, pk_and, pk_or, pk3, pk4, Bool.not_true, Bool.not_false]
    refine conT2 (conI ?_) rfl
    simp only [alW, i32, shA h2 h3, shB h2 h3, shA m0 m1, shB m0 m1, fdivP, fdivQ, w32w64, w64i32, w64mul, mul_mod, if_true, if_false, Int.reduceEq]
    try rw [wU32, mul_mod]
    try rfl
theorem do1_13 {d x y m a b : Int} (h0 : 0 ≤ a) (h1 : a ≤ 4294967295) (h2 : 0 ≤ b) (h3 : b ≤ 4294967295) : Pure Try.prog 55 (cons [.agg 5 [.int .i64 13, .int .i64 d, .int .i64 x, .int .i64 y, .int .i64 m], .int .u32 a, .int .u32 b]) (con (.tup [.int .u32 (doI 13 d x y m a b), .bool (dkB 13 d x y m b)])) := by
  refine pureX (u := 80) (k := 20) mix (TA2ok 1) ?_
  rw [r_do1_13]
  have m0 : 0 ≤ IntKind.u32.wrap m := by rw [wU32]; omega
  have m1 : IntKind.u32.wrap m ≤ 4294967295 := by rw [wU32]; omega
  cases hr : rtB 13 d x y m with
  | false =>
    rw [do_no (.inl hr), dk_no (.inl hr)]
    simp only [hr, h0, h1, h2, h3, m0, m1, decide_true, decide_false, cond_true, cond_false, pk_and, pk_or, pk3, pk4, Bool.not_true, Bool.not_false]
  | true =>
    have e1 : doI 13 d x y m a b = alW 13 a b := by
      unfold doI
      rw [hr, if_neg (by decide)]
      rfl
    have e2 : dkB 13 d x y m b = !decide (b = 0) := by
      unfold dkB
      rw [hr, if_neg (by decide)]
      simp
    rw [e1, e2]
    simp only [hr, h0, h1, h2, h3, m0, m1, decide_true, decide_false, cond_true, cond_false, pk_and, pk_or, pk3, pk4, Bool.not_true, Bool.not_false]
    by_cases hb : b = 0
    · subst hb
      rfl
    have hi : ¬ IntKind.i32.wrap b = 0 := fun h => hb ((i32_0 h2 h3).1 h)
    have hi2 : ¬ i32 b = 0 := hi
    by_cases hx : IntKind.i32.wrap a = -2147483648 ∧ IntKind.i32.wrap b = -1
    · have ha : a = 2147483648 := by have := hx.1; rw [wI32] at this; omega
      have hbb : b = 4294967295 := by have := hx.2; rw [wI32] at this; omega
      subst ha hbb
      exact conT2 (conI (by decide)) rfl
    · have hz : (bif decide (IntKind.i32.wrap a = -2147483648) then decide (IntKind.i32.wrap b = -1) else false) = false := by
        rw [Bool.cond_false_right, Bool.and_eq_false_iff, decide_eq_false_iff_not, decide_eq_false_iff_not]
        by_cases h : IntKind.i32.wrap a = -2147483648
        · exact .inr fun h' => hx ⟨h, h'⟩
        · exact .inl h
      simp only [hz, hb, hi, decide_true, decide_false, cond_true, cond_false, pk_and, pk_or, pk3, pk4, Bool.not_true, Bool.not_false]
      refine conT2 (conI ?_) rfl
      simp only [alW, i32, hb, if_false, if_true, w32i32, w32w64, Int.reduceEq]
      first | done | exact i32_mod _ | rfl
theorem do1_14 {d x y m a b : Int} (h0 : 0 ≤ a) (h1 : a ≤ 4294967295) (h2 : 0 ≤ b) (h3 : b ≤ 4294967295) : Pure Try.prog 55 (cons [.agg 5 [.int .i64 14, .int .i64 d, .int .i64 x, .int .i64 y, .int .i64 m], .int .u32 a, .int .u32 b]) (con (.tup [.int .u32 (doI 14 d x y m a b), .bool (dkB 14 d x y m b)])) := by
  refine pureX (u := 80) (k := 20) mix (TA2ok 1) ?_
  rw [r_do1_14]
  have m0 : 0 ≤ IntKind.u32.wrap m := by rw [wU32]; omega
  have m1 : IntKind.u32.wrap m ≤ 4294967295 := by rw [wU32]; omega
  cases hr : rtB 14 d x y m with
  | false =>
    rw [do_no (.inl hr), dk_no (.inl hr)]
    simp only [hr, h0, h1, h2, h3, m0, m1, decide_true, decide_false, cond_true, cond_false, pk_and, pk_or, pk3, pk4, Bool.not_true, Bool.not_false]
  | true =>
    have e1 : doI 14 d x y m a b = alW 14 a b := by
      unfold doI
      rw [hr, if_neg (by decide)]
      rfl
    have e2 : dkB 14 d x y m b = !decide (b = 0) := by
      unfold dkB
      rw [hr, if_neg (by decide)]
      simp
    rw [e1, e2]
    simp only [hr, h0, h1, h2, h3, m0, m1, decide_true, decide_false, cond_true, cond_false, pk_and, pk_or, pk3, pk4, Bool.not_true, Bool.not_false]
    by_cases hb : b = 0
    · subst hb
      rfl
    have hi : ¬ IntKind.i32.wrap b = 0 := fun h => hb ((i32_0 h2 h3).1 h)
    have hi2 : ¬ i32 b = 0 := hi
    have hb4 : ¬ b ≤ 0 := by omega
    have e4 : IntKind.u64.wrap b = b := by rw [wU64]; omega
    have e5 : IntKind.u64.wrap a = a := by rw [wU64]; omega
    have hz : ∀ z : Bool, (bif (bif decide (IntKind.i32.wrap a = -2147483648) then decide (IntKind.i32.wrap a = -2147483648) else true) then z else false) = z := fun z => by rw [pk_and]; rfl
    simp only [hb, hb4, e4, or0 h0 h1, not_false_eq_true, decide_not, decide_true, decide_false, cond_true, cond_false, pk_and, pk_or, pk3, pk4, Bool.not_true, Bool.not_false]
    refine conT2 (conI ?_) rfl
    simp only [alW, hb, if_false, if_true, Int.reduceEq]
    have := udiv_rng (b := b) h0 h1 h2
    have := umod_rng (b := b) h0 h1 (by omega) h3
    rw [Int.tdiv_eq_ediv_of_nonneg h0, wU64, wU32]
    omega
theorem do1_15 {d x y m a b : Int} (h0 : 0 ≤ a) (h1 : a ≤ 4294967295) (h2 : 0 ≤ b) (h3 : b ≤ 4294967295) : Pure Try.prog 55 (cons [.agg 5 [.int .i64 15, .int .i64 d, .int .i64 x, .int .i64 y, .int .i64 m], .int .u32 a, .int .u32 b]) (con (.tup [.int .u32 (doI 15 d x y m a b), .bool (dkB 15 d x y m b)])) := by
  refine pureX (u := 80) (k := 20) mix (TA2ok 1) ?_
  rw [r_do1_15]
  have m0 : 0 ≤ IntKind.u32.wrap m := by rw [wU32]; omega
  have m1 : IntKind.u32.wrap m ≤ 4294967295 := by rw [wU32]; omega
  cases hr : rtB 15 d x y m with
  | false =>
    rw [do_no (.inl hr), dk_no (.inl hr)]
    simp only [hr, h0, h1, h2, h3, m0, m1, decide_true, decide_false, cond_true, cond_false, pk_and, pk_or, pk3, pk4, Bool.not_true, Bool.not_false]
  | true =>
    have e1 : doI 15 d x y m a b = alW 15 a b := by
      unfold doI
      rw [hr, if_neg (by decide)]
      rfl
    have e2 : dkB 15 d x y m b = !decide (b = 0) := by
      unfold dkB
      rw [hr, if_neg (by decide)]
      simp
    rw [e1, e2]
    simp only [hr, h0, h1, h2, h3, m0, m1, decide_true, decide_false, cond_true, cond_false, pk_and, pk_or, pk3, pk4, Bool.not_true, Bool.not_false]
    by_cases hb : b = 0
    · subst hb
      rfl
    have hi : ¬ IntKind.i32.wrap b = 0 := fun h => hb ((i32_0 h2 h3).1 h)
    have hi2 : ¬ i32 b = 0 := hi
    by_cases hx : IntKind.i32.wrap a = -2147483648 ∧ IntKind.i32.wrap b = -1
    · have ha : a = 2147483648 := by have := hx.1; rw [wI32] at this; omega
      have hbb : b = 4294967295 := by have := hx.2; rw [wI32] at this; omega
      subst ha hbb
      exact conT2 (conI (by decide)) rfl
    · have hz : (bif decide (IntKind.i32.wrap a = -2147483648) then decide (IntKind.i32.wrap b = -1) else false) = false := by
        rw [Bool.cond_false_right, Bool.and_eq_false_iff, decide_eq_false_iff_not, decide_eq_false_iff_not]
        by_cases h : IntKind.i32.wrap a = -2147483648
        · exact .inr fun h' => hx ⟨h, h'⟩
        · exact .inl h
      simp only [hz, hb, hi, decide_true, decide_false, cond_true, cond_false, pk_and, pk_or, pk3, pk4, Bool.not_true, Bool.not_false]
      refine conT2 (conI ?_) rfl
      simp only [alW, i32, hb, if_false, if_true, w32i32, w32w64, Int.reduceEq]
      first | done | exact i32_mod _ | rfl
theorem do1_16 {d x y m a b : Int} (h0 : 0 ≤ a) (h1 : a ≤ 4294967295) (h2 : 0 ≤ b) (h3 : b ≤ 4294967295) : Pure Try.prog 55 (cons [.agg 5 [.int .i64 16, .int .i64 d, .int .i64 x, .int .i64 y, .int .i64 m], .int .u32 a, .int .u32 b]) (con (.tup [.int .u32 (doI 16 d x y m a b), .bool (dkB 16 d x y m b)])) := by
  refine pureX (u := 80) (k := 20) mix (TA2ok 1) ?_
  rw [r_do1_16]
  have m0 : 0 ≤ IntKind.u32.wrap m := by rw [wU32]; omega
  have m1 : IntKind.u32.wrap m ≤ 4294967295 := by rw [wU32]; omega
  cases hr : rtB 16 d x y m with
  | false =>
    rw [do_no (.inl hr), dk_no (.inl hr)]
    simp only [hr, h0, h1, h2, h3, m0, m1, decide_true, decide_false, cond_true, cond_false, pk_and, pk_or, pk3, pk4, Bool.not_true, Bool.not_false]
  | true =>
    have e1 : doI 16 d x y m a b = alW 16 a b := by
      unfold doI
      rw [hr, if_neg (by decide)]
      rfl
    have e2 : dkB 16 d x y m b = !decide (b = 0) := by
      unfold dkB
      rw [hr, if_neg (by decide)]
      simp
    rw [e1, e2]
    simp only [hr, h0, h1, h2, h3, m0, m1, decide_true, decide_false, cond_true, cond_false, pk_and, pk_or, pk3, pk4, Bool.not_true, Bool.not_false]
    by_cases hb : b = 0
    · subst hb
      rfl
    have hi : ¬ IntKind.i32.wrap b = 0 := fun h => hb ((i32_0 h2 h3).1 h)
    have hi2 : ¬ i32 b = 0 := hi
    have hb4 : ¬ b ≤ 0 := by omega
    have e4 : IntKind.u64.wrap b = b := by rw [wU64]; omega
    have e5 : IntKind.u64.wrap a = a := by rw [wU64]; omega
    have hz : ∀ z : Bool, (bif (bif decide (IntKind.i32.wrap a = -2147483648) then decide (IntKind.i32.wrap a = -2147483648) else true) then z else false) = z := fun z => by rw [pk_and]; rfl
    simp only [hb, hb4, e4, or0 h0 h1, not_false_eq_true, decide_not, decide_true, decide_false, cond_true, cond_false, pk_and, pk_or, pk3, pk4, Bool.not_true, Bool.not_false]
    refine conT2 (conI ?_) rfl
    simp only [alW, hb, if_false, if_true, Int.reduceEq]
    have := udiv_rng (b := b) h0 h1 h2
    have := umod_rng (b := b) h0 h1 (by omega) h3
    rw [Int.tmod_eq_emod_of_nonneg h0]; try rw [wU32]
    omega
theorem do1_17 {d x y m a b : Int} (h0 : 0 ≤ a) (h1 : a ≤ 4294967295) (h2 : 0 ≤ b) (h3 : b ≤ 4294967295) : Pure Try.prog 55 (cons [.agg 5 [.int .i64 17, .int .i64 d, .int .i64 x, .int .i64 y, .int .i64 m], .int .u32 a, .int .u32 b]) (con (.tup [.int .u32 (doI 17 d x y m a b), .bool (dkB 17 d x y m b)])) := by
  refine pureX (u := 80) (k := 20) mix (TA2ok 2) ?_
  rw [r_do1_17]
  have m0 : 0 ≤ IntKind.u32.wrap m := by rw [wU32]; omega
  have m1 : IntKind.u32.wrap m ≤ 4294967295 := by rw [wU32]; omega
  cases hr : rtB 17 d x y m with
  | false =>
    rw [do_no (.inl hr), dk_no (.inl hr)]
    simp only [hr, h0, h1, h2, h3, m0, m1, decide_true, decide_false, cond_true, cond_false, pk_and, pk_or, pk3, pk4, Bool.not_true, Bool.not_false]
  | true =>
    have e1 : doI 17 d x y m a b = alW 1 a (m % 4294967296) := by
      unfold doI
      rw [hr, if_neg (by decide)]
      rfl
    have e2 : dkB 17 d x y m b = true := by
      unfold dkB
      rw [hr, if_neg (by decide)]
      simp
    rw [e1, e2]
    simp only [hr, h0, h1, h2, h3, m0, m1, decide_true, decide_false, cond_true, cond_false, pk_and, pk_or, pk3, pk4, Bool.not_true, Bool.not_false]
    refine conT2 (conI ?_) rfl
    simp only [alW, i32, shA h2 h3, shB h2 h3, shA m0 m1, shB m0 m1, fdivP, fdivQ, w32w64, w64i32, w64mul, mul_mod, if_true, if_false, Int.reduceEq]
    try rw [wU32, mul_mod]
    try rfl
theorem do1_18 {d x y m a b : Int} (h0 : 0 ≤ a) (h1 : a ≤ 4294967295) (h2 : 0 ≤ b) (h3 : b ≤ 4294967295) : Pure Try.prog 55 (cons [.agg 5 [.int .i64 18, .int .i64 d, .int .i64 x, .int .i64 y, .int .i64 m], .int .u32 a, .int .u32 b]) (con (.tup [.int .u32 (doI 18 d x y m a b), .bool (dkB 18 d x y m b)])) := by
  refine pureX (u := 80) (k := 20) mix (TA2ok 2) ?_
  rw [r_do1_18]
  have m0 : 0 ≤ IntKind.u32.wrap m := by rw [wU32]; omega
  have m1 : IntKind.u32.wrap m ≤ 4294967295 := by rw [wU32]; omega
  cases hr : rtB 18 d x y m with
  | false =>
    rw [do_no (.inl hr), dk_no (.inl hr)]
    simp only [hr, h0, h1, h2, h3, m0, m1, decide_true, decide_false, cond_true, cond_false, pk_and, pk_or, pk3, pk4, Bool.not_true, Bool.not_false]
  | true =>
    have e1 : doI 18 d x y m a b = alW 3 a (m % 4294967296) := by
      unfold doI
      rw [hr, if_neg (by decide)]
      rfl
    have e2 : dkB 18 d x y m b = true := by
      unfold dkB
      rw [hr, if_neg (by decide)]
      simp
    rw [e1, e2]
    simp only [hr, h0, h1, h2, h3, m0, m1, decide_true, decide_false, cond_true, cond_false, pk_and, pk_or, pk3, pk4, Bool.not_true, Bool.not_false]
    refine conT2 (conI ?_) rfl
    simp only [alW, i32, shA h2 h3, shB h2 h3, shA m0 m1, shB m0 m1, fdivP, fdivQ, w32w64, w64i32, w64mul, mul_mod, if_true, if_false, Int.reduceEq]
    try rw [wU32, mul_mod]
    try rfl
theorem do1_19 {d x y m a b : Int} (h0 : 0 ≤ a) (h1 : a ≤ 4294967295) (h2 : 0 ≤ b) (h3 : b ≤ 4294967295) : Pure Try.prog 55 (cons [.agg 5 [.int .i64 19, .int .i64 d, .int .i64 x, .int .i64 y, .int .i64 m], .int .u32 a, .int .u32 b]) (con (.tup [.int .u32 (doI 19 d x y m a b), .bool (dkB 19 d x y m b)])) := by
  refine pureX (u := 80) (k := 20) mix (TA2ok 2) ?_
  rw [r_do1_19]
  have m0 : 0 ≤ IntKind.u32.wrap m := by rw [wU32]; omega
  have m1 : IntKind.u32.wrap m ≤ 4294967295 := by rw [wU32]; omega
  cases hr : rtB 19 d x y m with
  | false =>
    rw [do_no (.inl hr), dk_no (.inl hr)]
    simp only [hr, h0, h1, h2, h3, m0, m1, decide_true, decide_false, cond_true, cond_false, pk_and, pk_or, pk3, pk4, Bool.not_true, Bool.not_false]
  | true =>
    have e1 : doI 19 d x y m a b = alW 4 a (m % 4294967296) := by
      unfold doI
      rw [hr, if_neg (by decide)]
      rfl
    have e2 : dkB 19 d x y m b = true := by
      unfold dkB
      rw [hr, if_neg (by decide)]
      simp
    rw [e1, e2]
    simp only [hr, h0, h1, h2, h3, m0, m1, decide_true, decide_false, cond_true, cond_false, pk_and, pk_or, pk3, pk4, Bool.not_true, Bool.not_false]
    refine conT2 (conI ?_) rfl
    simp only [alW, i32, shA h2 h3, shB h2 h3, shA m0 m1, shB m0 m1, fdivP, fdivQ, w32w64, w64i32, w64mul, mul_mod, if_true, if_false, Int.reduceEq]
    try rw [wU32, mul_mod]
    try rfl
theorem do1_20 {d x y m a b : Int} (h0 : 0 ≤ a) (h1 : a ≤ 4294967295) (h2 : 0 ≤ b) (h3 : b ≤ 4294967295) : Pure Try.prog 55 (cons [.agg 5 [.int .i64 20, .int .i64 d, .int .i64 x, .int .i64 y, .int .i64 m], .int .u32 a, .int .u32 b]) (con (.tup [.int .u32 (doI 20 d x y m a b), .bool (dkB 20 d x y m b)])) := by
  refine pureX (u := 80) (k := 20) mix (TA2ok 2) ?_
  rw [r_do1_20]
  have m0 : 0 ≤ IntKind.u32.wrap m := by rw [wU32]; omega
  have m1 : IntKind.u32.wrap m ≤ 4294967295 := by rw [wU32]; omega
  cases hr : rtB 20 d x y m with
  | false =>
    rw [do_no (.inl hr), dk_no (.inl hr)]
    simp only [hr, h0, h1, h2, h3, m0, m1, decide_true, decide_false, cond_true, cond_false, pk_and, pk_or, pk3, pk4, Bool.not_true, Bool.not_false]
  | true =>
    have e1 : doI 20 d x y m a b = alW 5 a (m % 4294967296) := by
      unfold doI
      rw [hr, if_neg (by decide)]
      rfl
    have e2 : dkB 20 d x y m b = true := by
      unfold dkB
      rw [hr, if_neg (by decide)]
      simp
    rw [e1, e2]
    simp only [hr, h0, h1, h2, h3, m0, m1, decide_true, decide_false, cond_true, cond_false, pk_and, pk_or, pk3, pk4, Bool.not_true, Bool.not_false]
    refine conT2 (conI ?_) rfl
    simp only [alW, i32, shA h2 h3, shB h2 h3, shA m0 m1, shB m0 m1, fdivP, fdivQ, w32w64, w64i32, w64mul, mul_mod, if_true, if_false, Int.reduceEq]
    try rw [wU32, mul_mod]
    try rfl
theorem do1_21 {d x y m a b : Int} (h0 : 0 ≤ a) (h1 : a ≤ 4294967295) (h2 : 0 ≤ b) (h3 : b ≤ 4294967295) : Pure Try.prog 55 (cons [.agg 5 [.int .i64 21, .int .i64 d, .int .i64 x, .int .i64 y, .int .i64 m], .int .u32 a, .int .u32 b]) (con (.tup [.int .u32 (doI 21 d x y m a b), .bool (dkB 21 d x y m b)])) := by
  refine pureX (u := 80) (k := 20) mix (TA2ok 2) ?_
  rw [r_do1_21]
  have m0 : 0 ≤ IntKind.u32.wrap m := by rw [wU32]; omega
  have m1 : IntKind.u32.wrap m ≤ 4294967295 := by rw [wU32]; omega
  cases hr : rtB 21 d x y m with
  | false =>
    rw [do_no (.inl hr), dk_no (.inl hr)]
    simp only [hr, h0, h1, h2, h3, m0, m1, decide_true, decide_false, cond_true, cond_false, pk_and, pk_or, pk3, pk4, Bool.not_true, Bool.not_false]
  | true =>
    have e1 : doI 21 d x y m a b = alW 9 a (m % 4294967296) := by
      unfold doI
      rw [hr, if_neg (by decide)]
      rfl
    have e2 : dkB 21 d x y m b = true := by
      unfold dkB
      rw [hr, if_neg (by decide)]
      simp
    rw [e1, e2]
    simp only [hr, h0, h1, h2, h3, m0, m1, decide_true, decide_false, cond_true, cond_false, pk_and, pk_or, pk3, pk4, Bool.not_true, Bool.not_false]
    refine conT2 (conI ?_) rfl
    simp only [alW, i32, shA h2 h3, shB h2 h3, shA m0 m1, shB m0 m1, fdivP, fdivQ, w32w64, w64i32, w64mul, mul_mod, if_true, if_false, Int.reduceEq]
    try rw [wU32, mul_mod]
    try rfl
theorem do1_22 {d x y m a b : Int} (h0 : 0 ≤ a) (h1 : a ≤ 4294967295) (h2 : 0 ≤ b) (h3 : b ≤ 4294967295) : Pure Try.prog 55 (cons [.agg 5 [.int .i64 22, .int .i64 d, .int .i64 x, .int .i64 y, .int .i64 m], .int .u32 a, .int .u32 b]) (con (.tup [.int .u32 (doI 22 d x y m a b), .bool (dkB 22 d x y m b)])) := by
  refine pureX (u := 80) (k := 20) mix (TA2ok 2) ?_
  rw [r_do1_22]
  have m0 : 0 ≤ IntKind.u32.wrap m := by rw [wU32]; omega
  have m1 : IntKind.u32.wrap m ≤ 4294967295 := by rw [wU32]; omega
  cases hr : rtB 22 d x y m with
  | false =>
    rw [do_no (.inl hr), dk_no (.inl hr)]
    simp only [hr, h0, h1, h2, h3, m0, m1, decide_true, decide_false, cond_true, cond_false, pk_and, pk_or, pk3, pk4, Bool.not_true, Bool.not_false]
  | true =>
    have e1 : doI 22 d x y m a b = alW 6 a (m % 4294967296) := by
      unfold doI
      rw [hr, if_neg (by decide)]
      rfl
    have e2 : dkB 22 d x y m b = true := by
      unfold dkB
      rw [hr, if_neg (by decide)]
      simp
    rw [e1, e2]
    simp only [hr, h0, h1, h2, h3, m0, m1, decide_true, decide_false, cond_true, cond_false, pk_and, pk_or, pk3, pk4, Bool.not_true, Bool.not_false]
    refine conT2 (conI ?_) rfl
    simp only [alW, i32, shA h2 h3, shB h2 h3, shA m0 m1, shB m0 m1, fdivP, fdivQ, w32w64, w64i32, w64mul, mul_mod, if_true, if_false, Int.reduceEq]
    try rw [wU32, mul_mod]
    try rfl
theorem do1_23 {d x y m a b : Int} (h0 : 0 ≤ a) (h1 : a ≤ 4294967295) (h2 : 0 ≤ b) (h3 : b ≤ 4294967295) : Pure Try.prog 55 (cons [.agg 5 [.int .i64 23, .int .i64 d, .int .i64 x, .int .i64 y, .int .i64 m], .int .u32 a, .int .u32 b]) (con (.tup [.int .u32 (doI 23 d x y m a b), .bool (dkB 23 d x y m b)])) := by
  refine pureX (u := 80) (k := 20) mix (TA2ok 2) ?_
  rw [r_do1_23]
  have m0 : 0 ≤ IntKind.u32.wrap m := by rw [wU32]; omega
  have m1 : IntKind.u32.wrap m ≤ 4294967295 := by rw [wU32]; omega
  cases hr : rtB 23 d x y m with
  | false =>
    rw [do_no (.inl hr), dk_no (.inl hr)]
    simp only [hr, h0, h1, h2, h3, m0, m1, decide_true, decide_false, cond_true, cond_false, pk_and, pk_or, pk3, pk4, Bool.not_true, Bool.not_false]
  | true =>
    have e1 : doI 23 d x y m a b = alW 7 a (m % 4294967296) := by
      unfold doI
      rw [hr, if_neg (by decide)]
      rfl
    have e2 : dkB 23 d x y m b = true := by
      unfold dkB
      rw [hr, if_neg (by decide)]
      simp
    rw [e1, e2]
    simp only [hr, h0, h1, h2, h3, m0, m1, decide_true, decide_false, cond_true, cond_false, pk_and, pk_or, pk3, pk4, Bool.not_true, Bool.not_false]
    refine conT2 (conI ?_) rfl
    simp only [alW, i32, shA h2 h3, shB h2 h3, shA m0 m1, shB m0 m1, fdivP, fdivQ, w32w64, w64i32, w64mul, mul_mod, if_true, if_false, Int.reduceEq]
    try rw [wU32, mul_mod]
    try rfl
theorem do1_24 {d x y m a b : Int} (h0 : 0 ≤ a) (h1 : a ≤ 4294967295) (h2 : 0 ≤ b) (h3 : b ≤ 4294967295) : Pure Try.prog 55 (cons [.agg 5 [.int .i64 24, .int .i64 d, .int .i64 x, .int .i64 y, .int .i64 m], .int .u32 a, .int .u32 b]) (con (.tup [.int .u32 (doI 24 d x y m a b), .bool (dkB 24 d x y m b)])) := by
  refine pureX (u := 80) (k := 20) mix (TA2ok 2) ?_
  rw [r_do1_24]
  have m0 : 0 ≤ IntKind.u32.wrap m := by rw [wU32]; omega
  have m1 : IntKind.u32.wrap m ≤ 4294967295 := by rw [wU32]; omega
  cases hr : rtB 24 d x y m with
  | false =>
    rw [do_no (.inl hr), dk_no (.inl hr)]
    simp only [hr, h0, h1, h2, h3, m0, m1, decide_true, decide_false, cond_true, cond_false, pk_and, pk_or, pk3, pk4, Bool.not_true, Bool.not_false]
  | true =>
    have e1 : doI 24 d x y m a b = alW 8 a (m % 4294967296) := by
      unfold doI
      rw [hr, if_neg (by decide)]
      rfl
    have e2 : dkB 24 d x y m b = true := by
      unfold dkB
      rw [hr, if_neg (by decide)]
      simp
    rw [e1, e2]
    simp only [hr, h0, h1, h2, h3, m0, m1, decide_true, decide_false, cond_true, cond_false, pk_and, pk_or, pk3, pk4, Bool.not_true, Bool.not_false]
    refine conT2 (conI ?_) rfl
    simp only [alW, i32, shA h2 h3, shB h2 h3, shA m0 m1, shB m0 m1, fdivP, fdivQ, w32w64, w64i32, w64mul, mul_mod, if_true, if_false, Int.reduceEq]
    try rw [wU32, mul_mod]
    try rfl
theorem do1_25 {d x y m a b : Int} (h0 : 0 ≤ a) (h1 : a ≤ 4294967295) (h2 : 0 ≤ b) (h3 : b ≤ 4294967295) : Pure Try.prog 55 (cons [.agg 5 [.int .i64 25, .int .i64 d, .int .i64 x, .int .i64 y, .int .i64 m], .int .u32 a, .int .u32 b]) (con (.tup [.int .u32 (doI 25 d x y m a b), .bool (dkB 25 d x y m b)])) := by
  refine pureX (u := 80) (k := 20) mix (TA2ok 3) ?_
  rw [r_do1_25]
  have m0 : 0 ≤ IntKind.u32.wrap m := by rw [wU32]; omega
  have m1 : IntKind.u32.wrap m ≤ 4294967295 := by rw [wU32]; omega
  cases hr : rtB 25 d x y m with
  | false =>
    rw [do_no (.inl hr), dk_no (.inl hr)]
    simp only [hr, h0, h1, h2, h3, m0, m1, decide_true, decide_false, cond_true, cond_false, pk_and, pk_or, pk3, pk4, Bool.not_true, Bool.not_false]
  | true =>
    have e1 : doI 25 d x y m a b = (m * 262144) % 4294967296 := by
      unfold doI
      rw [hr, if_neg (by decide)]
      rfl
    have e2 : dkB 25 d x y m b = true := by
      unfold dkB
      rw [hr, if_neg (by decide)]
      simp
    rw [e1, e2]
    simp only [hr, h0, h1, h2, h3, m0, m1, decide_true, decide_false, cond_true, cond_false, pk_and, pk_or, pk3, pk4, Bool.not_true, Bool.not_false]
    refine conT2 (conI ?_) rfl
    try rw [w32w64]
    try rw [wU32, wU32]; omega
theorem dox1_0 {op d x y m a b : Int} (hf : fmI op = 0) : Pure Try.prog 55 (cons [.agg 5 [.int .i64 op, .int .i64 d, .int .i64 x, .int .i64 y, .int .i64 m], .int .u32 a, .int .u32 b]) (con (.tup [.int .u32 (doI op d x y m a b), .bool (dkB op d x y m b)])) := by
  refine pureX (u := 80) (k := 20) mix (TA2ok 0) ?_
  rw [r_dox1_0]
  have hr : rtB op d x y m = false := by unfold rtB rtP; rw [hf]; simp
  rw [do_no (.inl hr), dk_no (.inl hr)]
  simp only [hf, hr, decide_true, decide_false, cond_true, cond_false, pk_and, pk_or, pk3, pk4, Bool.not_true, Bool.not_false]
theorem dox1_4 {op d x y m a b : Int} (hf : fmI op = 4) : Pure Try.prog 55 (cons [.agg 5 [.int .i64 op, .int .i64 d, .int .i64 x, .int .i64 y, .int .i64 m], .int .u32 a, .int .u32 b]) (con (.tup [.int .u32 (doI op d x y m a b), .bool (dkB op d x y m b)])) := by
  refine pureX (u := 80) (k := 20) mix (TA2ok 4) ?_
  rw [r_dox1_4]
  rw [do_no (.inr (by omega)), dk_no (.inr (by omega))]
  cases hr : rtB op d x y m <;> simp only [hf, hr, decide_true, decide_false, cond_true, cond_false, pk_and, pk_or, pk3, pk4, Bool.not_true, Bool.not_false]
theorem dox1_5 {op d x y m a b : Int} (hf : fmI op = 5) : Pure Try.prog 55 (cons [.agg 5 [.int .i64 op, .int .i64 d, .int .i64 x, .int .i64 y, .int .i64 m], .int .u32 a, .int .u32 b]) (con (.tup [.int .u32 (doI op d x y m a b), .bool (dkB op d x y m b)])) := by
  refine pureX (u := 80) (k := 20) mix (TA2ok 5) ?_
  rw [r_dox1_5]
  rw [do_no (.inr (by omega)), dk_no (.inr (by omega))]
  cases hr : rtB op d x y m <;> simp only [hf, hr, decide_true, decide_false, cond_true, cond_false, pk_and, pk_or, pk3, pk4, Bool.not_true, Bool.not_false]
theorem dox1_6 {op d x y m a b : Int} (hf : fmI op = 6) : Pure Try.prog 55 (cons [.agg 5 [.int .i64 op, .int .i64 d, .int .i64 x, .int .i64 y, .int .i64 m], .int .u32 a, .int .u32 b]) (con (.tup [.int .u32 (doI op d x y m a b), .bool (dkB op d x y m b)])) := by
  refine pureX (u := 80) (k := 20) mix (TA2ok 6) ?_
  rw [r_dox1_6]
  rw [do_no (.inr (by omega)), dk_no (.inr (by omega))]
  cases hr : rtB op d x y m <;> simp only [hf, hr, decide_true, decide_false, cond_true, cond_false, pk_and, pk_or, pk3, pk4, Bool.not_true, Bool.not_false]
theorem dox1_7 {op d x y m a b : Int} (hf : fmI op = 7) : Pure Try.prog 55 (cons [.agg 5 [.int .i64 op, .int .i64 d, .int .i64 x, .int .i64 y, .int .i64 m], .int .u32 a, .int .u32 b]) (con (.tup [.int .u32 (doI op d x y m a b), .bool (dkB op d x y m b)])) := by
  refine pureX (u := 80) (k := 20) mix (TA2ok 7) ?_
  rw [r_dox1_7]
  rw [do_no (.inr (by omega)), dk_no (.inr (by omega))]
  cases hr : rtB op d x y m <;> simp only [hf, hr, decide_true, decide_false, cond_true, cond_false, pk_and, pk_or, pk3, pk4, Bool.not_true, Bool.not_false]
theorem dox1_8 {op d x y m a b : Int} (hf : fmI op = 8) : Pure Try.prog 55 (cons [.agg 5 [.int .i64 op, .int .i64 d, .int .i64 x, .int .i64 y, .int .i64 m], .int .u32 a, .int .u32 b]) (con (.tup [.int .u32 (doI op d x y m a b), .bool (dkB op d x y m b)])) := by
  refine pureX (u := 80) (k := 20) mix (TA2ok 8) ?_
  rw [r_dox1_8]
  rw [do_no (.inr (by omega)), dk_no (.inr (by omega))]
  cases hr : rtB op d x y m <;> simp only [hf, hr, decide_true, decide_false, cond_true, cond_false, pk_and, pk_or, pk3, pk4, Bool.not_true, Bool.not_false]
theorem doA1 {op d x y m a b : Int} (h0 : 0 ≤ a) (h1 : a ≤ 4294967295) (h2 : 0 ≤ b) (h3 : b ≤ 4294967295) : Pure Try.prog 55 (cons [.agg 5 [.int .i64 op, .int .i64 d, .int .i64 x, .int .i64 y, .int .i64 m], .int .u32 a, .int .u32 b]) (con (.tup [.int .u32 (doI op d x y m a b), .bool (dkB op d x y m b)])) := by
  rcases fm_in op with h | h | h | h | h | h | h | h | h
  · exact dox1_0 h
  · have := fm1 h
    have hc : op = 1 ∨ op = 2 ∨ op = 3 ∨ op = 4 ∨ op = 5 ∨ op = 6 ∨ op = 7 ∨ op = 8 ∨ op = 9 ∨ op = 10 ∨ op = 11 ∨ op = 12 ∨ op = 13 ∨ op = 14 ∨ op = 15 ∨ op = 16 := by omega
    rcases hc with rfl | rfl | rfl | rfl | rfl | rfl | rfl | rfl | rfl | rfl | rfl | rfl | rfl | rfl | rfl | rfl
    · exact do1_1 h0 h1 h2 h3
    · exact do1_2 h0 h1 h2 h3
    · exact do1_3 h0 h1 h2 h3
    · exact do1_4 h0 h1 h2 h3
    · exact do1_5 h0 h1 h2 h3
    · exact do1_6 h0 h1 h2 h3
    · exact do1_7 h0 h1 h2 h3
    · exact do1_8 h0 h1 h2 h3
    · exact do1_9 h0 h1 h2 h3
    · exact do1_10 h0 h1 h2 h3
    · exact do1_11 h0 h1 h2 h3
    · exact do1_12 h0 h1 h2 h3
    · exact do1_13 h0 h1 h2 h3
    · exact do1_14 h0 h1 h2 h3
    · exact do1_15 h0 h1 h2 h3
    · exact do1_16 h0 h1 h2 h3
  · have := fm2 h
    have hc : op = 17 ∨ op = 18 ∨ op = 19 ∨ op = 20 ∨ op = 21 ∨ op = 22 ∨ op = 23 ∨ op = 24 := by omega
    rcases hc with rfl | rfl | rfl | rfl | rfl | rfl | rfl | rfl
    · exact do1_17 h0 h1 h2 h3
    · exact do1_18 h0 h1 h2 h3
    · exact do1_19 h0 h1 h2 h3
    · exact do1_20 h0 h1 h2 h3
    · exact do1_21 h0 h1 h2 h3
    · exact do1_22 h0 h1 h2 h3
    · exact do1_23 h0 h1 h2 h3
    · exact do1_24 h0 h1 h2 h3
  · have := fm3 h
    subst this
    exact do1_25 h0 h1 h2 h3
  · exact dox1_4 h
  · exact dox1_5 h
  · exact dox1_6 h
  · exact dox1_7 h
  · exact dox1_8 h
theorem sp_do1 : SpOk Try.prog (55, doSp) := fun args nd v h hn => by
  simp only [doSp] at h
  split at h
  · simp only [Option.some.injEq, Prod.mk.injEq] at h
    obtain ⟨rfl, rfl⟩ := h
    simp only [allT_cons, decide_eq_true_eq] at hn
    exact doA1 hn.1 hn.2.1 hn.2.2.1 hn.2.2.2.1
  · cases h
end Go.Proofs.Ytmfbaglhmiadjaa

/- Branches, what shows that the layer is there, and the tables of the laws. -/
namespace Go.Proofs.Ytmfbaglhmiadjaa
open Go.Ra
set_option linter.unusedVariables false
set_option linter.unusedSimpArgs false
/-- Is a branch taken? -/
def tkB (op a b : Int) : Bool :=
  if op = 34 then decide (a = b) else if op = 35 then !decide (a = b) else if op = 36 then decide (i32 a < i32 b) else if op = 37 then !decide (i32 a < i32 b)
  else if op = 38 then decide (a < b) else if op = 39 then !decide (a < b) else false
def tkSp : List XV → Option (List Bool × XV)
  | [.int .i64 op, .int .u32 a, .int .u32 b] => some ([decide (0 ≤ a), decide (a ≤ 4294967295), decide (0 ≤ b), decide (b ≤ 4294967295)], .bool (tkB op a b))
  | _ => none
/-- How long an operation takes. -/
def ltI (mul div op : Int) : Int := if op = 11 ∨ op = 12 then (if mul < 1 ∨ mul > 50 then 1 else mul) else if 13 ≤ op ∧ op ≤ 16 then (if div < 1 ∨ div > 50 then 1 else div) else 1
def ltSp : List XV → Option (List Bool × XV)
  | [.agg 12 [.int .i64 _, .int .i64 _, .int .i64 _, .int .i64 _, .int .i64 _, .int .i64 _, .int .i64 _, .int .i64 _, .int .i64 _, .int .i64 _, .int .i64 mul, .int .i64 div], .int .i64 op] => some ([], .int .i64 (ltI mul div op))
  | _ => none
def alvSp : List XV → Option (List Bool × XV)
  | [] => some ([], .bool true)
  | _ => none
theorem r_tk1 (op a b : Int) (K : XV → Prop) : (quietGo (TA2 0) 80 (callI (TA2 0) 80 20) 53 [.int .i64 op, .int .u32 a, .int .u32 b] K) = (bif decide (op = 34) then K (.bool (decide (a = b)))
else bif decide (op = 35) then K (.bool (decide ¬a = b)) else bif decide (op = 36) then K (.bool (decide
 (IntKind.wrap .i32 a < IntKind.wrap .i32 b))) else bif decide (op = 37) then K (.bool (decide (IntKind.wrap .i32 a ≥ IntKind.wrap .i32 b))) else bif decide (op =
 38) then K (.bool (decide (a < b))) else bif decide (op = 39) then K (.bool (decide (a ≥ b))) else K (.bool false)) := by kernel_rfl
theorem r_tk2 (op a b : Int) (K : XV → Prop) : (quietGo (TA2 0) 80 (callI (TA2 0) 80 20) 39 [.int .i64 op, .int .u32 a, .int .u32 b] K) = (bif decide (op = 34) then K (.bool (decide (a = b)))
else bif decide (op = 35) then K (.bool (decide ¬a = b)) else bif decide (op = 36) then bif decide (0 ≤
 a) then bif decide (a ≤ 4294967295) then bif decide (0 ≤ b) then bif decide (b ≤ 4294967295) then K (.bool (decide (i32 a < i32 b))) else False else False else False
 else False else bif decide (op = 37) then bif decide (0 ≤ a) then bif decide (a ≤ 4294967295) then bif decide (0 ≤ b) then bif decide (b ≤ 4294967295) then K (.bool
 (decide (i32 a ≥ i32 b))) else False else False else False else False else bif decide (op = 38) then K (.bool (decide (a < b))) else bif decide (op = 39) then K
 (.bool (decide (a ≥ b))) else K (.bool false)) := by kernel_rfl
theorem tk1 {op a b : Int} (h0 : 0 ≤ a) (h1 : a ≤ 4294967295) (h2 : 0 ≤ b) (h3 : b ≤ 4294967295) : Pure Try.prog 53 (cons [.int .i64 op, .int .u32 a, .int .u32 b]) (con (.bool (tkB op a b))) := by
  refine pureX (u := 80) (k := 20) mix (TA2ok 0) ?_
  rw [r_tk1]
  try simp only [h0, h1, h2, h3, decide_true, cond_true, pk_or, pk_and]
  unfold tkB i32
  by_cases g34 : op = 34
  · subst g34
    simp [← Int.not_lt]
  by_cases g35 : op = 35
  · subst g35
    simp [← Int.not_lt]
  by_cases g36 : op = 36
  · subst g36
    simp [← Int.not_lt]
  by_cases g37 : op = 37
  · subst g37
    simp [← Int.not_lt]
  by_cases g38 : op = 38
  · subst g38
    simp [← Int.not_lt]
  by_cases g39 : op = 39
  · subst g39
    simp [← Int.not_lt]
  simp [g34, g35, g36, g37, g38, g39]
theorem sp_tk1 : SpOk Try.prog (53, tkSp) := fun args nd v h hn => by
  simp only [tkSp] at h
  split at h
  · simp only [Option.some.injEq, Prod.mk.injEq] at h
    obtain ⟨rfl, rfl⟩ := h
    simp only [allT_cons, decide_eq_true_eq] at hn
    exact tk1 hn.1 hn.2.1 hn.2.2.1 hn.2.2.2.1
  · cases h
theorem tk2 {op a b : Int} (h0 : 0 ≤ a) (h1 : a ≤ 4294967295) (h2 : 0 ≤ b) (h3 : b ≤ 4294967295) : Pure Try.prog 39 (cons [.int .i64 op, .int .u32 a, .int .u32 b]) (con (.bool (tkB op a b))) := by
  refine pureX (u := 80) (k := 20) mix (TA2ok 0) ?_
  rw [r_tk2]
  try simp only [h0, h1, h2, h3, decide_true, cond_true, pk_or, pk_and]
  unfold tkB i32
  by_cases g34 : op = 34
  · subst g34
    simp [← Int.not_lt]
  by_cases g35 : op = 35
  · subst g35
    simp [← Int.not_lt]
  by_cases g36 : op = 36
  · subst g36
    simp [← Int.not_lt]
  by_cases g37 : op = 37
  · subst g37
    simp [← Int.not_lt]
  by_cases g38 : op = 38
  · subst g38
    simp [← Int.not_lt]
  by_cases g39 : op = 39
  · subst g39
    simp [← Int.not_lt]
  simp [g34, g35, g36, g37, g38, g39]
theorem sp_tk2 : SpOk Try.prog (39, tkSp) := fun args nd v h hn => by
  simp only [tkSp] at h
  split at h
  · simp only [Option.some.injEq, Prod.mk.injEq] at h
    obtain ⟨rfl, rfl⟩ := h
    simp only [allT_cons, decide_eq_true_eq] at hn
    exact tk2 hn.1 hn.2.1 hn.2.2.1 hn.2.2.2.1
  · cases h
theorem one_rng (b : Bool) : 0 ≤ oneI b ∧ oneI b ≤ 1 := by cases b <;> decide
theorem mod_rng (n : Int) : 0 ≤ n % 4294967296 ∧ n % 4294967296 ≤ 4294967295 := by omega
theorem ite_rng {c : Prop} [Decidable c] {x y : Int} (h1 : c → 0 ≤ x ∧ x ≤ 4294967295) (h2 : ¬ c → 0 ≤ y ∧ y ≤ 4294967295) : 0 ≤ (if c then x else y) ∧ (if c then x else y) ≤ 4294967295 := by
  by_cases h : c
  · rw [if_pos h]; exact h1 h
  · rw [if_neg h]; exact h2 h
theorem alW_rng (p : Int) {a b : Int} (h0 : 0 ≤ a) (h1 : a ≤ 4294967295) (h2 : 0 ≤ b) (h3 : b ≤ 4294967295) : 0 ≤ alW p a b ∧ alW p a b ≤ 4294967295 := by
  obtain ⟨A, rfl⟩ := Int.eq_ofNat_of_zero_le h0
  obtain ⟨B, rfl⟩ := Int.eq_ofNat_of_zero_le h2
  have hA : A < 4294967296 := by omega
  have hB : B < 4294967296 := by omega
  have g1 := and_lt (B := B) hA
  have g2 := or_lt hA hB
  have g3 := xor_lt hA hB
  have g4 := one_rng (decide (i32 (A : Int) < i32 (B : Int)))
  have g5 := one_rng (decide ((A : Int) < (B : Int)))
  have g6 : 0 ≤ (A : Int) / 2 ^ ((B : Int) % 32).toNat := Int.ediv_nonneg h0 (Int.pow_nonneg (by omega))
  have g7 : (A : Int) / 2 ^ ((B : Int) % 32).toNat ≤ A := Int.ediv_le_self _ h0
  have g8 := udiv_rng (b := (B : Int)) h0 h1 h2
  unfold alW
  rw [bAnd hA hB, bOr hA hB, bXor hA hB]
  repeat' refine ite_rng (fun _ => ?_) (fun _ => ?_)
  all_goals first | exact mod_rng _ | omega | exact umod_rng h0 h1 (by omega) h3
theorem do_rng (op d x y m : Int) {a b : Int} (h0 : 0 ≤ a) (h1 : a ≤ 4294967295) (h2 : 0 ≤ b) (h3 : b ≤ 4294967295) : 0 ≤ doI op d x y m a b ∧ doI op d x y m a b ≤ 4294967295 := by
  unfold doI
  split
  · omega
  split
  · omega
  split
  · exact alW_rng _ h0 h1 (by omega) (by omega)
  · exact alW_rng _ h0 h1 h2 h3
end Go.Proofs.Ytmfbaglhmiadjaa

/- What the small functions on bytes give, and the document's. -/
namespace Go.Proofs.Ytmfbaglhmiadjaa
open Go.Ra
set_option linter.unusedVariables false
set_option linter.unusedSimpArgs false
def TB1 : Tab := mkT qq (cl_bytes ++ cl_ref1 ++ cl_slices) [] gl_slices
/-- How many bytes an operation has. -/
def szI (op : Int) : Int := if op = 26 ∨ op = 31 then 4 else if op = 27 ∨ op = 28 ∨ op = 32 then 2 else if op = 29 ∨ op = 30 ∨ op = 33 then 1 else 0
def szSp : List XV → Option (List Bool × XV)
  | [.int .i64 op] => some ([], .int .i64 (szI op))
  | _ => none
/-- What is wrong with so many bytes at an address. -/
def chkI (s a n : Int) : Int := if s ≥ 1 ∧ ¬ (IntKind.i64.wrap a).tmod s = 0 then 1 else if (s > 0 ∧ (s > n ∨ IntKind.i64.wrap a > IntKind.i64.wrap (n - s))) ∨ (s ≤ 0 ∧ IntKind.i64.wrap (IntKind.i64.wrap a + s) > n) then 2 else 0
def chkSp : List XV → Option (List Bool × XV)
  | [.int .i64 s, .int .u32 a, .int .i64 n] => some ([], .int .i64 (chkI s a n))
  | _ => none
/-- A word's lowest bytes with their sign. -/
def extI (op w : Int) : Int := if op = 27 then (if w % 65536 ≥ 32768 then w % 65536 + 4294901760 else w % 65536) else if op = 29 then (if w % 256 ≥ 128 then w % 256 + 4294967040 else w % 256) else w
def extSp : List XV → Option (List Bool × XV)
  | [.int .i64 op, .int .u32 w] => some ([decide (0 ≤ w), decide (w ≤ 4294967295)], .int .u32 (extI op w))
  | _ => none
/-- A word's lowest bytes. -/
def mskI (w n : Int) : Int := if n = 1 then bitsI .and .u32 w 255 else if n = 2 then bitsI .and .u32 w 65535 else if n = 4 then w else 0
def mskSp : List XV → Option (List Bool × XV)
  | [.int .u32 w, .int .i64 n] => some ([], .int .u32 (mskI w n))
  | _ => none
/-- Is b one of the n from a on? -/
def befB (a n b : Int) : Bool := bif decide (a ≤ b) then decide (IntKind.u64.wrap (IntKind.u64.wrap b - IntKind.u64.wrap a) < IntKind.u64.wrap n) else false
def befSp : List XV → Option (List Bool × XV)
  | [.int .i64 a, .int .i64 n, .int .i64 b] => some ([], .bool (befB a n b))
  | _ => none
/-- The form of an operation. -/
def formI (op : Int) : Int := if op < 1 ∨ op > 41 then 0 else if op ≤ 16 then 1 else if op ≤ 24 then 2 else if op = 25 then 3 else if op ≤ 30 then 4 else if op ≤ 33 then 5 else if op ≤ 39 then 6 else if op = 40 then 7 else 8
def formSp : List XV → Option (List Bool × XV)
  | [.int .i64 op] => some ([], .int .i64 (formI op))
  | _ => none
theorem TB1ok : TabOk Try.prog TB1 := mkT_ok ((clok_bytes.app clok_ref1).app clok_slices) trivial glok_slices
theorem r_size1 (op : Int) (K : XV → Prop) : (quietGo TB1 80 (callI TB1 80 20) 68 [.int .i64 op] K) = (bif decide (op = 26) then bif decide (op = 26) then K (.int .i64 4) else bif decide (op = 27) then bif decide (op = 27) then K (.int .i64 2) else bif decide
 (op = 29) then bif decide (op = 29) then K (.int .i64 1) else K (.int .i64 0) else bif decide (op = 30) then bif decide (op = 30) then K (.int .i64 1) else K (.int
 .i64 0) else bif decide (op = 33) then K (.int .i64 1) else K (.int .i64 0) else bif decide (op = 28) then bif decide (op = 28) then K (.int .i64 2) else bif decide
 (op = 29) then bif decide (op = 29) then K (.int .i64 1) else K (.int .i64 0) else bif decide (op = 30) then bif decide (op = 30) then K (.int .i64 1) else K (.int
 .i64 0) else bif decide (op = 33) then K (.int .i64 1) else K (.int .i64 0) else bif decide (op = 32) then K (.int .i64 2) else bif decide (op = 29) then bif decide
 (op = 29) then K (.int .i64 1) else K (.int .i64 0) else bif decide (op = 30) then bif decide (op = 30) then K (.int .i64 1) else K (.int .i64 0) else bif decide
 (op = 33) then K (.int .i64 1) else K (.int .i64 0)
else bif decide (op = 31) then K (.int .i64 4) else bif decide (op = 27) then bif decide (op = 27) then K (.int
 .i64 2) else bif decide (op = 29) then bif decide (op = 29) then K (.int .i64 1) else K (.int .i64 0) else bif decide (op = 30) then bif decide (op = 30) then K
 (.int .i64 1) else K (.int .i64 0) else bif decide (op = 33) then K (.int .i64 1) else K (.int .i64 0) else bif decide (op = 28) then bif decide (op = 28) then K
 (.int .i64 2) else bif decide (op = 29) then bif decide (op = 29) then K (.int .i64 1) else K (.int .i64 0) else bif decide (op = 30) then bif decide (op = 30) then
 K (.int .i64 1) else K (.int .i64 0) else bif decide (op = 33) then K (.int .i64 1) else K (.int .i64 0) else bif decide (op = 32) then K (.int .i64 2) else bif
 decide (op = 29) then bif decide (op = 29) then K (.int .i64 1) else K (.int .i64 0) else bif decide (op = 30) then bif decide (op = 30) then K (.int .i64 1) else
 K (.int .i64 0) else bif decide (op = 33) then K (.int .i64 1) else K (.int .i64 0)) := by kernel_rfl
theorem r_size2 (op : Int) (K : XV → Prop) : (quietGo TB1 80 (callI TB1 80 20) 35 [.int .i64 op] K) = (bif decide (op = 26) then bif decide (op = 26) then K (.int .i64 4) else bif decide (op = 27) then bif decide (op = 27) then K (.int .i64 2) else bif decide
 (op = 29) then bif decide (op = 29) then K (.int .i64 1) else K (.int .i64 0) else bif decide (op = 30) then bif decide (op = 30) then K (.int .i64 1) else K (.int
 .i64 0) else bif decide (op = 33) then K (.int .i64 1) else K (.int .i64 0) else bif decide (op = 28) then bif decide (op = 28) then K (.int .i64 2) else bif decide
 (op = 29) then bif decide (op = 29) then K (.int .i64 1) else K (.int .i64 0) else bif decide (op = 30) then bif decide (op = 30) then K (.int .i64 1) else K (.int
 .i64 0) else bif decide (op = 33) then K (.int .i64 1) else K (.int .i64 0) else bif decide (op = 32) then K (.int .i64 2) else bif decide (op = 29) then bif decide
 (op = 29) then K (.int .i64 1) else K (.int .i64 0) else bif decide (op = 30) then bif decide (op = 30) then K (.int .i64 1) else K (.int .i64 0) else bif decide
 (op = 33) then K (.int .i64 1) else K (.int .i64 0)
else bif decide (op = 31) then K (.int .i64 4) else bif decide (op = 27) then bif decide (op = 27) then K (.int
 .i64 2) else bif decide (op = 29) then bif decide (op = 29) then K (.int .i64 1) else K (.int .i64 0) else bif decide (op = 30) then bif decide (op = 30) then K
 (.int .i64 1) else K (.int .i64 0) else bif decide (op = 33) then K (.int .i64 1) else K (.int .i64 0) else bif decide (op = 28) then bif decide (op = 28) then K
 (.int .i64 2) else bif decide (op = 29) then bif decide (op = 29) then K (.int .i64 1) else K (.int .i64 0) else bif decide (op = 30) then bif decide (op = 30) then
 K (.int .i64 1) else K (.int .i64 0) else bif decide (op = 33) then K (.int .i64 1) else K (.int .i64 0) else bif decide (op = 32) then K (.int .i64 2) else bif
 decide (op = 29) then bif decide (op = 29) then K (.int .i64 1) else K (.int .i64 0) else bif decide (op = 30) then bif decide (op = 30) then K (.int .i64 1) else
 K (.int .i64 0) else bif decide (op = 33) then K (.int .i64 1) else K (.int .i64 0)) := by kernel_rfl
theorem r_check1 (s a n : Int) (K : XV → Prop) : (quietGo TB1 80 (callI TB1 80 20) 70 [.int .i64 s, .int .u32 a, .int .i64 n] K) = (bif bif !decide (s = 0) then true else !decide (s ≥ 1) then bif bif decide (s ≥ 1) then decide (s ≥ 1) else true then bif bif decide (s ≥ 1) then decide ¬Int.tmod
 (IntKind.wrap .i64 a) s = 0 else false then K (.int .i64 1) else bif bif decide (s > 0) then true else !decide (s > 0) then bif bif bif decide (s > n) then true
 else bif decide (s > 0) then !decide (s > n) else false then true else !decide (s > 0) then bif bif decide (s > 0) then decide (s > 0) else true then bif bif !bif
 decide (s > 0) then bif decide (s > n) then true else decide (IntKind.wrap .i64 a > IntKind.wrap .i64 (n - s)) else false then true else !!bif decide (s > 0) then
 bif decide (s > n) then true else decide (IntKind.wrap .i64 a > IntKind.wrap .i64 (n - s)) else false then bif bif bif decide (s ≤ 0) then bif !bif decide (s > 0)
 then bif decide (s > n) then true else decide (IntKind.wrap .i64 a > IntKind.wrap .i64 (n - s)) else false then decide (s ≤ 0) else false else true then true else
 !!bif decide (s > 0) then bif decide (s > n) then true else decide (IntKind.wrap .i64 a > IntKind.wrap .i64 (n - s)) else false then bif bif bif decide (s > 0) then
 bif decide (s > n) then true else decide (IntKind.wrap .i64 a > IntKind.wrap .i64 (n - s)) else false then true else !bif decide (s > 0) then bif decide (s > n)
 then true else decide (IntKind.wrap .i64 a > IntKind.wrap .i64 (n - s)) else false then bif bif bif decide (s > 0) then bif decide (s > n) then true else decide
 (IntKind.wrap .i64 a > IntKind.wrap .i64 (n - s)) else false then true else bif decide (s ≤ 0) then decide (IntKind.wrap .i64 (IntKind.wrap .i64 a + s) > n) else
 false then K (.int .i64 2) else K (.int .i64 0) else False else False else False else False else False else False else False
else False) := by kernel_rfl
theorem r_check2 (s a n : Int) (K : XV → Prop) : (quietGo TB1 80 (callI TB1 80 20) 15 [.int .i64 s, .int .u32 a, .int .i64 n] K) = (bif bif !decide (s = 0) then true else !decide (s ≥ 1) then bif bif decide (s ≥ 1) then decide (s ≥ 1) else true then bif bif decide (s ≥ 1) then decide ¬Int.tmod
 (IntKind.wrap .i64 a) s = 0 else false then K (.int .i64 1) else bif bif decide (s > 0) then true else !decide (s > 0) then bif bif bif decide (n < s) then true
 else bif decide (s > 0) then !decide (n < s) else false then true else !decide (s > 0) then bif bif decide (s > 0) then decide (s > 0) else true then bif bif !bif
 decide (s > 0) then bif decide (n < s) then true else decide (IntKind.wrap .i64 a > IntKind.wrap .i64 (n - s)) else false then true else !!bif decide (s > 0) then
 bif decide (n < s) then true else decide (IntKind.wrap .i64 a > IntKind.wrap .i64 (n - s)) else false then bif bif bif decide (s ≤ 0) then bif !bif decide (s > 0)
 then bif decide (n < s) then true else decide (IntKind.wrap .i64 a > IntKind.wrap .i64 (n - s)) else false then decide (s ≤ 0) else false else true then true else
 !!bif decide (s > 0) then bif decide (n < s) then true else decide (IntKind.wrap .i64 a > IntKind.wrap .i64 (n - s)) else false then bif bif bif decide (s > 0) then
 bif decide (n < s) then true else decide (IntKind.wrap .i64 a > IntKind.wrap .i64 (n - s)) else false then true else !bif decide (s > 0) then bif decide (n < s)
 then true else decide (IntKind.wrap .i64 a > IntKind.wrap .i64 (n - s)) else false then bif bif bif decide (s > 0) then bif decide (n < s) then true else decide
 (IntKind.wrap .i64 a > IntKind.wrap .i64 (n - s)) else false then true else bif decide (s ≤ 0) then decide (n < IntKind.wrap .i64 (IntKind.wrap .i64 a + s)) else
 false then K (.int .i64 2) else K (.int .i64 0) else False else False else False else False else False else False else False
else False) := by kernel_rfl
theorem r_sign1 (op w : Int) (K : XV → Prop) : (quietGo TB1 80 (callI TB1 80 20) 76 [.int .i64 op, .int .u32 w] K) = (bif decide (op = 27) then K (.int .u32 (IntKind.wrap .u32 (IntKind.wrap .i32 (IntKind.wrap .i16 w))))
else bif decide (op = 29) then K (.int .u32 (IntKind.wrap
 .u32 (IntKind.wrap .i32 (IntKind.wrap .i8 w)))) else K (.int .u32 w)) := by kernel_rfl
theorem r_sign2 (op w : Int) (K : XV → Prop) : (quietGo TB1 80 (callI TB1 80 20) 60 [.int .i64 op, .int .u32 w] K) = (bif decide (op = 27) then bif decide (IntKind.wrap .i64 (IntKind.wrap .u32 (w * (65536 : Int))) ≥ 2147483648) then K (.int .u32 (IntKind.wrap .u32 (Int.fdiv
 (IntKind.wrap .i64 (IntKind.wrap .i64 (IntKind.wrap .u32 (w * (65536 : Int))) - (4294967296 : Int))) (65536 : Int)))) else K (.int .u32 (IntKind.wrap .u32 (Int.fdiv
 (IntKind.wrap .i64 (IntKind.wrap .u32 (w * (65536 : Int)))) (65536 : Int))))
else bif decide (op = 29) then bif decide (IntKind.wrap .i64 (IntKind.wrap .u32 (w *
 (16777216 : Int))) ≥ 2147483648) then K (.int .u32 (IntKind.wrap .u32 (Int.fdiv (IntKind.wrap .i64 (IntKind.wrap .i64 (IntKind.wrap .u32 (w * (16777216 : Int)))
 - (4294967296 : Int))) (16777216 : Int)))) else K (.int .u32 (IntKind.wrap .u32 (Int.fdiv (IntKind.wrap .i64 (IntKind.wrap .u32 (w * (16777216 : Int)))) (16777216
 : Int)))) else K (.int .u32 w)) := by kernel_rfl
theorem r_mask (a n : Int) (K : XV → Prop) : (quietGo TB1 80 (callI TB1 80 20) 16 [.int .u32 a, .int .i64 n] K) = (bif decide (n = 1) then K (.int .u32 (bitsI .and .u32 a (255 : Int)))
else bif decide (n = 2) then K (.int .u32 (bitsI .and .u32 a (65535 : Int))) else bif decide
 (n = 4) then K (.int .u32 a) else K (.int .u32 0)) := by kernel_rfl
theorem r_form (a : Int) (K : XV → Prop) : (quietGo TB1 80 (callI TB1 80 20) 26 [.int .i64 a] K) = (bif bif decide (a < 1) then true else !decide (a < 1) then bif bif decide (a < 1) then true else decide (a > 41) then K (.int .i64 0) else bif decide (a ≤ 16)
 then K (.int .i64 1) else bif decide (a ≤ 24) then K (.int .i64 2) else bif decide (a = 25) then K (.int .i64 3) else bif decide (a ≤ 30) then K (.int .i64 4) else
 bif decide (a ≤ 33) then K (.int .i64 5) else bif decide (a ≤ 39) then K (.int .i64 6) else bif decide (a = 40) then K (.int .i64 7) else K (.int .i64 8)
else False)
 := by kernel_rfl
theorem size1 (op : Int) : Pure Try.prog 68 (cons [.int .i64 op]) (con (.int .i64 (szI op))) := by
  refine pureX (u := 80) (k := 20) mix TB1ok ?_
  rw [r_size1]
  unfold szI
  by_cases h1 : op = 26
  · subst h1; simp
  by_cases h2 : op = 27
  · subst h2; simp
  by_cases h3 : op = 28
  · subst h3; simp
  by_cases h4 : op = 29
  · subst h4; simp
  by_cases h5 : op = 30
  · subst h5; simp
  by_cases h6 : op = 31
  · subst h6; simp
  by_cases h7 : op = 32
  · subst h7; simp
  by_cases h8 : op = 33
  · subst h8; simp
  simp [h1, h2, h3, h4, h5, h6, h7, h8]
theorem sp_size1 : SpOk Try.prog (68, szSp) := by
  intro args nd v ha hn
  simp only [szSp] at ha
  split at ha <;> simp only [Option.some.injEq, Prod.mk.injEq, reduceCtorEq] at ha
  obtain ⟨hnd, rfl⟩ := ha
  clear hnd hn
  exact size1 _
theorem sp_size2 : SpOk Try.prog (35, szSp) := by
  intro args nd v ha hn
  simp only [szSp] at ha
  split at ha <;> simp only [Option.some.injEq, Prod.mk.injEq, reduceCtorEq] at ha
  obtain ⟨hnd, rfl⟩ := ha
  clear hnd hn
  rename_i op
  refine pureX (u := 80) (k := 20) mix TB1ok ?_
  rw [r_size2]
  unfold szI
  by_cases h1 : op = 26
  · subst h1; simp
  by_cases h2 : op = 27
  · subst h2; simp
  by_cases h3 : op = 28
  · subst h3; simp
  by_cases h4 : op = 29
  · subst h4; simp
  by_cases h5 : op = 30
  · subst h5; simp
  by_cases h6 : op = 31
  · subst h6; simp
  by_cases h7 : op = 32
  · subst h7; simp
  by_cases h8 : op = 33
  · subst h8; simp
  simp [h1, h2, h3, h4, h5, h6, h7, h8]
theorem check_res (s a n : Int) : quietGo TB1 80 (callI TB1 80 20) 70 [.int .i64 s, .int .u32 a, .int .i64 n] (fun v => con v = con (.int .i64 (chkI s a n))) := by
  rw [r_check1]
  unfold chkI
  by_cases h1 : s ≥ 1
  · have h0 : ¬ s = 0 := by omega
    have h2 : s > 0 := by omega
    have h3 : ¬ s ≤ 0 := by omega
    by_cases h4 : (IntKind.i64.wrap a).tmod s = 0
    · by_cases h5 : s > n
      · simp [h0, h1, h2, h3, h4, h5]
      · by_cases h6 : IntKind.i64.wrap a > IntKind.i64.wrap (n - s)
        · simp [h0, h1, h2, h3, h4, h5, h6]
        · simp [h0, h1, h2, h3, h4, h5, h6]
    · simp [h0, h1, h2, h3, h4]
  · have h2 : ¬ s > 0 := by omega
    have h3 : s ≤ 0 := by omega
    by_cases h6 : IntKind.i64.wrap (IntKind.i64.wrap a + s) > n
    · simp [h1, h2, h3, h6]
    · simp [h1, h2, h3, h6]
theorem sp_check1 : SpOk Try.prog (70, chkSp) := by
  intro args nd v ha hn
  simp only [chkSp] at ha
  split at ha <;> simp only [Option.some.injEq, Prod.mk.injEq, reduceCtorEq] at ha
  obtain ⟨hnd, rfl⟩ := ha
  clear hnd hn
  exact pureX mix TB1ok (check_res _ _ _)
theorem sp_check2 : SpOk Try.prog (15, chkSp) := by
  intro args nd v ha hn
  simp only [chkSp] at ha
  split at ha <;> simp only [Option.some.injEq, Prod.mk.injEq, reduceCtorEq] at ha
  obtain ⟨hnd, rfl⟩ := ha
  clear hnd hn
  rename_i s a n
  refine pureX (u := 80) (k := 20) mix TB1ok ?_
  have h := check_res s a n
  rw [r_check1] at h
  rw [r_check2]
  exact h
theorem sp_sign : SpOk Try.prog (76, extSp) := by
  intro args nd v ha hn
  simp only [extSp] at ha
  split at ha <;> simp only [Option.some.injEq, Prod.mk.injEq, reduceCtorEq] at ha
  obtain ⟨rfl, rfl⟩ := ha
  simp only [allT_cons, decide_eq_true_eq] at hn
  obtain ⟨h1, h2, hnil⟩ := hn
  refine pureX (u := 80) (k := 20) mix TB1ok ?_
  rw [r_sign1]
  unfold extI
  rename_i op w
  by_cases ho : op = 27
  · simp only [ho, decide_true, cond_true, if_true, wU32, wI32, wI16]
    refine conI ?_
    split <;> omega
  · by_cases ho2 : op = 29
    · simp only [ho, ho2, decide_true, decide_false, cond_true, cond_false, if_true, if_false, wU32, wI32, wI8]
      refine conI ?_
      split <;> omega
    · simp only [ho, ho2, decide_false, cond_false, if_false]
theorem sp_ext : SpOk Try.prog (60, extSp) := by
  intro args nd v ha hn
  simp only [extSp] at ha
  split at ha <;> simp only [Option.some.injEq, Prod.mk.injEq, reduceCtorEq] at ha
  obtain ⟨rfl, rfl⟩ := ha
  simp only [allT_cons, decide_eq_true_eq] at hn
  obtain ⟨h1, h2, hnil⟩ := hn
  refine pureX (u := 80) (k := 20) mix TB1ok ?_
  rw [r_sign2]
  unfold extI
  rename_i op w
  by_cases ho : op = 27
  · simp only [ho, decide_true, cond_true, if_true, wU32, wI64]
    rw [fdivE (by omega), fdivE (by omega)]
    refine cnd2 (fun h => ?_) (fun h => ?_) <;> simp only [decide_eq_true_eq, decide_eq_false_iff_not] at h <;> refine conI ?_ <;> split <;> omega
  · by_cases ho2 : op = 29
    · subst ho2
      simp only [show ¬ (29 : Int) = 27 by decide, decide_true, decide_false, cond_true, cond_false, if_true, if_false, wU32, wI64]
      rw [fdivE (by omega), fdivE (by omega)]
      refine cnd2 (fun h => ?_) (fun h => ?_) <;> simp only [decide_eq_true_eq, decide_eq_false_iff_not] at h <;> refine conI ?_ <;> split <;> omega
    · simp only [ho, ho2, decide_false, cond_false, if_false]
theorem sp_mask : SpOk Try.prog (16, mskSp) := by
  intro args nd v ha hn
  simp only [mskSp] at ha
  split at ha <;> simp only [Option.some.injEq, Prod.mk.injEq, reduceCtorEq] at ha
  obtain ⟨hnd, rfl⟩ := ha
  clear hnd hn
  rename_i w n
  refine pureX (u := 80) (k := 20) mix TB1ok ?_
  rw [r_mask]
  unfold mskI
  by_cases h1 : n = 1
  · subst h1; simp
  by_cases h2 : n = 2
  · subst h2; simp
  by_cases h3 : n = 4
  · subst h3; simp
  simp [h1, h2, h3]
theorem form_res (op : Int) : quietGo TB1 80 (callI TB1 80 20) 26 [.int .i64 op] (fun v => con v = con (.int .i64 (formI op))) := by
  rw [r_form]
  unfold formI
  simp only [pk_or, cond_true]
  by_cases h0 : op < 1 ∨ op > 41
  · rw [if_pos h0]
    rcases h0 with h | h <;> simp [h]
  · rw [if_neg h0]
    have h1 : ¬ op < 1 := fun h => h0 (.inl h)
    have h2 : ¬ op > 41 := fun h => h0 (.inr h)
    simp only [h1, h2, decide_false, cond_false]
    by_cases h3 : op ≤ 16
    · simp only [h3, decide_true, cond_true, if_true]
    simp only [h3, decide_false, cond_false, if_false]
    by_cases h4 : op ≤ 24
    · simp only [h4, decide_true, cond_true, if_true]
    simp only [h4, decide_false, cond_false, if_false]
    by_cases h5 : op = 25
    · simp only [h5, decide_true, cond_true, if_true]
    simp only [h5, decide_false, cond_false, if_false]
    by_cases h6 : op ≤ 30
    · simp only [h6, decide_true, cond_true, if_true]
    simp only [h6, decide_false, cond_false, if_false]
    by_cases h7 : op ≤ 33
    · simp only [h7, decide_true, cond_true, if_true]
    simp only [h7, decide_false, cond_false, if_false]
    by_cases h8 : op ≤ 39
    · simp only [h8, decide_true, cond_true, if_true]
    simp only [h8, decide_false, cond_false, if_false]
    by_cases h9 : op = 40
    · simp only [h9, decide_true, cond_true, if_true]
    simp only [h9, decide_false, cond_false, if_false]
theorem sp_form : SpOk Try.prog (26, formSp) := by
  intro args nd v ha hn
  simp only [formSp] at ha
  split at ha <;> simp only [Option.some.injEq, Prod.mk.injEq, reduceCtorEq] at ha
  obtain ⟨hnd, rfl⟩ := ha
  exact pureX mix TB1ok (form_res _)
end Go.Proofs.Ytmfbaglhmiadjaa

/- What loads and stores give. -/
namespace Go.Proofs.Ytmfbaglhmiadjaa
open Go.Ra
set_option linter.unusedVariables false
set_option linter.unusedSimpArgs false
def TB2 : Tab := mkT qq (cl_bytes ++ cl_ref1 ++ cl_slices) [(68, szSp), (35, szSp), (26, formSp), (70, chkSp), (15, chkSp), (76, extSp), (60, extSp)] gl_slices
def o_by (f : Nat → XV) (i : Nat) : XV := .int .u8 (asN (f i))
/-- So many bytes of memory, the lowest first. -/
def wrd (f : Nat → XV) (a : Nat) : Nat → Int
  | 0 => 0
  | i + 1 => wrd f a i + asN (f (a + i)) * 2 ^ (8 * i)
/-- What a load has. -/
def loadI (n : Nat) (f : Nat → XV) (op a : Int) : Int := if op ≥ 26 ∧ op ≤ 30 ∧ chkI (szI op) a n = 0 then extI op (wrd f a.toNat (szI op).toNat) else 0
def loadG (n : Nat) (f : Nat → XV) : List XV → Option (List Bool × XV)
  | [.int .i64 op, .int .u32 a] => some ([rngB n f, decide (0 ≤ a), decide (a ≤ 4294967295)], .int .u32 (loadI n f op a))
  | _ => none
def loadSp := rowKSp 1 (.i .u8) 1099511627776 loadG
theorem TB2ok : TabOk Try.prog TB2 := mkT_ok ((clok_bytes.app clok_ref1).app clok_slices) ⟨sp_size1, sp_size2, sp_form, sp_check1, sp_check2, sp_sign, sp_ext, trivial⟩ glok_slices
theorem sz_load {op : Int} (h1 : op ≥ 26) (h2 : op ≤ 30) : szI op = 1 ∨ szI op = 2 ∨ szI op = 4 := by
  unfold szI
  by_cases h3 : op = 26 ∨ op = 31
  · simp [h3]
  · rw [if_neg h3]
    by_cases h4 : op = 27 ∨ op = 28 ∨ op = 32
    · simp [h4]
    · rw [if_neg h4, if_pos (by omega)]; exact .inl rfl
theorem chk_in {s a : Int} {n : Nat} (hs : s = 1 ∨ s = 2 ∨ s = 4) (h0 : 0 ≤ a) (h1 : a ≤ 4294967295) (hn : n ≤ 1099511627776) (h : chkI s a n = 0) : a + s ≤ n ∧ a % s = 0 := by
  unfold chkI at h
  split at h
  · cases h
  · rename_i h2
    split at h
    · cases h
    · rename_i h3
      have h4 : IntKind.i64.wrap a = a := wrap_i64 (by omega) (by omega)
      have h5 : IntKind.i64.wrap ((n : Int) - s) = n - s := wrap_i64 (by omega) (by omega)
      rw [h4] at h2 h3
      rw [h5] at h3
      have h6 : a.tmod s = 0 := Classical.byContradiction fun h => h2 ⟨by omega, h⟩
      rw [Int.tmod_eq_emod_of_nonneg h0] at h6
      refine ⟨?_, h6⟩
      have h7 : ¬ (s > n ∨ a > n - s) := fun h => h3 (.inl ⟨by omega, h⟩)
      omega
theorem wrd_bd {n : Nat} {f : Nat → XV} (hb : ∀ i, i < n → 0 ≤ asN (f i) ∧ asN (f i) ≤ 255) (a : Nat) : ∀ i, a + i ≤ n → 0 ≤ wrd f a i ∧ wrd f a i < 2 ^ (8 * i)
  | 0, _ => by simp [wrd]
  | i + 1, h => by
    obtain ⟨h1, h2⟩ := wrd_bd hb a i (by omega)
    obtain ⟨h3, h4⟩ := hb (a + i) (by omega)
    simp only [wrd]
    have h5 : (2 : Int) ^ (8 * (i + 1)) = 256 * 2 ^ (8 * i) := by
      rw [show 8 * (i + 1) = 8 * i + 8 by omega, Int.pow_add]
      omega
    rw [h5]
    have hp : (0 : Int) < 2 ^ (8 * i) := Int.pow_pos (by omega)
    generalize (2 : Int) ^ (8 * i) = p at *
    have h6 : asN (f (a + i)) * p ≤ 255 * p := Int.mul_le_mul_of_nonneg_right h4 (by omega)
    have h7 : 0 ≤ asN (f (a + i)) * p := Int.mul_nonneg h3 (by omega)
    omega
theorem wrd_step {n : Nat} {f : Nat → XV} (hb : ∀ i, i < n → 0 ≤ asN (f i) ∧ asN (f i) ≤ 255) (a i : Nat) (hi : i < 4) (h : a + i < n) :
    bitsI .or .u32 (wrd f a i) (IntKind.u32.wrap (IntKind.u32.wrap (asN (f (a + i))) * 2 ^ (8 * i))) = wrd f a (i + 1) := by
  obtain ⟨h1, h2⟩ := wrd_bd hb a i (by omega)
  obtain ⟨h3, h4⟩ := hb (a + i) h
  have h5 : IntKind.u32.wrap (asN (f (a + i))) = asN (f (a + i)) := wrap_u32 h3 (by omega)
  rw [h5]
  have hp : (0 : Int) < 2 ^ (8 * i) ∧ (2 : Int) ^ (8 * i) ≤ 16777216 := by
    rcases (by omega : i = 0 ∨ i = 1 ∨ i = 2 ∨ i = 3) with rfl | rfl | rfl | rfl <;> simp
  have h6 : 0 ≤ asN (f (a + i)) * 2 ^ (8 * i) := Int.mul_nonneg h3 (by omega)
  have h7 : asN (f (a + i)) * 2 ^ (8 * i) ≤ 255 * 2 ^ (8 * i) := Int.mul_le_mul_of_nonneg_right h4 (by omega)
  have h8 : IntKind.u32.wrap (asN (f (a + i)) * 2 ^ (8 * i)) = asN (f (a + i)) * 2 ^ (8 * i) := by
    generalize (2 : Int) ^ (8 * i) = p at *
    exact wrap_u32 h6 (by omega)
  rw [h8, or_u32 h1 h2 h3 (by generalize (2 : Int) ^ (8 * i) = p at *; omega)]
  rfl
theorem r_load1 (x : Bool) (n : Nat) (f : Nat → XV) (op a : Int) (r : AV) : (goS Try.prog TB2 [(.tmp 6)] r (.run c_bytes_Load) [] ⟨envX 0 [.row x 1 n (o_by f), .int .i64 op, .int .u32 a], [], 0⟩) = (bif bif decide (op ≥ 26) then decide (op ≥ 26) else true then bif bif !bif decide (op ≥ 26) then decide (op ≤ 30) else false then true else !!bif decide (op
 ≥ 26) then decide (op ≤ 30) else false then bif bif !bif decide (op ≥ 26) then decide (op ≤ 30) else false then true else decide ¬chkI (szI op) a (↑n : Int) = 0
 then con (.int .u32 0) = r else LoopAt (Ok Try.prog (Tab.q TB2)) c_bytes_Load_l1 (XSt.mk [(24, .int .i64 0), (23, .int .i64 (szI op)), (8, .int .u32 0), (6, .int
 .u32 0), (0, .row x 1 n (o_by fun a => f a)), (1, .int .i64 op), (2, .int .u32 a)] [] 0) [Frm.blk 0, Frm.seq c_bytes_Load_p1] (finR [AR.tmp 6] r) else False
else
 False) := by kernel_rfl
theorem r_load1b (x : Bool) (n : Nat) (f : Nat → XV) (op a w sz : Int) (i : Nat) (r : AV) (A : XSt → Prop) : (goS Try.prog TB2 [(.tmp 6)] r (.run c_bytes_Load_l1) [.lp c_bytes_Load_l1 A, .blk 0, .seq c_bytes_Load_p1] ⟨[(24, .int .i64 i), (23, .int .i64 sz), (8, .int .u32 w), (6, .int .u32 0), (0, .row x 1 n (o_by f)), (1, .int .i64 op), (2, .int .u32 a)], [], 0⟩) = (bif decide ((↑i : Int) < sz) then bif decide (0 ≤ IntKind.wrap .i64 (IntKind.wrap .i64 a + (↑i : Int))) then bif decide (IntKind.wrap .i64 (IntKind.wrap .i64
 a + (↑i : Int)) < (↑n : Int)) then bif decide (0 ≤ IntKind.wrap .i64 ((8 : Int) * (↑i : Int))) then A (XSt.mk [(24, .int .i64 (IntKind.wrap .i64 ((↑i : Int) + (1
 : Int)))), (8, .int .u32 (bitsI .or .u32 w (IntKind.wrap .u32 (IntKind.wrap .u32 (asN (f (Int.toNat (IntKind.wrap .i64 (IntKind.wrap .i64 a + (↑i : Int)))))) * (2
 : Int) ^ Nat.min (Int.toNat (IntKind.wrap .i64 ((8 : Int) * (↑i : Int)))) 32)))), (23, .int .i64 sz), (6, .int .u32 0), (0, .row x 1 n (o_by fun a => f a)), (1,
 .int .i64 op), (2, .int .u32 a)] [] 0) else False else False else False
else bif decide (0 ≤ w) then bif decide (w ≤ 4294967295) then con (.int .u32 (extI op w))
 = r else False else False) := by kernel_rfl
theorem sp_load : SpOk Try.prog (71, loadSp) := rowKSp_ok fun x n f rest nd v hn hg hnd => by
  unfold loadG at hg
  split at hg <;> simp only [Option.some.injEq, Prod.mk.injEq, reduceCtorEq] at hg
  obtain ⟨rfl, rfl⟩ := hg
  rename_i op a
  simp only [allT_cons, decide_eq_true_eq, rngB_iff] at hnd
  obtain ⟨hb, h0, h1, hnil⟩ := hnd
  refine pureS mix TB2ok t_bytes_Load (Nat.le_of_ble_eq_true rfl) ?_
  refine Eq.mpr (r_load1 x n f op a _) ?_
  unfold loadI
  by_cases h2 : op ≥ 26
  case neg => simp [h2]
  by_cases h3 : op ≤ 30
  case neg => simp [h2, h3]
  by_cases h4 : chkI (szI op) a n = 0
  case neg => simp [h2, h3, h4]
  simp only [h2, h3, h4, and_self, decide_true, decide_false, cond_true, cond_false, allN_true, Nat.le_refl, Int.toNat_natCast, Nat.beq_refl, pk_and, pk_or, Bool.not_true, Bool.not_false, not_true_eq_false, not_false_eq_true, Bool.and_true, Bool.true_and, Bool.and_self, ge_iff_le, Int.le_refl, if_true, if_false, reduceCtorEq, eq_self, BEq.rfl]
  have hs := sz_load h2 h3
  obtain ⟨h5, _⟩ := chk_in hs h0 h1 hn h4
  have hsz : ((szI op).toNat : Int) = szI op := by omega
  refine loopS mix TB2ok (fun i : Nat => ⟨[(24, .int .i64 i), (23, .int .i64 (szI op)), (8, .int .u32 (wrd f a.toNat i)), (6, .int .u32 0), (0, .row x 1 n (o_by f)), (1, .int .i64 op), (2, .int .u32 a)], [], 0⟩) (fun i => i ≤ (szI op).toNat) (fun i => (szI op).toNat - i) 0 (Nat.zero_le _) (weakN ⟨le_is rfl, le_is rfl, le_is rfl, le_is rfl, le_is rfl, le_is rfl, le_is rfl, trivial⟩ trivial (Nat.le_refl _)) ?_
  intro i hi
  rw [r_load1b]
  by_cases hlt : i < (szI op).toNat
  · have g1 : (i : Int) < szI op := by omega
    have g2 : IntKind.i64.wrap (IntKind.i64.wrap a + i) = a + i := by rw [wrap_i64 (x := a) (by omega) (by omega), wrap_i64 (by omega) (by omega)]
    have g3 : IntKind.i64.wrap (8 * (i : Int)) = 8 * i := wrap_i64 (by omega) (by omega)
    have g4 : (0 : Int) ≤ a + i := by omega
    have g5 : a + (i : Int) < n := by omega
    have g6 : (0 : Int) ≤ 8 * (i : Int) := by omega
    have g7 : Nat.min (8 * (i : Int)).toNat 32 = 8 * i := by
      have : (8 * (i : Int)).toNat = 8 * i := by omega
      rw [this]
      exact Nat.min_eq_left (by omega)
    have g8 : (a + (i : Int)).toNat = a.toNat + i := by omega
    simp only [g1, g2, g3, g4, g5, g6, g7, g8, decide_true, decide_false, cond_true, cond_false, allN_true, Nat.le_refl, Int.toNat_natCast, Nat.beq_refl, pk_and, pk_or, Bool.not_true, Bool.not_false, not_true_eq_false, not_false_eq_true, Bool.and_true, Bool.true_and, Bool.and_self, ge_iff_le, Int.le_refl, if_true, if_false, reduceCtorEq, eq_self, BEq.rfl]
    refine ⟨i + 1, by omega, weakN ⟨le_is (conI ?_), le_is rfl, le_is (conI (wrd_step hb _ _ (by omega) (by omega))), le_is rfl, le_is rfl, le_is rfl, le_is rfl, trivial⟩ trivial (Nat.le_refl _), by omega⟩
    rw [wrap_i64 (by omega) (by omega)]; rfl
  · have g1 : ¬ (i : Int) < szI op := by omega
    have g2 : i = (szI op).toNat := by omega
    obtain ⟨g3, g4⟩ := wrd_bd hb a.toNat i (by omega)
    have g5 : wrd f a.toNat i ≤ 4294967295 := by
      have : (2 : Int) ^ (8 * i) ≤ 4294967296 := by
        rcases (by omega : i = 1 ∨ i = 2 ∨ i = 4) with rfl | rfl | rfl <;> simp
      omega
    simp only [g1, g3, g5, decide_true, decide_false, cond_true, cond_false, allN_true, Nat.le_refl, Int.toNat_natCast, Nat.beq_refl, pk_and, pk_or, Bool.not_true, Bool.not_false, not_true_eq_false, not_false_eq_true, Bool.and_true, Bool.true_and, Bool.and_self, ge_iff_le, Int.le_refl, if_true, if_false, reduceCtorEq, eq_self, BEq.rfl]
    rw [g2]
end Go.Proofs.Ytmfbaglhmiadjaa

/- What stores give. -/
namespace Go.Proofs.Ytmfbaglhmiadjaa
open Go.Ra
set_option linter.unusedVariables false
set_option linter.unusedSimpArgs false
def TB3 : Tab := mkT qq (cl_bytes ++ cl_ref1 ++ cl_slices) [(70, chkSp), (15, chkSp)] gl_slices
/-- May so many bytes be written there? -/
def okW (n : Nat) (a s : Int) : Bool := decide ((s = 1 ∨ s = 2 ∨ s = 4) ∧ 0 ≤ a ∧ a ≤ 4294967295 ∧ chkI s a n = 0)
/-- Memory with so many bytes of a word written into it. -/
def o_sto (c : Bool) (f : Nat → XV) (a s : Nat) (v : Int) (i : Nat) : XV := .int .u8 (bif (c && (decide (a ≤ i) && decide (i < a + s))) then v / 2 ^ (8 * (i - a)) % 256 else asN (f i))
def stoG (n : Nat) (f : Nat → XV) : List XV → Option (List Bool × XV)
  | [.agg 3 [.int .i64 a, .int .i64 s, .int .u32 v]] => some ([], .row false 1 n (o_sto (okW n a s) f a.toNat s.toNat v))
  | _ => none
def stoSp := rowKSp 1 (.i .u8) 1099511627776 stoG
theorem TB3ok : TabOk Try.prog TB3 := mkT_ok ((clok_bytes.app clok_ref1).app clok_slices) ⟨sp_check1, sp_check2, trivial⟩ glok_slices
theorem okW_iff {n : Nat} {a s : Int} : okW n a s = true ↔ (s = 1 ∨ s = 2 ∨ s = 4) ∧ 0 ≤ a ∧ a ≤ 4294967295 ∧ chkI s a n = 0 := by simp [okW]
theorem okW_not {n : Nat} {a s : Int} (hs : s = 1 ∨ s = 2 ∨ s = 4) (h : okW n a s = false) : (bif bif decide (a < 0) then true else decide (a > 4294967295) then true else decide (¬ chkI s (IntKind.u32.wrap a) n = 0)) = true := by
  by_cases h1 : a < 0
  · simp [h1]
  · by_cases h2 : a > 4294967295
    · simp [h1, h2]
    · have h3 : IntKind.u32.wrap a = a := wrap_u32 (by omega) (by omega)
      have h4 : ¬ chkI s a n = 0 := fun h4 => by
        have : okW n a s = true := okW_iff.2 ⟨hs, by omega, by omega, h4⟩
        rw [h] at this; cases this
      rw [h3]
      simp [h4]
theorem sto_false {f : Nat → XV} {a s : Nat} {v : Int} {i : Nat} : o_sto false f a s v i = .int .u8 (asN (f i)) := rfl
theorem sto_in {f : Nat → XV} {a s : Nat} {v : Int} {i j : Nat} (hj : j < s) (hi : i = a + j) : o_sto true f a s v i = .int .u8 (v / 2 ^ (8 * j) % 256) := by
  subst hi
  simp only [o_sto]
  rw [show (true && (decide (a ≤ a + j) && decide (a + j < a + s))) = true by simp; omega, show a + j - a = j by omega]
  rfl
theorem sto_out {f : Nat → XV} {a s : Nat} {v : Int} {i : Nat} (h : i < a ∨ a + s ≤ i) : o_sto true f a s v i = .int .u8 (asN (f i)) := by
  simp only [o_sto]
  rw [show (true && (decide (a ≤ i) && decide (i < a + s))) = false by simp; omega]
  rfl
theorem r_rsto0 (x : Bool) (n : Nat) (f : Nat → XV) (a s v : Int) (K : XV → Prop) : (quietGo TB3 5 (callI TB3 5 20) 17 [.row x 1 n (o_by f), .agg 3 [.int .i64 a, .int .i64 s, .int .u32 v]] K) = (bif decide (n * 1 ≤ 140737488355328) then bif bif decide ¬s = 1 then decide ¬s = 1 else true then bif bif bif decide ¬s = 1 then decide ¬s = 2 else false then
 bif decide ¬s = 1 then decide ¬s = 2 else false else true then bif bif bif bif decide ¬s = 1 then decide ¬s = 2 else false then decide ¬s = 4 else false then true
 else !bif bif decide ¬s = 1 then decide ¬s = 2 else false then decide ¬s = 4 else false then bif bif bif bif bif decide ¬s = 1 then decide ¬s = 2 else false then
 decide ¬s = 4 else false then true else decide (a < 0) then true else !bif bif bif decide ¬s = 1 then decide ¬s = 2 else false then decide ¬s = 4 else false then
 true else decide (a < 0) then bif bif bif bif bif bif decide ¬s = 1 then decide ¬s = 2 else false then decide ¬s = 4 else false then true else decide (a < 0) then
 true else decide (a > 4294967295) then true else !bif bif bif bif decide ¬s = 1 then decide ¬s = 2 else false then decide ¬s = 4 else false then true else decide
 (a < 0) then true else decide (a > 4294967295) then bif bif bif bif bif bif decide ¬s = 1 then decide ¬s = 2 else false then decide ¬s = 4 else false then true else
 decide (a < 0) then true else decide (a > 4294967295) then true else decide ¬chkI s (IntKind.wrap .u32 a) (↑n : Int) = 0 then bif decide (n ≤ n) then K (.row false
 1 n fun i => .int .u8 (asN (f i))) else False else bif decide (0 < s) then bif decide (0 ≤ IntKind.wrap .i64 (a + (0 : Int))) then bif decide (IntKind.wrap .i64
 (a + (0 : Int)) < (↑n : Int)) then bif Nat.beq (Int.toNat (IntKind.wrap .i64 (a + (0 : Int))) * 1) (Int.toNat (IntKind.wrap .i64 (a + (0 : Int))) * 1) then bif decide
 (Int.toNat (IntKind.wrap .i64 (a + (0 : Int))) < n) then bif decide (Int.toNat (IntKind.wrap .i64 (a + (0 : Int))) < n) then bif decide (1 < s) then bif decide (0
 ≤ IntKind.wrap .i64 (a + (1 : Int))) then bif decide (IntKind.wrap .i64 (a + (1 : Int)) < (↑n : Int)) then bif Nat.beq (Int.toNat (IntKind.wrap .i64 (a + (1 : Int)))
 * 1) (Int.toNat (IntKind.wrap .i64 (a + (1 : Int))) * 1) then bif decide (Int.toNat (IntKind.wrap .i64 (a + (1 : Int))) < n) then bif decide (Int.toNat (IntKind.wrap
 .i64 (a + (1 : Int))) < n) then bif decide (2 < s) then bif decide (0 ≤ IntKind.wrap .i64 (a + (2 : Int))) then bif decide (IntKind.wrap .i64 (a + (2 : Int)) < (↑n
 : Int)) then bif Nat.beq (Int.toNat (IntKind.wrap .i64 (a + (2 : Int))) * 1) (Int.toNat (IntKind.wrap .i64 (a + (2 : Int))) * 1) then bif decide (Int.toNat (IntKind.wrap
 .i64 (a + (2 : Int))) < n) then bif decide (Int.toNat (IntKind.wrap .i64 (a + (2 : Int))) < n) then bif decide (3 < s) then bif decide (0 ≤ IntKind.wrap .i64 (a
 + (3 : Int))) then bif decide (IntKind.wrap .i64 (a + (3 : Int)) < (↑n : Int)) then bif Nat.beq (Int.toNat (IntKind.wrap .i64 (a + (3 : Int))) * 1) (Int.toNat (IntKind.wrap
 .i64 (a + (3 : Int))) * 1) then bif decide (Int.toNat (IntKind.wrap .i64 (a + (3 : Int))) < n) then bif decide (Int.toNat (IntKind.wrap .i64 (a + (3 : Int))) < n)
 then bif decide (4 < s) then bif decide (0 ≤ IntKind.wrap .i64 (a + (4 : Int))) then bif decide (IntKind.wrap .i64 (a + (4 : Int)) < (↑n : Int)) then bif Nat.beq
 (Int.toNat (IntKind.wrap .i64 (a + (4 : Int))) * 1) (Int.toNat (IntKind.wrap .i64 (a + (4 : Int))) * 1) then bif decide (Int.toNat (IntKind.wrap .i64 (a + (4 : Int)))
 < n) then bif decide (Int.toNat (IntKind.wrap .i64 (a + (4 : Int))) < n) then False else False else False else False else False else False else bif decide (n ≤ n)
 then K (.row false 1 n fun i => .int .u8 (bif Nat.beq i (Int.toNat (IntKind.wrap .i64 (a + (3 : Int)))) then IntKind.wrap .u8 (Int.fdiv v (16777216 : Int)) else
 bif Nat.beq i (Int.toNat (IntKind.wrap .i64 (a + (2 : Int)))) then IntKind.wrap .u8 (Int.fdiv v (65536 : Int)) else bif Nat.beq i (Int.toNat (IntKind.wrap .i64 (a
 + (1 : Int)))) then IntKind.wrap .u8 (Int.fdiv v (256 : Int)) else bif Nat.beq i (Int.toNat (IntKind.wrap .i64 (a + (0 : Int)))) then IntKind.wrap .u8 (Int.fdiv
 v (1 : Int)) else asN (f i))) else False else False else False else False else False else False else bif decide (n ≤ n) then K (.row false 1 n fun i => .int .u8
 (bif Nat.beq i (Int.toNat (IntKind.wrap .i64 (a + (2 : Int)))) then IntKind.wrap .u8 (Int.fdiv v (65536 : Int)) else bif Nat.beq i (Int.toNat (IntKind.wrap .i64
 (a + (1 : Int)))) then IntKind.wrap .u8 (Int.fdiv v (256 : Int)) else bif Nat.beq i (Int.toNat (IntKind.wrap .i64 (a + (0 : Int)))) then IntKind.wrap .u8 (Int.fdiv
 v (1 : Int)) else asN (f i))) else False else False else False else False else False else False else bif decide (n ≤ n) then K (.row false 1 n fun i => .int .u8
 (bif Nat.beq i (Int.toNat (IntKind.wrap .i64 (a + (1 : Int)))) then IntKind.wrap .u8 (Int.fdiv v (256 : Int)) else bif Nat.beq i (Int.toNat (IntKind.wrap .i64 (a
 + (0 : Int)))) then IntKind.wrap .u8 (Int.fdiv v (1 : Int)) else asN (f i))) else False else False else False else False else False else False else bif decide (n
 ≤ n) then K (.row false 1 n fun i => .int .u8 (bif Nat.beq i (Int.toNat (IntKind.wrap .i64 (a + (0 : Int)))) then IntKind.wrap .u8 (Int.fdiv v (1 : Int)) else asN
 (f i))) else False else False else False else False else False else False else bif decide (n ≤ n) then K (.row false 1 n fun i => .int .u8 (asN (f i))) else False
 else False else False else False else False else False
else False) := by kernel_rfl
theorem r_rsto1 (x : Bool) (n : Nat) (f : Nat → XV) (a v : Int) (K : XV → Prop) : (quietGo TB3 5 (callI TB3 5 20) 17 [.row x 1 n (o_by f), .agg 3 [.int .i64 a, .int .i64 1, .int .u32 v]] K) = (bif decide (n * 1 ≤ 140737488355328) then bif bif decide (a < 0) then true else !decide (a < 0) then bif bif bif decide (a < 0) then true else decide (a > 4294967295)
 then true else !bif decide (a < 0) then true else decide (a > 4294967295) then bif bif bif decide (a < 0) then true else decide (a > 4294967295) then true else decide
 ¬chkI (1 : Int) (IntKind.wrap .u32 a) (↑n : Int) = 0 then bif decide (n ≤ n) then K (.row false 1 n fun i => .int .u8 (asN (f i))) else False else bif decide (0
 ≤ IntKind.wrap .i64 (a + (0 : Int))) then bif decide (IntKind.wrap .i64 (a + (0 : Int)) < (↑n : Int)) then bif Nat.beq (Int.toNat (IntKind.wrap .i64 (a + (0 : Int)))
 * 1) (Int.toNat (IntKind.wrap .i64 (a + (0 : Int))) * 1) then bif decide (Int.toNat (IntKind.wrap .i64 (a + (0 : Int))) < n) then bif decide (Int.toNat (IntKind.wrap
 .i64 (a + (0 : Int))) < n) then bif decide (n ≤ n) then K (.row false 1 n fun i => .int .u8 (bif Nat.beq i (Int.toNat (IntKind.wrap .i64 (a + (0 : Int)))) then IntKind.wrap
 .u8 (Int.fdiv v (1 : Int)) else asN (f i))) else False else False else False else False else False else False else False else False
else False) := by kernel_rfl 

theorem r_rsto2 (x : Bool) (n : Nat) (f : Nat → XV) (a v : Int) (K : XV → Prop) : (quietGo TB3 5 (callI TB3 5 20) 17 [.row x 1 n (o_by f), .agg 3 [.int .i64 a, .int .i64 2, .int .u32 v]] K) = (bif decide (n * 1 ≤ 140737488355328) then bif bif decide (a < 0) then true else !decide (a < 0) then bif bif bif decide (a < 0) then true else decide (a > 4294967295)
 then true else !bif decide (a < 0) then true else decide (a > 4294967295) then bif bif bif decide (a < 0) then true else decide (a > 4294967295) then true else decide
 ¬chkI (2 : Int) (IntKind.wrap .u32 a) (↑n : Int) = 0 then bif decide (n ≤ n) then K (.row false 1 n fun i => .int .u8 (asN (f i))) else False else bif decide (0
 ≤ IntKind.wrap .i64 (a + (0 : Int))) then bif decide (IntKind.wrap .i64 (a + (0 : Int)) < (↑n : Int)) then bif Nat.beq (Int.toNat (IntKind.wrap .i64 (a + (0 : Int)))
 * 1) (Int.toNat (IntKind.wrap .i64 (a + (0 : Int))) * 1) then bif decide (Int.toNat (IntKind.wrap .i64 (a + (0 : Int))) < n) then bif decide (Int.toNat (IntKind.wrap
 .i64 (a + (0 : Int))) < n) then bif decide (0 ≤ IntKind.wrap .i64 (a + (1 : Int))) then bif decide (IntKind.wrap .i64 (a + (1 : Int)) < (↑n : Int)) then bif Nat.beq
 (Int.toNat (IntKind.wrap .i64 (a + (1 : Int))) * 1) (Int.toNat (IntKind.wrap .i64 (a + (1 : Int))) * 1) then bif decide (Int.toNat (IntKind.wrap .i64 (a + (1 : Int)))
 < n) then bif decide (Int.toNat (IntKind.wrap .i64 (a + (1 : Int))) < n) then bif decide (n ≤ n) then K (.row false 1 n fun i => .int .u8 (bif Nat.beq i (Int.toNat
 (IntKind.wrap .i64 (a + (1 : Int)))) then IntKind.wrap .u8 (Int.fdiv v (256 : Int)) else bif Nat.beq i (Int.toNat (IntKind.wrap .i64 (a + (0 : Int)))) then IntKind.wrap
 .u8 (Int.fdiv v (1 : Int)) else asN (f i))) else False else False else False else False else False else False else False else False else False else False else False
 else False else False
else False) := by kernel_rfl
theorem r_rsto4 (x : Bool) (n : Nat) (f : Nat → XV) (a v : Int) (K : XV → Prop) : (quietGo TB3 5 (callI TB3 5 20) 17 [.row x 1 n (o_by f), .agg 3 [.int .i64 a, .int .i64 4, .int .u32 v]] K) = (bif decide (n * 1 ≤ 140737488355328) then bif bif decide (a < 0) then true else !decide (a < 0) then bif bif bif decide (a < 0) then true else decide (a > 4294967295)
 then true else !bif decide (a < 0) then true else decide (a > 4294967295) then bif bif bif decide (a < 0) then true else decide (a > 4294967295) then true else decide
 ¬chkI (4 : Int) (IntKind.wrap .u32 a) (↑n : Int) = 0 then bif decide (n ≤ n) then K (.row false 1 n fun i => .int .u8 (asN (f i))) else False else bif decide (0
 ≤ IntKind.wrap .i64 (a + (0 : Int))) then bif decide (IntKind.wrap .i64 (a + (0 : Int)) < (↑n : Int)) then bif Nat.beq (Int.toNat (IntKind.wrap .i64 (a + (0 : Int)))
 * 1) (Int.toNat (IntKind.wrap .i64 (a + (0 : Int))) * 1) then bif decide (Int.toNat (IntKind.wrap .i64 (a + (0 : Int))) < n) then bif decide (Int.toNat (IntKind.wrap
 .i64 (a + (0 : Int))) < n) then bif decide (0 ≤ IntKind.wrap .i64 (a + (1 : Int))) then bif decide (IntKind.wrap .i64 (a + (1 : Int)) < (↑n : Int)) then bif Nat.beq
 (Int.toNat (IntKind.wrap .i64 (a + (1 : Int))) * 1) (Int.toNat (IntKind.wrap .i64 (a + (1 : Int))) * 1) then bif decide (Int.toNat (IntKind.wrap .i64 (a + (1 : Int)))
 < n) then bif decide (Int.toNat (IntKind.wrap .i64 (a + (1 : Int))) < n) then bif decide (0 ≤ IntKind.wrap .i64 (a + (2 : Int))) then bif decide (IntKind.wrap .i64
 (a + (2 : Int)) < (↑n : Int)) then bif Nat.beq (Int.toNat (IntKind.wrap .i64 (a + (2 : Int))) * 1) (Int.toNat (IntKind.wrap .i64 (a + (2 : Int))) * 1) then bif decide
 (Int.toNat (IntKind.wrap .i64 (a + (2 : Int))) < n) then bif decide (Int.toNat (IntKind.wrap .i64 (a + (2 : Int))) < n) then bif decide (0 ≤ IntKind.wrap .i64 (a
 + (3 : Int))) then bif decide (IntKind.wrap .i64 (a + (3 : Int)) < (↑n : Int)) then bif Nat.beq (Int.toNat (IntKind.wrap .i64 (a + (3 : Int))) * 1) (Int.toNat (IntKind.wrap
 .i64 (a + (3 : Int))) * 1) then bif decide (Int.toNat (IntKind.wrap .i64 (a + (3 : Int))) < n) then bif decide (Int.toNat (IntKind.wrap .i64 (a + (3 : Int))) < n)
 then bif decide (n ≤ n) then K (.row false 1 n fun i => .int .u8 (bif Nat.beq i (Int.toNat (IntKind.wrap .i64 (a + (3 : Int)))) then IntKind.wrap .u8 (Int.fdiv v
 (16777216 : Int)) else bif Nat.beq i (Int.toNat (IntKind.wrap .i64 (a + (2 : Int)))) then IntKind.wrap .u8 (Int.fdiv v (65536 : Int)) else bif Nat.beq i (Int.toNat
 (IntKind.wrap .i64 (a + (1 : Int)))) then IntKind.wrap .u8 (Int.fdiv v (256 : Int)) else bif Nat.beq i (Int.toNat (IntKind.wrap .i64 (a + (0 : Int)))) then IntKind.wrap
 .u8 (Int.fdiv v (1 : Int)) else asN (f i))) else False else False else False else False else False else False else False else False else False else False else False
 else False else False else False else False else False else False else False else False else False else False else False else False
else False) := by kernel_rfl 

theorem r_rsto1p (x : Bool) (n : Nat) (f : Nat → XV) (a v : Int) (hn : n ≤ 1099511627776) : quietGo TB3 5 (callI TB3 5 20) 17 [.row x 1 n (o_by f), .agg 3 [.int .i64 a, .int .i64 1, .int .u32 v]] (fun u => con u = con (.row false 1 n (o_sto (okW n a 1) f a.toNat 1 v))) := by
  rw [r_rsto1]
  have hb : n * 1 ≤ 140737488355328 := by omega
  simp only [hb, decide_true, decide_false, cond_true, cond_false, allN_true, Nat.le_refl, Int.toNat_natCast, Nat.beq_refl, pk_and, pk_or, Bool.not_true, Bool.not_false, not_true_eq_false, not_false_eq_true, Bool.and_true, Bool.true_and, Bool.and_self, ge_iff_le, Int.le_refl, if_true, if_false, reduceCtorEq, eq_self, BEq.rfl]
  cases hok : okW n a 1 with
  | false =>
    rw [okW_not (by omega) hok]
    simp only [cond_true]
    exact con_row fun i hi => by rw [sto_false]
  | true =>
    obtain ⟨hs, ha, ha2, hch⟩ := okW_iff.1 hok
    obtain ⟨hin, _⟩ := chk_in hs ha ha2 hn hch
    have h1 : ¬ a < 0 := by omega
    have h2 : ¬ a > 4294967295 := by omega
    have h3 : IntKind.u32.wrap a = a := wrap_u32 ha ha2
    have hc : (bif bif decide (a < 0) then true else decide (a > 4294967295) then true else decide (¬ chkI 1 (IntKind.u32.wrap a) n = 0)) = false := by rw [h3]; simp [h1, h2, hch]
    have e0 : (IntKind.i64.wrap (a + 0)).toNat = a.toNat + 0 := by rw [wrap_i64 (by omega) (by omega)]; omega
    have z0 : (0 : Int) ≤ IntKind.i64.wrap (a + 0) := by rw [wrap_i64 (by omega) (by omega)]; omega
    have y0 : IntKind.i64.wrap (a + 0) < n := by rw [wrap_i64 (by omega) (by omega)]; omega
    have x0 : a.toNat + 0 < n := by omega
    simp only [hc, e0, z0, y0, x0, decide_true, decide_false, cond_true, cond_false, allN_true, Nat.le_refl, Int.toNat_natCast, Nat.beq_refl, pk_and, pk_or, Bool.not_true, Bool.not_false, not_true_eq_false, not_false_eq_true, Bool.and_true, Bool.true_and, Bool.and_self, ge_iff_le, Int.le_refl, if_true, if_false, reduceCtorEq, eq_self, BEq.rfl]
    refine con_row fun i hi => ?_
    by_cases h0 : i = a.toNat + 0
    · rw [sto_in (j := 0) (by omega) h0]
      simp only [h0, Nat.beq_refl, cond_true, cond_false]
      rw [fdivE (by omega), wU8]
      rfl
    rw [sto_out (by omega)]
    simp only [beq_ne h0, cond_false]
theorem r_rsto2p (x : Bool) (n : Nat) (f : Nat → XV) (a v : Int) (hn : n ≤ 1099511627776) : quietGo TB3 5 (callI TB3 5 20) 17 [.row x 1 n (o_by f), .agg 3 [.int .i64 a, .int .i64 2, .int .u32 v]] (fun u => con u = con (.row false 1 n (o_sto (okW n a 2) f a.toNat 2 v))) := by
  rw [r_rsto2]
  have hb : n * 1 ≤ 140737488355328 := by omega
  simp only [hb, decide_true, decide_false, cond_true, cond_false, allN_true, Nat.le_refl, Int.toNat_natCast, Nat.beq_refl, pk_and, pk_or, Bool.not_true, Bool.not_false, not_true_eq_false, not_false_eq_true, Bool.and_true, Bool.true_and, Bool.and_self, ge_iff_le, Int.le_refl, if_true, if_false, reduceCtorEq, eq_self, BEq.rfl]
  cases hok : okW n a 2 with
  | false =>
    rw [okW_not (by omega) hok]
    simp only [cond_true]
    exact con_row fun i hi => by rw [sto_false]
  | true =>
    obtain ⟨hs, ha, ha2, hch⟩ := okW_iff.1 hok
    obtain ⟨hin, _⟩ := chk_in hs ha ha2 hn hch
    have h1 : ¬ a < 0 := by omega
    have h2 : ¬ a > 4294967295 := by omega
    have h3 : IntKind.u32.wrap a = a := wrap_u32 ha ha2
    have hc : (bif bif decide (a < 0) then true else decide (a > 4294967295) then true else decide (¬ chkI 2 (IntKind.u32.wrap a) n = 0)) = false := by rw [h3]; simp [h1, h2, hch]
    have e0 : (IntKind.i64.wrap (a + 0)).toNat = a.toNat + 0 := by rw [wrap_i64 (by omega) (by omega)]; omega
    have z0 : (0 : Int) ≤ IntKind.i64.wrap (a + 0) := by rw [wrap_i64 (by omega) (by omega)]; omega
    have y0 : IntKind.i64.wrap (a + 0) < n := by rw [wrap_i64 (by omega) (by omega)]; omega
    have x0 : a.toNat + 0 < n := by omega
    have e1 : (IntKind.i64.wrap (a + 1)).toNat = a.toNat + 1 := by rw [wrap_i64 (by omega) (by omega)]; omega
    have z1 : (0 : Int) ≤ IntKind.i64.wrap (a + 1) := by rw [wrap_i64 (by omega) (by omega)]; omega
    have y1 : IntKind.i64.wrap (a + 1) < n := by rw [wrap_i64 (by omega) (by omega)]; omega
    have x1 : a.toNat + 1 < n := by omega
    simp only [hc, e0, z0, y0, x0, e1, z1, y1, x1, decide_true, decide_false, cond_true, cond_false, allN_true, Nat.le_refl, Int.toNat_natCast, Nat.beq_refl, pk_and, pk_or, Bool.not_true, Bool.not_false, not_true_eq_false, not_false_eq_true, Bool.and_true, Bool.true_and, Bool.and_self, ge_iff_le, Int.le_refl, if_true, if_false, reduceCtorEq, eq_self, BEq.rfl]
    refine con_row fun i hi => ?_
    by_cases h0 : i = a.toNat + 0
    · rw [sto_in (j := 0) (by omega) h0]
      simp only [h0, Nat.beq_refl, beq_ne (show ¬ a.toNat + 0 = a.toNat + 1 by omega), cond_true, cond_false]
      rw [fdivE (by omega), wU8]
      rfl
    by_cases h1 : i = a.toNat + 1
    · rw [sto_in (j := 1) (by omega) h1]
      simp only [h1, Nat.beq_refl, cond_true, cond_false]
      rw [fdivE (by omega), wU8]
      rfl
    rw [sto_out (by omega)]
    simp only [beq_ne h0, beq_ne h1, cond_false]
theorem r_rsto4p (x : Bool) (n : Nat) (f : Nat → XV) (a v : Int) (hn : n ≤ 1099511627776) : quietGo TB3 5 (callI TB3 5 20) 17 [.row x 1 n (o_by f), .agg 3 [.int .i64 a, .int .i64 4, .int .u32 v]] (fun u => con u = con (.row false 1 n (o_sto (okW n a 4) f a.toNat 4 v))) := by
  rw [r_rsto4]
  have hb : n * 1 ≤ 140737488355328 := by omega
  simp only [hb, decide_true, decide_false, cond_true, cond_false, allN_true, Nat.le_refl, Int.toNat_natCast, Nat.beq_refl, pk_and, pk_or, Bool.not_true, Bool.not_false, not_true_eq_false, not_false_eq_true, Bool.and_true, Bool.true_and, Bool.and_self, ge_iff_le, Int.le_refl, if_true, if_false, reduceCtorEq, eq_self, BEq.rfl]
  cases hok : okW n a 4 with
  | false =>
    rw [okW_not (by omega) hok]
    simp only [cond_true]
    exact con_row fun i hi => by rw [sto_false]
  | true =>
    obtain ⟨hs, ha, ha2, hch⟩ := okW_iff.1 hok
    obtain ⟨hin, _⟩ := chk_in hs ha ha2 hn hch
    have h1 : ¬ a < 0 := by omega
    have h2 : ¬ a > 4294967295 := by omega
    have h3 : IntKind.u32.wrap a = a := wrap_u32 ha ha2
    have hc : (bif bif decide (a < 0) then true else decide (a > 4294967295) then true else decide (¬ chkI 4 (IntKind.u32.wrap a) n = 0)) = false := by rw [h3]; simp [h1, h2, hch]
    have e0 : (IntKind.i64.wrap (a + 0)).toNat = a.toNat + 0 := by rw [wrap_i64 (by omega) (by omega)]; omega
    have z0 : (0 : Int) ≤ IntKind.i64.wrap (a + 0) := by rw [wrap_i64 (by omega) (by omega)]; omega
    have y0 : IntKind.i64.wrap (a + 0) < n := by rw [wrap_i64 (by omega) (by omega)]; omega
    have x0 : a.toNat + 0 < n := by omega
    have e1 : (IntKind.i64.wrap (a + 1)).toNat = a.toNat + 1 := by rw [wrap_i64 (by omega) (by omega)]; omega
    have z1 : (0 : Int) ≤ IntKind.i64.wrap (a + 1) := by rw [wrap_i64 (by omega) (by omega)]; omega
    have y1 : IntKind.i64.wrap (a + 1) < n := by rw [wrap_i64 (by omega) (by omega)]; omega
    have x1 : a.toNat + 1 < n := by omega
    have e2 : (IntKind.i64.wrap (a + 2)).toNat = a.toNat + 2 := by rw [wrap_i64 (by omega) (by omega)]; omega
    have z2 : (0 : Int) ≤ IntKind.i64.wrap (a + 2) := by rw [wrap_i64 (by omega) (by omega)]; omega
    have y2 : IntKind.i64.wrap (a + 2) < n := by rw [wrap_i64 (by omega) (by omega)]; omega
    have x2 : a.toNat + 2 < n := by omega
    have e3 : (IntKind.i64.wrap (a + 3)).toNat = a.toNat + 3 := by rw [wrap_i64 (by omega) (by omega)]; omega
    have z3 : (0 : Int) ≤ IntKind.i64.wrap (a + 3) := by rw [wrap_i64 (by omega) (by omega)]; omega
    have y3 : IntKind.i64.wrap (a + 3) < n := by rw [wrap_i64 (by omega) (by omega)]; omega
    have x3 : a.toNat + 3 < n := by omega
    simp only [hc, e0, z0, y0, x0, e1, z1, y1, x1, e2, z2, y2, x2, e3, z3, y3, x3, decide_true, decide_false, cond_true, cond_false, allN_true, Nat.le_refl, Int.toNat_natCast, Nat.beq_refl, pk_and, pk_or, Bool.not_true, Bool.not_false, not_true_eq_false, not_false_eq_true, Bool.and_true, Bool.true_and, Bool.and_self, ge_iff_le, Int.le_refl, if_true, if_false, reduceCtorEq, eq_self, BEq.rfl]
    refine con_row fun i hi => ?_
    by_cases h0 : i = a.toNat + 0
    · rw [sto_in (j := 0) (by omega) h0]
      simp only [h0, Nat.beq_refl, beq_ne (show ¬ a.toNat + 0 = a.toNat + 1 by omega), beq_ne (show ¬ a.toNat + 0 = a.toNat + 2 by omega), beq_ne (show ¬ a.toNat + 0 = a.toNat + 3 by omega), cond_true, cond_false]
      rw [fdivE (by omega), wU8]
      rfl
    by_cases h1 : i = a.toNat + 1
    · rw [sto_in (j := 1) (by omega) h1]
      simp only [h1, Nat.beq_refl, beq_ne (show ¬ a.toNat + 1 = a.toNat + 2 by omega), beq_ne (show ¬ a.toNat + 1 = a.toNat + 3 by omega), cond_true, cond_false]
      rw [fdivE (by omega), wU8]
      rfl
    by_cases h2 : i = a.toNat + 2
    · rw [sto_in (j := 2) (by omega) h2]
      simp only [h2, Nat.beq_refl, beq_ne (show ¬ a.toNat + 2 = a.toNat + 3 by omega), cond_true, cond_false]
      rw [fdivE (by omega), wU8]
      rfl
    by_cases h3 : i = a.toNat + 3
    · rw [sto_in (j := 3) (by omega) h3]
      simp only [h3, Nat.beq_refl, cond_true, cond_false]
      rw [fdivE (by omega), wU8]
      rfl
    rw [sto_out (by omega)]
    simp only [beq_ne h0, beq_ne h1, beq_ne h2, beq_ne h3, cond_false]
theorem sp_rsto : SpOk Try.prog (17, stoSp) := rowKSp_ok fun x n f rest nd v hn hg hnd => by
  unfold stoG at hg
  split at hg <;> simp only [Option.some.injEq, Prod.mk.injEq, reduceCtorEq] at hg
  obtain ⟨rfl, rfl⟩ := hg
  rename_i a s w
  clear hnd
  refine pureX (u := 5) (k := 20) mix TB3ok ?_
  by_cases h1 : s = 1
  · subst h1; exact r_rsto1p x n f a w hn
  by_cases h2 : s = 2
  · subst h2; exact r_rsto2p x n f a w hn
  by_cases h4 : s = 4
  · subst h4; exact r_rsto4p x n f a w hn
  have hok : okW n a s = false := by
    rw [← Bool.not_eq_true]
    intro h
    have := (okW_iff.1 h).1
    omega
  rw [hok]
  refine Eq.mpr (r_rsto0 x n f a s w _) ?_
  have hb : n * 1 ≤ 140737488355328 := by omega
  simp only [hb, h1, h2, h4, decide_true, decide_false, cond_true, cond_false, allN_true, Nat.le_refl, Int.toNat_natCast, Nat.beq_refl, pk_and, pk_or, Bool.not_true, Bool.not_false, not_true_eq_false, not_false_eq_true, Bool.and_true, Bool.true_and, Bool.and_self, ge_iff_le, Int.le_refl, if_true, if_false, reduceCtorEq, eq_self, BEq.rfl]
  exact con_row fun i hi => by rw [sto_false]
end Go.Proofs.Ytmfbaglhmiadjaa

