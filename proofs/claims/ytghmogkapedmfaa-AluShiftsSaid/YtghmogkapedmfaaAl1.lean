/- What the functions that reckon give: forms, and which instructions may be. -/
import Derived.Test.YtghmogkapedmfaaKlaw3
import Derived.Test.YtghmogkapedmfaaKalu
import Derived.Test.YtghmogkapedmfaaKisa
import Derived.Test.YtghmogkapedmfaaKword
import Derived.Test.YtghmogkapedmfaaKref1
import Derived.Test.YtghmogkapedmfaaKmath
import Derived.Test.YtghmogkapedmfaaAl0
namespace Go.Proofs.Ytghmogkapedmfaa
open Go.Ra
set_option linter.unusedVariables false
set_option linter.unusedSimpArgs false
def TA0 : Tab := mkT qq (cl_alu ++ cl_isa ++ cl_word ++ cl_ref1 ++ cl_math) [] []
/-- The form of an operation. -/
def fmI (op : Int) : Int := if op < 1 ∨ op > 41 then 0 else if op ≤ 16 then 1 else if op ≤ 24 then 2 else if op = 25 then 3 else if op ≤ 30 then 4 else if op ≤ 33 then 5 else if op ≤ 39 then 6 else if op = 40 then 7 else 8
def fmSp : List XV → Option (List Bool × XV)
  | [.int .i64 op] => some ([], .int .i64 (fmI op))
  | _ => none
def oneI (b : Bool) : Int := bif b then 1 else 0
def oneSp : List XV → Option (List Bool × XV)
  | [.bool b] => some ([], .int .u32 (oneI b))
  | _ => none
/-- May a field be that? -/
def rgP (n : Int) (h : Prop) : Prop := (h ∧ 0 ≤ n ∧ n ≤ 15) ∨ (¬ h ∧ n = 0)
/-- May an instruction be? -/
def rtP (op f d x y m : Int) : Prop := f ≠ 0 ∧ rgP d (1 ≤ f ∧ f ≤ 4) ∧ rgP x (f = 1 ∨ f = 2 ∨ f = 4 ∨ f = 5 ∨ f = 6) ∧ rgP y (f = 1 ∨ f = 5 ∨ f = 6) ∧ (m = 0 ∨ (2 ≤ f ∧ f ≤ 7 ∧ ((¬ (op = 22 ∨ op = 23 ∨ op = 24) ∧ -8192 ≤ m ∧ m ≤ 8191) ∨ ((op = 22 ∨ op = 23 ∨ op = 24) ∧ 0 ≤ m ∧ m ≤ 31))))
instance {n : Int} {h : Prop} [Decidable h] : Decidable (rgP n h) := by unfold rgP; infer_instance
instance {op f d x y m : Int} : Decidable (rtP op f d x y m) := by unfold rtP; infer_instance
def rtB (op d x y m : Int) : Bool := decide (rtP op (fmI op) d x y m)
def rtSp : List XV → Option (List Bool × XV)
  | [.agg 5 [.int .i64 op, .int .i64 d, .int .i64 x, .int .i64 y, .int .i64 m]] => some ([], .bool (rtB op d x y m))
  | _ => none
/-- The same, where it is known. -/
def fmSpF (f : Int) : List XV → Option (List Bool × XV)
  | [.int .i64 op] => some ([decide (fmI op = f)], .int .i64 f)
  | _ => none
def TA1 (f : Int) : Tab := mkT qq (cl_alu ++ cl_isa ++ cl_word ++ cl_ref1 ++ cl_math) [(24, fmSpF f), (22, fmSpF f)] []
theorem TA0ok : TabOk Try.prog TA0 := mkT_ok ((((clok_alu.app clok_isa).app clok_word).app clok_ref1).app clok_math) trivial trivial
theorem r_fm1 (a : Int) (K : XV → Prop) : (quietGo TA0 80 (callI TA0 80 20) 24 [.int .i64 a] K) =
    (bif bif decide (a < (1 : Int)) then true else !decide (a < (1 : Int)) then
  bif bif decide (a < (1 : Int)) then true else decide (a > (41 : Int)) then K (XV.int IntKind.i64 (0 : Int))
  else
    bif decide (a ≤ (16 : Int)) then K (XV.int IntKind.i64 (1 : Int))
    else
      bif decide (a ≤ (24 : Int)) then K (XV.int IntKind.i64 (2 : Int))
      else
        bif decide (a = (25 : Int)) then K (XV.int IntKind.i64 (3 : Int))
        else
          bif decide (a ≤ (30 : Int)) then K (XV.int IntKind.i64 (4 : Int))
          else
            bif decide (a ≤ (33 : Int)) then K (XV.int IntKind.i64 (5 : Int))
            else bif decide (a ≤ (39 : Int)) then K (XV.int IntKind.i64 (6 : Int)) else bif decide (a = (40 : Int)) then K (XV.int IntKind.i64 (7 : Int)) else K (XV.int IntKind.i64 (8 : Int))
else False) := by kernel_rfl
theorem r_fm2 (a : Int) (K : XV → Prop) : (quietGo TA0 80 (callI TA0 80 20) 22 [.int .i64 a] K) =
    (bif bif decide (a < (1 : Int)) then true else !decide (a < (1 : Int)) then
  bif bif decide (a < (1 : Int)) then true else decide (a > (41 : Int)) then K (XV.int IntKind.i64 (0 : Int))
  else
    bif decide (a ≤ (16 : Int)) then K (XV.int IntKind.i64 (1 : Int))
    else
      bif decide (a ≤ (24 : Int)) then K (XV.int IntKind.i64 (2 : Int))
      else
        bif decide (a = (25 : Int)) then K (XV.int IntKind.i64 (3 : Int))
        else
          bif decide (a ≤ (30 : Int)) then K (XV.int IntKind.i64 (4 : Int))
          else
            bif decide (a ≤ (33 : Int)) then K (XV.int IntKind.i64 (5 : Int))
            else bif decide (a ≤ (39 : Int)) then K (XV.int IntKind.i64 (6 : Int)) else bif decide (a = (40 : Int)) then K (XV.int IntKind.i64 (7 : Int)) else K (XV.int IntKind.i64 (8 : Int))
else False) := by kernel_rfl
theorem r_one1 (a : Bool) (K : XV → Prop) : (quietGo TA0 80 (callI TA0 80 20) 38 [.bool a] K) =
    (bif a then K (XV.int IntKind.u32 (1 : Int)) else K (XV.int IntKind.u32 (0 : Int))) := by kernel_rfl
theorem r_one2 (a : Bool) (K : XV → Prop) : (quietGo TA0 80 (callI TA0 80 20) 29 [.bool a] K) =
    (bif a then K (XV.int IntKind.u32 (1 : Int)) else K (XV.int IntKind.u32 (0 : Int))) := by kernel_rfl
theorem r_rt1_0 (op d x y m : Int) (K : XV → Prop) : (quietGo (TA1 0) 80 (callI (TA1 0) 80 20) 25 [.agg 5 [.int .i64 op, .int .i64 d, .int .i64 x, .int .i64 y, .int .i64 m]] K) =
    (bif decide (fmI op = (0 : Int)) then
  bif bif decide (op = (22 : Int)) then true else !decide (op = (22 : Int)) then
    bif bif bif decide (op = (22 : Int)) then true else decide (op = (23 : Int)) then true else !bif decide (op = (22 : Int)) then true else decide (op = (23 : Int)) then
      bif bif bif decide (op = (22 : Int)) then true else decide (op = (23 : Int)) then true else decide (op = (24 : Int)) then K (XV.bool false) else K (XV.bool false)
    else False
  else False
else False) := by kernel_rfl
theorem r_rt1_1 (op d x y m : Int) (K : XV → Prop) : (quietGo (TA1 1) 80 (callI (TA1 1) 80 20) 25 [.agg 5 [.int .i64 op, .int .i64 d, .int .i64 x, .int .i64 y, .int .i64 m]] K) =
    (bif decide (fmI op = (1 : Int)) then
  bif bif decide (op = (22 : Int)) then true else !decide (op = (22 : Int)) then
    bif bif bif decide (op = (22 : Int)) then true else decide (op = (23 : Int)) then true else !bif decide (op = (22 : Int)) then true else decide (op = (23 : Int)) then
      bif bif bif decide (op = (22 : Int)) then true else decide (op = (23 : Int)) then true else decide (op = (24 : Int)) then
        bif bif decide (d ≥ (0 : Int)) then decide (d ≥ (0 : Int)) else true then
          bif bif decide (d ≥ (0 : Int)) then decide (d ≤ (15 : Int)) else false then
            bif bif decide (x ≥ (0 : Int)) then decide (x ≥ (0 : Int)) else true then
              bif bif bif decide (d ≥ (0 : Int)) then decide (d ≤ (15 : Int)) else false then bif decide (x ≥ (0 : Int)) then decide (x ≤ (15 : Int)) else false else false then
                bif bif decide (y ≥ (0 : Int)) then decide (y ≥ (0 : Int)) else true then
                  bif
                      bif bif bif decide (d ≥ (0 : Int)) then decide (d ≤ (15 : Int)) else false then bif decide (x ≥ (0 : Int)) then decide (x ≤ (15 : Int)) else false else false then
                        bif decide (y ≥ (0 : Int)) then decide (y ≤ (15 : Int)) else false
                      else false then
                    K
                      (XV.bool
                        (bif
                            bif bif bif decide (d ≥ (0 : Int)) then decide (d ≤ (15 : Int)) else false then bif decide (x ≥ (0 : Int)) then decide (x ≤ (15 : Int)) else false else false then
                              bif decide (y ≥ (0 : Int)) then decide (y ≤ (15 : Int)) else false
                            else false then
                          decide (m = (0 : Int))
                        else false))
                  else
                    bif
                        !bif bif bif decide (d ≥ (0 : Int)) then decide (d ≤ (15 : Int)) else false then bif decide (x ≥ (0 : Int)) then decide (x ≤ (15 : Int)) else false else false then
                            bif decide (y ≥ (0 : Int)) then decide (y ≤ (15 : Int)) else false
                          else false then
                      K (XV.bool false)
                    else False
                else False
              else
                bif !bif bif decide (d ≥ (0 : Int)) then decide (d ≤ (15 : Int)) else false then bif decide (x ≥ (0 : Int)) then decide (x ≤ (15 : Int)) else false else false then K (XV.bool false)
                else False
            else False
          else bif !bif decide (d ≥ (0 : Int)) then decide (d ≤ (15 : Int)) else false then K (XV.bool false) else False
        else False
      else
        bif bif decide (d ≥ (0 : Int)) then decide (d ≥ (0 : Int)) else true then
          bif bif decide (d ≥ (0 : Int)) then decide (d ≤ (15 : Int)) else false then
            bif bif decide (x ≥ (0 : Int)) then decide (x ≥ (0 : Int)) else true then
              bif bif bif decide (d ≥ (0 : Int)) then decide (d ≤ (15 : Int)) else false then bif decide (x ≥ (0 : Int)) then decide (x ≤ (15 : Int)) else false else false then
                bif bif decide (y ≥ (0 : Int)) then decide (y ≥ (0 : Int)) else true then
                  bif
                      bif bif bif decide (d ≥ (0 : Int)) then decide (d ≤ (15 : Int)) else false then bif decide (x ≥ (0 : Int)) then decide (x ≤ (15 : Int)) else false else false then
                        bif decide (y ≥ (0 : Int)) then decide (y ≤ (15 : Int)) else false
                      else false then
                    K
                      (XV.bool
                        (bif
                            bif bif bif decide (d ≥ (0 : Int)) then decide (d ≤ (15 : Int)) else false then bif decide (x ≥ (0 : Int)) then decide (x ≤ (15 : Int)) else false else false then
                              bif decide (y ≥ (0 : Int)) then decide (y ≤ (15 : Int)) else false
                            else false then
                          decide (m = (0 : Int))
                        else false))
                  else
                    bif
                        !bif bif bif decide (d ≥ (0 : Int)) then decide (d ≤ (15 : Int)) else false then bif decide (x ≥ (0 : Int)) then decide (x ≤ (15 : Int)) else false else false then
                            bif decide (y ≥ (0 : Int)) then decide (y ≤ (15 : Int)) else false
                          else false then
                      K (XV.bool false)
                    else False
                else False
              else
                bif !bif bif decide (d ≥ (0 : Int)) then decide (d ≤ (15 : Int)) else false then bif decide (x ≥ (0 : Int)) then decide (x ≤ (15 : Int)) else false else false then K (XV.bool false)
                else False
            else False
          else bif !bif decide (d ≥ (0 : Int)) then decide (d ≤ (15 : Int)) else false then K (XV.bool false) else False
        else False
    else False
  else False
else False) := by kernel_rfl
theorem r_rt1_2 (op d x y m : Int) (K : XV → Prop) : (quietGo (TA1 2) 80 (callI (TA1 2) 80 20) 25 [.agg 5 [.int .i64 op, .int .i64 d, .int .i64 x, .int .i64 y, .int .i64 m]] K) =
    (bif decide (fmI op = (2 : Int)) then
  bif bif decide (op = (22 : Int)) then true else !decide (op = (22 : Int)) then
    bif bif bif decide (op = (22 : Int)) then true else decide (op = (23 : Int)) then true else !bif decide (op = (22 : Int)) then true else decide (op = (23 : Int)) then
      bif bif bif decide (op = (22 : Int)) then true else decide (op = (23 : Int)) then true else decide (op = (24 : Int)) then
        bif bif decide (d ≥ (0 : Int)) then decide (d ≥ (0 : Int)) else true then
          bif bif decide (d ≥ (0 : Int)) then decide (d ≤ (15 : Int)) else false then
            bif bif decide (x ≥ (0 : Int)) then decide (x ≥ (0 : Int)) else true then
              bif bif bif decide (d ≥ (0 : Int)) then decide (d ≤ (15 : Int)) else false then bif decide (x ≥ (0 : Int)) then decide (x ≤ (15 : Int)) else false else false then
                bif
                    bif bif bif decide (d ≥ (0 : Int)) then decide (d ≤ (15 : Int)) else false then bif decide (x ≥ (0 : Int)) then decide (x ≤ (15 : Int)) else false else false then
                      decide (y = (0 : Int))
                    else false then
                  bif bif decide (m ≥ (0 : Int)) then decide (m ≥ (0 : Int)) else true then
                    K
                      (XV.bool
                        (bif
                            bif bif bif decide (d ≥ (0 : Int)) then decide (d ≤ (15 : Int)) else false then bif decide (x ≥ (0 : Int)) then decide (x ≤ (15 : Int)) else false else false then
                              decide (y = (0 : Int))
                            else false then
                          bif decide (m ≥ (0 : Int)) then decide (m ≤ (31 : Int)) else false
                        else false))
                  else False
                else
                  bif
                      !bif bif bif decide (d ≥ (0 : Int)) then decide (d ≤ (15 : Int)) else false then bif decide (x ≥ (0 : Int)) then decide (x ≤ (15 : Int)) else false else false then
                          decide (y = (0 : Int))
                        else false then
                    K (XV.bool false)
                  else False
              else
                bif !bif bif decide (d ≥ (0 : Int)) then decide (d ≤ (15 : Int)) else false then bif decide (x ≥ (0 : Int)) then decide (x ≤ (15 : Int)) else false else false then K (XV.bool false)
                else False
            else False
          else bif !bif decide (d ≥ (0 : Int)) then decide (d ≤ (15 : Int)) else false then K (XV.bool false) else False
        else False
      else
        bif bif decide (d ≥ (0 : Int)) then decide (d ≥ (0 : Int)) else true then
          bif bif decide (d ≥ (0 : Int)) then decide (d ≤ (15 : Int)) else false then
            bif bif decide (x ≥ (0 : Int)) then decide (x ≥ (0 : Int)) else true then
              bif bif bif decide (d ≥ (0 : Int)) then decide (d ≤ (15 : Int)) else false then bif decide (x ≥ (0 : Int)) then decide (x ≤ (15 : Int)) else false else false then
                bif
                    bif bif bif decide (d ≥ (0 : Int)) then decide (d ≤ (15 : Int)) else false then bif decide (x ≥ (0 : Int)) then decide (x ≤ (15 : Int)) else false else false then
                      decide (y = (0 : Int))
                    else false then
                  bif bif decide (m ≥ (-8192 : Int)) then decide (m ≥ (-8192 : Int)) else true then
                    K
                      (XV.bool
                        (bif
                            bif bif bif decide (d ≥ (0 : Int)) then decide (d ≤ (15 : Int)) else false then bif decide (x ≥ (0 : Int)) then decide (x ≤ (15 : Int)) else false else false then
                              decide (y = (0 : Int))
                            else false then
                          bif decide (m ≥ (-8192 : Int)) then decide (m ≤ (8191 : Int)) else false
                        else false))
                  else False
                else
                  bif
                      !bif bif bif decide (d ≥ (0 : Int)) then decide (d ≤ (15 : Int)) else false then bif decide (x ≥ (0 : Int)) then decide (x ≤ (15 : Int)) else false else false then
                          decide (y = (0 : Int))
                        else false then
                    K (XV.bool false)
                  else False
              else
                bif !bif bif decide (d ≥ (0 : Int)) then decide (d ≤ (15 : Int)) else false then bif decide (x ≥ (0 : Int)) then decide (x ≤ (15 : Int)) else false else false then K (XV.bool false)
                else False
            else False
          else bif !bif decide (d ≥ (0 : Int)) then decide (d ≤ (15 : Int)) else false then K (XV.bool false) else False
        else False
    else False
  else False
else False) := by kernel_rfl
theorem r_rt1_3 (op d x y m : Int) (K : XV → Prop) : (quietGo (TA1 3) 80 (callI (TA1 3) 80 20) 25 [.agg 5 [.int .i64 op, .int .i64 d, .int .i64 x, .int .i64 y, .int .i64 m]] K) =
    (bif decide (fmI op = (3 : Int)) then
  bif bif decide (op = (22 : Int)) then true else !decide (op = (22 : Int)) then
    bif bif bif decide (op = (22 : Int)) then true else decide (op = (23 : Int)) then true else !bif decide (op = (22 : Int)) then true else decide (op = (23 : Int)) then
      bif bif bif decide (op = (22 : Int)) then true else decide (op = (23 : Int)) then true else decide (op = (24 : Int)) then
        bif bif decide (d ≥ (0 : Int)) then decide (d ≥ (0 : Int)) else true then
          bif bif decide (d ≥ (0 : Int)) then decide (d ≤ (15 : Int)) else false then
            bif bif bif decide (d ≥ (0 : Int)) then decide (d ≤ (15 : Int)) else false then decide (x = (0 : Int)) else false then
              bif bif bif bif decide (d ≥ (0 : Int)) then decide (d ≤ (15 : Int)) else false then decide (x = (0 : Int)) else false then decide (y = (0 : Int)) else false then
                bif bif decide (m ≥ (0 : Int)) then decide (m ≥ (0 : Int)) else true then
                  K
                    (XV.bool
                      (bif bif bif bif decide (d ≥ (0 : Int)) then decide (d ≤ (15 : Int)) else false then decide (x = (0 : Int)) else false then decide (y = (0 : Int)) else false then
                        bif decide (m ≥ (0 : Int)) then decide (m ≤ (31 : Int)) else false
                      else false))
                else False
              else
                bif !bif bif bif decide (d ≥ (0 : Int)) then decide (d ≤ (15 : Int)) else false then decide (x = (0 : Int)) else false then decide (y = (0 : Int)) else false then K (XV.bool false)
                else False
            else bif !bif bif decide (d ≥ (0 : Int)) then decide (d ≤ (15 : Int)) else false then decide (x = (0 : Int)) else false then K (XV.bool false) else False
          else bif !bif decide (d ≥ (0 : Int)) then decide (d ≤ (15 : Int)) else false then K (XV.bool false) else False
        else False
      else
        bif bif decide (d ≥ (0 : Int)) then decide (d ≥ (0 : Int)) else true then
          bif bif decide (d ≥ (0 : Int)) then decide (d ≤ (15 : Int)) else false then
            bif bif bif decide (d ≥ (0 : Int)) then decide (d ≤ (15 : Int)) else false then decide (x = (0 : Int)) else false then
              bif bif bif bif decide (d ≥ (0 : Int)) then decide (d ≤ (15 : Int)) else false then decide (x = (0 : Int)) else false then decide (y = (0 : Int)) else false then
                bif bif decide (m ≥ (-8192 : Int)) then decide (m ≥ (-8192 : Int)) else true then
                  K
                    (XV.bool
                      (bif bif bif bif decide (d ≥ (0 : Int)) then decide (d ≤ (15 : Int)) else false then decide (x = (0 : Int)) else false then decide (y = (0 : Int)) else false then
                        bif decide (m ≥ (-8192 : Int)) then decide (m ≤ (8191 : Int)) else false
                      else false))
                else False
              else
                bif !bif bif bif decide (d ≥ (0 : Int)) then decide (d ≤ (15 : Int)) else false then decide (x = (0 : Int)) else false then decide (y = (0 : Int)) else false then K (XV.bool false)
                else False
            else bif !bif bif decide (d ≥ (0 : Int)) then decide (d ≤ (15 : Int)) else false then decide (x = (0 : Int)) else false then K (XV.bool false) else False
          else bif !bif decide (d ≥ (0 : Int)) then decide (d ≤ (15 : Int)) else false then K (XV.bool false) else False
        else False
    else False
  else False
else False) := by kernel_rfl
theorem r_rt1_4 (op d x y m : Int) (K : XV → Prop) : (quietGo (TA1 4) 80 (callI (TA1 4) 80 20) 25 [.agg 5 [.int .i64 op, .int .i64 d, .int .i64 x, .int .i64 y, .int .i64 m]] K) =
    (bif decide (fmI op = (4 : Int)) then
  bif bif decide (op = (22 : Int)) then true else !decide (op = (22 : Int)) then
    bif bif bif decide (op = (22 : Int)) then true else decide (op = (23 : Int)) then true else !bif decide (op = (22 : Int)) then true else decide (op = (23 : Int)) then
      bif bif bif decide (op = (22 : Int)) then true else decide (op = (23 : Int)) then true else decide (op = (24 : Int)) then
        bif bif decide (d ≥ (0 : Int)) then decide (d ≥ (0 : Int)) else true then
          bif bif decide (d ≥ (0 : Int)) then decide (d ≤ (15 : Int)) else false then
            bif bif decide (x ≥ (0 : Int)) then decide (x ≥ (0 : Int)) else true then
              bif bif bif decide (d ≥ (0 : Int)) then decide (d ≤ (15 : Int)) else false then bif decide (x ≥ (0 : Int)) then decide (x ≤ (15 : Int)) else false else false then
                bif
                    bif bif bif decide (d ≥ (0 : Int)) then decide (d ≤ (15 : Int)) else false then bif decide (x ≥ (0 : Int)) then decide (x ≤ (15 : Int)) else false else false then
                      decide (y = (0 : Int))
                    else false then
                  bif bif decide (m ≥ (0 : Int)) then decide (m ≥ (0 : Int)) else true then
                    K
                      (XV.bool
                        (bif
                            bif bif bif decide (d ≥ (0 : Int)) then decide (d ≤ (15 : Int)) else false then bif decide (x ≥ (0 : Int)) then decide (x ≤ (15 : Int)) else false else false then
                              decide (y = (0 : Int))
                            else false then
                          bif decide (m ≥ (0 : Int)) then decide (m ≤ (31 : Int)) else false
                        else false))
                  else False
                else
                  bif
                      !bif bif bif decide (d ≥ (0 : Int)) then decide (d ≤ (15 : Int)) else false then bif decide (x ≥ (0 : Int)) then decide (x ≤ (15 : Int)) else false else false then
                          decide (y = (0 : Int))
                        else false then
                    K (XV.bool false)
                  else False
              else
                bif !bif bif decide (d ≥ (0 : Int)) then decide (d ≤ (15 : Int)) else false then bif decide (x ≥ (0 : Int)) then decide (x ≤ (15 : Int)) else false else false then K (XV.bool false)
                else False
            else False
          else bif !bif decide (d ≥ (0 : Int)) then decide (d ≤ (15 : Int)) else false then K (XV.bool false) else False
        else False
      else
        bif bif decide (d ≥ (0 : Int)) then decide (d ≥ (0 : Int)) else true then
          bif bif decide (d ≥ (0 : Int)) then decide (d ≤ (15 : Int)) else false then
            bif bif decide (x ≥ (0 : Int)) then decide (x ≥ (0 : Int)) else true then
              bif bif bif decide (d ≥ (0 : Int)) then decide (d ≤ (15 : Int)) else false then bif decide (x ≥ (0 : Int)) then decide (x ≤ (15 : Int)) else false else false then
                bif
                    bif bif bif decide (d ≥ (0 : Int)) then decide (d ≤ (15 : Int)) else false then bif decide (x ≥ (0 : Int)) then decide (x ≤ (15 : Int)) else false else false then
                      decide (y = (0 : Int))
                    else false then
                  bif bif decide (m ≥ (-8192 : Int)) then decide (m ≥ (-8192 : Int)) else true then
                    K
                      (XV.bool
                        (bif
                            bif bif bif decide (d ≥ (0 : Int)) then decide (d ≤ (15 : Int)) else false then bif decide (x ≥ (0 : Int)) then decide (x ≤ (15 : Int)) else false else false then
                              decide (y = (0 : Int))
                            else false then
                          bif decide (m ≥ (-8192 : Int)) then decide (m ≤ (8191 : Int)) else false
                        else false))
                  else False
                else
                  bif
                      !bif bif bif decide (d ≥ (0 : Int)) then decide (d ≤ (15 : Int)) else false then bif decide (x ≥ (0 : Int)) then decide (x ≤ (15 : Int)) else false else false then
                          decide (y = (0 : Int))
                        else false then
                    K (XV.bool false)
                  else False
              else
                bif !bif bif decide (d ≥ (0 : Int)) then decide (d ≤ (15 : Int)) else false then bif decide (x ≥ (0 : Int)) then decide (x ≤ (15 : Int)) else false else false then K (XV.bool false)
                else False
            else False
          else bif !bif decide (d ≥ (0 : Int)) then decide (d ≤ (15 : Int)) else false then K (XV.bool false) else False
        else False
    else False
  else False
else False) := by kernel_rfl
theorem r_rt1_5 (op d x y m : Int) (K : XV → Prop) : (quietGo (TA1 5) 80 (callI (TA1 5) 80 20) 25 [.agg 5 [.int .i64 op, .int .i64 d, .int .i64 x, .int .i64 y, .int .i64 m]] K) =
    (bif decide (fmI op = (5 : Int)) then
  bif bif decide (op = (22 : Int)) then true else !decide (op = (22 : Int)) then
    bif bif bif decide (op = (22 : Int)) then true else decide (op = (23 : Int)) then true else !bif decide (op = (22 : Int)) then true else decide (op = (23 : Int)) then
      bif bif bif decide (op = (22 : Int)) then true else decide (op = (23 : Int)) then true else decide (op = (24 : Int)) then
        bif decide (d = (0 : Int)) then
          bif bif decide (x ≥ (0 : Int)) then decide (x ≥ (0 : Int)) else true then
            bif bif decide (d = (0 : Int)) then bif decide (x ≥ (0 : Int)) then decide (x ≤ (15 : Int)) else false else false then
              bif bif decide (y ≥ (0 : Int)) then decide (y ≥ (0 : Int)) else true then
                bif
                    bif bif decide (d = (0 : Int)) then bif decide (x ≥ (0 : Int)) then decide (x ≤ (15 : Int)) else false else false then
                      bif decide (y ≥ (0 : Int)) then decide (y ≤ (15 : Int)) else false
                    else false then
                  bif bif decide (m ≥ (0 : Int)) then decide (m ≥ (0 : Int)) else true then
                    K
                      (XV.bool
                        (bif
                            bif bif decide (d = (0 : Int)) then bif decide (x ≥ (0 : Int)) then decide (x ≤ (15 : Int)) else false else false then
                              bif decide (y ≥ (0 : Int)) then decide (y ≤ (15 : Int)) else false
                            else false then
                          bif decide (m ≥ (0 : Int)) then decide (m ≤ (31 : Int)) else false
                        else false))
                  else False
                else
                  bif
                      !bif bif decide (d = (0 : Int)) then bif decide (x ≥ (0 : Int)) then decide (x ≤ (15 : Int)) else false else false then
                          bif decide (y ≥ (0 : Int)) then decide (y ≤ (15 : Int)) else false
                        else false then
                    K (XV.bool false)
                  else False
              else False
            else bif !bif decide (d = (0 : Int)) then bif decide (x ≥ (0 : Int)) then decide (x ≤ (15 : Int)) else false else false then K (XV.bool false) else False
          else False
        else bif !decide (d = (0 : Int)) then K (XV.bool false) else False
      else
        bif decide (d = (0 : Int)) then
          bif bif decide (x ≥ (0 : Int)) then decide (x ≥ (0 : Int)) else true then
            bif bif decide (d = (0 : Int)) then bif decide (x ≥ (0 : Int)) then decide (x ≤ (15 : Int)) else false else false then
              bif bif decide (y ≥ (0 : Int)) then decide (y ≥ (0 : Int)) else true then
                bif
                    bif bif decide (d = (0 : Int)) then bif decide (x ≥ (0 : Int)) then decide (x ≤ (15 : Int)) else false else false then
                      bif decide (y ≥ (0 : Int)) then decide (y ≤ (15 : Int)) else false
                    else false then
                  bif bif decide (m ≥ (-8192 : Int)) then decide (m ≥ (-8192 : Int)) else true then
                    K
                      (XV.bool
                        (bif
                            bif bif decide (d = (0 : Int)) then bif decide (x ≥ (0 : Int)) then decide (x ≤ (15 : Int)) else false else false then
                              bif decide (y ≥ (0 : Int)) then decide (y ≤ (15 : Int)) else false
                            else false then
                          bif decide (m ≥ (-8192 : Int)) then decide (m ≤ (8191 : Int)) else false
                        else false))
                  else False
                else
                  bif
                      !bif bif decide (d = (0 : Int)) then bif decide (x ≥ (0 : Int)) then decide (x ≤ (15 : Int)) else false else false then
                          bif decide (y ≥ (0 : Int)) then decide (y ≤ (15 : Int)) else false
                        else false then
                    K (XV.bool false)
                  else False
              else False
            else bif !bif decide (d = (0 : Int)) then bif decide (x ≥ (0 : Int)) then decide (x ≤ (15 : Int)) else false else false then K (XV.bool false) else False
          else False
        else bif !decide (d = (0 : Int)) then K (XV.bool false) else False
    else False
  else False
else False) := by kernel_rfl
theorem r_rt1_6 (op d x y m : Int) (K : XV → Prop) : (quietGo (TA1 6) 80 (callI (TA1 6) 80 20) 25 [.agg 5 [.int .i64 op, .int .i64 d, .int .i64 x, .int .i64 y, .int .i64 m]] K) =
    (bif decide (fmI op = (6 : Int)) then
  bif bif decide (op = (22 : Int)) then true else !decide (op = (22 : Int)) then
    bif bif bif decide (op = (22 : Int)) then true else decide (op = (23 : Int)) then true else !bif decide (op = (22 : Int)) then true else decide (op = (23 : Int)) then
      bif bif bif decide (op = (22 : Int)) then true else decide (op = (23 : Int)) then true else decide (op = (24 : Int)) then
        bif decide (d = (0 : Int)) then
          bif bif decide (x ≥ (0 : Int)) then decide (x ≥ (0 : Int)) else true then
            bif bif decide (d = (0 : Int)) then bif decide (x ≥ (0 : Int)) then decide (x ≤ (15 : Int)) else false else false then
              bif bif decide (y ≥ (0 : Int)) then decide (y ≥ (0 : Int)) else true then
                bif
                    bif bif decide (d = (0 : Int)) then bif decide (x ≥ (0 : Int)) then decide (x ≤ (15 : Int)) else false else false then
                      bif decide (y ≥ (0 : Int)) then decide (y ≤ (15 : Int)) else false
                    else false then
                  bif bif decide (m ≥ (0 : Int)) then decide (m ≥ (0 : Int)) else true then
                    K
                      (XV.bool
                        (bif
                            bif bif decide (d = (0 : Int)) then bif decide (x ≥ (0 : Int)) then decide (x ≤ (15 : Int)) else false else false then
                              bif decide (y ≥ (0 : Int)) then decide (y ≤ (15 : Int)) else false
                            else false then
                          bif decide (m ≥ (0 : Int)) then decide (m ≤ (31 : Int)) else false
                        else false))
                  else False
                else
                  bif
                      !bif bif decide (d = (0 : Int)) then bif decide (x ≥ (0 : Int)) then decide (x ≤ (15 : Int)) else false else false then
                          bif decide (y ≥ (0 : Int)) then decide (y ≤ (15 : Int)) else false
                        else false then
                    K (XV.bool false)
                  else False
              else False
            else bif !bif decide (d = (0 : Int)) then bif decide (x ≥ (0 : Int)) then decide (x ≤ (15 : Int)) else false else false then K (XV.bool false) else False
          else False
        else bif !decide (d = (0 : Int)) then K (XV.bool false) else False
      else
        bif decide (d = (0 : Int)) then
          bif bif decide (x ≥ (0 : Int)) then decide (x ≥ (0 : Int)) else true then
            bif bif decide (d = (0 : Int)) then bif decide (x ≥ (0 : Int)) then decide (x ≤ (15 : Int)) else false else false then
              bif bif decide (y ≥ (0 : Int)) then decide (y ≥ (0 : Int)) else true then
                bif
                    bif bif decide (d = (0 : Int)) then bif decide (x ≥ (0 : Int)) then decide (x ≤ (15 : Int)) else false else false then
                      bif decide (y ≥ (0 : Int)) then decide (y ≤ (15 : Int)) else false
                    else false then
                  bif bif decide (m ≥ (-8192 : Int)) then decide (m ≥ (-8192 : Int)) else true then
                    K
                      (XV.bool
                        (bif
                            bif bif decide (d = (0 : Int)) then bif decide (x ≥ (0 : Int)) then decide (x ≤ (15 : Int)) else false else false then
                              bif decide (y ≥ (0 : Int)) then decide (y ≤ (15 : Int)) else false
                            else false then
                          bif decide (m ≥ (-8192 : Int)) then decide (m ≤ (8191 : Int)) else false
                        else false))
                  else False
                else
                  bif
                      !bif bif decide (d = (0 : Int)) then bif decide (x ≥ (0 : Int)) then decide (x ≤ (15 : Int)) else false else false then
                          bif decide (y ≥ (0 : Int)) then decide (y ≤ (15 : Int)) else false
                        else false then
                    K (XV.bool false)
                  else False
              else False
            else bif !bif decide (d = (0 : Int)) then bif decide (x ≥ (0 : Int)) then decide (x ≤ (15 : Int)) else false else false then K (XV.bool false) else False
          else False
        else bif !decide (d = (0 : Int)) then K (XV.bool false) else False
    else False
  else False
else False) := by kernel_rfl
theorem r_rt1_7 (op d x y m : Int) (K : XV → Prop) : (quietGo (TA1 7) 80 (callI (TA1 7) 80 20) 25 [.agg 5 [.int .i64 op, .int .i64 d, .int .i64 x, .int .i64 y, .int .i64 m]] K) =
    (bif decide (fmI op = (7 : Int)) then
  bif bif decide (op = (22 : Int)) then true else !decide (op = (22 : Int)) then
    bif bif bif decide (op = (22 : Int)) then true else decide (op = (23 : Int)) then true else !bif decide (op = (22 : Int)) then true else decide (op = (23 : Int)) then
      bif bif bif decide (op = (22 : Int)) then true else decide (op = (23 : Int)) then true else decide (op = (24 : Int)) then
        bif decide (d = (0 : Int)) then
          bif bif decide (d = (0 : Int)) then decide (x = (0 : Int)) else false then
            bif bif bif decide (d = (0 : Int)) then decide (x = (0 : Int)) else false then decide (y = (0 : Int)) else false then
              bif bif decide (m ≥ (0 : Int)) then decide (m ≥ (0 : Int)) else true then
                K
                  (XV.bool
                    (bif bif bif decide (d = (0 : Int)) then decide (x = (0 : Int)) else false then decide (y = (0 : Int)) else false then
                      bif decide (m ≥ (0 : Int)) then decide (m ≤ (31 : Int)) else false
                    else false))
              else False
            else bif !bif bif decide (d = (0 : Int)) then decide (x = (0 : Int)) else false then decide (y = (0 : Int)) else false then K (XV.bool false) else False
          else bif !bif decide (d = (0 : Int)) then decide (x = (0 : Int)) else false then K (XV.bool false) else False
        else bif !decide (d = (0 : Int)) then K (XV.bool false) else False
      else
        bif decide (d = (0 : Int)) then
          bif bif decide (d = (0 : Int)) then decide (x = (0 : Int)) else false then
            bif bif bif decide (d = (0 : Int)) then decide (x = (0 : Int)) else false then decide (y = (0 : Int)) else false then
              bif bif decide (m ≥ (-8192 : Int)) then decide (m ≥ (-8192 : Int)) else true then
                K
                  (XV.bool
                    (bif bif bif decide (d = (0 : Int)) then decide (x = (0 : Int)) else false then decide (y = (0 : Int)) else false then
                      bif decide (m ≥ (-8192 : Int)) then decide (m ≤ (8191 : Int)) else false
                    else false))
              else False
            else bif !bif bif decide (d = (0 : Int)) then decide (x = (0 : Int)) else false then decide (y = (0 : Int)) else false then K (XV.bool false) else False
          else bif !bif decide (d = (0 : Int)) then decide (x = (0 : Int)) else false then K (XV.bool false) else False
        else bif !decide (d = (0 : Int)) then K (XV.bool false) else False
    else False
  else False
else False) := by kernel_rfl
theorem r_rt1_8 (op d x y m : Int) (K : XV → Prop) : (quietGo (TA1 8) 80 (callI (TA1 8) 80 20) 25 [.agg 5 [.int .i64 op, .int .i64 d, .int .i64 x, .int .i64 y, .int .i64 m]] K) =
    (bif decide (fmI op = (8 : Int)) then
  bif bif decide (op = (22 : Int)) then true else !decide (op = (22 : Int)) then
    bif bif bif decide (op = (22 : Int)) then true else decide (op = (23 : Int)) then true else !bif decide (op = (22 : Int)) then true else decide (op = (23 : Int)) then
      bif bif bif decide (op = (22 : Int)) then true else decide (op = (23 : Int)) then true else decide (op = (24 : Int)) then
        bif decide (d = (0 : Int)) then
          bif bif decide (d = (0 : Int)) then decide (x = (0 : Int)) else false then
            bif bif bif decide (d = (0 : Int)) then decide (x = (0 : Int)) else false then decide (y = (0 : Int)) else false then
              K (XV.bool (bif bif bif decide (d = (0 : Int)) then decide (x = (0 : Int)) else false then decide (y = (0 : Int)) else false then decide (m = (0 : Int)) else false))
            else bif !bif bif decide (d = (0 : Int)) then decide (x = (0 : Int)) else false then decide (y = (0 : Int)) else false then K (XV.bool false) else False
          else bif !bif decide (d = (0 : Int)) then decide (x = (0 : Int)) else false then K (XV.bool false) else False
        else bif !decide (d = (0 : Int)) then K (XV.bool false) else False
      else
        bif decide (d = (0 : Int)) then
          bif bif decide (d = (0 : Int)) then decide (x = (0 : Int)) else false then
            bif bif bif decide (d = (0 : Int)) then decide (x = (0 : Int)) else false then decide (y = (0 : Int)) else false then
              K (XV.bool (bif bif bif decide (d = (0 : Int)) then decide (x = (0 : Int)) else false then decide (y = (0 : Int)) else false then decide (m = (0 : Int)) else false))
            else bif !bif bif decide (d = (0 : Int)) then decide (x = (0 : Int)) else false then decide (y = (0 : Int)) else false then K (XV.bool false) else False
          else bif !bif decide (d = (0 : Int)) then decide (x = (0 : Int)) else false then K (XV.bool false) else False
        else bif !decide (d = (0 : Int)) then K (XV.bool false) else False
    else False
  else False
else False) := by kernel_rfl
theorem r_rt2_0 (op d x y m : Int) (K : XV → Prop) : (quietGo (TA1 0) 80 (callI (TA1 0) 80 20) 23 [.agg 5 [.int .i64 op, .int .i64 d, .int .i64 x, .int .i64 y, .int .i64 m]] K) =
    (bif decide (fmI op = (0 : Int)) then K (XV.bool false) else False) := by kernel_rfl
theorem r_rt2_1 (op d x y m : Int) (K : XV → Prop) : (quietGo (TA1 1) 80 (callI (TA1 1) 80 20) 23 [.agg 5 [.int .i64 op, .int .i64 d, .int .i64 x, .int .i64 y, .int .i64 m]] K) =
    (bif decide (fmI op = (1 : Int)) then
  bif bif !decide (d = (0 : Int)) then true else !!decide (d = (0 : Int)) then
    bif bif bif !decide (d = (0 : Int)) then true else false then true else !!decide (d = (0 : Int)) then
      bif bif !decide (d = (0 : Int)) then true else !!decide (d = (0 : Int)) then
        bif bif bif decide (d > (0 : Int)) then bif !decide (d = (0 : Int)) then decide (d > (0 : Int)) else false else true then true else !!decide (d = (0 : Int)) then
          bif bif decide (d = (0 : Int)) then true else !decide (d = (0 : Int)) then
            bif !!bif decide (d = (0 : Int)) then true else bif decide (d > (0 : Int)) then decide (d ≤ (15 : Int)) else false then
              bif bif !decide (x = (0 : Int)) then true else !!decide (x = (0 : Int)) then
                bif bif bif !decide (x = (0 : Int)) then true else false then true else !!decide (x = (0 : Int)) then
                  bif bif !decide (x = (0 : Int)) then true else !!decide (x = (0 : Int)) then
                    bif bif bif decide (x > (0 : Int)) then bif !decide (x = (0 : Int)) then decide (x > (0 : Int)) else false else true then true else !!decide (x = (0 : Int)) then
                      bif bif decide (x = (0 : Int)) then true else !decide (x = (0 : Int)) then
                        bif
                            !bif !bif decide (d = (0 : Int)) then true else bif decide (d > (0 : Int)) then decide (d ≤ (15 : Int)) else false then true
                              else !bif decide (x = (0 : Int)) then true else bif decide (x > (0 : Int)) then decide (x ≤ (15 : Int)) else false then
                          bif bif !decide (y = (0 : Int)) then true else !!decide (y = (0 : Int)) then
                            bif bif bif !decide (y = (0 : Int)) then true else false then true else !!decide (y = (0 : Int)) then
                              bif bif !decide (y = (0 : Int)) then true else !!decide (y = (0 : Int)) then
                                bif bif bif decide (y > (0 : Int)) then bif !decide (y = (0 : Int)) then decide (y > (0 : Int)) else false else true then true else !!decide (y = (0 : Int)) then
                                  bif bif decide (y = (0 : Int)) then true else !decide (y = (0 : Int)) then
                                    bif
                                        bif
                                            !bif
                                                  bif !bif decide (d = (0 : Int)) then true else bif decide (d > (0 : Int)) then decide (d ≤ (15 : Int)) else false then true
                                                  else !bif decide (x = (0 : Int)) then true else bif decide (x > (0 : Int)) then decide (x ≤ (15 : Int)) else false then
                                                true
                                              else !bif decide (y = (0 : Int)) then true else bif decide (y > (0 : Int)) then decide (y ≤ (15 : Int)) else false then
                                          true
                                        else
                                          !!bif
                                                  bif !bif decide (d = (0 : Int)) then true else bif decide (d > (0 : Int)) then decide (d ≤ (15 : Int)) else false then true
                                                  else !bif decide (x = (0 : Int)) then true else bif decide (x > (0 : Int)) then decide (x ≤ (15 : Int)) else false then
                                                true
                                              else !bif decide (y = (0 : Int)) then true else bif decide (y > (0 : Int)) then decide (y ≤ (15 : Int)) else false then
                                      bif
                                          bif
                                              bif
                                                  !bif
                                                        bif !bif decide (d = (0 : Int)) then true else bif decide (d > (0 : Int)) then decide (d ≤ (15 : Int)) else false then true
                                                        else !bif decide (x = (0 : Int)) then true else bif decide (x > (0 : Int)) then decide (x ≤ (15 : Int)) else false then
                                                      true
                                                    else !bif decide (y = (0 : Int)) then true else bif decide (y > (0 : Int)) then decide (y ≤ (15 : Int)) else false then
                                                true
                                              else false then
                                            true
                                          else
                                            !!bif
                                                    bif !bif decide (d = (0 : Int)) then true else bif decide (d > (0 : Int)) then decide (d ≤ (15 : Int)) else false then true
                                                    else !bif decide (x = (0 : Int)) then true else bif decide (x > (0 : Int)) then decide (x ≤ (15 : Int)) else false then
                                                  true
                                                else !bif decide (y = (0 : Int)) then true else bif decide (y > (0 : Int)) then decide (y ≤ (15 : Int)) else false then
                                        bif
                                            bif
                                                bif
                                                    bif !bif decide (d = (0 : Int)) then true else bif decide (d > (0 : Int)) then decide (d ≤ (15 : Int)) else false then true
                                                    else !bif decide (x = (0 : Int)) then true else bif decide (x > (0 : Int)) then decide (x ≤ (15 : Int)) else false then
                                                  true
                                                else !bif decide (y = (0 : Int)) then true else bif decide (y > (0 : Int)) then decide (y ≤ (15 : Int)) else false then
                                              true
                                            else
                                              !bif
                                                    bif !bif decide (d = (0 : Int)) then true else bif decide (d > (0 : Int)) then decide (d ≤ (15 : Int)) else false then true
                                                    else !bif decide (x = (0 : Int)) then true else bif decide (x > (0 : Int)) then decide (x ≤ (15 : Int)) else false then
                                                  true
                                                else !bif decide (y = (0 : Int)) then true else bif decide (y > (0 : Int)) then decide (y ≤ (15 : Int)) else false then
                                          bif
                                              bif
                                                  bif
                                                      bif !bif decide (d = (0 : Int)) then true else bif decide (d > (0 : Int)) then decide (d ≤ (15 : Int)) else false then true
                                                      else !bif decide (x = (0 : Int)) then true else bif decide (x > (0 : Int)) then decide (x ≤ (15 : Int)) else false then
                                                    true
                                                  else !bif decide (y = (0 : Int)) then true else bif decide (y > (0 : Int)) then decide (y ≤ (15 : Int)) else false then
                                                true
                                              else decide ¬m = (0 : Int) then
                                            K (XV.bool false)
                                          else
                                            bif bif decide (op = (22 : Int)) then true else !decide (op = (22 : Int)) then
                                              bif
                                                  bif bif decide (op = (22 : Int)) then true else decide (op = (23 : Int)) then true
                                                  else !bif decide (op = (22 : Int)) then true else decide (op = (23 : Int)) then
                                                bif bif bif decide (op = (22 : Int)) then true else decide (op = (23 : Int)) then true else decide (op = (24 : Int)) then
                                                  bif bif decide (m ≥ (0 : Int)) then decide (m ≥ (0 : Int)) else true then
                                                    K (XV.bool (bif decide (m ≥ (0 : Int)) then decide (m ≤ (31 : Int)) else false))
                                                  else False
                                                else
                                                  bif bif decide (m ≥ (-8192 : Int)) then decide (m ≥ (-8192 : Int)) else true then
                                                    K (XV.bool (bif decide (m ≥ (-8192 : Int)) then decide (m ≤ (8191 : Int)) else false))
                                                  else False
                                              else False
                                            else False
                                        else False
                                      else False
                                    else False
                                  else False
                                else False
                              else False
                            else False
                          else False
                        else
                          bif
                              bif !bif decide (d = (0 : Int)) then true else bif decide (d > (0 : Int)) then decide (d ≤ (15 : Int)) else false then true
                              else !bif decide (x = (0 : Int)) then true else bif decide (x > (0 : Int)) then decide (x ≤ (15 : Int)) else false then
                            K (XV.bool false)
                          else False
                      else False
                    else False
                  else False
                else False
              else False
            else bif !bif decide (d = (0 : Int)) then true else bif decide (d > (0 : Int)) then decide (d ≤ (15 : Int)) else false then K (XV.bool false) else False
          else False
        else False
      else False
    else False
  else False
else False) := by kernel_rfl
theorem r_rt2_2 (op d x y m : Int) (K : XV → Prop) : (quietGo (TA1 2) 80 (callI (TA1 2) 80 20) 23 [.agg 5 [.int .i64 op, .int .i64 d, .int .i64 x, .int .i64 y, .int .i64 m]] K) =
    (bif decide (fmI op = (2 : Int)) then
  bif bif !decide (d = (0 : Int)) then true else !!decide (d = (0 : Int)) then
    bif bif bif !decide (d = (0 : Int)) then true else false then true else !!decide (d = (0 : Int)) then
      bif bif !decide (d = (0 : Int)) then true else !!decide (d = (0 : Int)) then
        bif bif bif decide (d > (0 : Int)) then bif !decide (d = (0 : Int)) then decide (d > (0 : Int)) else false else true then true else !!decide (d = (0 : Int)) then
          bif bif decide (d = (0 : Int)) then true else !decide (d = (0 : Int)) then
            bif !!bif decide (d = (0 : Int)) then true else bif decide (d > (0 : Int)) then decide (d ≤ (15 : Int)) else false then
              bif bif !decide (x = (0 : Int)) then true else !!decide (x = (0 : Int)) then
                bif bif bif !decide (x = (0 : Int)) then true else false then true else !!decide (x = (0 : Int)) then
                  bif bif !decide (x = (0 : Int)) then true else !!decide (x = (0 : Int)) then
                    bif bif bif decide (x > (0 : Int)) then bif !decide (x = (0 : Int)) then decide (x > (0 : Int)) else false else true then true else !!decide (x = (0 : Int)) then
                      bif bif decide (x = (0 : Int)) then true else !decide (x = (0 : Int)) then
                        bif
                            !bif !bif decide (d = (0 : Int)) then true else bif decide (d > (0 : Int)) then decide (d ≤ (15 : Int)) else false then true
                              else !bif decide (x = (0 : Int)) then true else bif decide (x > (0 : Int)) then decide (x ≤ (15 : Int)) else false then
                          bif bif !decide (y = (0 : Int)) then true else !!decide (y = (0 : Int)) then
                            bif bif !decide (y = (0 : Int)) then true else !!decide (y = (0 : Int)) then
                              bif bif decide (y = (0 : Int)) then true else !decide (y = (0 : Int)) then
                                bif
                                    bif
                                        !bif
                                              bif !bif decide (d = (0 : Int)) then true else bif decide (d > (0 : Int)) then decide (d ≤ (15 : Int)) else false then true
                                              else !bif decide (x = (0 : Int)) then true else bif decide (x > (0 : Int)) then decide (x ≤ (15 : Int)) else false then
                                            true
                                          else !bif decide (y = (0 : Int)) then true else false then
                                      true
                                    else
                                      !!bif
                                              bif !bif decide (d = (0 : Int)) then true else bif decide (d > (0 : Int)) then decide (d ≤ (15 : Int)) else false then true
                                              else !bif decide (x = (0 : Int)) then true else bif decide (x > (0 : Int)) then decide (x ≤ (15 : Int)) else false then
                                            true
                                          else !bif decide (y = (0 : Int)) then true else false then
                                  bif
                                      bif
                                          bif
                                              bif !bif decide (d = (0 : Int)) then true else bif decide (d > (0 : Int)) then decide (d ≤ (15 : Int)) else false then true
                                              else !bif decide (x = (0 : Int)) then true else bif decide (x > (0 : Int)) then decide (x ≤ (15 : Int)) else false then
                                            true
                                          else !bif decide (y = (0 : Int)) then true else false then
                                        true
                                      else
                                        !bif
                                              bif !bif decide (d = (0 : Int)) then true else bif decide (d > (0 : Int)) then decide (d ≤ (15 : Int)) else false then true
                                              else !bif decide (x = (0 : Int)) then true else bif decide (x > (0 : Int)) then decide (x ≤ (15 : Int)) else false then
                                            true
                                          else !bif decide (y = (0 : Int)) then true else false then
                                    bif
                                        bif
                                            bif
                                                bif !bif decide (d = (0 : Int)) then true else bif decide (d > (0 : Int)) then decide (d ≤ (15 : Int)) else false then true
                                                else !bif decide (x = (0 : Int)) then true else bif decide (x > (0 : Int)) then decide (x ≤ (15 : Int)) else false then
                                              true
                                            else !bif decide (y = (0 : Int)) then true else false then
                                          true
                                        else false then
                                      K (XV.bool false)
                                    else
                                      bif bif decide (op = (22 : Int)) then true else !decide (op = (22 : Int)) then
                                        bif
                                            bif bif decide (op = (22 : Int)) then true else decide (op = (23 : Int)) then true
                                            else !bif decide (op = (22 : Int)) then true else decide (op = (23 : Int)) then
                                          bif bif bif decide (op = (22 : Int)) then true else decide (op = (23 : Int)) then true else decide (op = (24 : Int)) then
                                            bif bif decide (m ≥ (0 : Int)) then decide (m ≥ (0 : Int)) else true then K (XV.bool (bif decide (m ≥ (0 : Int)) then decide (m ≤ (31 : Int)) else false))
                                            else False
                                          else
                                            bif bif decide (m ≥ (-8192 : Int)) then decide (m ≥ (-8192 : Int)) else true then
                                              K (XV.bool (bif decide (m ≥ (-8192 : Int)) then decide (m ≤ (8191 : Int)) else false))
                                            else False
                                        else False
                                      else False
                                  else False
                                else False
                              else False
                            else False
                          else False
                        else
                          bif
                              bif !bif decide (d = (0 : Int)) then true else bif decide (d > (0 : Int)) then decide (d ≤ (15 : Int)) else false then true
                              else !bif decide (x = (0 : Int)) then true else bif decide (x > (0 : Int)) then decide (x ≤ (15 : Int)) else false then
                            K (XV.bool false)
                          else False
                      else False
                    else False
                  else False
                else False
              else False
            else bif !bif decide (d = (0 : Int)) then true else bif decide (d > (0 : Int)) then decide (d ≤ (15 : Int)) else false then K (XV.bool false) else False
          else False
        else False
      else False
    else False
  else False
else False) := by kernel_rfl
theorem r_rt2_3 (op d x y m : Int) (K : XV → Prop) : (quietGo (TA1 3) 80 (callI (TA1 3) 80 20) 23 [.agg 5 [.int .i64 op, .int .i64 d, .int .i64 x, .int .i64 y, .int .i64 m]] K) =
    (bif decide (fmI op = (3 : Int)) then
  bif bif !decide (d = (0 : Int)) then true else !!decide (d = (0 : Int)) then
    bif bif bif !decide (d = (0 : Int)) then true else false then true else !!decide (d = (0 : Int)) then
      bif bif !decide (d = (0 : Int)) then true else !!decide (d = (0 : Int)) then
        bif bif bif decide (d > (0 : Int)) then bif !decide (d = (0 : Int)) then decide (d > (0 : Int)) else false else true then true else !!decide (d = (0 : Int)) then
          bif bif decide (d = (0 : Int)) then true else !decide (d = (0 : Int)) then
            bif !!bif decide (d = (0 : Int)) then true else bif decide (d > (0 : Int)) then decide (d ≤ (15 : Int)) else false then
              bif bif !decide (x = (0 : Int)) then true else !!decide (x = (0 : Int)) then
                bif bif !decide (x = (0 : Int)) then true else !!decide (x = (0 : Int)) then
                  bif bif decide (x = (0 : Int)) then true else !decide (x = (0 : Int)) then
                    bif
                        !bif !bif decide (d = (0 : Int)) then true else bif decide (d > (0 : Int)) then decide (d ≤ (15 : Int)) else false then true
                          else !bif decide (x = (0 : Int)) then true else false then
                      bif bif !decide (y = (0 : Int)) then true else !!decide (y = (0 : Int)) then
                        bif bif !decide (y = (0 : Int)) then true else !!decide (y = (0 : Int)) then
                          bif bif decide (y = (0 : Int)) then true else !decide (y = (0 : Int)) then
                            bif
                                bif
                                    !bif
                                          bif !bif decide (d = (0 : Int)) then true else bif decide (d > (0 : Int)) then decide (d ≤ (15 : Int)) else false then true
                                          else !bif decide (x = (0 : Int)) then true else false then
                                        true
                                      else !bif decide (y = (0 : Int)) then true else false then
                                  true
                                else
                                  !!bif
                                          bif !bif decide (d = (0 : Int)) then true else bif decide (d > (0 : Int)) then decide (d ≤ (15 : Int)) else false then true
                                          else !bif decide (x = (0 : Int)) then true else false then
                                        true
                                      else !bif decide (y = (0 : Int)) then true else false then
                              bif
                                  bif
                                      bif
                                          bif !bif decide (d = (0 : Int)) then true else bif decide (d > (0 : Int)) then decide (d ≤ (15 : Int)) else false then true
                                          else !bif decide (x = (0 : Int)) then true else false then
                                        true
                                      else !bif decide (y = (0 : Int)) then true else false then
                                    true
                                  else
                                    !bif
                                          bif !bif decide (d = (0 : Int)) then true else bif decide (d > (0 : Int)) then decide (d ≤ (15 : Int)) else false then true
                                          else !bif decide (x = (0 : Int)) then true else false then
                                        true
                                      else !bif decide (y = (0 : Int)) then true else false then
                                bif
                                    bif
                                        bif
                                            bif !bif decide (d = (0 : Int)) then true else bif decide (d > (0 : Int)) then decide (d ≤ (15 : Int)) else false then true
                                            else !bif decide (x = (0 : Int)) then true else false then
                                          true
                                        else !bif decide (y = (0 : Int)) then true else false then
                                      true
                                    else false then
                                  K (XV.bool false)
                                else
                                  bif bif decide (op = (22 : Int)) then true else !decide (op = (22 : Int)) then
                                    bif
                                        bif bif decide (op = (22 : Int)) then true else decide (op = (23 : Int)) then true
                                        else !bif decide (op = (22 : Int)) then true else decide (op = (23 : Int)) then
                                      bif bif bif decide (op = (22 : Int)) then true else decide (op = (23 : Int)) then true else decide (op = (24 : Int)) then
                                        bif bif decide (m ≥ (0 : Int)) then decide (m ≥ (0 : Int)) else true then K (XV.bool (bif decide (m ≥ (0 : Int)) then decide (m ≤ (31 : Int)) else false))
                                        else False
                                      else
                                        bif bif decide (m ≥ (-8192 : Int)) then decide (m ≥ (-8192 : Int)) else true then
                                          K (XV.bool (bif decide (m ≥ (-8192 : Int)) then decide (m ≤ (8191 : Int)) else false))
                                        else False
                                    else False
                                  else False
                              else False
                            else False
                          else False
                        else False
                      else False
                    else
                      bif
                          bif !bif decide (d = (0 : Int)) then true else bif decide (d > (0 : Int)) then decide (d ≤ (15 : Int)) else false then true
                          else !bif decide (x = (0 : Int)) then true else false then
                        K (XV.bool false)
                      else False
                  else False
                else False
              else False
            else bif !bif decide (d = (0 : Int)) then true else bif decide (d > (0 : Int)) then decide (d ≤ (15 : Int)) else false then K (XV.bool false) else False
          else False
        else False
      else False
    else False
  else False
else False) := by kernel_rfl
theorem r_rt2_4 (op d x y m : Int) (K : XV → Prop) : (quietGo (TA1 4) 80 (callI (TA1 4) 80 20) 23 [.agg 5 [.int .i64 op, .int .i64 d, .int .i64 x, .int .i64 y, .int .i64 m]] K) =
    (bif decide (fmI op = (4 : Int)) then
  bif bif !decide (d = (0 : Int)) then true else !!decide (d = (0 : Int)) then
    bif bif bif !decide (d = (0 : Int)) then true else false then true else !!decide (d = (0 : Int)) then
      bif bif !decide (d = (0 : Int)) then true else !!decide (d = (0 : Int)) then
        bif bif bif decide (d > (0 : Int)) then bif !decide (d = (0 : Int)) then decide (d > (0 : Int)) else false else true then true else !!decide (d = (0 : Int)) then
          bif bif decide (d = (0 : Int)) then true else !decide (d = (0 : Int)) then
            bif !!bif decide (d = (0 : Int)) then true else bif decide (d > (0 : Int)) then decide (d ≤ (15 : Int)) else false then
              bif bif !decide (x = (0 : Int)) then true else !!decide (x = (0 : Int)) then
                bif bif bif !decide (x = (0 : Int)) then true else false then true else !!decide (x = (0 : Int)) then
                  bif bif !decide (x = (0 : Int)) then true else !!decide (x = (0 : Int)) then
                    bif bif bif decide (x > (0 : Int)) then bif !decide (x = (0 : Int)) then decide (x > (0 : Int)) else false else true then true else !!decide (x = (0 : Int)) then
                      bif bif decide (x = (0 : Int)) then true else !decide (x = (0 : Int)) then
                        bif
                            !bif !bif decide (d = (0 : Int)) then true else bif decide (d > (0 : Int)) then decide (d ≤ (15 : Int)) else false then true
                              else !bif decide (x = (0 : Int)) then true else bif decide (x > (0 : Int)) then decide (x ≤ (15 : Int)) else false then
                          bif bif !decide (y = (0 : Int)) then true else !!decide (y = (0 : Int)) then
                            bif bif !decide (y = (0 : Int)) then true else !!decide (y = (0 : Int)) then
                              bif bif decide (y = (0 : Int)) then true else !decide (y = (0 : Int)) then
                                bif
                                    bif
                                        !bif
                                              bif !bif decide (d = (0 : Int)) then true else bif decide (d > (0 : Int)) then decide (d ≤ (15 : Int)) else false then true
                                              else !bif decide (x = (0 : Int)) then true else bif decide (x > (0 : Int)) then decide (x ≤ (15 : Int)) else false then
                                            true
                                          else !bif decide (y = (0 : Int)) then true else false then
                                      true
                                    else
                                      !!bif
                                              bif !bif decide (d = (0 : Int)) then true else bif decide (d > (0 : Int)) then decide (d ≤ (15 : Int)) else false then true
                                              else !bif decide (x = (0 : Int)) then true else bif decide (x > (0 : Int)) then decide (x ≤ (15 : Int)) else false then
                                            true
                                          else !bif decide (y = (0 : Int)) then true else false then
                                  bif
                                      bif
                                          bif
                                              bif !bif decide (d = (0 : Int)) then true else bif decide (d > (0 : Int)) then decide (d ≤ (15 : Int)) else false then true
                                              else !bif decide (x = (0 : Int)) then true else bif decide (x > (0 : Int)) then decide (x ≤ (15 : Int)) else false then
                                            true
                                          else !bif decide (y = (0 : Int)) then true else false then
                                        true
                                      else
                                        !bif
                                              bif !bif decide (d = (0 : Int)) then true else bif decide (d > (0 : Int)) then decide (d ≤ (15 : Int)) else false then true
                                              else !bif decide (x = (0 : Int)) then true else bif decide (x > (0 : Int)) then decide (x ≤ (15 : Int)) else false then
                                            true
                                          else !bif decide (y = (0 : Int)) then true else false then
                                    bif
                                        bif
                                            bif
                                                bif !bif decide (d = (0 : Int)) then true else bif decide (d > (0 : Int)) then decide (d ≤ (15 : Int)) else false then true
                                                else !bif decide (x = (0 : Int)) then true else bif decide (x > (0 : Int)) then decide (x ≤ (15 : Int)) else false then
                                              true
                                            else !bif decide (y = (0 : Int)) then true else false then
                                          true
                                        else false then
                                      K (XV.bool false)
                                    else
                                      bif bif decide (op = (22 : Int)) then true else !decide (op = (22 : Int)) then
                                        bif
                                            bif bif decide (op = (22 : Int)) then true else decide (op = (23 : Int)) then true
                                            else !bif decide (op = (22 : Int)) then true else decide (op = (23 : Int)) then
                                          bif bif bif decide (op = (22 : Int)) then true else decide (op = (23 : Int)) then true else decide (op = (24 : Int)) then
                                            bif bif decide (m ≥ (0 : Int)) then decide (m ≥ (0 : Int)) else true then K (XV.bool (bif decide (m ≥ (0 : Int)) then decide (m ≤ (31 : Int)) else false))
                                            else False
                                          else
                                            bif bif decide (m ≥ (-8192 : Int)) then decide (m ≥ (-8192 : Int)) else true then
                                              K (XV.bool (bif decide (m ≥ (-8192 : Int)) then decide (m ≤ (8191 : Int)) else false))
                                            else False
                                        else False
                                      else False
                                  else False
                                else False
                              else False
                            else False
                          else False
                        else
                          bif
                              bif !bif decide (d = (0 : Int)) then true else bif decide (d > (0 : Int)) then decide (d ≤ (15 : Int)) else false then true
                              else !bif decide (x = (0 : Int)) then true else bif decide (x > (0 : Int)) then decide (x ≤ (15 : Int)) else false then
                            K (XV.bool false)
                          else False
                      else False
                    else False
                  else False
                else False
              else False
            else bif !bif decide (d = (0 : Int)) then true else bif decide (d > (0 : Int)) then decide (d ≤ (15 : Int)) else false then K (XV.bool false) else False
          else False
        else False
      else False
    else False
  else False
else False) := by kernel_rfl
theorem r_rt2_5 (op d x y m : Int) (K : XV → Prop) : (quietGo (TA1 5) 80 (callI (TA1 5) 80 20) 23 [.agg 5 [.int .i64 op, .int .i64 d, .int .i64 x, .int .i64 y, .int .i64 m]] K) =
    (bif decide (fmI op = (5 : Int)) then
  bif bif !decide (d = (0 : Int)) then true else !!decide (d = (0 : Int)) then
    bif bif !decide (d = (0 : Int)) then true else !!decide (d = (0 : Int)) then
      bif bif decide (d = (0 : Int)) then true else !decide (d = (0 : Int)) then
        bif !!bif decide (d = (0 : Int)) then true else false then
          bif bif !decide (x = (0 : Int)) then true else !!decide (x = (0 : Int)) then
            bif bif bif !decide (x = (0 : Int)) then true else false then true else !!decide (x = (0 : Int)) then
              bif bif !decide (x = (0 : Int)) then true else !!decide (x = (0 : Int)) then
                bif bif bif decide (x > (0 : Int)) then bif !decide (x = (0 : Int)) then decide (x > (0 : Int)) else false else true then true else !!decide (x = (0 : Int)) then
                  bif bif decide (x = (0 : Int)) then true else !decide (x = (0 : Int)) then
                    bif
                        !bif !bif decide (d = (0 : Int)) then true else false then true
                          else !bif decide (x = (0 : Int)) then true else bif decide (x > (0 : Int)) then decide (x ≤ (15 : Int)) else false then
                      bif bif !decide (y = (0 : Int)) then true else !!decide (y = (0 : Int)) then
                        bif bif bif !decide (y = (0 : Int)) then true else false then true else !!decide (y = (0 : Int)) then
                          bif bif !decide (y = (0 : Int)) then true else !!decide (y = (0 : Int)) then
                            bif bif bif decide (y > (0 : Int)) then bif !decide (y = (0 : Int)) then decide (y > (0 : Int)) else false else true then true else !!decide (y = (0 : Int)) then
                              bif bif decide (y = (0 : Int)) then true else !decide (y = (0 : Int)) then
                                bif
                                    bif
                                        !bif
                                              bif !bif decide (d = (0 : Int)) then true else false then true
                                              else !bif decide (x = (0 : Int)) then true else bif decide (x > (0 : Int)) then decide (x ≤ (15 : Int)) else false then
                                            true
                                          else !bif decide (y = (0 : Int)) then true else bif decide (y > (0 : Int)) then decide (y ≤ (15 : Int)) else false then
                                      true
                                    else
                                      !!bif
                                              bif !bif decide (d = (0 : Int)) then true else false then true
                                              else !bif decide (x = (0 : Int)) then true else bif decide (x > (0 : Int)) then decide (x ≤ (15 : Int)) else false then
                                            true
                                          else !bif decide (y = (0 : Int)) then true else bif decide (y > (0 : Int)) then decide (y ≤ (15 : Int)) else false then
                                  bif
                                      bif
                                          bif
                                              bif !bif decide (d = (0 : Int)) then true else false then true
                                              else !bif decide (x = (0 : Int)) then true else bif decide (x > (0 : Int)) then decide (x ≤ (15 : Int)) else false then
                                            true
                                          else !bif decide (y = (0 : Int)) then true else bif decide (y > (0 : Int)) then decide (y ≤ (15 : Int)) else false then
                                        true
                                      else
                                        !bif
                                              bif !bif decide (d = (0 : Int)) then true else false then true
                                              else !bif decide (x = (0 : Int)) then true else bif decide (x > (0 : Int)) then decide (x ≤ (15 : Int)) else false then
                                            true
                                          else !bif decide (y = (0 : Int)) then true else bif decide (y > (0 : Int)) then decide (y ≤ (15 : Int)) else false then
                                    bif
                                        bif
                                            bif
                                                bif !bif decide (d = (0 : Int)) then true else false then true
                                                else !bif decide (x = (0 : Int)) then true else bif decide (x > (0 : Int)) then decide (x ≤ (15 : Int)) else false then
                                              true
                                            else !bif decide (y = (0 : Int)) then true else bif decide (y > (0 : Int)) then decide (y ≤ (15 : Int)) else false then
                                          true
                                        else false then
                                      K (XV.bool false)
                                    else
                                      bif bif decide (op = (22 : Int)) then true else !decide (op = (22 : Int)) then
                                        bif
                                            bif bif decide (op = (22 : Int)) then true else decide (op = (23 : Int)) then true
                                            else !bif decide (op = (22 : Int)) then true else decide (op = (23 : Int)) then
                                          bif bif bif decide (op = (22 : Int)) then true else decide (op = (23 : Int)) then true else decide (op = (24 : Int)) then
                                            bif bif decide (m ≥ (0 : Int)) then decide (m ≥ (0 : Int)) else true then K (XV.bool (bif decide (m ≥ (0 : Int)) then decide (m ≤ (31 : Int)) else false))
                                            else False
                                          else
                                            bif bif decide (m ≥ (-8192 : Int)) then decide (m ≥ (-8192 : Int)) else true then
                                              K (XV.bool (bif decide (m ≥ (-8192 : Int)) then decide (m ≤ (8191 : Int)) else false))
                                            else False
                                        else False
                                      else False
                                  else False
                                else False
                              else False
                            else False
                          else False
                        else False
                      else False
                    else
                      bif
                          bif !bif decide (d = (0 : Int)) then true else false then true
                          else !bif decide (x = (0 : Int)) then true else bif decide (x > (0 : Int)) then decide (x ≤ (15 : Int)) else false then
                        K (XV.bool false)
                      else False
                  else False
                else False
              else False
            else False
          else False
        else bif !bif decide (d = (0 : Int)) then true else false then K (XV.bool false) else False
      else False
    else False
  else False
else False) := by kernel_rfl
theorem r_rt2_6 (op d x y m : Int) (K : XV → Prop) : (quietGo (TA1 6) 80 (callI (TA1 6) 80 20) 23 [.agg 5 [.int .i64 op, .int .i64 d, .int .i64 x, .int .i64 y, .int .i64 m]] K) =
    (bif decide (fmI op = (6 : Int)) then
  bif bif !decide (d = (0 : Int)) then true else !!decide (d = (0 : Int)) then
    bif bif !decide (d = (0 : Int)) then true else !!decide (d = (0 : Int)) then
      bif bif decide (d = (0 : Int)) then true else !decide (d = (0 : Int)) then
        bif !!bif decide (d = (0 : Int)) then true else false then
          bif bif !decide (x = (0 : Int)) then true else !!decide (x = (0 : Int)) then
            bif bif bif !decide (x = (0 : Int)) then true else false then true else !!decide (x = (0 : Int)) then
              bif bif !decide (x = (0 : Int)) then true else !!decide (x = (0 : Int)) then
                bif bif bif decide (x > (0 : Int)) then bif !decide (x = (0 : Int)) then decide (x > (0 : Int)) else false else true then true else !!decide (x = (0 : Int)) then
                  bif bif decide (x = (0 : Int)) then true else !decide (x = (0 : Int)) then
                    bif
                        !bif !bif decide (d = (0 : Int)) then true else false then true
                          else !bif decide (x = (0 : Int)) then true else bif decide (x > (0 : Int)) then decide (x ≤ (15 : Int)) else false then
                      bif bif !decide (y = (0 : Int)) then true else !!decide (y = (0 : Int)) then
                        bif bif bif !decide (y = (0 : Int)) then true else false then true else !!decide (y = (0 : Int)) then
                          bif bif !decide (y = (0 : Int)) then true else !!decide (y = (0 : Int)) then
                            bif bif bif decide (y > (0 : Int)) then bif !decide (y = (0 : Int)) then decide (y > (0 : Int)) else false else true then true else !!decide (y = (0 : Int)) then
                              bif bif decide (y = (0 : Int)) then true else !decide (y = (0 : Int)) then
                                bif
                                    bif
                                        !bif
                                              bif !bif decide (d = (0 : Int)) then true else false then true
                                              else !bif decide (x = (0 : Int)) then true else bif decide (x > (0 : Int)) then decide (x ≤ (15 : Int)) else false then
                                            true
                                          else !bif decide (y = (0 : Int)) then true else bif decide (y > (0 : Int)) then decide (y ≤ (15 : Int)) else false then
                                      true
                                    else
                                      !!bif
                                              bif !bif decide (d = (0 : Int)) then true else false then true
                                              else !bif decide (x = (0 : Int)) then true else bif decide (x > (0 : Int)) then decide (x ≤ (15 : Int)) else false then
                                            true
                                          else !bif decide (y = (0 : Int)) then true else bif decide (y > (0 : Int)) then decide (y ≤ (15 : Int)) else false then
                                  bif
                                      bif
                                          bif
                                              bif !bif decide (d = (0 : Int)) then true else false then true
                                              else !bif decide (x = (0 : Int)) then true else bif decide (x > (0 : Int)) then decide (x ≤ (15 : Int)) else false then
                                            true
                                          else !bif decide (y = (0 : Int)) then true else bif decide (y > (0 : Int)) then decide (y ≤ (15 : Int)) else false then
                                        true
                                      else
                                        !bif
                                              bif !bif decide (d = (0 : Int)) then true else false then true
                                              else !bif decide (x = (0 : Int)) then true else bif decide (x > (0 : Int)) then decide (x ≤ (15 : Int)) else false then
                                            true
                                          else !bif decide (y = (0 : Int)) then true else bif decide (y > (0 : Int)) then decide (y ≤ (15 : Int)) else false then
                                    bif
                                        bif
                                            bif
                                                bif !bif decide (d = (0 : Int)) then true else false then true
                                                else !bif decide (x = (0 : Int)) then true else bif decide (x > (0 : Int)) then decide (x ≤ (15 : Int)) else false then
                                              true
                                            else !bif decide (y = (0 : Int)) then true else bif decide (y > (0 : Int)) then decide (y ≤ (15 : Int)) else false then
                                          true
                                        else false then
                                      K (XV.bool false)
                                    else
                                      bif bif decide (op = (22 : Int)) then true else !decide (op = (22 : Int)) then
                                        bif
                                            bif bif decide (op = (22 : Int)) then true else decide (op = (23 : Int)) then true
                                            else !bif decide (op = (22 : Int)) then true else decide (op = (23 : Int)) then
                                          bif bif bif decide (op = (22 : Int)) then true else decide (op = (23 : Int)) then true else decide (op = (24 : Int)) then
                                            bif bif decide (m ≥ (0 : Int)) then decide (m ≥ (0 : Int)) else true then K (XV.bool (bif decide (m ≥ (0 : Int)) then decide (m ≤ (31 : Int)) else false))
                                            else False
                                          else
                                            bif bif decide (m ≥ (-8192 : Int)) then decide (m ≥ (-8192 : Int)) else true then
                                              K (XV.bool (bif decide (m ≥ (-8192 : Int)) then decide (m ≤ (8191 : Int)) else false))
                                            else False
                                        else False
                                      else False
                                  else False
                                else False
                              else False
                            else False
                          else False
                        else False
                      else False
                    else
                      bif
                          bif !bif decide (d = (0 : Int)) then true else false then true
                          else !bif decide (x = (0 : Int)) then true else bif decide (x > (0 : Int)) then decide (x ≤ (15 : Int)) else false then
                        K (XV.bool false)
                      else False
                  else False
                else False
              else False
            else False
          else False
        else bif !bif decide (d = (0 : Int)) then true else false then K (XV.bool false) else False
      else False
    else False
  else False
else False) := by kernel_rfl
theorem r_rt2_7 (op d x y m : Int) (K : XV → Prop) : (quietGo (TA1 7) 80 (callI (TA1 7) 80 20) 23 [.agg 5 [.int .i64 op, .int .i64 d, .int .i64 x, .int .i64 y, .int .i64 m]] K) =
    (bif decide (fmI op = (7 : Int)) then
  bif bif !decide (d = (0 : Int)) then true else !!decide (d = (0 : Int)) then
    bif bif !decide (d = (0 : Int)) then true else !!decide (d = (0 : Int)) then
      bif bif decide (d = (0 : Int)) then true else !decide (d = (0 : Int)) then
        bif !!bif decide (d = (0 : Int)) then true else false then
          bif bif !decide (x = (0 : Int)) then true else !!decide (x = (0 : Int)) then
            bif bif !decide (x = (0 : Int)) then true else !!decide (x = (0 : Int)) then
              bif bif decide (x = (0 : Int)) then true else !decide (x = (0 : Int)) then
                bif !bif !bif decide (d = (0 : Int)) then true else false then true else !bif decide (x = (0 : Int)) then true else false then
                  bif bif !decide (y = (0 : Int)) then true else !!decide (y = (0 : Int)) then
                    bif bif !decide (y = (0 : Int)) then true else !!decide (y = (0 : Int)) then
                      bif bif decide (y = (0 : Int)) then true else !decide (y = (0 : Int)) then
                        bif
                            bif
                                !bif bif !bif decide (d = (0 : Int)) then true else false then true else !bif decide (x = (0 : Int)) then true else false then true
                                  else !bif decide (y = (0 : Int)) then true else false then
                              true
                            else
                              !!bif bif !bif decide (d = (0 : Int)) then true else false then true else !bif decide (x = (0 : Int)) then true else false then true
                                  else !bif decide (y = (0 : Int)) then true else false then
                          bif
                              bif
                                  bif bif !bif decide (d = (0 : Int)) then true else false then true else !bif decide (x = (0 : Int)) then true else false then true
                                  else !bif decide (y = (0 : Int)) then true else false then
                                true
                              else
                                !bif bif !bif decide (d = (0 : Int)) then true else false then true else !bif decide (x = (0 : Int)) then true else false then true
                                  else !bif decide (y = (0 : Int)) then true else false then
                            bif
                                bif
                                    bif bif !bif decide (d = (0 : Int)) then true else false then true else !bif decide (x = (0 : Int)) then true else false then true
                                    else !bif decide (y = (0 : Int)) then true else false then
                                  true
                                else false then
                              K (XV.bool false)
                            else
                              bif bif decide (op = (22 : Int)) then true else !decide (op = (22 : Int)) then
                                bif bif bif decide (op = (22 : Int)) then true else decide (op = (23 : Int)) then true else !bif decide (op = (22 : Int)) then true else decide (op = (23 : Int)) then
                                  bif bif bif decide (op = (22 : Int)) then true else decide (op = (23 : Int)) then true else decide (op = (24 : Int)) then
                                    bif bif decide (m ≥ (0 : Int)) then decide (m ≥ (0 : Int)) else true then K (XV.bool (bif decide (m ≥ (0 : Int)) then decide (m ≤ (31 : Int)) else false))
                                    else False
                                  else
                                    bif bif decide (m ≥ (-8192 : Int)) then decide (m ≥ (-8192 : Int)) else true then
                                      K (XV.bool (bif decide (m ≥ (-8192 : Int)) then decide (m ≤ (8191 : Int)) else false))
                                    else False
                                else False
                              else False
                          else False
                        else False
                      else False
                    else False
                  else False
                else bif bif !bif decide (d = (0 : Int)) then true else false then true else !bif decide (x = (0 : Int)) then true else false then K (XV.bool false) else False
              else False
            else False
          else False
        else bif !bif decide (d = (0 : Int)) then true else false then K (XV.bool false) else False
      else False
    else False
  else False
else False) := by kernel_rfl
theorem r_rt2_8 (op d x y m : Int) (K : XV → Prop) : (quietGo (TA1 8) 80 (callI (TA1 8) 80 20) 23 [.agg 5 [.int .i64 op, .int .i64 d, .int .i64 x, .int .i64 y, .int .i64 m]] K) =
    (bif decide (fmI op = (8 : Int)) then
  bif bif !decide (d = (0 : Int)) then true else !!decide (d = (0 : Int)) then
    bif bif !decide (d = (0 : Int)) then true else !!decide (d = (0 : Int)) then
      bif bif decide (d = (0 : Int)) then true else !decide (d = (0 : Int)) then
        bif !!bif decide (d = (0 : Int)) then true else false then
          bif bif !decide (x = (0 : Int)) then true else !!decide (x = (0 : Int)) then
            bif bif !decide (x = (0 : Int)) then true else !!decide (x = (0 : Int)) then
              bif bif decide (x = (0 : Int)) then true else !decide (x = (0 : Int)) then
                bif !bif !bif decide (d = (0 : Int)) then true else false then true else !bif decide (x = (0 : Int)) then true else false then
                  bif bif !decide (y = (0 : Int)) then true else !!decide (y = (0 : Int)) then
                    bif bif !decide (y = (0 : Int)) then true else !!decide (y = (0 : Int)) then
                      bif bif decide (y = (0 : Int)) then true else !decide (y = (0 : Int)) then
                        bif
                            bif
                                !bif bif !bif decide (d = (0 : Int)) then true else false then true else !bif decide (x = (0 : Int)) then true else false then true
                                  else !bif decide (y = (0 : Int)) then true else false then
                              true
                            else
                              !!bif bif !bif decide (d = (0 : Int)) then true else false then true else !bif decide (x = (0 : Int)) then true else false then true
                                  else !bif decide (y = (0 : Int)) then true else false then
                          bif
                              bif
                                  bif
                                      !bif bif !bif decide (d = (0 : Int)) then true else false then true else !bif decide (x = (0 : Int)) then true else false then true
                                        else !bif decide (y = (0 : Int)) then true else false then
                                    true
                                  else false then
                                true
                              else
                                !!bif bif !bif decide (d = (0 : Int)) then true else false then true else !bif decide (x = (0 : Int)) then true else false then true
                                    else !bif decide (y = (0 : Int)) then true else false then
                            bif
                                bif
                                    bif bif !bif decide (d = (0 : Int)) then true else false then true else !bif decide (x = (0 : Int)) then true else false then true
                                    else !bif decide (y = (0 : Int)) then true else false then
                                  true
                                else
                                  !bif bif !bif decide (d = (0 : Int)) then true else false then true else !bif decide (x = (0 : Int)) then true else false then true
                                    else !bif decide (y = (0 : Int)) then true else false then
                              bif
                                  bif
                                      bif bif !bif decide (d = (0 : Int)) then true else false then true else !bif decide (x = (0 : Int)) then true else false then true
                                      else !bif decide (y = (0 : Int)) then true else false then
                                    true
                                  else decide ¬m = (0 : Int) then
                                K (XV.bool false)
                              else
                                bif bif decide (op = (22 : Int)) then true else !decide (op = (22 : Int)) then
                                  bif bif bif decide (op = (22 : Int)) then true else decide (op = (23 : Int)) then true else !bif decide (op = (22 : Int)) then true else decide (op = (23 : Int)) then
                                    bif bif bif decide (op = (22 : Int)) then true else decide (op = (23 : Int)) then true else decide (op = (24 : Int)) then
                                      bif bif decide (m ≥ (0 : Int)) then decide (m ≥ (0 : Int)) else true then K (XV.bool (bif decide (m ≥ (0 : Int)) then decide (m ≤ (31 : Int)) else false))
                                      else False
                                    else
                                      bif bif decide (m ≥ (-8192 : Int)) then decide (m ≥ (-8192 : Int)) else true then
                                        K (XV.bool (bif decide (m ≥ (-8192 : Int)) then decide (m ≤ (8191 : Int)) else false))
                                      else False
                                  else False
                                else False
                            else False
                          else False
                        else False
                      else False
                    else False
                  else False
                else bif bif !bif decide (d = (0 : Int)) then true else false then true else !bif decide (x = (0 : Int)) then true else false then K (XV.bool false) else False
              else False
            else False
          else False
        else bif !bif decide (d = (0 : Int)) then true else false then K (XV.bool false) else False
      else False
    else False
  else False
else False) := by kernel_rfl
-- printed by genal.py
theorem pk3 (p z : Bool) : (bif (bif p then (bif !z then p else false) else true) then true else !!z) = true := by cases p <;> cases z <;> rfl
theorem pk4 (z : Bool) : (bif (bif !z then true else false) then true else !!z) = true := by cases z <;> rfl
theorem pk5 (z : Bool) : (bif z then true else !!!z) = true := by cases z <;> rfl
theorem pk6 (z : Bool) : (bif !!z then true else !z) = true := by cases z <;> rfl
theorem isa_form (op : Int) : Pure Try.prog 24 (cons [.int .i64 op]) (con (.int .i64 (fmI op))) := by
  refine pureX (u := 80) (k := 20) mix TA0ok ?_
  rw [r_fm1]
  unfold fmI
  simp only [pk_or, cond_true]
  by_cases h0 : op < 1 ∨ op > 41
  · rw [if_pos h0]
    rcases h0 with h | h <;> simp [h]
  · rw [if_neg h0]
    have h1 : ¬ op < 1 := fun h => h0 (.inl h)
    have h2 : ¬ op > 41 := fun h => h0 (.inr h)
    simp only [h1, h2, decide_false, cond_false]
    by_cases h3 : op ≤ 16
    · simp only [h3, decide_true, cond_true, if_true]
    simp only [h3, decide_false, cond_false, if_false]
    by_cases h4 : op ≤ 24
    · simp only [h4, decide_true, cond_true, if_true]
    simp only [h4, decide_false, cond_false, if_false]
    by_cases h5 : op = 25
    · simp only [h5, decide_true, cond_true, if_true]
    simp only [h5, decide_false, cond_false, if_false]
    by_cases h6 : op ≤ 30
    · simp only [h6, decide_true, cond_true, if_true]
    simp only [h6, decide_false, cond_false, if_false]
    by_cases h7 : op ≤ 33
    · simp only [h7, decide_true, cond_true, if_true]
    simp only [h7, decide_false, cond_false, if_false]
    by_cases h8 : op ≤ 39
    · simp only [h8, decide_true, cond_true, if_true]
    simp only [h8, decide_false, cond_false, if_false]
    by_cases h9 : op = 40
    · simp only [h9, decide_true, cond_true, if_true]
    simp only [h9, decide_false, cond_false, if_false]
theorem ref_form (op : Int) : Pure Try.prog 22 (cons [.int .i64 op]) (con (.int .i64 (fmI op))) := by
  refine pureX (u := 80) (k := 20) mix TA0ok ?_
  rw [r_fm2]
  unfold fmI
  simp only [pk_or, cond_true]
  by_cases h0 : op < 1 ∨ op > 41
  · rw [if_pos h0]
    rcases h0 with h | h <;> simp [h]
  · rw [if_neg h0]
    have h1 : ¬ op < 1 := fun h => h0 (.inl h)
    have h2 : ¬ op > 41 := fun h => h0 (.inr h)
    simp only [h1, h2, decide_false, cond_false]
    by_cases h3 : op ≤ 16
    · simp only [h3, decide_true, cond_true, if_true]
    simp only [h3, decide_false, cond_false, if_false]
    by_cases h4 : op ≤ 24
    · simp only [h4, decide_true, cond_true, if_true]
    simp only [h4, decide_false, cond_false, if_false]
    by_cases h5 : op = 25
    · simp only [h5, decide_true, cond_true, if_true]
    simp only [h5, decide_false, cond_false, if_false]
    by_cases h6 : op ≤ 30
    · simp only [h6, decide_true, cond_true, if_true]
    simp only [h6, decide_false, cond_false, if_false]
    by_cases h7 : op ≤ 33
    · simp only [h7, decide_true, cond_true, if_true]
    simp only [h7, decide_false, cond_false, if_false]
    by_cases h8 : op ≤ 39
    · simp only [h8, decide_true, cond_true, if_true]
    simp only [h8, decide_false, cond_false, if_false]
    by_cases h9 : op = 40
    · simp only [h9, decide_true, cond_true, if_true]
    simp only [h9, decide_false, cond_false, if_false]
theorem sp_form1 : SpOk Try.prog (24, fmSp) := fun args nd v h hn => by
  simp only [fmSp] at h
  split at h
  · simp only [Option.some.injEq, Prod.mk.injEq] at h
    obtain ⟨rfl, rfl⟩ := h
    exact isa_form _
  · cases h
theorem sp_form2 : SpOk Try.prog (22, fmSp) := fun args nd v h hn => by
  simp only [fmSp] at h
  split at h
  · simp only [Option.some.injEq, Prod.mk.injEq] at h
    obtain ⟨rfl, rfl⟩ := h
    exact ref_form _
  · cases h
theorem sp_formF1 (f : Int) : SpOk Try.prog (24, fmSpF f) := fun args nd v h hn => by
  simp only [fmSpF] at h
  split at h
  · rename_i op
    simp only [Option.some.injEq, Prod.mk.injEq] at h
    obtain ⟨rfl, rfl⟩ := h
    have : fmI op = f := of_decide_eq_true (hn _ (by simp))
    rw [← this]
    exact isa_form _
  · cases h
theorem sp_formF2 (f : Int) : SpOk Try.prog (22, fmSpF f) := fun args nd v h hn => by
  simp only [fmSpF] at h
  split at h
  · rename_i op
    simp only [Option.some.injEq, Prod.mk.injEq] at h
    obtain ⟨rfl, rfl⟩ := h
    have : fmI op = f := of_decide_eq_true (hn _ (by simp))
    rw [← this]
    exact ref_form _
  · cases h
theorem TA1ok (f : Int) : TabOk Try.prog (TA1 f) := mkT_ok ((((clok_alu.app clok_isa).app clok_word).app clok_ref1).app clok_math) ⟨sp_formF1 f, sp_formF2 f, trivial⟩ trivial
theorem fm_in (op : Int) : fmI op = 0 ∨ fmI op = 1 ∨ fmI op = 2 ∨ fmI op = 3 ∨ fmI op = 4 ∨ fmI op = 5 ∨ fmI op = 6 ∨ fmI op = 7 ∨ fmI op = 8 := by
  unfold fmI
  repeat' split
  all_goals omega
theorem one1 (b : Bool) : Pure Try.prog 38 (cons [.bool b]) (con (.int .u32 (oneI b))) := by
  refine pureX (u := 80) (k := 20) mix TA0ok ?_
  rw [r_one1]
  cases b <;> rfl
theorem one2 (b : Bool) : Pure Try.prog 29 (cons [.bool b]) (con (.int .u32 (oneI b))) := by
  refine pureX (u := 80) (k := 20) mix TA0ok ?_
  rw [r_one2]
  cases b <;> rfl
theorem sp_one1 : SpOk Try.prog (38, oneSp) := fun args nd v h hn => by
  simp only [oneSp] at h
  split at h
  · simp only [Option.some.injEq, Prod.mk.injEq] at h
    obtain ⟨rfl, rfl⟩ := h
    exact one1 _
  · cases h
theorem sp_one2 : SpOk Try.prog (29, oneSp) := fun args nd v h hn => by
  simp only [oneSp] at h
  split at h
  · simp only [Option.some.injEq, Prod.mk.injEq] at h
    obtain ⟨rfl, rfl⟩ := h
    exact one2 _
  · cases h
theorem rt1_0 (op d x y m : Int) (h : fmI op = 0) : Pure Try.prog 25 (cons [.agg 5 [.int .i64 op, .int .i64 d, .int .i64 x, .int .i64 y, .int .i64 m]]) (con (.bool (rtB op d x y m))) := by
  refine pureX (u := 80) (k := 20) mix (TA1ok 0) ?_
  rw [r_rt1_0]
  have e : rtB op d x y m = false := by
    unfold rtB rtP
    rw [h]
    simp
  rw [e]
  simp only [h, pk_or, pk_and, pk3, pk4, pk5, pk6, decide_true, cond_true, cond_false, Bool.not_true, Bool.not_false]
  try cases decide (op = 22) <;> cases decide (op = 23) <;> cases decide (op = 24) <;> trivial
theorem rt1_1 (op d x y m : Int) (h : fmI op = 1) : Pure Try.prog 25 (cons [.agg 5 [.int .i64 op, .int .i64 d, .int .i64 x, .int .i64 y, .int .i64 m]]) (con (.bool (rtB op d x y m))) := by
  refine pureX (u := 80) (k := 20) mix (TA1ok 1) ?_
  rw [r_rt1_1]
  have e : rtB op d x y m = ((bif decide (d ≥ 0) then decide (d ≤ 15) else false) && ((bif decide (x ≥ 0) then decide (x ≤ 15) else false) && ((bif decide (y ≥ 0) then decide (y ≤ 15) else false) && decide (m = 0)))) := by
    unfold rtB
    rw [h, Bool.eq_iff_iff]
    by_cases ho : (op = 22 ∨ op = 23 ∨ op = 24)
    · have ho2 : (bif bif decide (op = 22) then true else decide (op = 23) then true else decide (op = 24)) = true := by rcases ho with h | h | h <;> simp [h]
      try rw [ho2]
      simp only [decide_eq_true_eq, Bool.and_eq_true, cond_true, rtP, rgP, Bool.cond_true_left, Bool.cond_false_right, Bool.cond_true_right, Bool.cond_false_left, Bool.or_eq_false_iff, Bool.or_eq_true, Bool.and_eq_true, Bool.and_eq_false_iff, decide_eq_false_iff_not, decide_eq_true_eq, Bool.not_eq_true', Bool.not_eq_false', Bool.not_not, Int.not_lt, Int.not_le, gt_iff_lt, ge_iff_le]
      simp <;> omega
    · have ho2 : (bif bif decide (op = 22) then true else decide (op = 23) then true else decide (op = 24)) = false := by simp only [not_or] at ho; simp [ho]
      try rw [ho2]
      simp only [decide_eq_true_eq, Bool.and_eq_true, cond_false, rtP, rgP, Bool.cond_true_left, Bool.cond_false_right, Bool.cond_true_right, Bool.cond_false_left, Bool.or_eq_false_iff, Bool.or_eq_true, Bool.and_eq_true, Bool.and_eq_false_iff, decide_eq_false_iff_not, decide_eq_true_eq, Bool.not_eq_true', Bool.not_eq_false', Bool.not_not, Int.not_lt, Int.not_le, gt_iff_lt, ge_iff_le]
      simp <;> omega
  rw [e]
  simp only [h, pk_or, pk_and, pk3, pk4, pk5, pk6, decide_true, cond_true, decide_not]
  generalize (bif decide (d ≥ 0) then decide (d ≤ 15) else false) = D
  generalize (bif decide (x ≥ 0) then decide (x ≤ 15) else false) = X
  generalize (bif decide (y ≥ 0) then decide (y ≤ 15) else false) = Y
  generalize (bif bif decide (op = 22) then true else decide (op = 23) then true else decide (op = 24)) = O
  generalize decide (m = 0) = M
  cases D <;> cases X <;> cases Y <;> cases O <;> cases M <;> rfl
theorem rt1_2 (op d x y m : Int) (h : fmI op = 2) : Pure Try.prog 25 (cons [.agg 5 [.int .i64 op, .int .i64 d, .int .i64 x, .int .i64 y, .int .i64 m]]) (con (.bool (rtB op d x y m))) := by
  refine pureX (u := 80) (k := 20) mix (TA1ok 2) ?_
  rw [r_rt1_2]
  have e : rtB op d x y m = ((bif decide (d ≥ 0) then decide (d ≤ 15) else false) && ((bif decide (x ≥ 0) then decide (x ≤ 15) else false) && (decide (y = 0) && (bif (bif bif decide (op = 22) then true else decide (op = 23) then true else decide (op = 24)) then (bif decide (m ≥ 0) then decide (m ≤ 31) else false) else (bif decide (m ≥ -8192) then decide (m ≤ 8191) else false))))) := by
    unfold rtB
    rw [h, Bool.eq_iff_iff]
    by_cases ho : (op = 22 ∨ op = 23 ∨ op = 24)
    · have ho2 : (bif bif decide (op = 22) then true else decide (op = 23) then true else decide (op = 24)) = true := by rcases ho with h | h | h <;> simp [h]
      try rw [ho2]
      simp only [decide_eq_true_eq, Bool.and_eq_true, cond_true, rtP, rgP, Bool.cond_true_left, Bool.cond_false_right, Bool.cond_true_right, Bool.cond_false_left, Bool.or_eq_false_iff, Bool.or_eq_true, Bool.and_eq_true, Bool.and_eq_false_iff, decide_eq_false_iff_not, decide_eq_true_eq, Bool.not_eq_true', Bool.not_eq_false', Bool.not_not, Int.not_lt, Int.not_le, gt_iff_lt, ge_iff_le]
      simp <;> omega
    · have ho2 : (bif bif decide (op = 22) then true else decide (op = 23) then true else decide (op = 24)) = false := by simp only [not_or] at ho; simp [ho]
      try rw [ho2]
      simp only [decide_eq_true_eq, Bool.and_eq_true, cond_false, rtP, rgP, Bool.cond_true_left, Bool.cond_false_right, Bool.cond_true_right, Bool.cond_false_left, Bool.or_eq_false_iff, Bool.or_eq_true, Bool.and_eq_true, Bool.and_eq_false_iff, decide_eq_false_iff_not, decide_eq_true_eq, Bool.not_eq_true', Bool.not_eq_false', Bool.not_not, Int.not_lt, Int.not_le, gt_iff_lt, ge_iff_le]
      simp <;> omega
  rw [e]
  simp only [h, pk_or, pk_and, pk3, pk4, pk5, pk6, decide_true, cond_true, decide_not]
  generalize (bif decide (d ≥ 0) then decide (d ≤ 15) else false) = D
  generalize (bif decide (x ≥ 0) then decide (x ≤ 15) else false) = X
  generalize decide (y = 0) = Y
  generalize (bif bif decide (op = 22) then true else decide (op = 23) then true else decide (op = 24)) = O
  generalize (bif decide (m ≥ 0) then decide (m ≤ 31) else false) = M1
  generalize (bif decide (m ≥ -8192) then decide (m ≤ 8191) else false) = M2
  cases D <;> cases X <;> cases Y <;> cases O <;> cases M1 <;> cases M2 <;> rfl
theorem rt1_3 (op d x y m : Int) (h : fmI op = 3) : Pure Try.prog 25 (cons [.agg 5 [.int .i64 op, .int .i64 d, .int .i64 x, .int .i64 y, .int .i64 m]]) (con (.bool (rtB op d x y m))) := by
  refine pureX (u := 80) (k := 20) mix (TA1ok 3) ?_
  rw [r_rt1_3]
  have e : rtB op d x y m = ((bif decide (d ≥ 0) then decide (d ≤ 15) else false) && (decide (x = 0) && (decide (y = 0) && (bif (bif bif decide (op = 22) then true else decide (op = 23) then true else decide (op = 24)) then (bif decide (m ≥ 0) then decide (m ≤ 31) else false) else (bif decide (m ≥ -8192) then decide (m ≤ 8191) else false))))) := by
    unfold rtB
    rw [h, Bool.eq_iff_iff]
    by_cases ho : (op = 22 ∨ op = 23 ∨ op = 24)
    · have ho2 : (bif bif decide (op = 22) then true else decide (op = 23) then true else decide (op = 24)) = true := by rcases ho with h | h | h <;> simp [h]
      try rw [ho2]
      simp only [decide_eq_true_eq, Bool.and_eq_true, cond_true, rtP, rgP, Bool.cond_true_left, Bool.cond_false_right, Bool.cond_true_right, Bool.cond_false_left, Bool.or_eq_false_iff, Bool.or_eq_true, Bool.and_eq_true, Bool.and_eq_false_iff, decide_eq_false_iff_not, decide_eq_true_eq, Bool.not_eq_true', Bool.not_eq_false', Bool.not_not, Int.not_lt, Int.not_le, gt_iff_lt, ge_iff_le]
      simp <;> omega
    · have ho2 : (bif bif decide (op = 22) then true else decide (op = 23) then true else decide (op = 24)) = false := by simp only [not_or] at ho; simp [ho]
      try rw [ho2]
      simp only [decide_eq_true_eq, Bool.and_eq_true, cond_false, rtP, rgP, Bool.cond_true_left, Bool.cond_false_right, Bool.cond_true_right, Bool.cond_false_left, Bool.or_eq_false_iff, Bool.or_eq_true, Bool.and_eq_true, Bool.and_eq_false_iff, decide_eq_false_iff_not, decide_eq_true_eq, Bool.not_eq_true', Bool.not_eq_false', Bool.not_not, Int.not_lt, Int.not_le, gt_iff_lt, ge_iff_le]
      simp <;> omega
  rw [e]
  simp only [h, pk_or, pk_and, pk3, pk4, pk5, pk6, decide_true, cond_true, decide_not]
  generalize (bif decide (d ≥ 0) then decide (d ≤ 15) else false) = D
  generalize decide (x = 0) = X
  generalize decide (y = 0) = Y
  generalize (bif bif decide (op = 22) then true else decide (op = 23) then true else decide (op = 24)) = O
  generalize (bif decide (m ≥ 0) then decide (m ≤ 31) else false) = M1
  generalize (bif decide (m ≥ -8192) then decide (m ≤ 8191) else false) = M2
  cases D <;> cases X <;> cases Y <;> cases O <;> cases M1 <;> cases M2 <;> rfl
theorem rt1_4 (op d x y m : Int) (h : fmI op = 4) : Pure Try.prog 25 (cons [.agg 5 [.int .i64 op, .int .i64 d, .int .i64 x, .int .i64 y, .int .i64 m]]) (con (.bool (rtB op d x y m))) := by
  refine pureX (u := 80) (k := 20) mix (TA1ok 4) ?_
  rw [r_rt1_4]
  have e : rtB op d x y m = ((bif decide (d ≥ 0) then decide (d ≤ 15) else false) && ((bif decide (x ≥ 0) then decide (x ≤ 15) else false) && (decide (y = 0) && (bif (bif bif decide (op = 22) then true else decide (op = 23) then true else decide (op = 24)) then (bif decide (m ≥ 0) then decide (m ≤ 31) else false) else (bif decide (m ≥ -8192) then decide (m ≤ 8191) else false))))) := by
    unfold rtB
    rw [h, Bool.eq_iff_iff]
    by_cases ho : (op = 22 ∨ op = 23 ∨ op = 24)
    · have ho2 : (bif bif decide (op = 22) then true else decide (op = 23) then true else decide (op = 24)) = true := by rcases ho with h | h | h <;> simp [h]
      try rw [ho2]
      simp only [decide_eq_true_eq, Bool.and_eq_true, cond_true, rtP, rgP, Bool.cond_true_left, Bool.cond_false_right, Bool.cond_true_right, Bool.cond_false_left, Bool.or_eq_false_iff, Bool.or_eq_true, Bool.and_eq_true, Bool.and_eq_false_iff, decide_eq_false_iff_not, decide_eq_true_eq, Bool.not_eq_true', Bool.not_eq_false', Bool.not_not, Int.not_lt, Int.not_le, gt_iff_lt, ge_iff_le]
      simp <;> omega
    · have ho2 : (bif bif decide (op = 22) then true else decide (op = 23) then true else decide (op = 24)) = false := by simp only [not_or] at ho; simp [ho]
      try rw [ho2]
      simp only [decide_eq_true_eq, Bool.and_eq_true, cond_false, rtP, rgP, Bool.cond_true_left, Bool.cond_false_right, Bool.cond_true_right, Bool.cond_false_left, Bool.or_eq_false_iff, Bool.or_eq_true, Bool.and_eq_true, Bool.and_eq_false_iff, decide_eq_false_iff_not, decide_eq_true_eq, Bool.not_eq_true', Bool.not_eq_false', Bool.not_not, Int.not_lt, Int.not_le, gt_iff_lt, ge_iff_le]
      simp <;> omega
  rw [e]
  simp only [h, pk_or, pk_and, pk3, pk4, pk5, pk6, decide_true, cond_true, decide_not]
  generalize (bif decide (d ≥ 0) then decide (d ≤ 15) else false) = D
  generalize (bif decide (x ≥ 0) then decide (x ≤ 15) else false) = X
  generalize decide (y = 0) = Y
  generalize (bif bif decide (op = 22) then true else decide (op = 23) then true else decide (op = 24)) = O
  generalize (bif decide (m ≥ 0) then decide (m ≤ 31) else false) = M1
  generalize (bif decide (m ≥ -8192) then decide (m ≤ 8191) else false) = M2
  cases D <;> cases X <;> cases Y <;> cases O <;> cases M1 <;> cases M2 <;> rfl
theorem rt1_5 (op d x y m : Int) (h : fmI op = 5) : Pure Try.prog 25 (cons [.agg 5 [.int .i64 op, .int .i64 d, .int .i64 x, .int .i64 y, .int .i64 m]]) (con (.bool (rtB op d x y m))) := by
  refine pureX (u := 80) (k := 20) mix (TA1ok 5) ?_
  rw [r_rt1_5]
  have e : rtB op d x y m = (decide (d = 0) && ((bif decide (x ≥ 0) then decide (x ≤ 15) else false) && ((bif decide (y ≥ 0) then decide (y ≤ 15) else false) && (bif (bif bif decide (op = 22) then true else decide (op = 23) then true else decide (op = 24)) then (bif decide (m ≥ 0) then decide (m ≤ 31) else false) else (bif decide (m ≥ -8192) then decide (m ≤ 8191) else false))))) := by
    unfold rtB
    rw [h, Bool.eq_iff_iff]
    by_cases ho : (op = 22 ∨ op = 23 ∨ op = 24)
    · have ho2 : (bif bif decide (op = 22) then true else decide (op = 23) then true else decide (op = 24)) = true := by rcases ho with h | h | h <;> simp [h]
      try rw [ho2]
      simp only [decide_eq_true_eq, Bool.and_eq_true, cond_true, rtP, rgP, Bool.cond_true_left, Bool.cond_false_right, Bool.cond_true_right, Bool.cond_false_left, Bool.or_eq_false_iff, Bool.or_eq_true, Bool.and_eq_true, Bool.and_eq_false_iff, decide_eq_false_iff_not, decide_eq_true_eq, Bool.not_eq_true', Bool.not_eq_false', Bool.not_not, Int.not_lt, Int.not_le, gt_iff_lt, ge_iff_le]
      simp <;> omega
    · have ho2 : (bif bif decide (op = 22) then true else decide (op = 23) then true else decide (op = 24)) = false := by simp only [not_or] at ho; simp [ho]
      try rw [ho2]
      simp only [decide_eq_true_eq, Bool.and_eq_true, cond_false, rtP, rgP, Bool.cond_true_left, Bool.cond_false_right, Bool.cond_true_right, Bool.cond_false_left, Bool.or_eq_false_iff, Bool.or_eq_true, Bool.and_eq_true, Bool.and_eq_false_iff, decide_eq_false_iff_not, decide_eq_true_eq, Bool.not_eq_true', Bool.not_eq_false', Bool.not_not, Int.not_lt, Int.not_le, gt_iff_lt, ge_iff_le]
      simp <;> omega
  rw [e]
  simp only [h, pk_or, pk_and, pk3, pk4, pk5, pk6, decide_true, cond_true, decide_not]
  generalize decide (d = 0) = D
  generalize (bif decide (x ≥ 0) then decide (x ≤ 15) else false) = X
  generalize (bif decide (y ≥ 0) then decide (y ≤ 15) else false) = Y
  generalize (bif bif decide (op = 22) then true else decide (op = 23) then true else decide (op = 24)) = O
  generalize (bif decide (m ≥ 0) then decide (m ≤ 31) else false) = M1
  generalize (bif decide (m ≥ -8192) then decide (m ≤ 8191) else false) = M2
  cases D <;> cases X <;> cases Y <;> cases O <;> cases M1 <;> cases M2 <;> rfl
theorem rt1_6 (op d x y m : Int) (h : fmI op = 6) : Pure Try.prog 25 (cons [.agg 5 [.int .i64 op, .int .i64 d, .int .i64 x, .int .i64 y, .int .i64 m]]) (con (.bool (rtB op d x y m))) := by
  refine pureX (u := 80) (k := 20) mix (TA1ok 6) ?_
  rw [r_rt1_6]
  have e : rtB op d x y m = (decide (d = 0) && ((bif decide (x ≥ 0) then decide (x ≤ 15) else false) && ((bif decide (y ≥ 0) then decide (y ≤ 15) else false) && (bif (bif bif decide (op = 22) then true else decide (op = 23) then true else decide (op = 24)) then (bif decide (m ≥ 0) then decide (m ≤ 31) else false) else (bif decide (m ≥ -8192) then decide (m ≤ 8191) else false))))) := by
    unfold rtB
    rw [h, Bool.eq_iff_iff]
    by_cases ho : (op = 22 ∨ op = 23 ∨ op = 24)
    · have ho2 : (bif bif decide (op = 22) then true else decide (op = 23) then true else decide (op = 24)) = true := by rcases ho with h | h | h <;> simp [h]
      try rw [ho2]
      simp only [decide_eq_true_eq, Bool.and_eq_true, cond_true, rtP, rgP, Bool.cond_true_left, Bool.cond_false_right, Bool.cond_true_right, Bool.cond_false_left, Bool.or_eq_false_iff, Bool.or_eq_true, Bool.and_eq_true, Bool.and_eq_false_iff, decide_eq_false_iff_not, decide_eq_true_eq, Bool.not_eq_true', Bool.not_eq_false', Bool.not_not, Int.not_lt, Int.not_le, gt_iff_lt, ge_iff_le]
      simp <;> omega
    · have ho2 : (bif bif decide (op = 22) then true else decide (op = 23) then true else decide (op = 24)) = false := by simp only [not_or] at ho; simp [ho]
      try rw [ho2]
      simp only [decide_eq_true_eq, Bool.and_eq_true, cond_false, rtP, rgP, Bool.cond_true_left, Bool.cond_false_right, Bool.cond_true_right, Bool.cond_false_left, Bool.or_eq_false_iff, Bool.or_eq_true, Bool.and_eq_true, Bool.and_eq_false_iff, decide_eq_false_iff_not, decide_eq_true_eq, Bool.not_eq_true', Bool.not_eq_false', Bool.not_not, Int.not_lt, Int.not_le, gt_iff_lt, ge_iff_le]
      simp <;> omega
  rw [e]
  simp only [h, pk_or, pk_and, pk3, pk4, pk5, pk6, decide_true, cond_true, decide_not]
  generalize decide (d = 0) = D
  generalize (bif decide (x ≥ 0) then decide (x ≤ 15) else false) = X
  generalize (bif decide (y ≥ 0) then decide (y ≤ 15) else false) = Y
  generalize (bif bif decide (op = 22) then true else decide (op = 23) then true else decide (op = 24)) = O
  generalize (bif decide (m ≥ 0) then decide (m ≤ 31) else false) = M1
  generalize (bif decide (m ≥ -8192) then decide (m ≤ 8191) else false) = M2
  cases D <;> cases X <;> cases Y <;> cases O <;> cases M1 <;> cases M2 <;> rfl
theorem rt1_7 (op d x y m : Int) (h : fmI op = 7) : Pure Try.prog 25 (cons [.agg 5 [.int .i64 op, .int .i64 d, .int .i64 x, .int .i64 y, .int .i64 m]]) (con (.bool (rtB op d x y m))) := by
  refine pureX (u := 80) (k := 20) mix (TA1ok 7) ?_
  rw [r_rt1_7]
  have e : rtB op d x y m = (decide (d = 0) && (decide (x = 0) && (decide (y = 0) && (bif (bif bif decide (op = 22) then true else decide (op = 23) then true else decide (op = 24)) then (bif decide (m ≥ 0) then decide (m ≤ 31) else false) else (bif decide (m ≥ -8192) then decide (m ≤ 8191) else false))))) := by
    unfold rtB
    rw [h, Bool.eq_iff_iff]
    by_cases ho : (op = 22 ∨ op = 23 ∨ op = 24)
    · have ho2 : (bif bif decide (op = 22) then true else decide (op = 23) then true else decide (op = 24)) = true := by rcases ho with h | h | h <;> simp [h]
      try rw [ho2]
      simp only [decide_eq_true_eq, Bool.and_eq_true, cond_true, rtP, rgP, Bool.cond_true_left, Bool.cond_false_right, Bool.cond_true_right, Bool.cond_false_left, Bool.or_eq_false_iff, Bool.or_eq_true, Bool.and_eq_true, Bool.and_eq_false_iff, decide_eq_false_iff_not, decide_eq_true_eq, Bool.not_eq_true', Bool.not_eq_false', Bool.not_not, Int.not_lt, Int.not_le, gt_iff_lt, ge_iff_le]
      simp <;> omega
    · have ho2 : (bif bif decide (op = 22) then true else decide (op = 23) then true else decide (op = 24)) = false := by simp only [not_or] at ho; simp [ho]
      try rw [ho2]
      simp only [decide_eq_true_eq, Bool.and_eq_true, cond_false, rtP, rgP, Bool.cond_true_left, Bool.cond_false_right, Bool.cond_true_right, Bool.cond_false_left, Bool.or_eq_false_iff, Bool.or_eq_true, Bool.and_eq_true, Bool.and_eq_false_iff, decide_eq_false_iff_not, decide_eq_true_eq, Bool.not_eq_true', Bool.not_eq_false', Bool.not_not, Int.not_lt, Int.not_le, gt_iff_lt, ge_iff_le]
      simp <;> omega
  rw [e]
  simp only [h, pk_or, pk_and, pk3, pk4, pk5, pk6, decide_true, cond_true, decide_not]
  generalize decide (d = 0) = D
  generalize decide (x = 0) = X
  generalize decide (y = 0) = Y
  generalize (bif bif decide (op = 22) then true else decide (op = 23) then true else decide (op = 24)) = O
  generalize (bif decide (m ≥ 0) then decide (m ≤ 31) else false) = M1
  generalize (bif decide (m ≥ -8192) then decide (m ≤ 8191) else false) = M2
  cases D <;> cases X <;> cases Y <;> cases O <;> cases M1 <;> cases M2 <;> rfl
theorem rt1_8 (op d x y m : Int) (h : fmI op = 8) : Pure Try.prog 25 (cons [.agg 5 [.int .i64 op, .int .i64 d, .int .i64 x, .int .i64 y, .int .i64 m]]) (con (.bool (rtB op d x y m))) := by
  refine pureX (u := 80) (k := 20) mix (TA1ok 8) ?_
  rw [r_rt1_8]
  have e : rtB op d x y m = (decide (d = 0) && (decide (x = 0) && (decide (y = 0) && decide (m = 0)))) := by
    unfold rtB
    rw [h, Bool.eq_iff_iff]
    by_cases ho : (op = 22 ∨ op = 23 ∨ op = 24)
    · have ho2 : (bif bif decide (op = 22) then true else decide (op = 23) then true else decide (op = 24)) = true := by rcases ho with h | h | h <;> simp [h]
      try rw [ho2]
      simp only [decide_eq_true_eq, Bool.and_eq_true, cond_true, rtP, rgP, Bool.cond_true_left, Bool.cond_false_right, Bool.cond_true_right, Bool.cond_false_left, Bool.or_eq_false_iff, Bool.or_eq_true, Bool.and_eq_true, Bool.and_eq_false_iff, decide_eq_false_iff_not, decide_eq_true_eq, Bool.not_eq_true', Bool.not_eq_false', Bool.not_not, Int.not_lt, Int.not_le, gt_iff_lt, ge_iff_le]
      simp <;> omega
    · have ho2 : (bif bif decide (op = 22) then true else decide (op = 23) then true else decide (op = 24)) = false := by simp only [not_or] at ho; simp [ho]
      try rw [ho2]
      simp only [decide_eq_true_eq, Bool.and_eq_true, cond_false, rtP, rgP, Bool.cond_true_left, Bool.cond_false_right, Bool.cond_true_right, Bool.cond_false_left, Bool.or_eq_false_iff, Bool.or_eq_true, Bool.and_eq_true, Bool.and_eq_false_iff, decide_eq_false_iff_not, decide_eq_true_eq, Bool.not_eq_true', Bool.not_eq_false', Bool.not_not, Int.not_lt, Int.not_le, gt_iff_lt, ge_iff_le]
      simp <;> omega
  rw [e]
  simp only [h, pk_or, pk_and, pk3, pk4, pk5, pk6, decide_true, cond_true, decide_not]
  generalize decide (d = 0) = D
  generalize decide (x = 0) = X
  generalize decide (y = 0) = Y
  generalize (bif bif decide (op = 22) then true else decide (op = 23) then true else decide (op = 24)) = O
  generalize decide (m = 0) = M
  cases D <;> cases X <;> cases Y <;> cases O <;> cases M <;> rfl
theorem rt2_0 (op d x y m : Int) (h : fmI op = 0) : Pure Try.prog 23 (cons [.agg 5 [.int .i64 op, .int .i64 d, .int .i64 x, .int .i64 y, .int .i64 m]]) (con (.bool (rtB op d x y m))) := by
  refine pureX (u := 80) (k := 20) mix (TA1ok 0) ?_
  rw [r_rt2_0]
  have e : rtB op d x y m = false := by
    unfold rtB rtP
    rw [h]
    simp
  rw [e]
  simp only [h, pk_or, pk_and, pk3, pk4, pk5, pk6, decide_true, cond_true, cond_false, Bool.not_true, Bool.not_false]
  try cases decide (op = 22) <;> cases decide (op = 23) <;> cases decide (op = 24) <;> trivial
theorem rt2_1 (op d x y m : Int) (h : fmI op = 1) : Pure Try.prog 23 (cons [.agg 5 [.int .i64 op, .int .i64 d, .int .i64 x, .int .i64 y, .int .i64 m]]) (con (.bool (rtB op d x y m))) := by
  refine pureX (u := 80) (k := 20) mix (TA1ok 1) ?_
  rw [r_rt2_1]
  have e : rtB op d x y m = ((bif decide (d = 0) then true else bif decide (d > 0) then decide (d ≤ 15) else false) && ((bif decide (x = 0) then true else bif decide (x > 0) then decide (x ≤ 15) else false) && ((bif decide (y = 0) then true else bif decide (y > 0) then decide (y ≤ 15) else false) && decide (m = 0)))) := by
    unfold rtB
    rw [h, Bool.eq_iff_iff]
    by_cases ho : (op = 22 ∨ op = 23 ∨ op = 24)
    · have ho2 : (bif bif decide (op = 22) then true else decide (op = 23) then true else decide (op = 24)) = true := by rcases ho with h | h | h <;> simp [h]
      try rw [ho2]
      simp only [decide_eq_true_eq, Bool.and_eq_true, cond_true, rtP, rgP, Bool.cond_true_left, Bool.cond_false_right, Bool.cond_true_right, Bool.cond_false_left, Bool.or_eq_false_iff, Bool.or_eq_true, Bool.and_eq_true, Bool.and_eq_false_iff, decide_eq_false_iff_not, decide_eq_true_eq, Bool.not_eq_true', Bool.not_eq_false', Bool.not_not, Int.not_lt, Int.not_le, gt_iff_lt, ge_iff_le]
      simp <;> omega
    · have ho2 : (bif bif decide (op = 22) then true else decide (op = 23) then true else decide (op = 24)) = false := by simp only [not_or] at ho; simp [ho]
      try rw [ho2]
      simp only [decide_eq_true_eq, Bool.and_eq_true, cond_false, rtP, rgP, Bool.cond_true_left, Bool.cond_false_right, Bool.cond_true_right, Bool.cond_false_left, Bool.or_eq_false_iff, Bool.or_eq_true, Bool.and_eq_true, Bool.and_eq_false_iff, decide_eq_false_iff_not, decide_eq_true_eq, Bool.not_eq_true', Bool.not_eq_false', Bool.not_not, Int.not_lt, Int.not_le, gt_iff_lt, ge_iff_le]
      simp <;> omega
  rw [e]
  simp only [h, pk_or, pk_and, pk3, pk4, pk5, pk6, decide_true, cond_true, decide_not]
  generalize (bif decide (d = 0) then true else bif decide (d > 0) then decide (d ≤ 15) else false) = D
  generalize (bif decide (x = 0) then true else bif decide (x > 0) then decide (x ≤ 15) else false) = X
  generalize (bif decide (y = 0) then true else bif decide (y > 0) then decide (y ≤ 15) else false) = Y
  generalize (bif bif decide (op = 22) then true else decide (op = 23) then true else decide (op = 24)) = O
  by_cases hm : m = 0
  · subst hm
    cases D <;> cases X <;> cases Y <;> cases O <;> rfl
  · rw [decide_eq_false hm]
    generalize (bif decide (m ≥ 0) then decide (m ≤ 31) else false) = M1
    generalize (bif decide (m ≥ -8192) then decide (m ≤ 8191) else false) = M2
    cases D <;> cases X <;> cases Y <;> cases O <;> rfl
theorem rt2_2 (op d x y m : Int) (h : fmI op = 2) : Pure Try.prog 23 (cons [.agg 5 [.int .i64 op, .int .i64 d, .int .i64 x, .int .i64 y, .int .i64 m]]) (con (.bool (rtB op d x y m))) := by
  refine pureX (u := 80) (k := 20) mix (TA1ok 2) ?_
  rw [r_rt2_2]
  have e : rtB op d x y m = ((bif decide (d = 0) then true else bif decide (d > 0) then decide (d ≤ 15) else false) && ((bif decide (x = 0) then true else bif decide (x > 0) then decide (x ≤ 15) else false) && (decide (y = 0) && (bif (bif bif decide (op = 22) then true else decide (op = 23) then true else decide (op = 24)) then (bif decide (m ≥ 0) then decide (m ≤ 31) else false) else (bif decide (m ≥ -8192) then decide (m ≤ 8191) else false))))) := by
    unfold rtB
    rw [h, Bool.eq_iff_iff]
    by_cases ho : (op = 22 ∨ op = 23 ∨ op = 24)
    · have ho2 : (bif bif decide (op = 22) then true else decide (op = 23) then true else decide (op = 24)) = true := by rcases ho with h | h | h <;> simp [h]
      try rw [ho2]
      simp only [decide_eq_true_eq, Bool.and_eq_true, cond_true, rtP, rgP, Bool.cond_true_left, Bool.cond_false_right, Bool.cond_true_right, Bool.cond_false_left, Bool.or_eq_false_iff, Bool.or_eq_true, Bool.and_eq_true, Bool.and_eq_false_iff, decide_eq_false_iff_not, decide_eq_true_eq, Bool.not_eq_true', Bool.not_eq_false', Bool.not_not, Int.not_lt, Int.not_le, gt_iff_lt, ge_iff_le]
      simp <;> omega
    · have ho2 : (bif bif decide (op = 22) then true else decide (op = 23) then true else decide (op = 24)) = false := by simp only [not_or] at ho; simp [ho]
      try rw [ho2]
      simp only [decide_eq_true_eq, Bool.and_eq_true, cond_false, rtP, rgP, Bool.cond_true_left, Bool.cond_false_right, Bool.cond_true_right, Bool.cond_false_left, Bool.or_eq_false_iff, Bool.or_eq_true, Bool.and_eq_true, Bool.and_eq_false_iff, decide_eq_false_iff_not, decide_eq_true_eq, Bool.not_eq_true', Bool.not_eq_false', Bool.not_not, Int.not_lt, Int.not_le, gt_iff_lt, ge_iff_le]
      simp <;> omega
  rw [e]
  simp only [h, pk_or, pk_and, pk3, pk4, pk5, pk6, decide_true, cond_true, decide_not]
  generalize (bif decide (d = 0) then true else bif decide (d > 0) then decide (d ≤ 15) else false) = D
  generalize (bif decide (x = 0) then true else bif decide (x > 0) then decide (x ≤ 15) else false) = X
  generalize decide (y = 0) = Y
  generalize (bif bif decide (op = 22) then true else decide (op = 23) then true else decide (op = 24)) = O
  generalize (bif decide (m ≥ 0) then decide (m ≤ 31) else false) = M1
  generalize (bif decide (m ≥ -8192) then decide (m ≤ 8191) else false) = M2
  cases D <;> cases X <;> cases Y <;> cases O <;> cases M1 <;> cases M2 <;> rfl
theorem rt2_3 (op d x y m : Int) (h : fmI op = 3) : Pure Try.prog 23 (cons [.agg 5 [.int .i64 op, .int .i64 d, .int .i64 x, .int .i64 y, .int .i64 m]]) (con (.bool (rtB op d x y m))) := by
  refine pureX (u := 80) (k := 20) mix (TA1ok 3) ?_
  rw [r_rt2_3]
  have e : rtB op d x y m = ((bif decide (d = 0) then true else bif decide (d > 0) then decide (d ≤ 15) else false) && (decide (x = 0) && (decide (y = 0) && (bif (bif bif decide (op = 22) then true else decide (op = 23) then true else decide (op = 24)) then (bif decide (m ≥ 0) then decide (m ≤ 31) else false) else (bif decide (m ≥ -8192) then decide (m ≤ 8191) else false))))) := by
    unfold rtB
    rw [h, Bool.eq_iff_iff]
    by_cases ho : (op = 22 ∨ op = 23 ∨ op = 24)
    · have ho2 : (bif bif decide (op = 22) then true else decide (op = 23) then true else decide (op = 24)) = true := by rcases ho with h | h | h <;> simp [h]
      try rw [ho2]
      simp only [decide_eq_true_eq, Bool.and_eq_true, cond_true, rtP, rgP, Bool.cond_true_left, Bool.cond_false_right, Bool.cond_true_right, Bool.cond_false_left, Bool.or_eq_false_iff, Bool.or_eq_true, Bool.and_eq_true, Bool.and_eq_false_iff, decide_eq_false_iff_not, decide_eq_true_eq, Bool.not_eq_true', Bool.not_eq_false', Bool.not_not, Int.not_lt, Int.not_le, gt_iff_lt, ge_iff_le]
      simp <;> omega
    · have ho2 : (bif bif decide (op = 22) then true else decide (op = 23) then true else decide (op = 24)) = false := by simp only [not_or] at ho; simp [ho]
      try rw [ho2]
      simp only [decide_eq_true_eq, Bool.and_eq_true, cond_false, rtP, rgP, Bool.cond_true_left, Bool.cond_false_right, Bool.cond_true_right, Bool.cond_false_left, Bool.or_eq_false_iff, Bool.or_eq_true, Bool.and_eq_true, Bool.and_eq_false_iff, decide_eq_false_iff_not, decide_eq_true_eq, Bool.not_eq_true', Bool.not_eq_false', Bool.not_not, Int.not_lt, Int.not_le, gt_iff_lt, ge_iff_le]
      simp <;> omega
  rw [e]
  simp only [h, pk_or, pk_and, pk3, pk4, pk5, pk6, decide_true, cond_true, decide_not]
  generalize (bif decide (d = 0) then true else bif decide (d > 0) then decide (d ≤ 15) else false) = D
  generalize decide (x = 0) = X
  generalize decide (y = 0) = Y
  generalize (bif bif decide (op = 22) then true else decide (op = 23) then true else decide (op = 24)) = O
  generalize (bif decide (m ≥ 0) then decide (m ≤ 31) else false) = M1
  generalize (bif decide (m ≥ -8192) then decide (m ≤ 8191) else false) = M2
  cases D <;> cases X <;> cases Y <;> cases O <;> cases M1 <;> cases M2 <;> rfl
theorem rt2_4 (op d x y m : Int) (h : fmI op = 4) : Pure Try.prog 23 (cons [.agg 5 [.int .i64 op, .int .i64 d, .int .i64 x, .int .i64 y, .int .i64 m]]) (con (.bool (rtB op d x y m))) := by
  refine pureX (u := 80) (k := 20) mix (TA1ok 4) ?_
  rw [r_rt2_4]
  have e : rtB op d x y m = ((bif decide (d = 0) then true else bif decide (d > 0) then decide (d ≤ 15) else false) && ((bif decide (x = 0) then true else bif decide (x > 0) then decide (x ≤ 15) else false) && (decide (y = 0) && (bif (bif bif decide (op = 22) then true else decide (op = 23) then true else decide (op = 24)) then (bif decide (m ≥ 0) then decide (m ≤ 31) else false) else (bif decide (m ≥ -8192) then decide (m ≤ 8191) else false))))) := by
    unfold rtB
    rw [h, Bool.eq_iff_iff]
    by_cases ho : (op = 22 ∨ op = 23 ∨ op = 24)
    · have ho2 : (bif bif decide (op = 22) then true else decide (op = 23) then true else decide (op = 24)) = true := by rcases ho with h | h | h <;> simp [h]
      try rw [ho2]
      simp only [decide_eq_true_eq, Bool.and_eq_true, cond_true, rtP, rgP, Bool.cond_true_left, Bool.cond_false_right, Bool.cond_true_right, Bool.cond_false_left, Bool.or_eq_false_iff, Bool.or_eq_true, Bool.and_eq_true, Bool.and_eq_false_iff, decide_eq_false_iff_not, decide_eq_true_eq, Bool.not_eq_true', Bool.not_eq_false', Bool.not_not, Int.not_lt, Int.not_le, gt_iff_lt, ge_iff_le]
      simp <;> omega
    · have ho2 : (bif bif decide (op = 22) then true else decide (op = 23) then true else decide (op = 24)) = false := by simp only [not_or] at ho; simp [ho]
      try rw [ho2]
      simp only [decide_eq_true_eq, Bool.and_eq_true, cond_false, rtP, rgP, Bool.cond_true_left, Bool.cond_false_right, Bool.cond_true_right, Bool.cond_false_left, Bool.or_eq_false_iff, Bool.or_eq_true, Bool.and_eq_true, Bool.and_eq_false_iff, decide_eq_false_iff_not, decide_eq_true_eq, Bool.not_eq_true', Bool.not_eq_false', Bool.not_not, Int.not_lt, Int.not_le, gt_iff_lt, ge_iff_le]
      simp <;> omega
  rw [e]
  simp only [h, pk_or, pk_and, pk3, pk4, pk5, pk6, decide_true, cond_true, decide_not]
  generalize (bif decide (d = 0) then true else bif decide (d > 0) then decide (d ≤ 15) else false) = D
  generalize (bif decide (x = 0) then true else bif decide (x > 0) then decide (x ≤ 15) else false) = X
  generalize decide (y = 0) = Y
  generalize (bif bif decide (op = 22) then true else decide (op = 23) then true else decide (op = 24)) = O
  generalize (bif decide (m ≥ 0) then decide (m ≤ 31) else false) = M1
  generalize (bif decide (m ≥ -8192) then decide (m ≤ 8191) else false) = M2
  cases D <;> cases X <;> cases Y <;> cases O <;> cases M1 <;> cases M2 <;> rfl
theorem rt2_5 (op d x y m : Int) (h : fmI op = 5) : Pure Try.prog 23 (cons [.agg 5 [.int .i64 op, .int .i64 d, .int .i64 x, .int .i64 y, .int .i64 m]]) (con (.bool (rtB op d x y m))) := by
  refine pureX (u := 80) (k := 20) mix (TA1ok 5) ?_
  rw [r_rt2_5]
  have e : rtB op d x y m = (decide (d = 0) && ((bif decide (x = 0) then true else bif decide (x > 0) then decide (x ≤ 15) else false) && ((bif decide (y = 0) then true else bif decide (y > 0) then decide (y ≤ 15) else false) && (bif (bif bif decide (op = 22) then true else decide (op = 23) then true else decide (op = 24)) then (bif decide (m ≥ 0) then decide (m ≤ 31) else false) else (bif decide (m ≥ -8192) then decide (m ≤ 8191) else false))))) := by
    unfold rtB
    rw [h, Bool.eq_iff_iff]
    by_cases ho : (op = 22 ∨ op = 23 ∨ op = 24)
    · have ho2 : (bif bif decide (op = 22) then true else decide (op = 23) then true else decide (op = 24)) = true := by rcases ho with h | h | h <;> simp [h]
      try rw [ho2]
      simp only [decide_eq_true_eq, Bool.and_eq_true, cond_true, rtP, rgP, Bool.cond_true_left, Bool.cond_false_right, Bool.cond_true_right, Bool.cond_false_left, Bool.or_eq_false_iff, Bool.or_eq_true, Bool.and_eq_true, Bool.and_eq_false_iff, decide_eq_false_iff_not, decide_eq_true_eq, Bool.not_eq_true', Bool.not_eq_false', Bool.not_not, Int.not_lt, Int.not_le, gt_iff_lt, ge_iff_le]
      simp <;> omega
    · have ho2 : (bif bif decide (op = 22) then true else decide (op = 23) then true else decide (op = 24)) = false := by simp only [not_or] at ho; simp [ho]
      try rw [ho2]
      simp only [decide_eq_true_eq, Bool.and_eq_true, cond_false, rtP, rgP, Bool.cond_true_left, Bool.cond_false_right, Bool.cond_true_right, Bool.cond_false_left, Bool.or_eq_false_iff, Bool.or_eq_true, Bool.and_eq_true, Bool.and_eq_false_iff, decide_eq_false_iff_not, decide_eq_true_eq, Bool.not_eq_true', Bool.not_eq_false', Bool.not_not, Int.not_lt, Int.not_le, gt_iff_lt, ge_iff_le]
      simp <;> omega
  rw [e]
  simp only [h, pk_or, pk_and, pk3, pk4, pk5, pk6, decide_true, cond_true, decide_not]
  generalize decide (d = 0) = D
  generalize (bif decide (x = 0) then true else bif decide (x > 0) then decide (x ≤ 15) else false) = X
  generalize (bif decide (y = 0) then true else bif decide (y > 0) then decide (y ≤ 15) else false) = Y
  generalize (bif bif decide (op = 22) then true else decide (op = 23) then true else decide (op = 24)) = O
  generalize (bif decide (m ≥ 0) then decide (m ≤ 31) else false) = M1
  generalize (bif decide (m ≥ -8192) then decide (m ≤ 8191) else false) = M2
  cases D <;> cases X <;> cases Y <;> cases O <;> cases M1 <;> cases M2 <;> rfl
theorem rt2_6 (op d x y m : Int) (h : fmI op = 6) : Pure Try.prog 23 (cons [.agg 5 [.int .i64 op, .int .i64 d, .int .i64 x, .int .i64 y, .int .i64 m]]) (con (.bool (rtB op d x y m))) := by
  refine pureX (u := 80) (k := 20) mix (TA1ok 6) ?_
  rw [r_rt2_6]
  have e : rtB op d x y m = (decide (d = 0) && ((bif decide (x = 0) then true else bif decide (x > 0) then decide (x ≤ 15) else false) && ((bif decide (y = 0) then true else bif decide (y > 0) then decide (y ≤ 15) else false) && (bif (bif bif decide (op = 22) then true else decide (op = 23) then true else decide (op = 24)) then (bif decide (m ≥ 0) then decide (m ≤ 31) else false) else (bif decide (m ≥ -8192) then decide (m ≤ 8191) else false))))) := by
    unfold rtB
    rw [h, Bool.eq_iff_iff]
    by_cases ho : (op = 22 ∨ op = 23 ∨ op = 24)
    · have ho2 : (bif bif decide (op = 22) then true else decide (op = 23) then true else decide (op = 24)) = true := by rcases ho with h | h | h <;> simp [h]
      try rw [ho2]
      simp only [decide_eq_true_eq, Bool.and_eq_true, cond_true, rtP, rgP, Bool.cond_true_left, Bool.cond_false_right, Bool.cond_true_right, Bool.cond_false_left, Bool.or_eq_false_iff, Bool.or_eq_true, Bool.and_eq_true, Bool.and_eq_false_iff, decide_eq_false_iff_not, decide_eq_true_eq, Bool.not_eq_true', Bool.not_eq_false', Bool.not_not, Int.not_lt, Int.not_le, gt_iff_lt, ge_iff_le]
      simp <;> omega
    · have ho2 : (bif bif decide (op = 22) then true else decide (op = 23) then true else decide (op = 24)) = false := by simp only [not_or] at ho; simp [ho]
      try rw [ho2]
      simp only [decide_eq_true_eq, Bool.and_eq_true, cond_false, rtP, rgP, Bool.cond_true_left, Bool.cond_false_right, Bool.cond_true_right, Bool.cond_false_left, Bool.or_eq_false_iff, Bool.or_eq_true, Bool.and_eq_true, Bool.and_eq_false_iff, decide_eq_false_iff_not, decide_eq_true_eq, Bool.not_eq_true', Bool.not_eq_false', Bool.not_not, Int.not_lt, Int.not_le, gt_iff_lt, ge_iff_le]
      simp <;> omega
  rw [e]
  simp only [h, pk_or, pk_and, pk3, pk4, pk5, pk6, decide_true, cond_true, decide_not]
  generalize decide (d = 0) = D
  generalize (bif decide (x = 0) then true else bif decide (x > 0) then decide (x ≤ 15) else false) = X
  generalize (bif decide (y = 0) then true else bif decide (y > 0) then decide (y ≤ 15) else false) = Y
  generalize (bif bif decide (op = 22) then true else decide (op = 23) then true else decide (op = 24)) = O
  generalize (bif decide (m ≥ 0) then decide (m ≤ 31) else false) = M1
  generalize (bif decide (m ≥ -8192) then decide (m ≤ 8191) else false) = M2
  cases D <;> cases X <;> cases Y <;> cases O <;> cases M1 <;> cases M2 <;> rfl
theorem rt2_7 (op d x y m : Int) (h : fmI op = 7) : Pure Try.prog 23 (cons [.agg 5 [.int .i64 op, .int .i64 d, .int .i64 x, .int .i64 y, .int .i64 m]]) (con (.bool (rtB op d x y m))) := by
  refine pureX (u := 80) (k := 20) mix (TA1ok 7) ?_
  rw [r_rt2_7]
  have e : rtB op d x y m = (decide (d = 0) && (decide (x = 0) && (decide (y = 0) && (bif (bif bif decide (op = 22) then true else decide (op = 23) then true else decide (op = 24)) then (bif decide (m ≥ 0) then decide (m ≤ 31) else false) else (bif decide (m ≥ -8192) then decide (m ≤ 8191) else false))))) := by
    unfold rtB
    rw [h, Bool.eq_iff_iff]
    by_cases ho : (op = 22 ∨ op = 23 ∨ op = 24)
    · have ho2 : (bif bif decide (op = 22) then true else decide (op = 23) then true else decide (op = 24)) = true := by rcases ho with h | h | h <;> simp [h]
      try rw [ho2]
      simp only [decide_eq_true_eq, Bool.and_eq_true, cond_true, rtP, rgP, Bool.cond_true_left, Bool.cond_false_right, Bool.cond_true_right, Bool.cond_false_left, Bool.or_eq_false_iff, Bool.or_eq_true, Bool.and_eq_true, Bool.and_eq_false_iff, decide_eq_false_iff_not, decide_eq_true_eq, Bool.not_eq_true', Bool.not_eq_false', Bool.not_not, Int.not_lt, Int.not_le, gt_iff_lt, ge_iff_le]
      simp <;> omega
    · have ho2 : (bif bif decide (op = 22) then true else decide (op = 23) then true else decide (op = 24)) = false := by simp only [not_or] at ho; simp [ho]
      try rw [ho2]
      simp only [decide_eq_true_eq, Bool.and_eq_true, cond_false, rtP, rgP, Bool.cond_true_left, Bool.cond_false_right, Bool.cond_true_right, Bool.cond_false_left, Bool.or_eq_false_iff, Bool.or_eq_true, Bool.and_eq_true, Bool.and_eq_false_iff, decide_eq_false_iff_not, decide_eq_true_eq, Bool.not_eq_true', Bool.not_eq_false', Bool.not_not, Int.not_lt, Int.not_le, gt_iff_lt, ge_iff_le]
      simp <;> omega
  rw [e]
  simp only [h, pk_or, pk_and, pk3, pk4, pk5, pk6, decide_true, cond_true, decide_not]
  generalize decide (d = 0) = D
  generalize decide (x = 0) = X
  generalize decide (y = 0) = Y
  generalize (bif bif decide (op = 22) then true else decide (op = 23) then true else decide (op = 24)) = O
  generalize (bif decide (m ≥ 0) then decide (m ≤ 31) else false) = M1
  generalize (bif decide (m ≥ -8192) then decide (m ≤ 8191) else false) = M2
  cases D <;> cases X <;> cases Y <;> cases O <;> cases M1 <;> cases M2 <;> rfl
theorem rt2_8 (op d x y m : Int) (h : fmI op = 8) : Pure Try.prog 23 (cons [.agg 5 [.int .i64 op, .int .i64 d, .int .i64 x, .int .i64 y, .int .i64 m]]) (con (.bool (rtB op d x y m))) := by
  refine pureX (u := 80) (k := 20) mix (TA1ok 8) ?_
  rw [r_rt2_8]
  have e : rtB op d x y m = (decide (d = 0) && (decide (x = 0) && (decide (y = 0) && decide (m = 0)))) := by
    unfold rtB
    rw [h, Bool.eq_iff_iff]
    by_cases ho : (op = 22 ∨ op = 23 ∨ op = 24)
    · have ho2 : (bif bif decide (op = 22) then true else decide (op = 23) then true else decide (op = 24)) = true := by rcases ho with h | h | h <;> simp [h]
      try rw [ho2]
      simp only [decide_eq_true_eq, Bool.and_eq_true, cond_true, rtP, rgP, Bool.cond_true_left, Bool.cond_false_right, Bool.cond_true_right, Bool.cond_false_left, Bool.or_eq_false_iff, Bool.or_eq_true, Bool.and_eq_true, Bool.and_eq_false_iff, decide_eq_false_iff_not, decide_eq_true_eq, Bool.not_eq_true', Bool.not_eq_false', Bool.not_not, Int.not_lt, Int.not_le, gt_iff_lt, ge_iff_le]
      simp <;> omega
    · have ho2 : (bif bif decide (op = 22) then true else decide (op = 23) then true else decide (op = 24)) = false := by simp only [not_or] at ho; simp [ho]
      try rw [ho2]
      simp only [decide_eq_true_eq, Bool.and_eq_true, cond_false, rtP, rgP, Bool.cond_true_left, Bool.cond_false_right, Bool.cond_true_right, Bool.cond_false_left, Bool.or_eq_false_iff, Bool.or_eq_true, Bool.and_eq_true, Bool.and_eq_false_iff, decide_eq_false_iff_not, decide_eq_true_eq, Bool.not_eq_true', Bool.not_eq_false', Bool.not_not, Int.not_lt, Int.not_le, gt_iff_lt, ge_iff_le]
      simp <;> omega
  rw [e]
  simp only [h, pk_or, pk_and, pk3, pk4, pk5, pk6, decide_true, cond_true, decide_not]
  generalize decide (d = 0) = D
  generalize decide (x = 0) = X
  generalize decide (y = 0) = Y
  generalize (bif bif decide (op = 22) then true else decide (op = 23) then true else decide (op = 24)) = O
  by_cases hm : m = 0
  · subst hm
    cases D <;> cases X <;> cases Y <;> cases O <;> rfl
  · rw [decide_eq_false hm]
    generalize (bif decide (m ≥ 0) then decide (m ≤ 31) else false) = M1
    generalize (bif decide (m ≥ -8192) then decide (m ≤ 8191) else false) = M2
    cases D <;> cases X <;> cases Y <;> cases O <;> rfl
end Go.Proofs.Ytghmogkapedmfaa
