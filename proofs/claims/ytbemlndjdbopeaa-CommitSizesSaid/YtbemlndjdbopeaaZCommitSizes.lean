/- Which request a store becomes, by its size; a full table, or an empty queue, holds it. -/
import Derived.Test.YtbemlndjdbopeaaRows
import Derived.WalkKit
import Derived.ProofKit
import Derived.OpenShut
import Derived.ShutString
import Derived.ChangeOld
import Derived.Below
import Derived.SizedLaws
import Derived.Test.YtbemlndjdbopeaaPk4

namespace Go.Proofs.Ytbemlndjdbopeaa
open Go.Ra
set_option linter.unusedVariables false
set_option linter.unusedSimpArgs false
def TKz : Tab := mkT qq cl_law23 [(12, alvSp)] []
theorem TKzok : TabOk Try.prog TKz := mkT_ok clok_law23 ⟨sp_alv23, trivial⟩ trivial
theorem r_siz (a w o v : Int) (K : XV → Prop) : (quietGo TKz 2 (callI TKz 2 20) 6 [.int .i64 a, .int .i64 w, .int .i64 o, .int .u32 v] K) = (bif bif decide (a < 0) then true else !decide (a < 0) then bif bif bif decide (a < 0) then true else decide (a > 1000) then true else !bif decide (a < 0) then
 true else decide (a > 1000) then bif bif bif bif decide (a < 0) then true else decide (a > 1000) then true else decide (w < 0) then true else !bif bif decide (a
 < 0) then true else decide (a > 1000) then true else decide (w < 0) then bif bif bif bif bif decide (a < 0) then true else decide (a > 1000) then true else decide
 (w < 0) then true else decide (w > 2) then true else !bif bif bif decide (a < 0) then true else decide (a > 1000) then true else decide (w < 0) then true else decide
 (w > 2) then bif bif bif bif bif bif decide (a < 0) then true else decide (a > 1000) then true else decide (w < 0) then true else decide (w > 2) then true else decide
 (o < 0) then true else !bif bif bif bif decide (a < 0) then true else decide (a > 1000) then true else decide (w < 0) then true else decide (w > 2) then true else
 decide (o < 0) then bif bif bif bif bif bif decide (a < 0) then true else decide (a > 1000) then true else decide (w < 0) then true else decide (w > 2) then true
 else decide (o < 0) then true else decide (o > 5) then K (.bool true) else bif decide (0 ≤ w) then bif decide (w < 3) then bif decide (0 < o) then bif decide (1
 < o) then False else False else False else False else False else False else False else False else False
else False) := by kernel_rfl
theorem r_siz00 (a v : Int) (K : XV → Prop) : (quietGo TK 80 (callI TK 80 20) 6 [.int .i64 a, .int .i64 0, .int .i64 0, .int .u32 v] K) = (bif bif decide (a < 0) then true else !decide (a < 0) then bif bif bif decide (a < 0) then true else decide (a > 1000) then true else !bif decide (a < 0) then
 true else decide (a > 1000) then bif bif bif bif decide (a < 0) then true else decide (a > 1000) then true else false then true else !bif bif decide (a < 0) then
 true else decide (a > 1000) then true else false then bif bif bif bif bif decide (a < 0) then true else decide (a > 1000) then true else false then true else false
 then true else !bif bif bif decide (a < 0) then true else decide (a > 1000) then true else false then true else false then bif bif bif bif bif bif decide (a < 0)
 then true else decide (a > 1000) then true else false then true else false then true else false then true else !bif bif bif bif decide (a < 0) then true else decide
 (a > 1000) then true else false then true else false then true else false then bif bif bif bif bif bif decide (a < 0) then true else decide (a > 1000) then true
 else false then true else false then true else false then true else false then K (.bool true) else bif bif decide (a = a) && (decide (v = v) && true) then decide
 (a = a) && (decide (v = v) && true) else true then bif bif bif decide (a = a) && (decide (v = v) && true) then true else false then bif decide (a = a) && (decide
 (v = v) && true) then true else false else true then K (.bool (bif bif decide (a = a) && (decide (v = v) && true) then true else false then true else false)) else
 False else False else False else False else False else False
else False) := by kernel_rfl
theorem r_siz01 (a v : Int) (K : XV → Prop) : (quietGo TK 80 (callI TK 80 20) 6 [.int .i64 a, .int .i64 0, .int .i64 1, .int .u32 v] K) = (bif bif decide (a < 0) then true else !decide (a < 0) then bif bif bif decide (a < 0) then true else decide (a > 1000) then true else !bif decide (a < 0) then
 true else decide (a > 1000) then bif bif bif bif decide (a < 0) then true else decide (a > 1000) then true else false then true else !bif bif decide (a < 0) then
 true else decide (a > 1000) then true else false then bif bif bif bif bif decide (a < 0) then true else decide (a > 1000) then true else false then true else false
 then true else !bif bif bif decide (a < 0) then true else decide (a > 1000) then true else false then true else false then bif bif bif bif bif bif decide (a < 0)
 then true else decide (a > 1000) then true else false then true else false then true else false then true else !bif bif bif bif decide (a < 0) then true else decide
 (a > 1000) then true else false then true else false then true else false then bif bif bif bif bif bif decide (a < 0) then true else decide (a > 1000) then true
 else false then true else false then true else false then true else false then K (.bool true) else bif bif decide (5000 ≤ a) then decide (5000 ≤ a) else true then
 bif !bif decide (5000 ≤ a) then decide (IntKind.wrap .u64 (IntKind.wrap .u64 a - (5000 : Int)) < 4) else false then bif bif decide (a ≤ 5000) then decide (a ≤ 5000)
 else true then bif bif bif decide (5000 ≤ a) then decide (IntKind.wrap .u64 (IntKind.wrap .u64 a - (5000 : Int)) < 4) else false then true else bif decide (a ≤ 5000)
 then decide (IntKind.wrap .u64 ((5000 : Int) - IntKind.wrap .u64 a) < 4) else false then K (.bool false) else bif bif decide (a = a) && (decide (v = v) && true)
 then decide (a = a) && (decide (v = v) && true) else true then bif bif bif decide (a = a) && (decide (v = v) && true) then true else false then bif decide (a = a)
 && (decide (v = v) && true) then true else false else true then K (.bool (bif bif decide (a = a) && (decide (v = v) && true) then true else false then true else
 false)) else False else False else False else bif bif bif decide (5000 ≤ a) then decide (IntKind.wrap .u64 (IntKind.wrap .u64 a - (5000 : Int)) < 4) else false then
 true else false then K (.bool false) else False else False else False else False else False else False
else False) := by kernel_rfl
theorem r_siz02 (a v : Int) (K : XV → Prop) : (quietGo TK 80 (callI TK 80 20) 6 [.int .i64 a, .int .i64 0, .int .i64 2, .int .u32 v] K) = (bif bif decide (a < 0) then true else !decide (a < 0) then bif bif bif decide (a < 0) then true else decide (a > 1000) then true else !bif decide (a < 0) then
 true else decide (a > 1000) then bif bif bif bif decide (a < 0) then true else decide (a > 1000) then true else false then true else !bif bif decide (a < 0) then
 true else decide (a > 1000) then true else false then bif bif bif bif bif decide (a < 0) then true else decide (a > 1000) then true else false then true else false
 then true else !bif bif bif decide (a < 0) then true else decide (a > 1000) then true else false then true else false then bif bif bif bif bif bif decide (a < 0)
 then true else decide (a > 1000) then true else false then true else false then true else false then true else !bif bif bif bif decide (a < 0) then true else decide
 (a > 1000) then true else false then true else false then true else false then bif bif bif bif bif bif decide (a < 0) then true else decide (a > 1000) then true
 else false then true else false then true else false then true else false then K (.bool true) else bif bif decide (5000 ≤ a) then decide (5000 ≤ a) else true then
 bif !bif decide (5000 ≤ a) then decide (IntKind.wrap .u64 (IntKind.wrap .u64 a - (5000 : Int)) < 4) else false then bif bif decide (a ≤ 5000) then decide (a ≤ 5000)
 else true then bif bif bif decide (5000 ≤ a) then decide (IntKind.wrap .u64 (IntKind.wrap .u64 a - (5000 : Int)) < 4) else false then true else bif decide (a ≤ 5000)
 then decide (IntKind.wrap .u64 ((5000 : Int) - IntKind.wrap .u64 a) < 4) else false then K (.bool false) else bif bif decide (5004 ≤ a) then decide (5004 ≤ a) else
 true then bif !bif decide (5004 ≤ a) then decide (IntKind.wrap .u64 (IntKind.wrap .u64 a - (5004 : Int)) < 4) else false then bif bif decide (a ≤ 5004) then decide
 (a ≤ 5004) else true then bif bif bif decide (5004 ≤ a) then decide (IntKind.wrap .u64 (IntKind.wrap .u64 a - (5004 : Int)) < 4) else false then true else bif decide
 (a ≤ 5004) then decide (IntKind.wrap .u64 ((5004 : Int) - IntKind.wrap .u64 a) < 4) else false then K (.bool false) else bif bif decide (a = a) && (decide (v = v)
 && true) then decide (a = a) && (decide (v = v) && true) else true then bif bif bif decide (a = a) && (decide (v = v) && true) then true else false then bif decide
 (a = a) && (decide (v = v) && true) then true else false else true then K (.bool (bif bif decide (a = a) && (decide (v = v) && true) then true else false then true
 else false)) else False else False else False else bif bif bif decide (5004 ≤ a) then decide (IntKind.wrap .u64 (IntKind.wrap .u64 a - (5004 : Int)) < 4) else false
 then true else false then K (.bool false) else False else False else False else bif bif bif decide (5000 ≤ a) then decide (IntKind.wrap .u64 (IntKind.wrap .u64 a
 - (5000 : Int)) < 4) else false then true else false then K (.bool false) else False else False else False else False else False else False
else False) := by kernel_rfl 

theorem r_siz03 (a v : Int) (K : XV → Prop) : (quietGo TK 80 (callI TK 80 20) 6 [.int .i64 a, .int .i64 0, .int .i64 3, .int .u32 v] K) = (bif bif decide (a < 0) then true else !decide (a < 0) then bif bif bif decide (a < 0) then true else decide (a > 1000) then true else !bif decide (a < 0) then
 true else decide (a > 1000) then bif bif bif bif decide (a < 0) then true else decide (a > 1000) then true else false then true else !bif bif decide (a < 0) then
 true else decide (a > 1000) then true else false then bif bif bif bif bif decide (a < 0) then true else decide (a > 1000) then true else false then true else false
 then true else !bif bif bif decide (a < 0) then true else decide (a > 1000) then true else false then true else false then bif bif bif bif bif bif decide (a < 0)
 then true else decide (a > 1000) then true else false then true else false then true else false then true else !bif bif bif bif decide (a < 0) then true else decide
 (a > 1000) then true else false then true else false then true else false then bif bif bif bif bif bif decide (a < 0) then true else decide (a > 1000) then true
 else false then true else false then true else false then true else false then K (.bool true) else bif bif decide (5000 ≤ a) then decide (5000 ≤ a) else true then
 bif !bif decide (5000 ≤ a) then decide (IntKind.wrap .u64 (IntKind.wrap .u64 a - (5000 : Int)) < 4) else false then bif bif decide (a ≤ 5000) then decide (a ≤ 5000)
 else true then bif bif bif decide (5000 ≤ a) then decide (IntKind.wrap .u64 (IntKind.wrap .u64 a - (5000 : Int)) < 4) else false then true else bif decide (a ≤ 5000)
 then decide (IntKind.wrap .u64 ((5000 : Int) - IntKind.wrap .u64 a) < 4) else false then K (.bool false) else bif bif decide (5004 ≤ a) then decide (5004 ≤ a) else
 true then bif !bif decide (5004 ≤ a) then decide (IntKind.wrap .u64 (IntKind.wrap .u64 a - (5004 : Int)) < 4) else false then bif bif decide (a ≤ 5004) then decide
 (a ≤ 5004) else true then bif bif bif decide (5004 ≤ a) then decide (IntKind.wrap .u64 (IntKind.wrap .u64 a - (5004 : Int)) < 4) else false then true else bif decide
 (a ≤ 5004) then decide (IntKind.wrap .u64 ((5004 : Int) - IntKind.wrap .u64 a) < 4) else false then K (.bool false) else bif bif decide (5008 ≤ a) then decide (5008
 ≤ a) else true then bif !bif decide (5008 ≤ a) then decide (IntKind.wrap .u64 (IntKind.wrap .u64 a - (5008 : Int)) < 4) else false then bif bif decide (a ≤ 5008)
 then decide (a ≤ 5008) else true then bif bif bif decide (5008 ≤ a) then decide (IntKind.wrap .u64 (IntKind.wrap .u64 a - (5008 : Int)) < 4) else false then true
 else bif decide (a ≤ 5008) then decide (IntKind.wrap .u64 ((5008 : Int) - IntKind.wrap .u64 a) < 4) else false then K (.bool false) else bif bif decide (a = a) &&
 (decide (v = v) && true) then decide (a = a) && (decide (v = v) && true) else true then bif bif bif decide (a = a) && (decide (v = v) && true) then true else false
 then bif decide (a = a) && (decide (v = v) && true) then true else false else true then K (.bool (bif bif decide (a = a) && (decide (v = v) && true) then true else
 false then true else false)) else False else False else False else bif bif bif decide (5008 ≤ a) then decide (IntKind.wrap .u64 (IntKind.wrap .u64 a - (5008 : Int))
 < 4) else false then true else false then K (.bool false) else False else False else False else bif bif bif decide (5004 ≤ a) then decide (IntKind.wrap .u64 (IntKind.wrap
 .u64 a - (5004 : Int)) < 4) else false then true else false then K (.bool false) else False else False else False else bif bif bif decide (5000 ≤ a) then decide
 (IntKind.wrap .u64 (IntKind.wrap .u64 a - (5000 : Int)) < 4) else false then true else false then K (.bool false) else False else False else False else False else
 False else False
else False) := by kernel_rfl
theorem r_siz04 (a v : Int) (K : XV → Prop) : (quietGo TK 80 (callI TK 80 20) 6 [.int .i64 a, .int .i64 0, .int .i64 4, .int .u32 v] K) = (bif bif decide (a < 0) then true else !decide (a < 0) then bif bif bif decide (a < 0) then true else decide (a > 1000) then true else !bif decide (a < 0) then
 true else decide (a > 1000) then bif bif bif bif decide (a < 0) then true else decide (a > 1000) then true else false then true else !bif bif decide (a < 0) then
 true else decide (a > 1000) then true else false then bif bif bif bif bif decide (a < 0) then true else decide (a > 1000) then true else false then true else false
 then true else !bif bif bif decide (a < 0) then true else decide (a > 1000) then true else false then true else false then bif bif bif bif bif bif decide (a < 0)
 then true else decide (a > 1000) then true else false then true else false then true else false then true else !bif bif bif bif decide (a < 0) then true else decide
 (a > 1000) then true else false then true else false then true else false then bif bif bif bif bif bif decide (a < 0) then true else decide (a > 1000) then true
 else false then true else false then true else false then true else false then K (.bool true) else bif !(decide (a = a) && true) then K (.bool false) else bif decide
 ¬v = v then K (.bool false) else K (.bool true) else False else False else False else False
else False) := by kernel_rfl
theorem r_siz05 (a v : Int) (K : XV → Prop) : (quietGo TK 80 (callI TK 80 20) 6 [.int .i64 a, .int .i64 0, .int .i64 5, .int .u32 v] K) = (bif bif decide (a < 0) then true else !decide (a < 0) then bif bif bif decide (a < 0) then true else decide (a > 1000) then true else !bif decide (a < 0) then
 true else decide (a > 1000) then bif bif bif bif decide (a < 0) then true else decide (a > 1000) then true else false then true else !bif bif decide (a < 0) then
 true else decide (a > 1000) then true else false then bif bif bif bif bif decide (a < 0) then true else decide (a > 1000) then true else false then true else false
 then true else !bif bif bif decide (a < 0) then true else decide (a > 1000) then true else false then true else false then bif bif bif bif bif bif decide (a < 0)
 then true else decide (a > 1000) then true else false then true else false then true else false then true else !bif bif bif bif decide (a < 0) then true else decide
 (a > 1000) then true else false then true else false then true else false then bif bif bif bif bif bif decide (a < 0) then true else decide (a > 1000) then true
 else false then true else false then true else false then true else false then K (.bool true) else bif !(decide (a = a) && true) then K (.bool false) else bif decide
 ¬v = v then K (.bool false) else K (.bool true) else False else False else False else False
else False) := by kernel_rfl
theorem r_siz10 (a v : Int) (K : XV → Prop) : (quietGo TK 80 (callI TK 80 20) 6 [.int .i64 a, .int .i64 1, .int .i64 0, .int .u32 v] K) = (bif bif decide (a < 0) then true else !decide (a < 0) then bif bif bif decide (a < 0) then true else decide (a > 1000) then true else !bif decide (a < 0) then
 true else decide (a > 1000) then bif bif bif bif decide (a < 0) then true else decide (a > 1000) then true else false then true else !bif bif decide (a < 0) then
 true else decide (a > 1000) then true else false then bif bif bif bif bif decide (a < 0) then true else decide (a > 1000) then true else false then true else false
 then true else !bif bif bif decide (a < 0) then true else decide (a > 1000) then true else false then true else false then bif bif bif bif bif bif decide (a < 0)
 then true else decide (a > 1000) then true else false then true else false then true else false then true else !bif bif bif bif decide (a < 0) then true else decide
 (a > 1000) then true else false then true else false then true else false then bif bif bif bif bif bif decide (a < 0) then true else decide (a > 1000) then true
 else false then true else false then true else false then true else false then K (.bool true) else bif bif decide (a = a) && (decide (bitsI .and .u32 v 65535 = bitsI
 .and .u32 v (65535 : Int)) && true) then decide (a = a) && (decide (bitsI .and .u32 v 65535 = bitsI .and .u32 v (65535 : Int)) && true) else true then bif bif bif
 decide (a = a) && (decide (bitsI .and .u32 v 65535 = bitsI .and .u32 v (65535 : Int)) && true) then true else false then bif decide (a = a) && (decide (bitsI .and
 .u32 v 65535 = bitsI .and .u32 v (65535 : Int)) && true) then true else false else true then K (.bool (bif bif decide (a = a) && (decide (bitsI .and .u32 v 65535
 = bitsI .and .u32 v (65535 : Int)) && true) then true else false then true else false)) else False else False else False else False else False else False
else False)
 := by kernel_rfl
theorem r_siz11 (a v : Int) (K : XV → Prop) : (quietGo TK 80 (callI TK 80 20) 6 [.int .i64 a, .int .i64 1, .int .i64 1, .int .u32 v] K) = (bif bif decide (a < 0) then true else !decide (a < 0) then bif bif bif decide (a < 0) then true else decide (a > 1000) then true else !bif decide (a < 0) then
 true else decide (a > 1000) then bif bif bif bif decide (a < 0) then true else decide (a > 1000) then true else false then true else !bif bif decide (a < 0) then
 true else decide (a > 1000) then true else false then bif bif bif bif bif decide (a < 0) then true else decide (a > 1000) then true else false then true else false
 then true else !bif bif bif decide (a < 0) then true else decide (a > 1000) then true else false then true else false then bif bif bif bif bif bif decide (a < 0)
 then true else decide (a > 1000) then true else false then true else false then true else false then true else !bif bif bif bif decide (a < 0) then true else decide
 (a > 1000) then true else false then true else false then true else false then bif bif bif bif bif bif decide (a < 0) then true else decide (a > 1000) then true
 else false then true else false then true else false then true else false then K (.bool true) else bif bif decide (5000 ≤ a) then decide (5000 ≤ a) else true then
 bif !bif decide (5000 ≤ a) then decide (IntKind.wrap .u64 (IntKind.wrap .u64 a - (5000 : Int)) < 4) else false then bif bif decide (a ≤ 5000) then decide (a ≤ 5000)
 else true then bif bif bif decide (5000 ≤ a) then decide (IntKind.wrap .u64 (IntKind.wrap .u64 a - (5000 : Int)) < 4) else false then true else bif decide (a ≤ 5000)
 then decide (IntKind.wrap .u64 ((5000 : Int) - IntKind.wrap .u64 a) < 2) else false then K (.bool false) else bif bif decide (a = a) && (decide (bitsI .and .u32
 v 65535 = bitsI .and .u32 v (65535 : Int)) && true) then decide (a = a) && (decide (bitsI .and .u32 v 65535 = bitsI .and .u32 v (65535 : Int)) && true) else true
 then bif bif bif decide (a = a) && (decide (bitsI .and .u32 v 65535 = bitsI .and .u32 v (65535 : Int)) && true) then true else false then bif decide (a = a) && (decide
 (bitsI .and .u32 v 65535 = bitsI .and .u32 v (65535 : Int)) && true) then true else false else true then K (.bool (bif bif decide (a = a) && (decide (bitsI .and
 .u32 v 65535 = bitsI .and .u32 v (65535 : Int)) && true) then true else false then true else false)) else False else False else False else bif bif bif decide (5000
 ≤ a) then decide (IntKind.wrap .u64 (IntKind.wrap .u64 a - (5000 : Int)) < 4) else false then true else false then K (.bool false) else False else False else False
 else False else False else False
else False) := by kernel_rfl
theorem r_siz12 (a v : Int) (K : XV → Prop) : (quietGo TK 80 (callI TK 80 20) 6 [.int .i64 a, .int .i64 1, .int .i64 2, .int .u32 v] K) = (bif bif decide (a < 0) then true else !decide (a < 0) then bif bif bif decide (a < 0) then true else decide (a > 1000) then true else !bif decide (a < 0) then
 true else decide (a > 1000) then bif bif bif bif decide (a < 0) then true else decide (a > 1000) then true else false then true else !bif bif decide (a < 0) then
 true else decide (a > 1000) then true else false then bif bif bif bif bif decide (a < 0) then true else decide (a > 1000) then true else false then true else false
 then true else !bif bif bif decide (a < 0) then true else decide (a > 1000) then true else false then true else false then bif bif bif bif bif bif decide (a < 0)
 then true else decide (a > 1000) then true else false then true else false then true else false then true else !bif bif bif bif decide (a < 0) then true else decide
 (a > 1000) then true else false then true else false then true else false then bif bif bif bif bif bif decide (a < 0) then true else decide (a > 1000) then true
 else false then true else false then true else false then true else false then K (.bool true) else bif bif decide (5000 ≤ a) then decide (5000 ≤ a) else true then
 bif !bif decide (5000 ≤ a) then decide (IntKind.wrap .u64 (IntKind.wrap .u64 a - (5000 : Int)) < 4) else false then bif bif decide (a ≤ 5000) then decide (a ≤ 5000)
 else true then bif bif bif decide (5000 ≤ a) then decide (IntKind.wrap .u64 (IntKind.wrap .u64 a - (5000 : Int)) < 4) else false then true else bif decide (a ≤ 5000)
 then decide (IntKind.wrap .u64 ((5000 : Int) - IntKind.wrap .u64 a) < 2) else false then K (.bool false) else bif bif decide (5004 ≤ a) then decide (5004 ≤ a) else
 true then bif !bif decide (5004 ≤ a) then decide (IntKind.wrap .u64 (IntKind.wrap .u64 a - (5004 : Int)) < 4) else false then bif bif decide (a ≤ 5004) then decide
 (a ≤ 5004) else true then bif bif bif decide (5004 ≤ a) then decide (IntKind.wrap .u64 (IntKind.wrap .u64 a - (5004 : Int)) < 4) else false then true else bif decide
 (a ≤ 5004) then decide (IntKind.wrap .u64 ((5004 : Int) - IntKind.wrap .u64 a) < 2) else false then K (.bool false) else bif bif decide (a = a) && (decide (bitsI
 .and .u32 v 65535 = bitsI .and .u32 v (65535 : Int)) && true) then decide (a = a) && (decide (bitsI .and .u32 v 65535 = bitsI .and .u32 v (65535 : Int)) && true)
 else true then bif bif bif decide (a = a) && (decide (bitsI .and .u32 v 65535 = bitsI .and .u32 v (65535 : Int)) && true) then true else false then bif decide (a
 = a) && (decide (bitsI .and .u32 v 65535 = bitsI .and .u32 v (65535 : Int)) && true) then true else false else true then K (.bool (bif bif decide (a = a) && (decide
 (bitsI .and .u32 v 65535 = bitsI .and .u32 v (65535 : Int)) && true) then true else false then true else false)) else False else False else False else bif bif bif
 decide (5004 ≤ a) then decide (IntKind.wrap .u64 (IntKind.wrap .u64 a - (5004 : Int)) < 4) else false then true else false then K (.bool false) else False else False
 else False else bif bif bif decide (5000 ≤ a) then decide (IntKind.wrap .u64 (IntKind.wrap .u64 a - (5000 : Int)) < 4) else false then true else false then K (.bool
 false) else False else False else False else False else False else False
else False) := by kernel_rfl
theorem r_siz13 (a v : Int) (K : XV → Prop) : (quietGo TK 80 (callI TK 80 20) 6 [.int .i64 a, .int .i64 1, .int .i64 3, .int .u32 v] K) = (bif bif decide (a < 0) then true else !decide (a < 0) then bif bif bif decide (a < 0) then true else decide (a > 1000) then true else !bif decide (a < 0) then
 true else decide (a > 1000) then bif bif bif bif decide (a < 0) then true else decide (a > 1000) then true else false then true else !bif bif decide (a < 0) then
 true else decide (a > 1000) then true else false then bif bif bif bif bif decide (a < 0) then true else decide (a > 1000) then true else false then true else false
 then true else !bif bif bif decide (a < 0) then true else decide (a > 1000) then true else false then true else false then bif bif bif bif bif bif decide (a < 0)
 then true else decide (a > 1000) then true else false then true else false then true else false then true else !bif bif bif bif decide (a < 0) then true else decide
 (a > 1000) then true else false then true else false then true else false then bif bif bif bif bif bif decide (a < 0) then true else decide (a > 1000) then true
 else false then true else false then true else false then true else false then K (.bool true) else bif bif decide (5000 ≤ a) then decide (5000 ≤ a) else true then
 bif !bif decide (5000 ≤ a) then decide (IntKind.wrap .u64 (IntKind.wrap .u64 a - (5000 : Int)) < 4) else false then bif bif decide (a ≤ 5000) then decide (a ≤ 5000)
 else true then bif bif bif decide (5000 ≤ a) then decide (IntKind.wrap .u64 (IntKind.wrap .u64 a - (5000 : Int)) < 4) else false then true else bif decide (a ≤ 5000)
 then decide (IntKind.wrap .u64 ((5000 : Int) - IntKind.wrap .u64 a) < 2) else false then K (.bool false) else bif bif decide (5004 ≤ a) then decide (5004 ≤ a) else
 true then bif !bif decide (5004 ≤ a) then decide (IntKind.wrap .u64 (IntKind.wrap .u64 a - (5004 : Int)) < 4) else false then bif bif decide (a ≤ 5004) then decide
 (a ≤ 5004) else true then bif bif bif decide (5004 ≤ a) then decide (IntKind.wrap .u64 (IntKind.wrap .u64 a - (5004 : Int)) < 4) else false then true else bif decide
 (a ≤ 5004) then decide (IntKind.wrap .u64 ((5004 : Int) - IntKind.wrap .u64 a) < 2) else false then K (.bool false) else bif bif decide (5008 ≤ a) then decide (5008
 ≤ a) else true then bif !bif decide (5008 ≤ a) then decide (IntKind.wrap .u64 (IntKind.wrap .u64 a - (5008 : Int)) < 4) else false then bif bif decide (a ≤ 5008)
 then decide (a ≤ 5008) else true then bif bif bif decide (5008 ≤ a) then decide (IntKind.wrap .u64 (IntKind.wrap .u64 a - (5008 : Int)) < 4) else false then true
 else bif decide (a ≤ 5008) then decide (IntKind.wrap .u64 ((5008 : Int) - IntKind.wrap .u64 a) < 2) else false then K (.bool false) else bif bif decide (a = a) &&
 (decide (bitsI .and .u32 v 65535 = bitsI .and .u32 v (65535 : Int)) && true) then decide (a = a) && (decide (bitsI .and .u32 v 65535 = bitsI .and .u32 v (65535 :
 Int)) && true) else true then bif bif bif decide (a = a) && (decide (bitsI .and .u32 v 65535 = bitsI .and .u32 v (65535 : Int)) && true) then true else false then
 bif decide (a = a) && (decide (bitsI .and .u32 v 65535 = bitsI .and .u32 v (65535 : Int)) && true) then true else false else true then K (.bool (bif bif decide (a
 = a) && (decide (bitsI .and .u32 v 65535 = bitsI .and .u32 v (65535 : Int)) && true) then true else false then true else false)) else False else False else False
 else bif bif bif decide (5008 ≤ a) then decide (IntKind.wrap .u64 (IntKind.wrap .u64 a - (5008 : Int)) < 4) else false then true else false then K (.bool false)
 else False else False else False else bif bif bif decide (5004 ≤ a) then decide (IntKind.wrap .u64 (IntKind.wrap .u64 a - (5004 : Int)) < 4) else false then true
 else false then K (.bool false) else False else False else False else bif bif bif decide (5000 ≤ a) then decide (IntKind.wrap .u64 (IntKind.wrap .u64 a - (5000 :
 Int)) < 4) else false then true else false then K (.bool false) else False else False else False else False else False else False
else False) := by kernel_rfl
theorem r_siz14 (a v : Int) (K : XV → Prop) : (quietGo TK 80 (callI TK 80 20) 6 [.int .i64 a, .int .i64 1, .int .i64 4, .int .u32 v] K) = (bif bif decide (a < 0) then true else !decide (a < 0) then bif bif bif decide (a < 0) then true else decide (a > 1000) then true else !bif decide (a < 0) then
 true else decide (a > 1000) then bif bif bif bif decide (a < 0) then true else decide (a > 1000) then true else false then true else !bif bif decide (a < 0) then
 true else decide (a > 1000) then true else false then bif bif bif bif bif decide (a < 0) then true else decide (a > 1000) then true else false then true else false
 then true else !bif bif bif decide (a < 0) then true else decide (a > 1000) then true else false then true else false then bif bif bif bif bif bif decide (a < 0)
 then true else decide (a > 1000) then true else false then true else false then true else false then true else !bif bif bif bif decide (a < 0) then true else decide
 (a > 1000) then true else false then true else false then true else false then bif bif bif bif bif bif decide (a < 0) then true else decide (a > 1000) then true
 else false then true else false then true else false then true else false then K (.bool true) else bif !(decide (a = a) && true) then K (.bool false) else bif decide
 ¬v = v then K (.bool false) else K (.bool true) else False else False else False else False
else False) := by kernel_rfl
theorem r_siz15 (a v : Int) (K : XV → Prop) : (quietGo TK 80 (callI TK 80 20) 6 [.int .i64 a, .int .i64 1, .int .i64 5, .int .u32 v] K) = (bif bif decide (a < 0) then true else !decide (a < 0) then bif bif bif decide (a < 0) then true else decide (a > 1000) then true else !bif decide (a < 0) then
 true else decide (a > 1000) then bif bif bif bif decide (a < 0) then true else decide (a > 1000) then true else false then true else !bif bif decide (a < 0) then
 true else decide (a > 1000) then true else false then bif bif bif bif bif decide (a < 0) then true else decide (a > 1000) then true else false then true else false
 then true else !bif bif bif decide (a < 0) then true else decide (a > 1000) then true else false then true else false then bif bif bif bif bif bif decide (a < 0)
 then true else decide (a > 1000) then true else false then true else false then true else false then true else !bif bif bif bif decide (a < 0) then true else decide
 (a > 1000) then true else false then true else false then true else false then bif bif bif bif bif bif decide (a < 0) then true else decide (a > 1000) then true
 else false then true else false then true else false then true else false then K (.bool true) else bif !(decide (a = a) && true) then K (.bool false) else bif decide
 ¬v = v then K (.bool false) else K (.bool true) else False else False else False else False
else False) := by kernel_rfl
theorem r_siz20 (a v : Int) (K : XV → Prop) : (quietGo TK 80 (callI TK 80 20) 6 [.int .i64 a, .int .i64 2, .int .i64 0, .int .u32 v] K) = (bif bif decide (a < 0) then true else !decide (a < 0) then bif bif bif decide (a < 0) then true else decide (a > 1000) then true else !bif decide (a < 0) then
 true else decide (a > 1000) then bif bif bif bif decide (a < 0) then true else decide (a > 1000) then true else false then true else !bif bif decide (a < 0) then
 true else decide (a > 1000) then true else false then bif bif bif bif bif decide (a < 0) then true else decide (a > 1000) then true else false then true else false
 then true else !bif bif bif decide (a < 0) then true else decide (a > 1000) then true else false then true else false then bif bif bif bif bif bif decide (a < 0)
 then true else decide (a > 1000) then true else false then true else false then true else false then true else !bif bif bif bif decide (a < 0) then true else decide
 (a > 1000) then true else false then true else false then true else false then bif bif bif bif bif bif decide (a < 0) then true else decide (a > 1000) then true
 else false then true else false then true else false then true else false then K (.bool true) else bif bif decide (a = a) && (decide (bitsI .and .u32 v 255 = bitsI
 .and .u32 v (255 : Int)) && true) then decide (a = a) && (decide (bitsI .and .u32 v 255 = bitsI .and .u32 v (255 : Int)) && true) else true then bif bif bif decide
 (a = a) && (decide (bitsI .and .u32 v 255 = bitsI .and .u32 v (255 : Int)) && true) then true else false then bif decide (a = a) && (decide (bitsI .and .u32 v 255
 = bitsI .and .u32 v (255 : Int)) && true) then true else false else true then K (.bool (bif bif decide (a = a) && (decide (bitsI .and .u32 v 255 = bitsI .and .u32
 v (255 : Int)) && true) then true else false then true else false)) else False else False else False else False else False else False
else False) := by kernel_rfl 

theorem r_siz21 (a v : Int) (K : XV → Prop) : (quietGo TK 80 (callI TK 80 20) 6 [.int .i64 a, .int .i64 2, .int .i64 1, .int .u32 v] K) = (bif bif decide (a < 0) then true else !decide (a < 0) then bif bif bif decide (a < 0) then true else decide (a > 1000) then true else !bif decide (a < 0) then
 true else decide (a > 1000) then bif bif bif bif decide (a < 0) then true else decide (a > 1000) then true else false then true else !bif bif decide (a < 0) then
 true else decide (a > 1000) then true else false then bif bif bif bif bif decide (a < 0) then true else decide (a > 1000) then true else false then true else false
 then true else !bif bif bif decide (a < 0) then true else decide (a > 1000) then true else false then true else false then bif bif bif bif bif bif decide (a < 0)
 then true else decide (a > 1000) then true else false then true else false then true else false then true else !bif bif bif bif decide (a < 0) then true else decide
 (a > 1000) then true else false then true else false then true else false then bif bif bif bif bif bif decide (a < 0) then true else decide (a > 1000) then true
 else false then true else false then true else false then true else false then K (.bool true) else bif bif decide (5000 ≤ a) then decide (5000 ≤ a) else true then
 bif !bif decide (5000 ≤ a) then decide (IntKind.wrap .u64 (IntKind.wrap .u64 a - (5000 : Int)) < 4) else false then bif bif decide (a ≤ 5000) then decide (a ≤ 5000)
 else true then bif bif bif decide (5000 ≤ a) then decide (IntKind.wrap .u64 (IntKind.wrap .u64 a - (5000 : Int)) < 4) else false then true else bif decide (a ≤ 5000)
 then decide (IntKind.wrap .u64 ((5000 : Int) - IntKind.wrap .u64 a) < 1) else false then K (.bool false) else bif bif decide (a = a) && (decide (bitsI .and .u32
 v 255 = bitsI .and .u32 v (255 : Int)) && true) then decide (a = a) && (decide (bitsI .and .u32 v 255 = bitsI .and .u32 v (255 : Int)) && true) else true then bif
 bif bif decide (a = a) && (decide (bitsI .and .u32 v 255 = bitsI .and .u32 v (255 : Int)) && true) then true else false then bif decide (a = a) && (decide (bitsI
 .and .u32 v 255 = bitsI .and .u32 v (255 : Int)) && true) then true else false else true then K (.bool (bif bif decide (a = a) && (decide (bitsI .and .u32 v 255
 = bitsI .and .u32 v (255 : Int)) && true) then true else false then true else false)) else False else False else False else bif bif bif decide (5000 ≤ a) then decide
 (IntKind.wrap .u64 (IntKind.wrap .u64 a - (5000 : Int)) < 4) else false then true else false then K (.bool false) else False else False else False else False else
 False else False
else False) := by kernel_rfl
theorem r_siz22 (a v : Int) (K : XV → Prop) : (quietGo TK 80 (callI TK 80 20) 6 [.int .i64 a, .int .i64 2, .int .i64 2, .int .u32 v] K) = (bif bif decide (a < 0) then true else !decide (a < 0) then bif bif bif decide (a < 0) then true else decide (a > 1000) then true else !bif decide (a < 0) then
 true else decide (a > 1000) then bif bif bif bif decide (a < 0) then true else decide (a > 1000) then true else false then true else !bif bif decide (a < 0) then
 true else decide (a > 1000) then true else false then bif bif bif bif bif decide (a < 0) then true else decide (a > 1000) then true else false then true else false
 then true else !bif bif bif decide (a < 0) then true else decide (a > 1000) then true else false then true else false then bif bif bif bif bif bif decide (a < 0)
 then true else decide (a > 1000) then true else false then true else false then true else false then true else !bif bif bif bif decide (a < 0) then true else decide
 (a > 1000) then true else false then true else false then true else false then bif bif bif bif bif bif decide (a < 0) then true else decide (a > 1000) then true
 else false then true else false then true else false then true else false then K (.bool true) else bif bif decide (5000 ≤ a) then decide (5000 ≤ a) else true then
 bif !bif decide (5000 ≤ a) then decide (IntKind.wrap .u64 (IntKind.wrap .u64 a - (5000 : Int)) < 4) else false then bif bif decide (a ≤ 5000) then decide (a ≤ 5000)
 else true then bif bif bif decide (5000 ≤ a) then decide (IntKind.wrap .u64 (IntKind.wrap .u64 a - (5000 : Int)) < 4) else false then true else bif decide (a ≤ 5000)
 then decide (IntKind.wrap .u64 ((5000 : Int) - IntKind.wrap .u64 a) < 1) else false then K (.bool false) else bif bif decide (5004 ≤ a) then decide (5004 ≤ a) else
 true then bif !bif decide (5004 ≤ a) then decide (IntKind.wrap .u64 (IntKind.wrap .u64 a - (5004 : Int)) < 4) else false then bif bif decide (a ≤ 5004) then decide
 (a ≤ 5004) else true then bif bif bif decide (5004 ≤ a) then decide (IntKind.wrap .u64 (IntKind.wrap .u64 a - (5004 : Int)) < 4) else false then true else bif decide
 (a ≤ 5004) then decide (IntKind.wrap .u64 ((5004 : Int) - IntKind.wrap .u64 a) < 1) else false then K (.bool false) else bif bif decide (a = a) && (decide (bitsI
 .and .u32 v 255 = bitsI .and .u32 v (255 : Int)) && true) then decide (a = a) && (decide (bitsI .and .u32 v 255 = bitsI .and .u32 v (255 : Int)) && true) else true
 then bif bif bif decide (a = a) && (decide (bitsI .and .u32 v 255 = bitsI .and .u32 v (255 : Int)) && true) then true else false then bif decide (a = a) && (decide
 (bitsI .and .u32 v 255 = bitsI .and .u32 v (255 : Int)) && true) then true else false else true then K (.bool (bif bif decide (a = a) && (decide (bitsI .and .u32
 v 255 = bitsI .and .u32 v (255 : Int)) && true) then true else false then true else false)) else False else False else False else bif bif bif decide (5004 ≤ a) then
 decide (IntKind.wrap .u64 (IntKind.wrap .u64 a - (5004 : Int)) < 4) else false then true else false then K (.bool false) else False else False else False else bif
 bif bif decide (5000 ≤ a) then decide (IntKind.wrap .u64 (IntKind.wrap .u64 a - (5000 : Int)) < 4) else false then true else false then K (.bool false) else False
 else False else False else False else False else False
else False) := by kernel_rfl
theorem r_siz23 (a v : Int) (K : XV → Prop) : (quietGo TK 80 (callI TK 80 20) 6 [.int .i64 a, .int .i64 2, .int .i64 3, .int .u32 v] K) = (bif bif decide (a < 0) then true else !decide (a < 0) then bif bif bif decide (a < 0) then true else decide (a > 1000) then true else !bif decide (a < 0) then
 true else decide (a > 1000) then bif bif bif bif decide (a < 0) then true else decide (a > 1000) then true else false then true else !bif bif decide (a < 0) then
 true else decide (a > 1000) then true else false then bif bif bif bif bif decide (a < 0) then true else decide (a > 1000) then true else false then true else false
 then true else !bif bif bif decide (a < 0) then true else decide (a > 1000) then true else false then true else false then bif bif bif bif bif bif decide (a < 0)
 then true else decide (a > 1000) then true else false then true else false then true else false then true else !bif bif bif bif decide (a < 0) then true else decide
 (a > 1000) then true else false then true else false then true else false then bif bif bif bif bif bif decide (a < 0) then true else decide (a > 1000) then true
 else false then true else false then true else false then true else false then K (.bool true) else bif bif decide (5000 ≤ a) then decide (5000 ≤ a) else true then
 bif !bif decide (5000 ≤ a) then decide (IntKind.wrap .u64 (IntKind.wrap .u64 a - (5000 : Int)) < 4) else false then bif bif decide (a ≤ 5000) then decide (a ≤ 5000)
 else true then bif bif bif decide (5000 ≤ a) then decide (IntKind.wrap .u64 (IntKind.wrap .u64 a - (5000 : Int)) < 4) else false then true else bif decide (a ≤ 5000)
 then decide (IntKind.wrap .u64 ((5000 : Int) - IntKind.wrap .u64 a) < 1) else false then K (.bool false) else bif bif decide (5004 ≤ a) then decide (5004 ≤ a) else
 true then bif !bif decide (5004 ≤ a) then decide (IntKind.wrap .u64 (IntKind.wrap .u64 a - (5004 : Int)) < 4) else false then bif bif decide (a ≤ 5004) then decide
 (a ≤ 5004) else true then bif bif bif decide (5004 ≤ a) then decide (IntKind.wrap .u64 (IntKind.wrap .u64 a - (5004 : Int)) < 4) else false then true else bif decide
 (a ≤ 5004) then decide (IntKind.wrap .u64 ((5004 : Int) - IntKind.wrap .u64 a) < 1) else false then K (.bool false) else bif bif decide (5008 ≤ a) then decide (5008
 ≤ a) else true then bif !bif decide (5008 ≤ a) then decide (IntKind.wrap .u64 (IntKind.wrap .u64 a - (5008 : Int)) < 4) else false then bif bif decide (a ≤ 5008)
 then decide (a ≤ 5008) else true then bif bif bif decide (5008 ≤ a) then decide (IntKind.wrap .u64 (IntKind.wrap .u64 a - (5008 : Int)) < 4) else false then true
 else bif decide (a ≤ 5008) then decide (IntKind.wrap .u64 ((5008 : Int) - IntKind.wrap .u64 a) < 1) else false then K (.bool false) else bif bif decide (a = a) &&
 (decide (bitsI .and .u32 v 255 = bitsI .and .u32 v (255 : Int)) && true) then decide (a = a) && (decide (bitsI .and .u32 v 255 = bitsI .and .u32 v (255 : Int)) &&
 true) else true then bif bif bif decide (a = a) && (decide (bitsI .and .u32 v 255 = bitsI .and .u32 v (255 : Int)) && true) then true else false then bif decide
 (a = a) && (decide (bitsI .and .u32 v 255 = bitsI .and .u32 v (255 : Int)) && true) then true else false else true then K (.bool (bif bif decide (a = a) && (decide
 (bitsI .and .u32 v 255 = bitsI .and .u32 v (255 : Int)) && true) then true else false then true else false)) else False else False else False else bif bif bif decide
 (5008 ≤ a) then decide (IntKind.wrap .u64 (IntKind.wrap .u64 a - (5008 : Int)) < 4) else false then true else false then K (.bool false) else False else False else
 False else bif bif bif decide (5004 ≤ a) then decide (IntKind.wrap .u64 (IntKind.wrap .u64 a - (5004 : Int)) < 4) else false then true else false then K (.bool false)
 else False else False else False else bif bif bif decide (5000 ≤ a) then decide (IntKind.wrap .u64 (IntKind.wrap .u64 a - (5000 : Int)) < 4) else false then true
 else false then K (.bool false) else False else False else False else False else False else False
else False) := by kernel_rfl
theorem r_siz24 (a v : Int) (K : XV → Prop) : (quietGo TK 80 (callI TK 80 20) 6 [.int .i64 a, .int .i64 2, .int .i64 4, .int .u32 v] K) = (bif bif decide (a < 0) then true else !decide (a < 0) then bif bif bif decide (a < 0) then true else decide (a > 1000) then true else !bif decide (a < 0) then
 true else decide (a > 1000) then bif bif bif bif decide (a < 0) then true else decide (a > 1000) then true else false then true else !bif bif decide (a < 0) then
 true else decide (a > 1000) then true else false then bif bif bif bif bif decide (a < 0) then true else decide (a > 1000) then true else false then true else false
 then true else !bif bif bif decide (a < 0) then true else decide (a > 1000) then true else false then true else false then bif bif bif bif bif bif decide (a < 0)
 then true else decide (a > 1000) then true else false then true else false then true else false then true else !bif bif bif bif decide (a < 0) then true else decide
 (a > 1000) then true else false then true else false then true else false then bif bif bif bif bif bif decide (a < 0) then true else decide (a > 1000) then true
 else false then true else false then true else false then true else false then K (.bool true) else bif !(decide (a = a) && true) then K (.bool false) else bif decide
 ¬v = v then K (.bool false) else K (.bool true) else False else False else False else False
else False) := by kernel_rfl
theorem r_siz25 (a v : Int) (K : XV → Prop) : (quietGo TK 80 (callI TK 80 20) 6 [.int .i64 a, .int .i64 2, .int .i64 5, .int .u32 v] K) = (bif bif decide (a < 0) then true else !decide (a < 0) then bif bif bif decide (a < 0) then true else decide (a > 1000) then true else !bif decide (a < 0) then
 true else decide (a > 1000) then bif bif bif bif decide (a < 0) then true else decide (a > 1000) then true else false then true else !bif bif decide (a < 0) then
 true else decide (a > 1000) then true else false then bif bif bif bif bif decide (a < 0) then true else decide (a > 1000) then true else false then true else false
 then true else !bif bif bif decide (a < 0) then true else decide (a > 1000) then true else false then true else false then bif bif bif bif bif bif decide (a < 0)
 then true else decide (a > 1000) then true else false then true else false then true else false then true else !bif bif bif bif decide (a < 0) then true else decide
 (a > 1000) then true else false then true else false then true else false then bif bif bif bif bif bif decide (a < 0) then true else decide (a > 1000) then true
 else false then true else false then true else false then true else false then K (.bool true) else bif !(decide (a = a) && true) then K (.bool false) else bif decide
 ¬v = v then K (.bool false) else K (.bool true) else False else False else False else False
else False) := by kernel_rfl
theorem siz_out (a w o v : Int) (h : a < 0 ∨ a > 1000 ∨ w < 0 ∨ w > 2 ∨ o < 0 ∨ o > 5) : Pure Try.prog 6 (cons [.int .i64 a, .int .i64 w, .int .i64 o, .int .u32 v]) (con (.bool true)) := by
  refine pureX (u := 2) (k := 20) mix TKzok ?_
  refine Eq.mpr (r_siz a w o v _) ?_
  by_cases c1 : a < 0
  · simp only [c1, pk_or, pk_and, decide_true, decide_false, cond_true, cond_false, allN_true, Nat.le_refl, Int.toNat_natCast, Nat.beq_refl, pk_and, pk_or, Bool.not_true, Bool.not_false, not_true_eq_false, not_false_eq_true, Bool.and_true, Bool.true_and, Bool.and_self, ge_iff_le, Int.le_refl, if_true, if_false, reduceCtorEq, eq_self, BEq.rfl]
  by_cases c2 : a > 1000
  · simp only [c1, c2, pk_or, pk_and, decide_true, decide_false, cond_true, cond_false, allN_true, Nat.le_refl, Int.toNat_natCast, Nat.beq_refl, pk_and, pk_or, Bool.not_true, Bool.not_false, not_true_eq_false, not_false_eq_true, Bool.and_true, Bool.true_and, Bool.and_self, ge_iff_le, Int.le_refl, if_true, if_false, reduceCtorEq, eq_self, BEq.rfl]
  by_cases c3 : w < 0
  · simp only [c1, c2, c3, pk_or, pk_and, decide_true, decide_false, cond_true, cond_false, allN_true, Nat.le_refl, Int.toNat_natCast, Nat.beq_refl, pk_and, pk_or, Bool.not_true, Bool.not_false, not_true_eq_false, not_false_eq_true, Bool.and_true, Bool.true_and, Bool.and_self, ge_iff_le, Int.le_refl, if_true, if_false, reduceCtorEq, eq_self, BEq.rfl]
  by_cases c4 : w > 2
  · simp only [c1, c2, c3, c4, pk_or, pk_and, decide_true, decide_false, cond_true, cond_false, allN_true, Nat.le_refl, Int.toNat_natCast, Nat.beq_refl, pk_and, pk_or, Bool.not_true, Bool.not_false, not_true_eq_false, not_false_eq_true, Bool.and_true, Bool.true_and, Bool.and_self, ge_iff_le, Int.le_refl, if_true, if_false, reduceCtorEq, eq_self, BEq.rfl]
  by_cases c5 : o < 0
  · simp only [c1, c2, c3, c4, c5, pk_or, pk_and, decide_true, decide_false, cond_true, cond_false, allN_true, Nat.le_refl, Int.toNat_natCast, Nat.beq_refl, pk_and, pk_or, Bool.not_true, Bool.not_false, not_true_eq_false, not_false_eq_true, Bool.and_true, Bool.true_and, Bool.and_self, ge_iff_le, Int.le_refl, if_true, if_false, reduceCtorEq, eq_self, BEq.rfl]
  by_cases c6 : o > 5
  · simp only [c1, c2, c3, c4, c5, c6, pk_or, pk_and, decide_true, decide_false, cond_true, cond_false, allN_true, Nat.le_refl, Int.toNat_natCast, Nat.beq_refl, pk_and, pk_or, Bool.not_true, Bool.not_false, not_true_eq_false, not_false_eq_true, Bool.and_true, Bool.true_and, Bool.and_self, ge_iff_le, Int.le_refl, if_true, if_false, reduceCtorEq, eq_self, BEq.rfl]
  omega
theorem pk_t2 (b : Bool) : (bif b then true else true) = true := by cases b <;> rfl
theorem pk_f2 (b : Bool) : (bif b then b else true) = true := by cases b <;> rfl
theorem eq2 (a v : Int) : (decide (a = a) && (decide (v = v) && true)) = true := by simp
theorem eq1 (a : Int) : (decide (a = a) && true) = true := by simp
theorem ne1 (a : Int) : decide (¬ a = a) = false := by simp
theorem siz00 (a v : Int) (h0 : 0 ≤ a) (h1 : a ≤ 1000) : Pure Try.prog 6 (cons [.int .i64 a, .int .i64 0, .int .i64 0, .int .u32 v]) (con (.bool true)) := by
  refine pureX (u := 80) (k := 20) mix TKok ?_
  refine Eq.mpr (r_siz00 a v _) ?_
  have c1 : ¬ a < 0 := by omega
  have c2 : ¬ a > 1000 := by omega
  have w0 : IntKind.wrap .u64 a = a := by rw [wU64]; omega
  simp only [c1, c2, w0, eq2, eq1, ne1, pk_or, pk_and, pk_t2, decide_true, decide_false, cond_true, cond_false, allN_true, Nat.le_refl, Int.toNat_natCast, Nat.beq_refl, pk_and, pk_or, Bool.not_true, Bool.not_false, not_true_eq_false, not_false_eq_true, Bool.and_true, Bool.true_and, Bool.and_self, ge_iff_le, Int.le_refl, if_true, if_false, reduceCtorEq, eq_self, BEq.rfl]
  try rfl
theorem siz01 (a v : Int) (h0 : 0 ≤ a) (h1 : a ≤ 1000) : Pure Try.prog 6 (cons [.int .i64 a, .int .i64 0, .int .i64 1, .int .u32 v]) (con (.bool true)) := by
  refine pureX (u := 80) (k := 20) mix TKok ?_
  refine Eq.mpr (r_siz01 a v _) ?_
  have c1 : ¬ a < 0 := by omega
  have c2 : ¬ a > 1000 := by omega
  have w0 : IntKind.wrap .u64 a = a := by rw [wU64]; omega
  have p0 : ¬ 5000 ≤ a := by omega
  have q0 : a ≤ 5000 := by omega
  have r0 : ¬ IntKind.wrap .u64 (5000 - a) < 4 := by rw [wU64]; omega
  simp only [c1, c2, w0, p0, q0, r0, eq2, eq1, ne1, pk_or, pk_and, pk_t2, decide_true, decide_false, cond_true, cond_false, allN_true, Nat.le_refl, Int.toNat_natCast, Nat.beq_refl, pk_and, pk_or, Bool.not_true, Bool.not_false, not_true_eq_false, not_false_eq_true, Bool.and_true, Bool.true_and, Bool.and_self, ge_iff_le, Int.le_refl, if_true, if_false, reduceCtorEq, eq_self, BEq.rfl]
  try rfl
theorem siz02 (a v : Int) (h0 : 0 ≤ a) (h1 : a ≤ 1000) : Pure Try.prog 6 (cons [.int .i64 a, .int .i64 0, .int .i64 2, .int .u32 v]) (con (.bool true)) := by
  refine pureX (u := 80) (k := 20) mix TKok ?_
  refine Eq.mpr (r_siz02 a v _) ?_
  have c1 : ¬ a < 0 := by omega
  have c2 : ¬ a > 1000 := by omega
  have w0 : IntKind.wrap .u64 a = a := by rw [wU64]; omega
  have p0 : ¬ 5000 ≤ a := by omega
  have q0 : a ≤ 5000 := by omega
  have r0 : ¬ IntKind.wrap .u64 (5000 - a) < 4 := by rw [wU64]; omega
  have p1 : ¬ 5004 ≤ a := by omega
  have q1 : a ≤ 5004 := by omega
  have r1 : ¬ IntKind.wrap .u64 (5004 - a) < 4 := by rw [wU64]; omega
  simp only [c1, c2, w0, p0, q0, r0, p1, q1, r1, eq2, eq1, ne1, pk_or, pk_and, pk_t2, decide_true, decide_false, cond_true, cond_false, allN_true, Nat.le_refl, Int.toNat_natCast, Nat.beq_refl, pk_and, pk_or, Bool.not_true, Bool.not_false, not_true_eq_false, not_false_eq_true, Bool.and_true, Bool.true_and, Bool.and_self, ge_iff_le, Int.le_refl, if_true, if_false, reduceCtorEq, eq_self, BEq.rfl]
  try rfl
theorem siz03 (a v : Int) (h0 : 0 ≤ a) (h1 : a ≤ 1000) : Pure Try.prog 6 (cons [.int .i64 a, .int .i64 0, .int .i64 3, .int .u32 v]) (con (.bool true)) := by
  refine pureX (u := 80) (k := 20) mix TKok ?_
  refine Eq.mpr (r_siz03 a v _) ?_
  have c1 : ¬ a < 0 := by omega
  have c2 : ¬ a > 1000 := by omega
  have w0 : IntKind.wrap .u64 a = a := by rw [wU64]; omega
  have p0 : ¬ 5000 ≤ a := by omega
  have q0 : a ≤ 5000 := by omega
  have r0 : ¬ IntKind.wrap .u64 (5000 - a) < 4 := by rw [wU64]; omega
  have p1 : ¬ 5004 ≤ a := by omega
  have q1 : a ≤ 5004 := by omega
  have r1 : ¬ IntKind.wrap .u64 (5004 - a) < 4 := by rw [wU64]; omega
  have p2 : ¬ 5008 ≤ a := by omega
  have q2 : a ≤ 5008 := by omega
  have r2 : ¬ IntKind.wrap .u64 (5008 - a) < 4 := by rw [wU64]; omega
  simp only [c1, c2, w0, p0, q0, r0, p1, q1, r1, p2, q2, r2, eq2, eq1, ne1, pk_or, pk_and, pk_t2, decide_true, decide_false, cond_true, cond_false, allN_true, Nat.le_refl, Int.toNat_natCast, Nat.beq_refl, pk_and, pk_or, Bool.not_true, Bool.not_false, not_true_eq_false, not_false_eq_true, Bool.and_true, Bool.true_and, Bool.and_self, ge_iff_le, Int.le_refl, if_true, if_false, reduceCtorEq, eq_self, BEq.rfl]
  try rfl
theorem siz04 (a v : Int) (h0 : 0 ≤ a) (h1 : a ≤ 1000) : Pure Try.prog 6 (cons [.int .i64 a, .int .i64 0, .int .i64 4, .int .u32 v]) (con (.bool true)) := by
  refine pureX (u := 80) (k := 20) mix TKok ?_
  refine Eq.mpr (r_siz04 a v _) ?_
  have c1 : ¬ a < 0 := by omega
  have c2 : ¬ a > 1000 := by omega
  have w0 : IntKind.wrap .u64 a = a := by rw [wU64]; omega
  have p0 : ¬ 5000 ≤ a := by omega
  have q0 : a ≤ 5000 := by omega
  have r0 : ¬ IntKind.wrap .u64 (5000 - a) < 4 := by rw [wU64]; omega
  have p1 : ¬ 5004 ≤ a := by omega
  have q1 : a ≤ 5004 := by omega
  have r1 : ¬ IntKind.wrap .u64 (5004 - a) < 4 := by rw [wU64]; omega
  have p2 : ¬ 5008 ≤ a := by omega
  have q2 : a ≤ 5008 := by omega
  have r2 : ¬ IntKind.wrap .u64 (5008 - a) < 4 := by rw [wU64]; omega
  have p3 : ¬ 5012 ≤ a := by omega
  have q3 : a ≤ 5012 := by omega
  have r3 : ¬ IntKind.wrap .u64 (5012 - a) < 4 := by rw [wU64]; omega
  simp only [c1, c2, w0, p0, q0, r0, p1, q1, r1, p2, q2, r2, p3, q3, r3, eq2, eq1, ne1, pk_or, pk_and, pk_t2, decide_true, decide_false, cond_true, cond_false, allN_true, Nat.le_refl, Int.toNat_natCast, Nat.beq_refl, pk_and, pk_or, Bool.not_true, Bool.not_false, not_true_eq_false, not_false_eq_true, Bool.and_true, Bool.true_and, Bool.and_self, ge_iff_le, Int.le_refl, if_true, if_false, reduceCtorEq, eq_self, BEq.rfl]
  try rfl
theorem siz05 (a v : Int) (h0 : 0 ≤ a) (h1 : a ≤ 1000) : Pure Try.prog 6 (cons [.int .i64 a, .int .i64 0, .int .i64 5, .int .u32 v]) (con (.bool true)) := by
  refine pureX (u := 80) (k := 20) mix TKok ?_
  refine Eq.mpr (r_siz05 a v _) ?_
  have c1 : ¬ a < 0 := by omega
  have c2 : ¬ a > 1000 := by omega
  have w0 : IntKind.wrap .u64 a = a := by rw [wU64]; omega
  have p0 : ¬ 5000 ≤ a := by omega
  have q0 : a ≤ 5000 := by omega
  have r0 : ¬ IntKind.wrap .u64 (5000 - a) < 4 := by rw [wU64]; omega
  have p1 : ¬ 5004 ≤ a := by omega
  have q1 : a ≤ 5004 := by omega
  have r1 : ¬ IntKind.wrap .u64 (5004 - a) < 4 := by rw [wU64]; omega
  have p2 : ¬ 5008 ≤ a := by omega
  have q2 : a ≤ 5008 := by omega
  have r2 : ¬ IntKind.wrap .u64 (5008 - a) < 4 := by rw [wU64]; omega
  have p3 : ¬ 5012 ≤ a := by omega
  have q3 : a ≤ 5012 := by omega
  have r3 : ¬ IntKind.wrap .u64 (5012 - a) < 4 := by rw [wU64]; omega
  have p4 : ¬ 5016 ≤ a := by omega
  have q4 : a ≤ 5016 := by omega
  have r4 : ¬ IntKind.wrap .u64 (5016 - a) < 4 := by rw [wU64]; omega
  simp only [c1, c2, w0, p0, q0, r0, p1, q1, r1, p2, q2, r2, p3, q3, r3, p4, q4, r4, eq2, eq1, ne1, pk_or, pk_and, pk_t2, decide_true, decide_false, cond_true, cond_false, allN_true, Nat.le_refl, Int.toNat_natCast, Nat.beq_refl, pk_and, pk_or, Bool.not_true, Bool.not_false, not_true_eq_false, not_false_eq_true, Bool.and_true, Bool.true_and, Bool.and_self, ge_iff_le, Int.le_refl, if_true, if_false, reduceCtorEq, eq_self, BEq.rfl]
  try rfl
theorem siz10 (a v : Int) (h0 : 0 ≤ a) (h1 : a ≤ 1000) : Pure Try.prog 6 (cons [.int .i64 a, .int .i64 1, .int .i64 0, .int .u32 v]) (con (.bool true)) := by
  refine pureX (u := 80) (k := 20) mix TKok ?_
  refine Eq.mpr (r_siz10 a v _) ?_
  have c1 : ¬ a < 0 := by omega
  have c2 : ¬ a > 1000 := by omega
  have w0 : IntKind.wrap .u64 a = a := by rw [wU64]; omega
  simp only [c1, c2, w0, eq2, eq1, ne1, pk_or, pk_and, pk_t2, decide_true, decide_false, cond_true, cond_false, allN_true, Nat.le_refl, Int.toNat_natCast, Nat.beq_refl, pk_and, pk_or, Bool.not_true, Bool.not_false, not_true_eq_false, not_false_eq_true, Bool.and_true, Bool.true_and, Bool.and_self, ge_iff_le, Int.le_refl, if_true, if_false, reduceCtorEq, eq_self, BEq.rfl]
  try rfl
theorem siz11 (a v : Int) (h0 : 0 ≤ a) (h1 : a ≤ 1000) : Pure Try.prog 6 (cons [.int .i64 a, .int .i64 1, .int .i64 1, .int .u32 v]) (con (.bool true)) := by
  refine pureX (u := 80) (k := 20) mix TKok ?_
  refine Eq.mpr (r_siz11 a v _) ?_
  have c1 : ¬ a < 0 := by omega
  have c2 : ¬ a > 1000 := by omega
  have w0 : IntKind.wrap .u64 a = a := by rw [wU64]; omega
  have p0 : ¬ 5000 ≤ a := by omega
  have q0 : a ≤ 5000 := by omega
  have r0 : ¬ IntKind.wrap .u64 (5000 - a) < 2 := by rw [wU64]; omega
  simp only [c1, c2, w0, p0, q0, r0, eq2, eq1, ne1, pk_or, pk_and, pk_t2, decide_true, decide_false, cond_true, cond_false, allN_true, Nat.le_refl, Int.toNat_natCast, Nat.beq_refl, pk_and, pk_or, Bool.not_true, Bool.not_false, not_true_eq_false, not_false_eq_true, Bool.and_true, Bool.true_and, Bool.and_self, ge_iff_le, Int.le_refl, if_true, if_false, reduceCtorEq, eq_self, BEq.rfl]
  try rfl
theorem siz12 (a v : Int) (h0 : 0 ≤ a) (h1 : a ≤ 1000) : Pure Try.prog 6 (cons [.int .i64 a, .int .i64 1, .int .i64 2, .int .u32 v]) (con (.bool true)) := by
  refine pureX (u := 80) (k := 20) mix TKok ?_
  refine Eq.mpr (r_siz12 a v _) ?_
  have c1 : ¬ a < 0 := by omega
  have c2 : ¬ a > 1000 := by omega
  have w0 : IntKind.wrap .u64 a = a := by rw [wU64]; omega
  have p0 : ¬ 5000 ≤ a := by omega
  have q0 : a ≤ 5000 := by omega
  have r0 : ¬ IntKind.wrap .u64 (5000 - a) < 2 := by rw [wU64]; omega
  have p1 : ¬ 5004 ≤ a := by omega
  have q1 : a ≤ 5004 := by omega
  have r1 : ¬ IntKind.wrap .u64 (5004 - a) < 2 := by rw [wU64]; omega
  simp only [c1, c2, w0, p0, q0, r0, p1, q1, r1, eq2, eq1, ne1, pk_or, pk_and, pk_t2, decide_true, decide_false, cond_true, cond_false, allN_true, Nat.le_refl, Int.toNat_natCast, Nat.beq_refl, pk_and, pk_or, Bool.not_true, Bool.not_false, not_true_eq_false, not_false_eq_true, Bool.and_true, Bool.true_and, Bool.and_self, ge_iff_le, Int.le_refl, if_true, if_false, reduceCtorEq, eq_self, BEq.rfl]
  try rfl
theorem siz13 (a v : Int) (h0 : 0 ≤ a) (h1 : a ≤ 1000) : Pure Try.prog 6 (cons [.int .i64 a, .int .i64 1, .int .i64 3, .int .u32 v]) (con (.bool true)) := by
  refine pureX (u := 80) (k := 20) mix TKok ?_
  refine Eq.mpr (r_siz13 a v _) ?_
  have c1 : ¬ a < 0 := by omega
  have c2 : ¬ a > 1000 := by omega
  have w0 : IntKind.wrap .u64 a = a := by rw [wU64]; omega
  have p0 : ¬ 5000 ≤ a := by omega
  have q0 : a ≤ 5000 := by omega
  have r0 : ¬ IntKind.wrap .u64 (5000 - a) < 2 := by rw [wU64]; omega
  have p1 : ¬ 5004 ≤ a := by omega
  have q1 : a ≤ 5004 := by omega
  have r1 : ¬ IntKind.wrap .u64 (5004 - a) < 2 := by rw [wU64]; omega
  have p2 : ¬ 5008 ≤ a := by omega
  have q2 : a ≤ 5008 := by omega
  have r2 : ¬ IntKind.wrap .u64 (5008 - a) < 2 := by rw [wU64]; omega
  simp only [c1, c2, w0, p0, q0, r0, p1, q1, r1, p2, q2, r2, eq2, eq1, ne1, pk_or, pk_and, pk_t2, decide_true, decide_false, cond_true, cond_false, allN_true, Nat.le_refl, Int.toNat_natCast, Nat.beq_refl, pk_and, pk_or, Bool.not_true, Bool.not_false, not_true_eq_false, not_false_eq_true, Bool.and_true, Bool.true_and, Bool.and_self, ge_iff_le, Int.le_refl, if_true, if_false, reduceCtorEq, eq_self, BEq.rfl]
  try rfl
theorem siz14 (a v : Int) (h0 : 0 ≤ a) (h1 : a ≤ 1000) : Pure Try.prog 6 (cons [.int .i64 a, .int .i64 1, .int .i64 4, .int .u32 v]) (con (.bool true)) := by
  refine pureX (u := 80) (k := 20) mix TKok ?_
  refine Eq.mpr (r_siz14 a v _) ?_
  have c1 : ¬ a < 0 := by omega
  have c2 : ¬ a > 1000 := by omega
  have w0 : IntKind.wrap .u64 a = a := by rw [wU64]; omega
  have p0 : ¬ 5000 ≤ a := by omega
  have q0 : a ≤ 5000 := by omega
  have r0 : ¬ IntKind.wrap .u64 (5000 - a) < 2 := by rw [wU64]; omega
  have p1 : ¬ 5004 ≤ a := by omega
  have q1 : a ≤ 5004 := by omega
  have r1 : ¬ IntKind.wrap .u64 (5004 - a) < 2 := by rw [wU64]; omega
  have p2 : ¬ 5008 ≤ a := by omega
  have q2 : a ≤ 5008 := by omega
  have r2 : ¬ IntKind.wrap .u64 (5008 - a) < 2 := by rw [wU64]; omega
  have p3 : ¬ 5012 ≤ a := by omega
  have q3 : a ≤ 5012 := by omega
  have r3 : ¬ IntKind.wrap .u64 (5012 - a) < 2 := by rw [wU64]; omega
  simp only [c1, c2, w0, p0, q0, r0, p1, q1, r1, p2, q2, r2, p3, q3, r3, eq2, eq1, ne1, pk_or, pk_and, pk_t2, decide_true, decide_false, cond_true, cond_false, allN_true, Nat.le_refl, Int.toNat_natCast, Nat.beq_refl, pk_and, pk_or, Bool.not_true, Bool.not_false, not_true_eq_false, not_false_eq_true, Bool.and_true, Bool.true_and, Bool.and_self, ge_iff_le, Int.le_refl, if_true, if_false, reduceCtorEq, eq_self, BEq.rfl]
  try rfl
theorem siz15 (a v : Int) (h0 : 0 ≤ a) (h1 : a ≤ 1000) : Pure Try.prog 6 (cons [.int .i64 a, .int .i64 1, .int .i64 5, .int .u32 v]) (con (.bool true)) := by
  refine pureX (u := 80) (k := 20) mix TKok ?_
  refine Eq.mpr (r_siz15 a v _) ?_
  have c1 : ¬ a < 0 := by omega
  have c2 : ¬ a > 1000 := by omega
  have w0 : IntKind.wrap .u64 a = a := by rw [wU64]; omega
  have p0 : ¬ 5000 ≤ a := by omega
  have q0 : a ≤ 5000 := by omega
  have r0 : ¬ IntKind.wrap .u64 (5000 - a) < 2 := by rw [wU64]; omega
  have p1 : ¬ 5004 ≤ a := by omega
  have q1 : a ≤ 5004 := by omega
  have r1 : ¬ IntKind.wrap .u64 (5004 - a) < 2 := by rw [wU64]; omega
  have p2 : ¬ 5008 ≤ a := by omega
  have q2 : a ≤ 5008 := by omega
  have r2 : ¬ IntKind.wrap .u64 (5008 - a) < 2 := by rw [wU64]; omega
  have p3 : ¬ 5012 ≤ a := by omega
  have q3 : a ≤ 5012 := by omega
  have r3 : ¬ IntKind.wrap .u64 (5012 - a) < 2 := by rw [wU64]; omega
  have p4 : ¬ 5016 ≤ a := by omega
  have q4 : a ≤ 5016 := by omega
  have r4 : ¬ IntKind.wrap .u64 (5016 - a) < 2 := by rw [wU64]; omega
  simp only [c1, c2, w0, p0, q0, r0, p1, q1, r1, p2, q2, r2, p3, q3, r3, p4, q4, r4, eq2, eq1, ne1, pk_or, pk_and, pk_t2, decide_true, decide_false, cond_true, cond_false, allN_true, Nat.le_refl, Int.toNat_natCast, Nat.beq_refl, pk_and, pk_or, Bool.not_true, Bool.not_false, not_true_eq_false, not_false_eq_true, Bool.and_true, Bool.true_and, Bool.and_self, ge_iff_le, Int.le_refl, if_true, if_false, reduceCtorEq, eq_self, BEq.rfl]
  try rfl
theorem siz20 (a v : Int) (h0 : 0 ≤ a) (h1 : a ≤ 1000) : Pure Try.prog 6 (cons [.int .i64 a, .int .i64 2, .int .i64 0, .int .u32 v]) (con (.bool true)) := by
  refine pureX (u := 80) (k := 20) mix TKok ?_
  refine Eq.mpr (r_siz20 a v _) ?_
  have c1 : ¬ a < 0 := by omega
  have c2 : ¬ a > 1000 := by omega
  have w0 : IntKind.wrap .u64 a = a := by rw [wU64]; omega
  simp only [c1, c2, w0, eq2, eq1, ne1, pk_or, pk_and, pk_t2, decide_true, decide_false, cond_true, cond_false, allN_true, Nat.le_refl, Int.toNat_natCast, Nat.beq_refl, pk_and, pk_or, Bool.not_true, Bool.not_false, not_true_eq_false, not_false_eq_true, Bool.and_true, Bool.true_and, Bool.and_self, ge_iff_le, Int.le_refl, if_true, if_false, reduceCtorEq, eq_self, BEq.rfl]
  try rfl
theorem siz21 (a v : Int) (h0 : 0 ≤ a) (h1 : a ≤ 1000) : Pure Try.prog 6 (cons [.int .i64 a, .int .i64 2, .int .i64 1, .int .u32 v]) (con (.bool true)) := by
  refine pureX (u := 80) (k := 20) mix TKok ?_
  refine Eq.mpr (r_siz21 a v _) ?_
  have c1 : ¬ a < 0 := by omega
  have c2 : ¬ a > 1000 := by omega
  have w0 : IntKind.wrap .u64 a = a := by rw [wU64]; omega
  have p0 : ¬ 5000 ≤ a := by omega
  have q0 : a ≤ 5000 := by omega
  have r0 : ¬ IntKind.wrap .u64 (5000 - a) < 1 := by rw [wU64]; omega
  simp only [c1, c2, w0, p0, q0, r0, eq2, eq1, ne1, pk_or, pk_and, pk_t2, decide_true, decide_false, cond_true, cond_false, allN_true, Nat.le_refl, Int.toNat_natCast, Nat.beq_refl, pk_and, pk_or, Bool.not_true, Bool.not_false, not_true_eq_false, not_false_eq_true, Bool.and_true, Bool.true_and, Bool.and_self, ge_iff_le, Int.le_refl, if_true, if_false, reduceCtorEq, eq_self, BEq.rfl]
  try rfl
theorem siz22 (a v : Int) (h0 : 0 ≤ a) (h1 : a ≤ 1000) : Pure Try.prog 6 (cons [.int .i64 a, .int .i64 2, .int .i64 2, .int .u32 v]) (con (.bool true)) := by
  refine pureX (u := 80) (k := 20) mix TKok ?_
  refine Eq.mpr (r_siz22 a v _) ?_
  have c1 : ¬ a < 0 := by omega
  have c2 : ¬ a > 1000 := by omega
  have w0 : IntKind.wrap .u64 a = a := by rw [wU64]; omega
  have p0 : ¬ 5000 ≤ a := by omega
  have q0 : a ≤ 5000 := by omega
  have r0 : ¬ IntKind.wrap .u64 (5000 - a) < 1 := by rw [wU64]; omega
  have p1 : ¬ 5004 ≤ a := by omega
  have q1 : a ≤ 5004 := by omega
  have r1 : ¬ IntKind.wrap .u64 (5004 - a) < 1 := by rw [wU64]; omega
  simp only [c1, c2, w0, p0, q0, r0, p1, q1, r1, eq2, eq1, ne1, pk_or, pk_and, pk_t2, decide_true, decide_false, cond_true, cond_false, allN_true, Nat.le_refl, Int.toNat_natCast, Nat.beq_refl, pk_and, pk_or, Bool.not_true, Bool.not_false, not_true_eq_false, not_false_eq_true, Bool.and_true, Bool.true_and, Bool.and_self, ge_iff_le, Int.le_refl, if_true, if_false, reduceCtorEq, eq_self, BEq.rfl]
  try rfl
theorem siz23 (a v : Int) (h0 : 0 ≤ a) (h1 : a ≤ 1000) : Pure Try.prog 6 (cons [.int .i64 a, .int .i64 2, .int .i64 3, .int .u32 v]) (con (.bool true)) := by
  refine pureX (u := 80) (k := 20) mix TKok ?_
  refine Eq.mpr (r_siz23 a v _) ?_
  have c1 : ¬ a < 0 := by omega
  have c2 : ¬ a > 1000 := by omega
  have w0 : IntKind.wrap .u64 a = a := by rw [wU64]; omega
  have p0 : ¬ 5000 ≤ a := by omega
  have q0 : a ≤ 5000 := by omega
  have r0 : ¬ IntKind.wrap .u64 (5000 - a) < 1 := by rw [wU64]; omega
  have p1 : ¬ 5004 ≤ a := by omega
  have q1 : a ≤ 5004 := by omega
  have r1 : ¬ IntKind.wrap .u64 (5004 - a) < 1 := by rw [wU64]; omega
  have p2 : ¬ 5008 ≤ a := by omega
  have q2 : a ≤ 5008 := by omega
  have r2 : ¬ IntKind.wrap .u64 (5008 - a) < 1 := by rw [wU64]; omega
  simp only [c1, c2, w0, p0, q0, r0, p1, q1, r1, p2, q2, r2, eq2, eq1, ne1, pk_or, pk_and, pk_t2, decide_true, decide_false, cond_true, cond_false, allN_true, Nat.le_refl, Int.toNat_natCast, Nat.beq_refl, pk_and, pk_or, Bool.not_true, Bool.not_false, not_true_eq_false, not_false_eq_true, Bool.and_true, Bool.true_and, Bool.and_self, ge_iff_le, Int.le_refl, if_true, if_false, reduceCtorEq, eq_self, BEq.rfl]
  try rfl
theorem siz24 (a v : Int) (h0 : 0 ≤ a) (h1 : a ≤ 1000) : Pure Try.prog 6 (cons [.int .i64 a, .int .i64 2, .int .i64 4, .int .u32 v]) (con (.bool true)) := by
  refine pureX (u := 80) (k := 20) mix TKok ?_
  refine Eq.mpr (r_siz24 a v _) ?_
  have c1 : ¬ a < 0 := by omega
  have c2 : ¬ a > 1000 := by omega
  have w0 : IntKind.wrap .u64 a = a := by rw [wU64]; omega
  have p0 : ¬ 5000 ≤ a := by omega
  have q0 : a ≤ 5000 := by omega
  have r0 : ¬ IntKind.wrap .u64 (5000 - a) < 1 := by rw [wU64]; omega
  have p1 : ¬ 5004 ≤ a := by omega
  have q1 : a ≤ 5004 := by omega
  have r1 : ¬ IntKind.wrap .u64 (5004 - a) < 1 := by rw [wU64]; omega
  have p2 : ¬ 5008 ≤ a := by omega
  have q2 : a ≤ 5008 := by omega
  have r2 : ¬ IntKind.wrap .u64 (5008 - a) < 1 := by rw [wU64]; omega
  have p3 : ¬ 5012 ≤ a := by omega
  have q3 : a ≤ 5012 := by omega
  have r3 : ¬ IntKind.wrap .u64 (5012 - a) < 1 := by rw [wU64]; omega
  simp only [c1, c2, w0, p0, q0, r0, p1, q1, r1, p2, q2, r2, p3, q3, r3, eq2, eq1, ne1, pk_or, pk_and, pk_t2, decide_true, decide_false, cond_true, cond_false, allN_true, Nat.le_refl, Int.toNat_natCast, Nat.beq_refl, pk_and, pk_or, Bool.not_true, Bool.not_false, not_true_eq_false, not_false_eq_true, Bool.and_true, Bool.true_and, Bool.and_self, ge_iff_le, Int.le_refl, if_true, if_false, reduceCtorEq, eq_self, BEq.rfl]
  try rfl
theorem siz25 (a v : Int) (h0 : 0 ≤ a) (h1 : a ≤ 1000) : Pure Try.prog 6 (cons [.int .i64 a, .int .i64 2, .int .i64 5, .int .u32 v]) (con (.bool true)) := by
  refine pureX (u := 80) (k := 20) mix TKok ?_
  refine Eq.mpr (r_siz25 a v _) ?_
  have c1 : ¬ a < 0 := by omega
  have c2 : ¬ a > 1000 := by omega
  have w0 : IntKind.wrap .u64 a = a := by rw [wU64]; omega
  have p0 : ¬ 5000 ≤ a := by omega
  have q0 : a ≤ 5000 := by omega
  have r0 : ¬ IntKind.wrap .u64 (5000 - a) < 1 := by rw [wU64]; omega
  have p1 : ¬ 5004 ≤ a := by omega
  have q1 : a ≤ 5004 := by omega
  have r1 : ¬ IntKind.wrap .u64 (5004 - a) < 1 := by rw [wU64]; omega
  have p2 : ¬ 5008 ≤ a := by omega
  have q2 : a ≤ 5008 := by omega
  have r2 : ¬ IntKind.wrap .u64 (5008 - a) < 1 := by rw [wU64]; omega
  have p3 : ¬ 5012 ≤ a := by omega
  have q3 : a ≤ 5012 := by omega
  have r3 : ¬ IntKind.wrap .u64 (5012 - a) < 1 := by rw [wU64]; omega
  have p4 : ¬ 5016 ≤ a := by omega
  have q4 : a ≤ 5016 := by omega
  have r4 : ¬ IntKind.wrap .u64 (5016 - a) < 1 := by rw [wU64]; omega
  simp only [c1, c2, w0, p0, q0, r0, p1, q1, r1, p2, q2, r2, p3, q3, r3, p4, q4, r4, eq2, eq1, ne1, pk_or, pk_and, pk_t2, decide_true, decide_false, cond_true, cond_false, allN_true, Nat.le_refl, Int.toNat_natCast, Nat.beq_refl, pk_and, pk_or, Bool.not_true, Bool.not_false, not_true_eq_false, not_false_eq_true, Bool.and_true, Bool.true_and, Bool.and_self, ge_iff_le, Int.le_refl, if_true, if_false, reduceCtorEq, eq_self, BEq.rfl]
  try rfl
theorem siz_pure (a w o v : Int) : Pure Try.prog 6 (cons [.int .i64 a, .int .i64 w, .int .i64 o, .int .u32 v]) (con (.bool true)) := by
  by_cases h : a < 0 ∨ a > 1000 ∨ w < 0 ∨ w > 2 ∨ o < 0 ∨ o > 5
  · exact siz_out a w o v h
  have h0 : 0 ≤ a := by omega
  have h1 : a ≤ 1000 := by omega
  rcases (by omega : w = 0 ∨ w = 1 ∨ w = 2) with rfl | rfl | rfl <;> rcases (by omega : o = 0 ∨ o = 1 ∨ o = 2 ∨ o = 3 ∨ o = 4 ∨ o = 5) with rfl | rfl | rfl | rfl | rfl | rfl
  · exact siz00 a v h0 h1
  · exact siz01 a v h0 h1
  · exact siz02 a v h0 h1
  · exact siz03 a v h0 h1
  · exact siz04 a v h0 h1
  · exact siz05 a v h0 h1
  · exact siz10 a v h0 h1
  · exact siz11 a v h0 h1
  · exact siz12 a v h0 h1
  · exact siz13 a v h0 h1
  · exact siz14 a v h0 h1
  · exact siz15 a v h0 h1
  · exact siz20 a v h0 h1
  · exact siz21 a v h0 h1
  · exact siz22 a v h0 h1
  · exact siz23 a v h0 h1
  · exact siz24 a v h0 h1
  · exact siz25 a v h0 h1
end Go.Proofs.Ytbemlndjdbopeaa
namespace Go.Proofs.Ytbemlndjdbopeaa.commitSizes
open Go.Ra Go.ChangeShapes Go.WideShapes Go.ChangeAt Go.RowKit
open Go.ChangeMaps (open_string shut_string)
theorem own : ownKnob Try.prog.godebug = none := by kernel_rfl
def Ts : List Ty := [.int .i64, .int .i64, .int .i64, .int .u32]
theorem law (xs : List AV) (h : Ty.hasL Ts xs) : Pure Try.prog 6 xs (.sc (.bool true)) := by
  have h0 := h
  simp only [Ts, Ty.hasL] at h0
  obtain ⟨a, _, rfl, _, b, _, rfl, _, c, _, rfl, _, d, _, rfl, _, rfl⟩ := h0
  exact lawX h (siz_pure _ _ _ _)
set_option maxRecDepth 100000 in
theorem lifted (os : Os) (started : os.Started) (H : Type) (enc : TypeId × Value → H) :
    ReturnsInHanded {} Try.checked os 6 .any (Rows.commitSizesSpec.pre6 enc Try.prog Try.f6 Rows.commitSizesRow.domain false) (Rows.commitSizesSpec.post enc Try.prog Try.f6 false true false false) := by
  refine returnsInHanded_of_change_sized (C := Try.checked) own started (by kernel_rfl) Try.func6
    (ChangeSpec.witness6 (enc := enc) (C := Try.checked) false ⟨#[], #[.int .i64 0, .int .i64 0, .int .i64 0, .int .u32 0], []⟩ 8 (by kernel_rfl) (by kernel_rfl) (by kernel_rfl) (by kernel_rfl)) ?_
  intro W base args ds gs before hval hW hcnd hsz _
  refine law_post (s := Rows.commitSizesSpec) (n := 60) (Ts := Ts) (ts := [3, 3, 3, 24]) (tb := 4) (by kernel_rfl) rfl rfl Try.underlying4 rfl (by kernel_rfl) (by kernel_rfl) (fun ds hds => ?_) law W base args ds gs before hval hW hsz
  match ds, hds with
  | [d1, d2, d3, d4], _ => exact ⟨rfl, rfl, rfl⟩
theorem over : Rows.commitSizesRow.holds Try.pinned (OpenSpec.ofChange Rows.commitSizesSpec) :=
  OpenClaim.holds_of_wide 6 Try.f6 rfl rfl rfl rfl rfl rfl rfl ⟨rfl, rfl, rfl, rfl, rfl⟩ rfl rfl rfl rfl rfl (by kernel_rfl) Try.func6 (by kernel_rfl)
    (of_decide_eq_true (by kernel_rfl)) (by unfold Func.isWrapper; first | (rw [if_pos (by decide +kernel)]; kernel_rfl) | (rw [if_neg (by decide +kernel)]; exact ⟨rfl, rfl⟩))
    (fun os started H enc _ => lifted os started H enc)
theorem proved : Rows.CommitSizesSaid := over
end Go.Proofs.Ytbemlndjdbopeaa.commitSizes
namespace Go.Proofs.Ytbemlndjdbopeaa
/-- The row, under a short name, for the claim. -/
theorem commitSizes_holds : Rows.CommitSizesSaid := commitSizes.proved
end Go.Proofs.Ytbemlndjdbopeaa
#print axioms Go.Proofs.Ytbemlndjdbopeaa.commitSizes_holds
