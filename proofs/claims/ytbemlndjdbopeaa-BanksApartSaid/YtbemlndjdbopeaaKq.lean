/- Which functions leave memory alone, by number. -/
import Derived.Test.YtbemlndjdbopeaaProg
import Derived.Test.YtbemlndjdbopeaaRaZc
import Derived.Test.YtbemlndjdbopeaaRaQ
namespace Go.Proofs.Ytbemlndjdbopeaa
open Go.Ra
/-- A number n: that function leaves memory alone; n + 1000000: it only makes memory; n + 2000000: its appends onto nil are only read. -/
def qq : Nat → Bool := qs [0, 1, 2, 3, 4, 5, 6, 7, 8, 9, 10, 11, 12, 13, 14, 15, 16, 17, 18, 19, 20, 21, 22, 23, 24, 25, 26, 27, 28, 29, 30, 31, 32, 33, 34, 35, 36, 40, 41, 50, 51, 52, 53, 54, 55, 56, 57, 58, 61, 62, 63, 64, 65, 69, 70, 71, 72, 73, 74, 75, 76, 77, 78, 79, 80, 81, 82, 83, 84, 85, 86, 87, 88, 89, 90, 91, 92, 1000039, 1000042, 1000043, 1000044, 1000045, 1000046, 1000047, 1000048, 2000003, 2000007]
theorem mix : Try.prog.follows .mixedOrders = true := by kernel_rfl
end Go.Proofs.Ytbemlndjdbopeaa
