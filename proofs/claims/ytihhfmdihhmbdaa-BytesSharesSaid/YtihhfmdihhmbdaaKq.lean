/- Which functions leave memory alone, by number. -/
import Derived.Test.YtihhfmdihhmbdaaProg
import Derived.Test.YtihhfmdihhmbdaaRaZc
import Derived.Test.YtihhfmdihhmbdaaRaQ
namespace Go.Proofs.Ytihhfmdihhmbdaa
open Go.Ra
/-- A number n: that function leaves memory alone; n + 1000000: it only makes memory; n + 2000000: its appends onto nil are only read. -/
def qq : Nat → Bool := qs [0, 1, 2, 3, 4, 5, 6, 7, 8, 9, 10, 11, 12, 13, 14, 15, 16, 17, 18, 19, 20, 21, 22, 23, 24, 25, 26, 27, 28, 29, 30, 31, 32, 33, 34, 35, 36, 38, 41, 42, 43, 44, 45, 46, 47, 48, 49, 50, 51, 52, 53, 54, 55, 56, 57, 58, 1000037, 1000039, 2000006, 2000007, 2000011]
theorem mix : Try.prog.follows .mixedOrders = true := by kernel_rfl
end Go.Proofs.Ytihhfmdihhmbdaa
