/- Which functions leave memory alone, by number. -/
import Derived.Test.YtmlnhecgcbohkaaProg
import Derived.Test.YtmlnhecgcbohkaaRaZc
import Derived.Test.YtmlnhecgcbohkaaRaQ
namespace Go.Proofs.Ytmlnhecgcbohkaa
open Go.Ra
/-- A number n: that function leaves memory alone; n + 1000000: it only makes memory; n + 2000000: its appends onto nil are only read. -/
def qq : Nat → Bool := qs [0, 1, 2, 3, 4, 5, 6, 7, 8, 9, 10, 11, 12, 13, 14, 15, 16, 17, 18, 19, 20, 21, 22, 23, 24, 25, 26, 27, 28, 29, 30, 31, 32, 33, 34, 35, 36, 37, 38, 39, 40, 41, 42, 43, 44, 47, 48, 49, 50, 51, 52, 54, 55, 56, 57, 58, 59, 60, 61, 62, 63, 64, 65, 66, 67, 68, 69, 70, 71, 72, 73, 74, 75, 76, 1000045, 1000046, 1000053, 2000003, 2000005, 2000011]
theorem mix : Try.prog.follows .mixedOrders = true := by kernel_rfl
end Go.Proofs.Ytmlnhecgcbohkaa
