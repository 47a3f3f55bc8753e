/- Which functions leave memory alone, by number. -/
import Derived.Test.YtfobbfdbojednaaProg
import Derived.Test.YtfobbfdbojednaaRaZc
import Derived.Test.YtfobbfdbojednaaRaQ
namespace Go.Proofs.Ytfobbfdbojednaa
open Go.Ra
/-- A number n: that function leaves memory alone; n + 1000000: it only makes memory; n + 2000000: its appends onto nil are only read. -/
def qq : Nat → Bool := qs [0, 1, 2, 3, 4, 5, 6, 7, 8, 9, 10, 11, 12, 13, 14, 15, 16, 17, 18, 19, 20, 21, 22, 23, 24, 25, 26, 27, 28, 29, 32, 33, 34, 35, 36, 37, 38, 39, 40, 41, 42, 43, 44, 45, 46, 47, 48, 49, 50, 1000030, 2000003, 2000008]
theorem mix : Try.prog.follows .mixedOrders = true := by kernel_rfl
end Go.Proofs.Ytfobbfdbojednaa
