/- Abstract code of the functions of saq: printed by a program from what the given translation yields. -/
import Derived.Test.YtbemlndjdbopeaaKq
namespace Go.Proofs.Ytbemlndjdbopeaa
open Go.Ra
def c_saq_Mask : AC := (.seq (.ops [⟨(.some 4), (.mv (.c (.sc (.int .u32 0)))), .none⟩]) (.seq (.seq (.ops [⟨(.some 5), (.mv (.t 1)), .none⟩]) (.block 0 (.seq (.ops [⟨(.some 7), (.bin .eql (.t 5) (.c (.sc (.int .i64 1)))), .none⟩, ⟨(.some 6), (.mv (.t 7)), .none⟩]) (.cond (.t 6) (.seq (.ops [⟨(.some 8), (.mv (.t 0)), .none⟩, ⟨(.some 9), (.bin .and (.t 8) (.c (.sc (.int .u32 255)))), .none⟩, ⟨(.some 4), (.mv (.t 9)), .none⟩]) .ret) (.seq (.ops [⟨(.some 11), (.bin .eql (.t 5) (.c (.sc (.int .i64 2)))), .none⟩, ⟨(.some 10), (.mv (.t 11)), .none⟩]) (.cond (.t 10) (.seq (.ops [⟨(.some 12), (.mv (.t 0)), .none⟩, ⟨(.some 13), (.bin .and (.t 12) (.c (.sc (.int .u32 65535)))), .none⟩, ⟨(.some 4), (.mv (.t 13)), .none⟩]) .ret) (.seq (.ops [⟨(.some 15), (.bin .eql (.t 5) (.c (.sc (.int .i64 4)))), .none⟩, ⟨(.some 14), (.mv (.t 15)), .none⟩]) (.cond (.t 14) (.seq (.ops [⟨(.some 16), (.mv (.t 0)), .none⟩, ⟨(.some 4), (.mv (.t 16)), .none⟩]) .ret) .skip)))))))) (.seq (.ops [⟨(.some 4), (.mv (.c (.sc (.int .u32 0)))), .none⟩]) .ret)))
theorem t_saq_Mask : trF Try.prog qq 57 = some (17, [(.tmp 4)], c_saq_Mask) := by kernel_rfl
/-- The functions of saq. -/
def cl_saq : CodeL := [(57, 17, [(.tmp 4)], c_saq_Mask)]
theorem clok_saq : AllL (fun p => trF Try.prog qq p.1 = some p.2) cl_saq := ⟨t_saq_Mask, trivial⟩
end Go.Proofs.Ytbemlndjdbopeaa
