/- Abstract code of the functions of slices: printed by a program from what the given translation yields. -/
import Derived.Test.YtmlnhecgcbohkaaKq
namespace Go.Proofs.Ytmlnhecgcbohkaa
open Go.Ra
def c_slices_Clone_Slot_Slot : AC := cloneC 3 16
theorem t_slices_Clone_Slot_Slot : trF Try.prog qq 45 = some (8, [(.tmp 2)], c_slices_Clone_Slot_Slot) := by kernel_rfl
def c_slices_IndexFunc_Slot_Slot_l1 : AC := (.seq (.ops [⟨(.some 9), (.bin .lss (.t 8) (.t 7)), .none⟩]) (.seq (.cond (.t 9) .skip (.exit 0)) (.seq (.block 1 (.seq (.ops [⟨(.some 10), (.mv (.t 8)), .none⟩, ⟨(.some 5), (.mv (.t 10)), .none⟩]) (.seq (.ops [⟨(.some 11), (.mv (.t 1)), .none⟩, ⟨(.some 12), (.mv (.t 0)), .none⟩, ⟨(.some 13), (.mv (.t 5)), .none⟩, ⟨(.some 14), (.iadr .none 3 (.t 12) (.t 13)), .none⟩, ⟨(.some 15), (.load .true 3 (.t 14)), .none⟩, ⟨(.some 16), (.callv (.t 11) [(.t 15)]), .none⟩]) (.cond (.t 16) (.seq (.ops [⟨(.some 17), (.mv (.t 5)), .none⟩, ⟨(.some 4), (.mv (.t 17)), .none⟩]) .ret) .skip)))) (.ops [⟨(.some 18), (.bin .add (.t 8) (.c (.sc (.int .i64 1)))), .none⟩, ⟨(.some 8), (.mv (.t 18)), .none⟩]))))
def c_slices_IndexFunc_Slot_Slot_p1 : AC := (.seq (.ops [⟨(.some 4), (.mv (.c (.sc (.int .i64 (-1))))), .none⟩]) .ret)
def c_slices_IndexFunc_Slot_Slot : AC := (.seq (.ops [⟨(.some 4), (.mv (.c (.sc (.int .i64 0)))), .none⟩]) (.seq (.seq (.ops [⟨(.some 6), (.mv (.t 0)), .none⟩, ⟨(.some 7), (.len .none (.t 6)), .none⟩, ⟨(.some 8), (.mv (.c (.sc (.int .i64 0)))), .none⟩]) (.block 0 (.loop c_slices_IndexFunc_Slot_Slot_l1))) c_slices_IndexFunc_Slot_Slot_p1))
theorem t_slices_IndexFunc_Slot_Slot : trF Try.prog qq 47 = some (19, [(.tmp 4)], c_slices_IndexFunc_Slot_Slot) := by kernel_rfl
def c_slices_Clone_Entry_Entry : AC := cloneC 5 32
theorem t_slices_Clone_Entry_Entry : trF Try.prog qq 53 = some (8, [(.tmp 2)], c_slices_Clone_Entry_Entry) := by kernel_rfl
def c_slices_ContainsFunc_int_int : AC := (.seq (.ops [⟨(.some 4), (.mv (.c (.sc (.bool .false)))), .none⟩]) (.seq (.ops [⟨(.some 5), (.mv (.t 0)), .none⟩, ⟨(.some 6), (.mv (.t 1)), .none⟩, ⟨(.some 7), (.call 60 [(.t 5), (.t 6)]), .none⟩, ⟨(.some 8), (.bin .geq (.t 7) (.c (.sc (.int .i64 0)))), .none⟩, ⟨(.some 4), (.mv (.t 8)), .none⟩]) .ret))
theorem t_slices_ContainsFunc_int_int : trF Try.prog qq 58 = some (9, [(.tmp 4)], c_slices_ContainsFunc_int_int) := by kernel_rfl
def c_slices_IndexFunc_int_int_l1 : AC := (.seq (.ops [⟨(.some 9), (.bin .lss (.t 8) (.t 7)), .none⟩]) (.seq (.cond (.t 9) .skip (.exit 0)) (.seq (.block 1 (.seq (.ops [⟨(.some 10), (.mv (.t 8)), .none⟩, ⟨(.some 5), (.mv (.t 10)), .none⟩]) (.seq (.ops [⟨(.some 11), (.mv (.t 1)), .none⟩, ⟨(.some 12), (.mv (.t 0)), .none⟩, ⟨(.some 13), (.mv (.t 5)), .none⟩, ⟨(.some 14), (.iadr .none 1 (.t 12) (.t 13)), .none⟩, ⟨(.some 15), (.load .false 1 (.t 14)), .none⟩, ⟨(.some 16), (.callv (.t 11) [(.t 15)]), .none⟩]) (.cond (.t 16) (.seq (.ops [⟨(.some 17), (.mv (.t 5)), .none⟩, ⟨(.some 4), (.mv (.t 17)), .none⟩]) .ret) .skip)))) (.ops [⟨(.some 18), (.bin .add (.t 8) (.c (.sc (.int .i64 1)))), .none⟩, ⟨(.some 8), (.mv (.t 18)), .none⟩]))))
def c_slices_IndexFunc_int_int_p1 : AC := (.seq (.ops [⟨(.some 4), (.mv (.c (.sc (.int .i64 (-1))))), .none⟩]) .ret)
def c_slices_IndexFunc_int_int : AC := (.seq (.ops [⟨(.some 4), (.mv (.c (.sc (.int .i64 0)))), .none⟩]) (.seq (.seq (.ops [⟨(.some 6), (.mv (.t 0)), .none⟩, ⟨(.some 7), (.len .none (.t 6)), .none⟩, ⟨(.some 8), (.mv (.c (.sc (.int .i64 0)))), .none⟩]) (.block 0 (.loop c_slices_IndexFunc_int_int_l1))) c_slices_IndexFunc_int_int_p1))
theorem t_slices_IndexFunc_int_int : trF Try.prog qq 60 = some (19, [(.tmp 4)], c_slices_IndexFunc_int_int) := by kernel_rfl
/-- The functions of slices. -/
def cl_slices : CodeL := [(45, 8, [(.tmp 2)], c_slices_Clone_Slot_Slot), (47, 19, [(.tmp 4)], c_slices_IndexFunc_Slot_Slot), (53, 8, [(.tmp 2)], c_slices_Clone_Entry_Entry), (58, 9, [(.tmp 4)], c_slices_ContainsFunc_int_int), (60, 19, [(.tmp 4)], c_slices_IndexFunc_int_int)]
theorem clok_slices : AllL (fun p => trF Try.prog qq p.1 = some p.2) cl_slices := ⟨t_slices_Clone_Slot_Slot, t_slices_IndexFunc_Slot_Slot, t_slices_Clone_Entry_Entry, t_slices_ContainsFunc_int_int, t_slices_IndexFunc_int_int, trivial⟩
/-- What is told of those that only make memory. -/
def gl_slices : SgL := [(45, makeS 3 16), (53, makeS 5 32)]
theorem glok_slices : AllL (SgOk Try.prog qq) gl_slices := ⟨makeS_ok fun x es0 ts h1 h2 h3 => makes_clone mix t_slices_Clone_Slot_Slot (by decide) x es0 ts h1 h2 h3, makeS_ok fun x es0 ts h1 h2 h3 => makes_clone mix t_slices_Clone_Entry_Entry (by decide) x es0 ts h1 h2 h3, trivial⟩
end Go.Proofs.Ytmlnhecgcbohkaa
