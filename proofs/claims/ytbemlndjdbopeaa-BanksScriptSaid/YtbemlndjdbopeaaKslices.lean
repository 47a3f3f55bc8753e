/- Abstract code of the functions of slices: printed by a program from what the given translation yields. -/
import Derived.Test.YtbemlndjdbopeaaKq
namespace Go.Proofs.Ytbemlndjdbopeaa
open Go.Ra
def c_slices_Clone_Slot_Slot : AC := cloneC 3 16
theorem t_slices_Clone_Slot_Slot : trF Try.prog qq 42 = some (8, [(.tmp 2)], c_slices_Clone_Slot_Slot) := by kernel_rfl
def c_slices_Clone_Entry_Entry : AC := cloneC 5 32
theorem t_slices_Clone_Entry_Entry : trF Try.prog qq 43 = some (8, [(.tmp 2)], c_slices_Clone_Entry_Entry) := by kernel_rfl
def c_slices_Clone_Request_Request : AC := cloneC 8 64
theorem t_slices_Clone_Request_Request : trF Try.prog qq 44 = some (8, [(.tmp 2)], c_slices_Clone_Request_Request) := by kernel_rfl
def c_slices_Clone_uint32_uint32 : AC := cloneC 1 4
theorem t_slices_Clone_uint32_uint32 : trF Try.prog qq 45 = some (8, [(.tmp 2)], c_slices_Clone_uint32_uint32) := by kernel_rfl
def c_slices_Clone_bool_bool : AC := cloneC 1 1
theorem t_slices_Clone_bool_bool : trF Try.prog qq 46 = some (8, [(.tmp 2)], c_slices_Clone_bool_bool) := by kernel_rfl
def c_slices_Clone_byte_byte : AC := cloneC 1 1
theorem t_slices_Clone_byte_byte : trF Try.prog qq 47 = some (8, [(.tmp 2)], c_slices_Clone_byte_byte) := by kernel_rfl
def c_slices_Clone_Write_Write : AC := cloneC 3 24
theorem t_slices_Clone_Write_Write : trF Try.prog qq 48 = some (8, [(.tmp 2)], c_slices_Clone_Write_Write) := by kernel_rfl
def c_slices_ContainsFunc_Request_Request : AC := (.seq (.ops [⟨(.some 4), (.mv (.c (.sc (.bool .false)))), .none⟩]) (.seq (.ops [⟨(.some 5), (.mv (.t 0)), .none⟩, ⟨(.some 6), (.mv (.t 1)), .none⟩, ⟨(.some 7), (.call 64 [(.t 5), (.t 6)]), .none⟩, ⟨(.some 8), (.bin .geq (.t 7) (.c (.sc (.int .i64 0)))), .none⟩, ⟨(.some 4), (.mv (.t 8)), .none⟩]) .ret))
theorem t_slices_ContainsFunc_Request_Request : trF Try.prog qq 54 = some (9, [(.tmp 4)], c_slices_ContainsFunc_Request_Request) := by kernel_rfl
def c_slices_IndexFunc_Request_Request_l1 : AC := (.seq (.ops [⟨(.some 9), (.bin .lss (.t 8) (.t 7)), .none⟩]) (.seq (.cond (.t 9) .skip (.exit 0)) (.seq (.block 1 (.seq (.ops [⟨(.some 10), (.mv (.t 8)), .none⟩, ⟨(.some 5), (.mv (.t 10)), .none⟩]) (.seq (.ops [⟨(.some 11), (.mv (.t 1)), .none⟩, ⟨(.some 12), (.mv (.t 0)), .none⟩, ⟨(.some 13), (.mv (.t 5)), .none⟩, ⟨(.some 14), (.iadr .none 8 (.t 12) (.t 13)), .none⟩, ⟨(.some 15), (.load .true 8 (.t 14)), .none⟩, ⟨(.some 16), (.callv (.t 11) [(.t 15)]), .none⟩]) (.cond (.t 16) (.seq (.ops [⟨(.some 17), (.mv (.t 5)), .none⟩, ⟨(.some 4), (.mv (.t 17)), .none⟩]) .ret) .skip)))) (.ops [⟨(.some 18), (.bin .add (.t 8) (.c (.sc (.int .i64 1)))), .none⟩, ⟨(.some 8), (.mv (.t 18)), .none⟩]))))
def c_slices_IndexFunc_Request_Request_p1 : AC := (.seq (.ops [⟨(.some 4), (.mv (.c (.sc (.int .i64 (-1))))), .none⟩]) .ret)
def c_slices_IndexFunc_Request_Request : AC := (.seq (.ops [⟨(.some 4), (.mv (.c (.sc (.int .i64 0)))), .none⟩]) (.seq (.seq (.ops [⟨(.some 6), (.mv (.t 0)), .none⟩, ⟨(.some 7), (.len .none (.t 6)), .none⟩, ⟨(.some 8), (.mv (.c (.sc (.int .i64 0)))), .none⟩]) (.block 0 (.loop c_slices_IndexFunc_Request_Request_l1))) c_slices_IndexFunc_Request_Request_p1))
theorem t_slices_IndexFunc_Request_Request : trF Try.prog qq 64 = some (19, [(.tmp 4)], c_slices_IndexFunc_Request_Request) := by kernel_rfl
def c_slices_IndexFunc_Slot_Slot_l1 : AC := (.seq (.ops [⟨(.some 9), (.bin .lss (.t 8) (.t 7)), .none⟩]) (.seq (.cond (.t 9) .skip (.exit 0)) (.seq (.block 1 (.seq (.ops [⟨(.some 10), (.mv (.t 8)), .none⟩, ⟨(.some 5), (.mv (.t 10)), .none⟩]) (.seq (.ops [⟨(.some 11), (.mv (.t 1)), .none⟩, ⟨(.some 12), (.mv (.t 0)), .none⟩, ⟨(.some 13), (.mv (.t 5)), .none⟩, ⟨(.some 14), (.iadr .none 3 (.t 12) (.t 13)), .none⟩, ⟨(.some 15), (.load .true 3 (.t 14)), .none⟩, ⟨(.some 16), (.callv (.t 11) [(.t 15)]), .none⟩]) (.cond (.t 16) (.seq (.ops [⟨(.some 17), (.mv (.t 5)), .none⟩, ⟨(.some 4), (.mv (.t 17)), .none⟩]) .ret) .skip)))) (.ops [⟨(.some 18), (.bin .add (.t 8) (.c (.sc (.int .i64 1)))), .none⟩, ⟨(.some 8), (.mv (.t 18)), .none⟩]))))
def c_slices_IndexFunc_Slot_Slot_p1 : AC := (.seq (.ops [⟨(.some 4), (.mv (.c (.sc (.int .i64 (-1))))), .none⟩]) .ret)
def c_slices_IndexFunc_Slot_Slot : AC := (.seq (.ops [⟨(.some 4), (.mv (.c (.sc (.int .i64 0)))), .none⟩]) (.seq (.seq (.ops [⟨(.some 6), (.mv (.t 0)), .none⟩, ⟨(.some 7), (.len .none (.t 6)), .none⟩, ⟨(.some 8), (.mv (.c (.sc (.int .i64 0)))), .none⟩]) (.block 0 (.loop c_slices_IndexFunc_Slot_Slot_l1))) c_slices_IndexFunc_Slot_Slot_p1))
theorem t_slices_IndexFunc_Slot_Slot : trF Try.prog qq 75 = some (19, [(.tmp 4)], c_slices_IndexFunc_Slot_Slot) := by kernel_rfl
/-- The functions of slices. -/
def cl_slices : CodeL := [(42, 8, [(.tmp 2)], c_slices_Clone_Slot_Slot), (43, 8, [(.tmp 2)], c_slices_Clone_Entry_Entry), (44, 8, [(.tmp 2)], c_slices_Clone_Request_Request), (45, 8, [(.tmp 2)], c_slices_Clone_uint32_uint32), (46, 8, [(.tmp 2)], c_slices_Clone_bool_bool), (47, 8, [(.tmp 2)], c_slices_Clone_byte_byte), (48, 8, [(.tmp 2)], c_slices_Clone_Write_Write), (54, 9, [(.tmp 4)], c_slices_ContainsFunc_Request_Request), (64, 19, [(.tmp 4)], c_slices_IndexFunc_Request_Request), (75, 19, [(.tmp 4)], c_slices_IndexFunc_Slot_Slot)]
theorem clok_slices : AllL (fun p => trF Try.prog qq p.1 = some p.2) cl_slices := ⟨t_slices_Clone_Slot_Slot, t_slices_Clone_Entry_Entry, t_slices_Clone_Request_Request, t_slices_Clone_uint32_uint32, t_slices_Clone_bool_bool, t_slices_Clone_byte_byte, t_slices_Clone_Write_Write, t_slices_ContainsFunc_Request_Request, t_slices_IndexFunc_Request_Request, t_slices_IndexFunc_Slot_Slot, trivial⟩
/-- What is told of those that only make memory. -/
def gl_slices : SgL := [(42, makeS 3 16), (43, makeS 5 32), (44, makeS 8 64), (45, makeS 1 4), (46, makeS 1 1), (47, makeS 1 1), (48, makeS 3 24)]
theorem glok_slices : AllL (SgOk Try.prog qq) gl_slices := ⟨makeS_ok fun x es0 ts h1 h2 h3 => makes_clone mix t_slices_Clone_Slot_Slot (by decide) x es0 ts h1 h2 h3, makeS_ok fun x es0 ts h1 h2 h3 => makes_clone mix t_slices_Clone_Entry_Entry (by decide) x es0 ts h1 h2 h3, makeS_ok fun x es0 ts h1 h2 h3 => makes_clone mix t_slices_Clone_Request_Request (by decide) x es0 ts h1 h2 h3, makeS_ok fun x es0 ts h1 h2 h3 => makes_clone mix t_slices_Clone_uint32_uint32 (by decide) x es0 ts h1 h2 h3, makeS_ok fun x es0 ts h1 h2 h3 => makes_clone mix t_slices_Clone_bool_bool (by decide) x es0 ts h1 h2 h3, makeS_ok fun x es0 ts h1 h2 h3 => makes_clone mix t_slices_Clone_byte_byte (by decide) x es0 ts h1 h2 h3, makeS_ok fun x es0 ts h1 h2 h3 => makes_clone mix t_slices_Clone_Write_Write (by decide) x es0 ts h1 h2 h3, trivial⟩
end Go.Proofs.Ytbemlndjdbopeaa
