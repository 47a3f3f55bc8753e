/- Texts put together. -/
import Derived.Test.YtbemlndjdbopeaaPk3
/- Abstract code of the functions of banks: printed by a program from what the given translation yields. -/
namespace Go.Proofs.Ytbemlndjdbopeaa
open Go.Ra
def c_banks_Bank : AC := (.seq (.ops [⟨(.some 4), (.mv (.c (.sc (.int .i64 0)))), .none⟩]) (.seq (.seq (.ops [⟨(.some 5), (.mv (.t 0)), .none⟩, ⟨(.some 6), (.bin .lss (.t 5) (.c (.sc (.int .i64 0)))), .none⟩, ⟨(.some 7), (.mv (.t 6)), .none⟩, ⟨(.some 8), (.mv (.t 1)), (.some (7, .false))⟩, ⟨(.some 9), (.bin .lss (.t 8) (.c (.sc (.int .i64 1)))), (.some (7, .false))⟩, ⟨(.some 10), (.pick (.t 7) (.c (.sc (.bool .true))) (.t 9)), .none⟩]) (.cond (.t 10) (.seq (.ops [⟨(.some 4), (.mv (.c (.sc (.int .i64 0)))), .none⟩]) .ret) .skip)) (.seq (.ops [⟨(.some 11), (.mv (.t 0)), .none⟩, ⟨(.some 12), (.bin .quo (.t 11) (.c (.sc (.int .i64 4)))), .none⟩, ⟨(.some 13), (.mv (.t 1)), .none⟩, ⟨(.some 14), (.bin .rem (.t 12) (.t 13)), .none⟩, ⟨(.some 4), (.mv (.t 14)), .none⟩]) .ret)))
theorem t_banks_Bank : trF Try.prog qq 22 = some (15, [(.tmp 4)], c_banks_Bank) := by kernel_rfl
def c_banks_Lat : AC := (.seq (.ops [⟨(.some 3), (.box (.t 0)), .none⟩, ⟨(.some 6), (.mv (.c (.sc (.int .i64 0)))), .none⟩]) (.seq (.ops [⟨(.some 7), (.fadr 0 0 1 (.t 3)), .none⟩, ⟨(.some 8), (.load .false 1 (.t 7)), .none⟩, ⟨(.some 9), (.mv (.t 1)), .none⟩, ⟨(.some 10), (.mv (.t 2)), .none⟩, ⟨(.some 11), (.call 40 [(.t 8), (.t 9), (.t 10)]), .none⟩, ⟨(.some 12), (.bin .add (.c (.sc (.int .i64 1))) (.t 11)), .none⟩, ⟨(.some 6), (.mv (.t 12)), .none⟩]) .ret))
theorem t_banks_Lat : trF Try.prog qq 24 = some (13, [(.tmp 6)], c_banks_Lat) := by kernel_rfl
def c_banks_Pick : AC := (.seq (.ops [⟨(.some 3), (.box (.t 0)), .none⟩, ⟨(.some 6), (.mv (.c (.sc (.int .i64 0)))), .none⟩]) (.seq (.ops [⟨(.some 7), (.fadr 1 1 1 (.t 3)), .none⟩, ⟨(.some 8), (.load .false 1 (.t 7)), .none⟩, ⟨(.some 9), (.mv (.t 1)), .none⟩, ⟨(.some 10), (.mv (.t 2)), .none⟩, ⟨(.some 11), (.call 40 [(.t 8), (.t 9), (.t 10)]), .none⟩, ⟨(.some 6), (.mv (.t 11)), .none⟩]) .ret))
theorem t_banks_Pick : trF Try.prog qq 26 = some (12, [(.tmp 6)], c_banks_Pick) := by kernel_rfl
def c_banks_Advance : AC := (.seq (.ops [⟨(.some 3), (.box (.t 0)), .none⟩, ⟨(.some 4), (.box (.t 1)), .none⟩, ⟨(.some 5), (.box (.t 2)), .none⟩, ⟨(.some 6), (.box (.c (.agg 92 [(.sc (.int .i64 0)), (.agg 38 [(.arr 16 1 [(.sc (.int .u32 0)), (.sc (.int .u32 0)), (.sc (.int .u32 0)), (.sc (.int .u32 0)), (.sc (.int .u32 0)), (.sc (.int .u32 0)), (.sc (.int .u32 0)), (.sc (.int .u32 0)), (.sc (.int .u32 0)), (.sc (.int .u32 0)), (.sc (.int .u32 0)), (.sc (.int .u32 0)), (.sc (.int .u32 0)), (.sc (.int .u32 0)), (.sc (.int .u32 0)), (.sc (.int .u32 0))]), (.arr 16 1 [(.sc (.int .i64 0)), (.sc (.int .i64 0)), (.sc (.int .i64 0)), (.sc (.int .i64 0)), (.sc (.int .i64 0)), (.sc (.int .i64 0)), (.sc (.int .i64 0)), (.sc (.int .i64 0)), (.sc (.int .i64 0)), (.sc (.int .i64 0)), (.sc (.int .i64 0)), (.sc (.int .i64 0)), (.sc (.int .i64 0)), (.sc (.int .i64 0)), (.sc (.int .i64 0)), (.sc (.int .i64 0))]), (.agg 3 [(.sc (.int .i64 0)), (.sc (.int .i64 0)), (.sc (.int .i64 0))]), (.sc (.int .i64 0)), (.sc (.bool .false)), (.sc (.int .i64 0))]), (.agg 38 [(.arr 16 1 [(.sc (.int .u32 0)), (.sc (.int .u32 0)), (.sc (.int .u32 0)), (.sc (.int .u32 0)), (.sc (.int .u32 0)), (.sc (.int .u32 0)), (.sc (.int .u32 0)), (.sc (.int .u32 0)), (.sc (.int .u32 0)), (.sc (.int .u32 0)), (.sc (.int .u32 0)), (.sc (.int .u32 0)), (.sc (.int .u32 0)), (.sc (.int .u32 0)), (.sc (.int .u32 0)), (.sc (.int .u32 0))]), (.arr 16 1 [(.sc (.int .i64 0)), (.sc (.int .i64 0)), (.sc (.int .i64 0)), (.sc (.int .i64 0)), (.sc (.int .i64 0)), (.sc (.int .i64 0)), (.sc (.int .i64 0)), (.sc (.int .i64 0)), (.sc (.int .i64 0)), (.sc (.int .i64 0)), (.sc (.int .i64 0)), (.sc (.int .i64 0)), (.sc (.int .i64 0)), (.sc (.int .i64 0)), (.sc (.int .i64 0)), (.sc (.int .i64 0))]), (.agg 3 [(.sc (.int .i64 0)), (.sc (.int .i64 0)), (.sc (.int .i64 0))]), (.sc (.int .i64 0)), (.sc (.bool .false)), (.sc (.int .i64 0))]), (.fro .true 0 []), (.fro .true 0 []), (.fro .true 0 []), (.fro .true 0 []), (.fro .true 0 []), (.fro .true 0 []), (.fro .true 0 []), (.fro .true 0 []), (.fro .true 0 []), (.agg 3 [(.sc (.int .i64 0)), (.sc (.int .i64 0)), (.sc (.int .i64 0))]), (.sc (.int .i64 0)), (.sc (.int .i64 0)), (.sc (.int .i64 0))]))), .none⟩]) (.seq (.ops [⟨(.some 7), (.fadr 3 77 1 (.t 5)), .none⟩, ⟨(.some 8), (.load .false 1 (.t 7)), .none⟩, ⟨(.some 9), (.call 42 [(.t 8)]), .none⟩, ⟨(.some 10), (.fadr 8 82 1 (.t 5)), .none⟩, ⟨(.some 11), (.load .false 1 (.t 10)), .none⟩, ⟨(.some 12), (.call 43 [(.t 11)]), .none⟩, ⟨(.some 13), (.fadr 9 83 1 (.t 5)), .none⟩, ⟨(.some 14), (.load .false 1 (.t 13)), .none⟩, ⟨(.some 15), (.call 44 [(.t 14)]), .none⟩, ⟨(.some 16), (.fadr 3 77 1 (.t 5)), .none⟩, ⟨.none, (.store 1 (.t 16) (.t 9)), .none⟩, ⟨(.some 17), (.fadr 8 82 1 (.t 5)), .none⟩, ⟨.none, (.store 1 (.t 17) (.t 12)), .none⟩, ⟨(.some 18), (.fadr 9 83 1 (.t 5)), .none⟩, ⟨.none, (.store 1 (.t 18) (.t 15)), .none⟩]) (.seq (.ops [⟨(.some 19), (.fadr 4 78 1 (.t 5)), .none⟩, ⟨(.some 20), (.load .false 1 (.t 19)), .none⟩, ⟨(.some 21), (.call 45 [(.t 20)]), .none⟩, ⟨(.some 22), (.fadr 5 79 1 (.t 5)), .none⟩, ⟨(.some 23), (.load .false 1 (.t 22)), .none⟩, ⟨(.some 24), (.call 45 [(.t 23)]), .none⟩, ⟨(.some 25), (.fadr 6 80 1 (.t 5)), .none⟩, ⟨(.some 26), (.load .false 1 (.t 25)), .none⟩, ⟨(.some 27), (.call 46 [(.t 26)]), .none⟩, ⟨(.some 28), (.fadr 7 81 1 (.t 5)), .none⟩, ⟨(.some 29), (.load .false 1 (.t 28)), .none⟩, ⟨(.some 30), (.call 46 [(.t 29)]), .none⟩, ⟨(.some 31), (.fadr 4 78 1 (.t 5)), .none⟩, ⟨.none, (.store 1 (.t 31) (.t 21)), .none⟩, ⟨(.some 32), (.fadr 5 79 1 (.t 5)), .none⟩, ⟨.none, (.store 1 (.t 32) (.t 24)), .none⟩, ⟨(.some 33), (.fadr 6 80 1 (.t 5)), .none⟩, ⟨.none, (.store 1 (.t 33) (.t 27)), .none⟩, ⟨(.some 34), (.fadr 7 81 1 (.t 5)), .none⟩, ⟨.none, (.store 1 (.t 34) (.t 30)), .none⟩]) (.seq (.ops [⟨(.some 35), (.fadr 10 84 1 (.t 5)), .none⟩, ⟨(.some 36), (.load .false 1 (.t 35)), .none⟩, ⟨(.some 37), (.call 47 [(.t 36)]), .none⟩, ⟨(.some 38), (.fadr 11 85 1 (.t 5)), .none⟩, ⟨(.some 39), (.load .false 1 (.t 38)), .none⟩, ⟨(.some 40), (.call 48 [(.t 39)]), .none⟩, ⟨(.some 41), (.fadr 10 84 1 (.t 5)), .none⟩, ⟨.none, (.store 1 (.t 41) (.t 37)), .none⟩, ⟨(.some 42), (.fadr 11 85 1 (.t 5)), .none⟩, ⟨.none, (.store 1 (.t 42) (.t 40)), .none⟩]) (.seq (.ops [⟨(.some 43), (.load .true 12 (.t 3)), .none⟩, ⟨(.some 44), (.load .true 2 (.t 4)), .none⟩, ⟨(.some 45), (.call 49 [(.t 43), (.t 44), (.t 5)]), .none⟩]) (.seq (.ops [⟨(.some 46), (.load .true 92 (.t 5)), .none⟩, ⟨.none, (.store 92 (.t 6) (.t 46)), .none⟩]) .ret))))))
theorem t_banks_Advance : trF Try.prog qq 28 = some (47, [(.cell 6 .true 92)], c_banks_Advance) := by kernel_rfl
def c_banks_nth : AC := (.seq (.ops [⟨(.some 6), (.mv (.c (.sc (.int .i64 0)))), .none⟩]) (.seq (.seq (.ops [⟨(.some 7), (.mv (.t 0)), .none⟩, ⟨(.some 8), (.len .none (.t 7)), .none⟩, ⟨(.some 9), (.bin .eql (.t 8) (.c (.sc (.int .i64 0)))), .none⟩, ⟨(.some 10), (.mv (.t 9)), .none⟩, ⟨(.some 11), (.mv (.t 1)), (.some (10, .false))⟩, ⟨(.some 12), (.bin .lss (.t 11) (.c (.sc (.int .i64 0)))), (.some (10, .false))⟩, ⟨(.some 13), (.pick (.t 10) (.c (.sc (.bool .true))) (.t 12)), .none⟩, ⟨(.some 14), (.mv (.t 13)), .none⟩, ⟨(.some 15), (.mv (.t 2)), (.some (14, .false))⟩, ⟨(.some 16), (.bin .lss (.t 15) (.c (.sc (.int .i64 1)))), (.some (14, .false))⟩, ⟨(.some 17), (.pick (.t 14) (.c (.sc (.bool .true))) (.t 16)), .none⟩]) (.cond (.t 17) (.seq (.ops [⟨(.some 6), (.mv (.c (.sc (.int .i64 0)))), .none⟩]) .ret) .skip)) (.seq (.ops [⟨(.some 18), (.mv (.t 0)), .none⟩, ⟨(.some 19), (.mv (.t 1)), .none⟩, ⟨(.some 20), (.mv (.t 0)), .none⟩, ⟨(.some 21), (.len .none (.t 20)), .none⟩, ⟨(.some 22), (.bin .rem (.t 19) (.t 21)), .none⟩, ⟨(.some 23), (.iadr .none 1 (.t 18) (.t 22)), .none⟩, ⟨(.some 24), (.load .false 1 (.t 23)), .none⟩, ⟨(.some 25), (.bin .and (.t 24) (.c (.sc (.int .i64 1073741823)))), .none⟩, ⟨(.some 26), (.mv (.t 2)), .none⟩, ⟨(.some 27), (.bin .rem (.t 25) (.t 26)), .none⟩, ⟨(.some 6), (.mv (.t 27)), .none⟩]) .ret)))
theorem t_banks_nth : trF Try.prog qq 40 = some (28, [(.tmp 6)], c_banks_nth) := by kernel_rfl
def c_banks_Move_l1 : AC := (.seq (.ops [⟨(.some 30), (.bin .lss (.t 29) (.t 28)), .none⟩]) (.seq (.cond (.t 30) .skip (.exit 0)) (.seq (.block 1 (.seq (.ops [⟨(.some 31), (.mv (.t 29)), .none⟩, ⟨(.some 6), (.mv (.t 31)), .none⟩]) (.ops [⟨(.some 32), (.load .true 12 (.t 3)), .none⟩, ⟨(.some 33), (.load .true 2 (.t 4)), .none⟩, ⟨(.some 34), (.mv (.t 2)), .none⟩, ⟨(.some 35), (.mv (.t 6)), .none⟩, ⟨(.some 36), (.call 60 [(.t 32), (.t 33), (.t 34), (.t 35)]), .none⟩]))) (.ops [⟨(.some 37), (.bin .add (.t 29) (.c (.sc (.int .i64 1)))), .none⟩, ⟨(.some 29), (.mv (.t 37)), .none⟩]))))
def c_banks_Move : AC := (.seq (.ops [⟨(.some 3), (.box (.t 0)), .none⟩, ⟨(.some 4), (.box (.t 1)), .none⟩]) (.seq (.seq (.ops [⟨(.some 7), (.fadr 6 6 1 (.t 3)), .none⟩, ⟨(.some 8), (.load .false 1 (.t 7)), .none⟩, ⟨(.some 9), (.bin .lss (.t 8) (.c (.sc (.int .i64 1)))), .none⟩, ⟨(.some 10), (.mv (.t 9)), .none⟩, ⟨(.some 11), (.fadr 6 6 1 (.t 3)), (.some (10, .false))⟩, ⟨(.some 12), (.load .false 1 (.t 11)), (.some (10, .false))⟩, ⟨(.some 13), (.bin .gtr (.t 12) (.c (.sc (.int .i64 16)))), (.some (10, .false))⟩, ⟨(.some 14), (.pick (.t 10) (.c (.sc (.bool .true))) (.t 13)), .none⟩, ⟨(.some 15), (.mv (.t 14)), .none⟩, ⟨(.some 16), (.fadr 9 9 1 (.t 3)), (.some (15, .false))⟩, ⟨(.some 17), (.load .false 1 (.t 16)), (.some (15, .false))⟩, ⟨(.some 18), (.bin .lss (.t 17) (.c (.sc (.int .i64 1)))), (.some (15, .false))⟩, ⟨(.some 19), (.pick (.t 15) (.c (.sc (.bool .true))) (.t 18)), .none⟩, ⟨(.some 20), (.mv (.t 19)), .none⟩, ⟨(.some 21), (.fadr 9 9 1 (.t 3)), (.some (20, .false))⟩, ⟨(.some 22), (.load .false 1 (.t 21)), (.some (20, .false))⟩, ⟨(.some 23), (.bin .gtr (.t 22) (.c (.sc (.int .i64 1000)))), (.some (20, .false))⟩, ⟨(.some 24), (.pick (.t 20) (.c (.sc (.bool .true))) (.t 23)), .none⟩]) (.cond (.t 24) .ret .skip)) (.seq (.ops [⟨(.some 25), (.mv (.t 2)), .none⟩, ⟨(.some 26), (.call 59 [(.t 25)]), .none⟩]) (.seq (.ops [⟨(.some 27), (.fadr 6 6 1 (.t 3)), .none⟩, ⟨(.some 28), (.load .false 1 (.t 27)), .none⟩, ⟨(.some 29), (.mv (.c (.sc (.int .i64 0)))), .none⟩]) (.block 0 (.loop c_banks_Move_l1))))))
theorem t_banks_Move : trF Try.prog qq 49 = some (38, [], c_banks_Move) := by kernel_rfl
def c_banks_end_l1 : AC := (.seq (.ops [⟨(.some 11), (.bin .lss (.t 10) (.t 9)), .none⟩]) (.seq (.cond (.t 11) .skip (.exit 0)) (.seq (.block 1 (.seq (.ops [⟨(.some 12), (.iadr .none 8 (.t 8) (.t 10)), .none⟩, ⟨(.some 13), (.load .true 8 (.t 12)), .none⟩, ⟨(.some 4), (.box (.c (.agg 8 [(.sc (.bool .false)), (.sc (.int .i64 0)), (.sc (.int .i64 0)), (.sc (.int .i64 0)), (.sc (.int .u32 0)), (.sc (.int .i64 0)), (.sc (.int .i64 0)), (.sc (.int .i64 0))]))), .none⟩, ⟨.none, (.store 8 (.t 4) (.t 13)), .none⟩]) (.seq (.seq (.ops [⟨(.some 14), (.fadr 5 5 1 (.t 4)), .none⟩, ⟨(.some 15), (.load .false 1 (.t 14)), .none⟩, ⟨(.some 16), (.bin .gtr (.t 15) (.c (.sc (.int .i64 0)))), .none⟩]) (.cond (.t 16) (.seq (.ops [⟨(.some 17), (.fadr 5 5 1 (.t 4)), .none⟩, ⟨(.some 18), (.load .false 1 (.t 17)), .none⟩, ⟨(.some 19), (.bin .sub (.t 18) (.c (.sc (.int .i64 1)))), .none⟩, ⟨(.some 20), (.fadr 5 5 1 (.t 4)), .none⟩, ⟨.none, (.store 1 (.t 20) (.t 19)), .none⟩]) (.seq (.ops [⟨(.some 21), (.fadr 5 5 1 (.t 4)), .none⟩, ⟨(.some 22), (.load .false 1 (.t 21)), .none⟩, ⟨(.some 23), (.bin .eql (.t 22) (.c (.sc (.int .i64 0)))), .none⟩]) (.cond (.t 23) (.seq (.seq (.ops [⟨(.some 24), (.fadr 0 0 1 (.t 4)), .none⟩, ⟨(.some 25), (.load .false 1 (.t 24)), .none⟩]) (.cond (.t 25) (.ops [⟨(.some 26), (.mv (.t 0)), .none⟩, ⟨(.some 27), (.load .true 8 (.t 4)), .none⟩, ⟨(.some 28), (.call 66 [(.t 26), (.t 27)]), .none⟩]) (.ops [⟨(.some 29), (.mv (.t 0)), .none⟩, ⟨(.some 30), (.load .true 8 (.t 4)), .none⟩, ⟨(.some 31), (.call 67 [(.t 29), (.t 30)]), .none⟩]))) (.exit 1)) .skip))) .skip)) (.ops [⟨(.some 32), (.mv (.t 2)), .none⟩, ⟨(.some 33), (.load .true 8 (.t 4)), .none⟩, ⟨(.some 34), (.bsl 8 [(.t 33)]), .none⟩, ⟨(.some 35), (.app 8 64 (.t 32) (.t 34)), .none⟩, ⟨(.some 2), (.mv (.t 35)), .none⟩])))) (.ops [⟨(.some 36), (.bin .add (.t 10) (.c (.sc (.int .i64 1)))), .none⟩, ⟨(.some 10), (.mv (.t 36)), .none⟩]))))
def c_banks_end_p1 : AC := (.ops [⟨(.some 37), (.mv (.t 0)), .none⟩, ⟨(.some 38), (.mv (.t 2)), .none⟩, ⟨(.some 39), (.nilck (.t 37)), .none⟩, ⟨(.some 40), (.fadr 9 83 1 (.t 39)), .none⟩, ⟨.none, (.store 1 (.t 40) (.t 38)), .none⟩])
def c_banks_end : AC := (.seq (.ops [⟨(.some 2), (.mv (.c (.fro .true 0 []))), .none⟩]) (.seq (.seq (.ops [⟨(.some 5), (.mv (.t 0)), .none⟩, ⟨(.some 6), (.nilck (.t 5)), .none⟩, ⟨(.some 7), (.fadr 9 83 1 (.t 6)), .none⟩, ⟨(.some 8), (.load .false 1 (.t 7)), .none⟩, ⟨(.some 9), (.len .none (.t 8)), .none⟩, ⟨(.some 10), (.mv (.c (.sc (.int .i64 0)))), .none⟩]) (.block 0 (.loop c_banks_end_l1))) c_banks_end_p1))
theorem t_banks_end : trF Try.prog qq 59 = some (41, [], c_banks_end) := by kernel_rfl
def c_banks_begin_l1 : AC := (.seq (.ops [⟨(.some 18), (.bin .lss (.t 17) (.t 16)), .none⟩]) (.seq (.cond (.t 18) .skip (.exit 0)) (.seq (.block 1 (.seq (.ops [⟨(.some 19), (.mv (.t 17)), .none⟩, ⟨(.some 20), (.iadr .none 8 (.t 15) (.t 17)), .none⟩, ⟨(.some 21), (.load .true 8 (.t 20)), .none⟩, ⟨(.some 10), (.box (.c (.agg 8 [(.sc (.bool .false)), (.sc (.int .i64 0)), (.sc (.int .i64 0)), (.sc (.int .i64 0)), (.sc (.int .u32 0)), (.sc (.int .i64 0)), (.sc (.int .i64 0)), (.sc (.int .i64 0))]))), .none⟩, ⟨(.some 9), (.mv (.t 19)), .none⟩, ⟨.none, (.store 8 (.t 10) (.t 21)), .none⟩]) (.seq (.seq (.ops [⟨(.some 22), (.fadr 2 2 1 (.t 10)), .none⟩, ⟨(.some 23), (.load .false 1 (.t 22)), .none⟩, ⟨(.some 24), (.fadr 6 6 1 (.t 4)), .none⟩, ⟨(.some 25), (.load .false 1 (.t 24)), .none⟩, ⟨(.some 26), (.call 22 [(.t 23), (.t 25)]), .none⟩, ⟨(.some 27), (.mv (.t 3)), .none⟩, ⟨(.some 28), (.bin .neq (.t 26) (.t 27)), .none⟩]) (.cond (.t 28) (.exit 1) .skip)) (.seq (.seq (.ops [⟨(.some 29), (.fadr 5 5 1 (.t 10)), .none⟩, ⟨(.some 30), (.load .false 1 (.t 29)), .none⟩, ⟨(.some 31), (.bin .gtr (.t 30) (.c (.sc (.int .i64 0)))), .none⟩]) (.cond (.t 31) .ret .skip)) (.seq (.ops [⟨(.some 32), (.fadr 5 5 1 (.t 10)), .none⟩, ⟨(.some 33), (.load .false 1 (.t 32)), .none⟩, ⟨(.some 34), (.bin .eql (.t 33) (.c (.sc (.int .i64 0)))), .none⟩]) (.cond (.t 34) (.ops [⟨(.some 35), (.mv (.t 8)), .none⟩, ⟨(.some 36), (.mv (.t 9)), .none⟩, ⟨(.some 37), (.bsl 1 [(.t 36)]), .none⟩, ⟨(.some 38), (.app 1 8 (.t 35) (.t 37)), .none⟩, ⟨(.some 8), (.mv (.t 38)), .none⟩]) .skip)))))) (.ops [⟨(.some 39), (.bin .add (.t 17) (.c (.sc (.int .i64 1)))), .none⟩, ⟨(.some 17), (.mv (.t 39)), .none⟩]))))
def c_banks_begin_p1 : AC := (.seq (.ops [⟨(.some 11), (.mv (.c (.sc (.int .i64 0)))), .none⟩]) (.seq (.block 2 (.seq (.ops [⟨(.some 41), (.mv (.t 8)), .none⟩, ⟨(.some 42), (.len .none (.t 41)), .none⟩, ⟨(.some 43), (.bin .eql (.t 42) (.c (.sc (.int .i64 0)))), .none⟩, ⟨(.some 40), (.mv (.t 43)), .none⟩]) (.cond (.t 40) .ret (.seq (.ops [⟨(.some 45), (.mv (.t 8)), .none⟩, ⟨(.some 46), (.len .none (.t 45)), .none⟩, ⟨(.some 47), (.bin .gtr (.t 46) (.c (.sc (.int .i64 1)))), .none⟩, ⟨(.some 44), (.mv (.t 47)), .none⟩]) (.cond (.t 44) (.seq (.ops [⟨(.some 48), (.load .true 2 (.t 5)), .none⟩, ⟨(.some 49), (.mv (.t 2)), .none⟩, ⟨(.some 50), (.nilck (.t 49)), .none⟩, ⟨(.some 51), (.fadr 14 90 1 (.t 50)), .none⟩, ⟨(.some 52), (.load .false 1 (.t 51)), .none⟩, ⟨(.some 53), (.mv (.t 8)), .none⟩, ⟨(.some 54), (.len .none (.t 53)), .none⟩, ⟨(.some 55), (.call 26 [(.t 48), (.t 52), (.t 54)]), .none⟩, ⟨(.some 11), (.mv (.t 55)), .none⟩]) (.ops [⟨(.some 56), (.mv (.t 2)), .none⟩, ⟨(.some 57), (.nilck (.t 56)), .none⟩, ⟨(.some 58), (.fadr 14 90 1 (.t 57)), .none⟩, ⟨(.some 59), (.load .false 1 (.t 58)), .none⟩, ⟨(.some 60), (.bin .add (.t 59) (.c (.sc (.int .i64 1)))), .none⟩, ⟨(.some 61), (.nilck (.t 56)), .none⟩, ⟨(.some 62), (.fadr 14 90 1 (.t 61)), .none⟩, ⟨.none, (.store 1 (.t 62) (.t 60)), .none⟩])) .skip))))) (.seq (.ops [⟨(.some 63), (.mv (.t 2)), .none⟩, ⟨(.some 64), (.nilck (.t 63)), .none⟩, ⟨(.some 65), (.fadr 9 83 1 (.t 64)), .none⟩, ⟨(.some 66), (.load .false 1 (.t 65)), .none⟩, ⟨(.some 67), (.mv (.t 8)), .none⟩, ⟨(.some 68), (.mv (.t 11)), .none⟩, ⟨(.some 69), (.iadr .none 1 (.t 67) (.t 68)), .none⟩, ⟨(.some 70), (.load .false 1 (.t 69)), .none⟩, ⟨(.some 71), (.load .true 2 (.t 5)), .none⟩, ⟨(.some 72), (.mv (.t 2)), .none⟩, ⟨(.some 73), (.nilck (.t 72)), .none⟩, ⟨(.some 74), (.fadr 13 89 1 (.t 73)), .none⟩, ⟨(.some 75), (.load .false 1 (.t 74)), .none⟩, ⟨(.some 76), (.fadr 9 9 1 (.t 4)), .none⟩, ⟨(.some 77), (.load .false 1 (.t 76)), .none⟩, ⟨(.some 78), (.call 24 [(.t 71), (.t 75), (.t 77)]), .none⟩, ⟨(.some 79), (.iadr .none 8 (.t 66) (.t 70)), .none⟩, ⟨(.some 80), (.fadr 5 5 1 (.t 79)), .none⟩, ⟨.none, (.store 1 (.t 80) (.t 78)), .none⟩]) (.ops [⟨(.some 81), (.mv (.t 2)), .none⟩, ⟨(.some 82), (.nilck (.t 81)), .none⟩, ⟨(.some 83), (.fadr 13 89 1 (.t 82)), .none⟩, ⟨(.some 84), (.load .false 1 (.t 83)), .none⟩, ⟨(.some 85), (.bin .add (.t 84) (.c (.sc (.int .i64 1)))), .none⟩, ⟨(.some 86), (.nilck (.t 81)), .none⟩, ⟨(.some 87), (.fadr 13 89 1 (.t 86)), .none⟩, ⟨.none, (.store 1 (.t 87) (.t 85)), .none⟩]))))
def c_banks_begin : AC := (.seq (.ops [⟨(.some 4), (.box (.t 0)), .none⟩, ⟨(.some 5), (.box (.t 1)), .none⟩]) (.seq (.ops [⟨(.some 8), (.mv (.c (.fro .true 0 []))), .none⟩]) (.seq (.seq (.ops [⟨(.some 12), (.mv (.t 2)), .none⟩, ⟨(.some 13), (.nilck (.t 12)), .none⟩, ⟨(.some 14), (.fadr 9 83 1 (.t 13)), .none⟩, ⟨(.some 15), (.load .false 1 (.t 14)), .none⟩, ⟨(.some 16), (.len .none (.t 15)), .none⟩, ⟨(.some 17), (.mv (.c (.sc (.int .i64 0)))), .none⟩]) (.block 0 (.loop c_banks_begin_l1))) c_banks_begin_p1)))
theorem t_banks_begin : trF Try.prog qq 60 = some (88, [], c_banks_begin) := by kernel_rfl
def c_banks_store : AC := (.seq (.ops [⟨(.some 3), (.box (.t 1)), .none⟩]) (.seq (.ops [⟨(.some 5), (.fadr 2 2 1 (.t 3)), .none⟩, ⟨(.some 6), (.load .false 1 (.t 5)), .none⟩, ⟨(.some 7), (.fadr 3 3 1 (.t 3)), .none⟩, ⟨(.some 8), (.load .false 1 (.t 7)), .none⟩, ⟨(.some 9), (.fadr 4 4 1 (.t 3)), .none⟩, ⟨(.some 10), (.load .false 1 (.t 9)), .none⟩, ⟨(.some 11), (.build 3 [(.sc (.int .i64 0)), (.sc (.int .i64 0)), (.sc (.int .u32 0))] [(0, (.t 6)), (1, (.t 8)), (2, (.t 10))]), .none⟩, ⟨(.some 4), (.box (.c (.agg 3 [(.sc (.int .i64 0)), (.sc (.int .i64 0)), (.sc (.int .u32 0))]))), .none⟩, ⟨.none, (.store 3 (.t 4) (.t 11)), .none⟩]) (.seq (.ops [⟨(.some 12), (.mv (.t 0)), .none⟩, ⟨(.some 13), (.nilck (.t 12)), .none⟩, ⟨(.some 14), (.fadr 10 84 1 (.t 13)), .none⟩, ⟨(.some 15), (.load .false 1 (.t 14)), .none⟩, ⟨(.some 16), (.load .true 3 (.t 4)), .none⟩, ⟨(.some 17), (.call 68 [(.t 15), (.t 16)]), .none⟩]) (.seq (.ops [⟨(.some 18), (.mv (.t 0)), .none⟩, ⟨(.some 19), (.mv (.t 0)), .none⟩, ⟨(.some 20), (.nilck (.t 19)), .none⟩, ⟨(.some 21), (.fadr 11 85 1 (.t 20)), .none⟩, ⟨(.some 22), (.load .false 1 (.t 21)), .none⟩, ⟨(.some 23), (.load .true 3 (.t 4)), .none⟩, ⟨(.some 24), (.bsl 3 [(.t 23)]), .none⟩, ⟨(.some 25), (.app 3 24 (.t 22) (.t 24)), .none⟩, ⟨(.some 26), (.nilck (.t 18)), .none⟩, ⟨(.some 27), (.fadr 11 85 1 (.t 26)), .none⟩, ⟨.none, (.store 1 (.t 27) (.t 25)), .none⟩]) (.seq (.ops [⟨(.some 28), (.mv (.t 0)), .none⟩, ⟨(.some 29), (.nilck (.t 28)), .none⟩, ⟨(.some 30), (.fadr 8 82 1 (.t 29)), .none⟩, ⟨(.some 31), (.load .false 1 (.t 30)), .none⟩, ⟨(.some 32), (.len .none (.t 31)), .none⟩, ⟨(.some 33), (.bin .gtr (.t 32) (.c (.sc (.int .i64 0)))), .none⟩]) (.cond (.t 33) (.ops [⟨(.some 34), (.mv (.t 0)), .none⟩, ⟨(.some 35), (.mv (.t 0)), .none⟩, ⟨(.some 36), (.nilck (.t 35)), .none⟩, ⟨(.some 37), (.fadr 8 82 1 (.t 36)), .none⟩, ⟨(.some 38), (.load .false 1 (.t 37)), .none⟩, ⟨(.some 39), (.slice 5 (.t 38) (.some (.c (.sc (.int .i64 1)))) .none), .none⟩, ⟨(.some 40), (.nilck (.t 34)), .none⟩, ⟨(.some 41), (.fadr 8 82 1 (.t 40)), .none⟩, ⟨.none, (.store 1 (.t 41) (.t 39)), .none⟩]) .skip))))))
theorem t_banks_store : trF Try.prog qq 66 = some (42, [], c_banks_store) := by kernel_rfl
def c_banks_load : AC := (.seq (.ops [⟨(.some 3), (.box (.t 1)), .none⟩]) (.seq (.ops [⟨(.some 4), (.mv (.c (.sc (.int .u32 0)))), .none⟩]) (.seq (.seq (.ops [⟨(.some 5), (.fadr 2 2 1 (.t 3)), .none⟩, ⟨(.some 6), (.load .false 1 (.t 5)), .none⟩, ⟨(.some 7), (.bin .geq (.t 6) (.c (.sc (.int .i64 0)))), .none⟩, ⟨(.some 8), (.mv (.t 7)), .none⟩, ⟨(.some 9), (.fadr 2 2 1 (.t 3)), (.some (8, .true))⟩, ⟨(.some 10), (.load .false 1 (.t 9)), (.some (8, .true))⟩, ⟨(.some 11), (.bin .leq (.t 10) (.c (.sc (.int .i64 4294967295)))), (.some (8, .true))⟩, ⟨(.some 12), (.pick (.t 8) (.t 11) (.c (.sc (.bool .false)))), .none⟩]) (.cond (.t 12) (.ops [⟨(.some 13), (.mv (.t 0)), .none⟩, ⟨(.some 14), (.nilck (.t 13)), .none⟩, ⟨(.some 15), (.fadr 10 84 1 (.t 14)), .none⟩, ⟨(.some 16), (.load .false 1 (.t 15)), .none⟩, ⟨(.some 17), (.fadr 1 1 1 (.t 3)), .none⟩, ⟨(.some 18), (.load .false 1 (.t 17)), .none⟩, ⟨(.some 19), (.fadr 2 2 1 (.t 3)), .none⟩, ⟨(.some 20), (.load .false 1 (.t 19)), .none⟩, ⟨(.some 21), (.conv .u32 (.t 20)), .none⟩, ⟨(.some 22), (.call 69 [(.t 16), (.t 18), (.t 21)]), .none⟩, ⟨(.some 4), (.mv (.t 22)), .none⟩]) .skip)) (.block 0 (.seq (.ops [⟨(.some 24), (.fadr 6 6 1 (.t 3)), .none⟩, ⟨(.some 25), (.load .false 1 (.t 24)), .none⟩, ⟨(.some 26), (.bin .lss (.t 25) (.c (.sc (.int .i64 0)))), .none⟩, ⟨(.some 23), (.mv (.t 26)), .none⟩]) (.cond (.t 23) (.ops [⟨(.some 28), (.mv (.t 0)), .none⟩, ⟨(.some 29), (.mv (.t 0)), .none⟩, ⟨(.some 30), (.nilck (.t 29)), .none⟩, ⟨(.some 31), (.fadr 3 77 1 (.t 30)), .none⟩, ⟨(.some 32), (.load .false 1 (.t 31)), .none⟩, ⟨(.some 33), (.fadr 7 7 1 (.t 3)), .none⟩, ⟨(.some 34), (.load .false 1 (.t 33)), .none⟩, ⟨(.some 35), (.mv (.t 4)), .none⟩, ⟨(.some 36), (.call 70 [(.t 32), (.t 34), (.t 35)]), .none⟩, ⟨(.some 27), (.mv (.t 36)), .none⟩, ⟨(.some 37), (.ext (.t 27) 0), .none⟩, ⟨(.some 38), (.ext (.t 27) 1), .none⟩, ⟨(.some 39), (.nilck (.t 28)), .none⟩, ⟨(.some 40), (.fadr 3 77 1 (.t 39)), .none⟩, ⟨.none, (.store 1 (.t 40) (.t 37)), .none⟩]) (.seq (.ops [⟨(.some 42), (.fadr 6 6 1 (.t 3)), .none⟩, ⟨(.some 43), (.load .false 1 (.t 42)), .none⟩, ⟨(.some 44), (.bin .geq (.t 43) (.c (.sc (.int .i64 1)))), .none⟩, ⟨(.some 45), (.mv (.t 44)), .none⟩, ⟨(.some 46), (.fadr 6 6 1 (.t 3)), (.some (45, .true))⟩, ⟨(.some 47), (.load .false 1 (.t 46)), (.some (45, .true))⟩, ⟨(.some 48), (.bin .leq (.t 47) (.c (.sc (.int .i64 15)))), (.some (45, .true))⟩, ⟨(.some 49), (.pick (.t 45) (.t 48) (.c (.sc (.bool .false)))), .none⟩, ⟨(.some 41), (.mv (.t 49)), .none⟩]) (.cond (.t 41) (.opsD [⟨(.some 50), (.mv (.t 0)), .none⟩, ⟨(.some 51), (.fadr 6 6 1 (.t 3)), .none⟩, ⟨(.some 52), (.load .false 1 (.t 51)), .none⟩, ⟨(.some 53), (.mv (.t 0)), .none⟩, ⟨(.some 54), (.fadr 6 6 1 (.t 3)), .none⟩, ⟨(.some 55), (.load .false 1 (.t 54)), .none⟩, ⟨(.some 56), (.mv (.t 4)), .none⟩, ⟨(.some 57), (.mv (.t 0)), .none⟩, ⟨(.some 58), (.nilck (.t 57)), .none⟩, ⟨(.some 59), (.fadr 0 0 1 (.t 58)), .none⟩, ⟨(.some 60), (.load .false 1 (.t 59)), .none⟩, ⟨(.some 61), (.bin .add (.t 60) (.c (.sc (.int .i64 1)))), .none⟩, ⟨(.some 62), (.nilck (.t 50)), .none⟩, ⟨(.some 63), (.fadr 1 1 38 (.t 62)), .none⟩, ⟨(.some 64), (.fadr 0 0 16 (.t 63)), .none⟩, ⟨(.some 65), (.iadr (.some 16) 1 (.t 64) (.t 52)), .none⟩, ⟨.none, (.store 1 (.t 65) (.t 56)), .none⟩, ⟨(.some 66), (.nilck (.t 53)), .none⟩, ⟨(.some 67), (.fadr 1 1 38 (.t 66)), .none⟩, ⟨(.some 68), (.fadr 1 16 16 (.t 67)), .none⟩, ⟨(.some 69), (.iadr (.some 16) 1 (.t 68) (.t 55)), .none⟩, ⟨.none, (.store 1 (.t 69) (.t 61)), .none⟩] [(54, 65)]) .skip))))))))
theorem t_banks_load : trF Try.prog qq 67 = some (70, [], c_banks_load) := by kernel_rfl
/-- The functions of banks. -/
def cl_banks : CodeL := [(22, 15, [(.tmp 4)], c_banks_Bank), (24, 13, [(.tmp 6)], c_banks_Lat), (26, 12, [(.tmp 6)], c_banks_Pick), (28, 47, [(.cell 6 .true 92)], c_banks_Advance), (40, 28, [(.tmp 6)], c_banks_nth), (49, 38, [], c_banks_Move), (59, 41, [], c_banks_end), (60, 88, [], c_banks_begin), (66, 42, [], c_banks_store), (67, 70, [], c_banks_load)]
theorem clok_banks : AllL (fun p => trF Try.prog qq p.1 = some p.2) cl_banks := ⟨t_banks_Bank, t_banks_Lat, t_banks_Pick, t_banks_Advance, t_banks_nth, t_banks_Move, t_banks_end, t_banks_begin, t_banks_store, t_banks_load, trivial⟩
end Go.Proofs.Ytbemlndjdbopeaa

/- Abstract code of the functions of commit: printed by a program from what the given translation yields. -/
namespace Go.Proofs.Ytbemlndjdbopeaa
open Go.Ra
def c_commit_Can : AC := (.seq (.ops [⟨(.some 2), (.box (.t 0)), .none⟩, ⟨(.some 3), (.box (.t 1)), .none⟩, ⟨(.some 4), (.mv (.c (.sc (.bool .false)))), .none⟩]) (.seq (.ops [⟨(.some 5), (.load .true 12 (.t 2)), .none⟩, ⟨(.some 6), (.call 33 [(.t 5), (.t 3)]), .none⟩, ⟨(.some 4), (.mv (.t 6)), .none⟩]) .ret))
theorem t_commit_Can : trF Try.prog qq 14 = some (7, [(.tmp 4)], c_commit_Can) := by kernel_rfl
def c_commit_Send : AC := (.seq (.ops [⟨(.some 2), (.box (.t 0)), .none⟩, ⟨(.some 3), (.box (.t 1)), .none⟩, ⟨(.some 4), (.box (.c (.agg 92 [(.sc (.int .i64 0)), (.agg 38 [(.arr 16 1 [(.sc (.int .u32 0)), (.sc (.int .u32 0)), (.sc (.int .u32 0)), (.sc (.int .u32 0)), (.sc (.int .u32 0)), (.sc (.int .u32 0)), (.sc (.int .u32 0)), (.sc (.int .u32 0)), (.sc (.int .u32 0)), (.sc (.int .u32 0)), (.sc (.int .u32 0)), (.sc (.int .u32 0)), (.sc (.int .u32 0)), (.sc (.int .u32 0)), (.sc (.int .u32 0)), (.sc (.int .u32 0))]), (.arr 16 1 [(.sc (.int .i64 0)), (.sc (.int .i64 0)), (.sc (.int .i64 0)), (.sc (.int .i64 0)), (.sc (.int .i64 0)), (.sc (.int .i64 0)), (.sc (.int .i64 0)), (.sc (.int .i64 0)), (.sc (.int .i64 0)), (.sc (.int .i64 0)), (.sc (.int .i64 0)), (.sc (.int .i64 0)), (.sc (.int .i64 0)), (.sc (.int .i64 0)), (.sc (.int .i64 0)), (.sc (.int .i64 0))]), (.agg 3 [(.sc (.int .i64 0)), (.sc (.int .i64 0)), (.sc (.int .i64 0))]), (.sc (.int .i64 0)), (.sc (.bool .false)), (.sc (.int .i64 0))]), (.agg 38 [(.arr 16 1 [(.sc (.int .u32 0)), (.sc (.int .u32 0)), (.sc (.int .u32 0)), (.sc (.int .u32 0)), (.sc (.int .u32 0)), (.sc (.int .u32 0)), (.sc (.int .u32 0)), (.sc (.int .u32 0)), (.sc (.int .u32 0)), (.sc (.int .u32 0)), (.sc (.int .u32 0)), (.sc (.int .u32 0)), (.sc (.int .u32 0)), (.sc (.int .u32 0)), (.sc (.int .u32 0)), (.sc (.int .u32 0))]), (.arr 16 1 [(.sc (.int .i64 0)), (.sc (.int .i64 0)), (.sc (.int .i64 0)), (.sc (.int .i64 0)), (.sc (.int .i64 0)), (.sc (.int .i64 0)), (.sc (.int .i64 0)), (.sc (.int .i64 0)), (.sc (.int .i64 0)), (.sc (.int .i64 0)), (.sc (.int .i64 0)), (.sc (.int .i64 0)), (.sc (.int .i64 0)), (.sc (.int .i64 0)), (.sc (.int .i64 0)), (.sc (.int .i64 0))]), (.agg 3 [(.sc (.int .i64 0)), (.sc (.int .i64 0)), (.sc (.int .i64 0))]), (.sc (.int .i64 0)), (.sc (.bool .false)), (.sc (.int .i64 0))]), (.fro .true 0 []), (.fro .true 0 []), (.fro .true 0 []), (.fro .true 0 []), (.fro .true 0 []), (.fro .true 0 []), (.fro .true 0 []), (.fro .true 0 []), (.fro .true 0 []), (.agg 3 [(.sc (.int .i64 0)), (.sc (.int .i64 0)), (.sc (.int .i64 0))]), (.sc (.int .i64 0)), (.sc (.int .i64 0)), (.sc (.int .i64 0))]))), .none⟩]) (.seq (.ops [⟨(.some 5), (.load .true 92 (.t 3)), .none⟩, ⟨(.some 6), (.call 37 [(.t 5)]), .none⟩, ⟨.none, (.store 92 (.t 3) (.t 6)), .none⟩]) (.seq (.ops [⟨(.some 7), (.load .true 12 (.t 2)), .none⟩, ⟨(.some 8), (.call 38 [(.t 7), (.t 3)]), .none⟩]) (.seq (.ops [⟨(.some 9), (.load .true 92 (.t 3)), .none⟩, ⟨.none, (.store 92 (.t 4) (.t 9)), .none⟩]) .ret))))
theorem t_commit_Send : trF Try.prog qq 17 = some (10, [(.cell 4 .true 92)], c_commit_Send) := by kernel_rfl
def c_commit_can : AC := (.seq (.ops [⟨(.some 2), (.box (.t 0)), .none⟩, ⟨(.some 4), (.mv (.c (.sc (.bool .false)))), .none⟩]) (.seq (.seq (.ops [⟨(.some 6), (.mv (.t 1)), .none⟩, ⟨(.some 7), (.nilck (.t 6)), .none⟩, ⟨(.some 8), (.fadr 8 82 1 (.t 7)), .none⟩, ⟨(.some 9), (.load .false 1 (.t 8)), .none⟩, ⟨(.some 10), (.len .none (.t 9)), .none⟩, ⟨(.some 11), (.bin .eql (.t 10) (.c (.sc (.int .i64 0)))), .none⟩, ⟨(.some 12), (.mv (.t 11)), .none⟩, ⟨(.some 13), (.mv (.t 1)), (.some (12, .false))⟩, ⟨(.some 14), (.nilck (.t 13)), (.some (12, .false))⟩, ⟨(.some 15), (.fadr 8 82 1 (.t 14)), (.some (12, .false))⟩, ⟨(.some 16), (.load .false 1 (.t 15)), (.some (12, .false))⟩, ⟨(.some 17), (.iadr .none 5 (.t 16) (.c (.sc (.int .i64 0)))), (.some (12, .false))⟩, ⟨(.some 18), (.fadr 3 3 1 (.t 17)), (.some (12, .false))⟩, ⟨(.some 19), (.load .false 1 (.t 18)), (.some (12, .false))⟩, ⟨(.some 20), (.pick (.t 12) (.c (.sc (.bool .true))) (.t 19)), .none⟩, ⟨(.some 21), (.mv (.t 20)), .none⟩, ⟨(.some 22), (.mv (.t 1)), (.some (21, .false))⟩, ⟨(.some 23), (.nilck (.t 22)), (.some (21, .false))⟩, ⟨(.some 24), (.fadr 4 78 1 (.t 23)), (.some (21, .false))⟩, ⟨(.some 25), (.load .false 1 (.t 24)), (.some (21, .false))⟩, ⟨(.some 26), (.len .none (.t 25)), (.some (21, .false))⟩, ⟨(.some 27), (.bin .eql (.t 26) (.c (.sc (.int .i64 0)))), (.some (21, .false))⟩, ⟨(.some 28), (.pick (.t 21) (.c (.sc (.bool .true))) (.t 27)), .none⟩, ⟨(.some 29), (.mv (.t 28)), .none⟩, ⟨(.some 30), (.mv (.t 1)), (.some (29, .false))⟩, ⟨(.some 31), (.nilck (.t 30)), (.some (29, .false))⟩, ⟨(.some 32), (.fadr 9 83 1 (.t 31)), (.some (29, .false))⟩, ⟨(.some 33), (.load .false 1 (.t 32)), (.some (29, .false))⟩, ⟨(.some 34), (.len .none (.t 33)), (.some (29, .false))⟩, ⟨(.some 35), (.fadr 7 7 1 (.t 2)), (.some (29, .false))⟩, ⟨(.some 36), (.load .false 1 (.t 35)), (.some (29, .false))⟩, ⟨(.some 37), (.bin .geq (.t 34) (.t 36)), (.some (29, .false))⟩, ⟨(.some 38), (.pick (.t 29) (.c (.sc (.bool .true))) (.t 37)), .none⟩]) (.cond (.t 38) (.seq (.ops [⟨(.some 4), (.mv (.c (.sc (.bool .false)))), .none⟩]) .ret) .skip)) (.seq (.ops [⟨(.some 39), (.mv (.t 1)), .none⟩, ⟨(.some 40), (.nilck (.t 39)), .none⟩, ⟨(.some 41), (.fadr 8 82 1 (.t 40)), .none⟩, ⟨(.some 42), (.load .false 1 (.t 41)), .none⟩, ⟨(.some 43), (.iadr .none 5 (.t 42) (.c (.sc (.int .i64 0)))), .none⟩, ⟨(.some 44), (.load .true 5 (.t 43)), .none⟩, ⟨(.some 5), (.box (.c (.agg 5 [(.sc (.int .i64 0)), (.sc (.int .i64 0)), (.sc (.int .i64 0)), (.sc (.bool .false)), (.sc (.int .u32 0))]))), .none⟩, ⟨.none, (.store 5 (.t 5) (.t 44)), .none⟩]) (.seq (.seq (.ops [⟨(.some 45), (.mv (.t 1)), .none⟩, ⟨(.some 46), (.nilck (.t 45)), .none⟩, ⟨(.some 47), (.fadr 12 86 3 (.t 46)), .none⟩, ⟨(.some 48), (.fadr 0 0 1 (.t 47)), .none⟩, ⟨(.some 49), (.load .false 1 (.t 48)), .none⟩, ⟨(.some 50), (.bin .neq (.t 49) (.c (.sc (.int .i64 0)))), .none⟩, ⟨(.some 51), (.mv (.t 50)), .none⟩, ⟨(.some 52), (.fadr 2 2 1 (.t 5)), (.some (51, .true))⟩, ⟨(.some 53), (.load .false 1 (.t 52)), (.some (51, .true))⟩, ⟨(.some 54), (.mv (.t 1)), (.some (51, .true))⟩, ⟨(.some 55), (.nilck (.t 54)), (.some (51, .true))⟩, ⟨(.some 56), (.fadr 12 86 3 (.t 55)), (.some (51, .true))⟩, ⟨(.some 57), (.fadr 1 1 1 (.t 56)), (.some (51, .true))⟩, ⟨(.some 58), (.load .false 1 (.t 57)), (.some (51, .true))⟩, ⟨(.some 59), (.bin .geq (.t 53) (.t 58)), (.some (51, .true))⟩, ⟨(.some 60), (.pick (.t 51) (.t 59) (.c (.sc (.bool .false)))), .none⟩]) (.cond (.t 60) (.seq (.ops [⟨(.some 4), (.mv (.c (.sc (.bool .false)))), .none⟩]) .ret) .skip)) (.seq (.ops [⟨(.some 61), (.mv (.t 1)), .none⟩, ⟨(.some 62), (.nilck (.t 61)), .none⟩, ⟨(.some 63), (.fadr 9 83 1 (.t 62)), .none⟩, ⟨(.some 64), (.load .false 1 (.t 63)), .none⟩, ⟨(.some 65), (.mkf 55 [(.t 5)]), .none⟩, ⟨(.some 66), (.call 54 [(.t 64), (.t 65)]), .none⟩, ⟨(.some 67), (.un .not (.t 66)), .none⟩, ⟨(.some 4), (.mv (.t 67)), .none⟩]) .ret)))))
theorem t_commit_can : trF Try.prog qq 33 = some (68, [(.tmp 4)], c_commit_can) := by kernel_rfl
def c_commit_Turn : AC := (.seq (.ops [⟨(.some 2), (.box (.t 0)), .none⟩]) (.seq (.seq (.ops [⟨(.some 5), (.load .true 12 (.t 2)), .none⟩, ⟨(.some 6), (.mv (.t 1)), .none⟩, ⟨(.some 7), (.call 33 [(.t 5), (.t 6)]), .none⟩, ⟨(.some 8), (.un .not (.t 7)), .none⟩]) (.cond (.t 8) .ret .skip)) (.seq (.ops [⟨(.some 9), (.mv (.t 1)), .none⟩, ⟨(.some 10), (.nilck (.t 9)), .none⟩, ⟨(.some 11), (.fadr 8 82 1 (.t 10)), .none⟩, ⟨(.some 12), (.load .false 1 (.t 11)), .none⟩, ⟨(.some 13), (.iadr .none 5 (.t 12) (.c (.sc (.int .i64 0)))), .none⟩, ⟨(.some 4), (.mv (.t 13)), .none⟩]) (.seq (.ops [⟨(.some 14), (.mv (.t 4)), .none⟩, ⟨(.some 15), (.mv (.t 4)), .none⟩, ⟨(.some 16), (.mv (.t 1)), .none⟩, ⟨(.some 17), (.nilck (.t 16)), .none⟩, ⟨(.some 18), (.fadr 4 78 1 (.t 17)), .none⟩, ⟨(.some 19), (.load .false 1 (.t 18)), .none⟩, ⟨(.some 20), (.iadr .none 1 (.t 19) (.c (.sc (.int .i64 0)))), .none⟩, ⟨(.some 21), (.load .false 1 (.t 20)), .none⟩, ⟨(.some 22), (.mv (.t 4)), .none⟩, ⟨(.some 23), (.nilck (.t 22)), .none⟩, ⟨(.some 24), (.fadr 1 1 1 (.t 23)), .none⟩, ⟨(.some 25), (.load .false 1 (.t 24)), .none⟩, ⟨(.some 26), (.call 57 [(.t 21), (.t 25)]), .none⟩, ⟨(.some 27), (.nilck (.t 14)), .none⟩, ⟨(.some 28), (.fadr 3 3 1 (.t 27)), .none⟩, ⟨.none, (.store 1 (.t 28) (.c (.sc (.bool .true)))), .none⟩, ⟨(.some 29), (.nilck (.t 15)), .none⟩, ⟨(.some 30), (.fadr 4 4 1 (.t 29)), .none⟩, ⟨.none, (.store 1 (.t 30) (.t 26)), .none⟩]) (.seq (.ops [⟨(.some 31), (.mv (.t 1)), .none⟩, ⟨(.some 32), (.mv (.t 1)), .none⟩, ⟨(.some 33), (.nilck (.t 32)), .none⟩, ⟨(.some 34), (.fadr 4 78 1 (.t 33)), .none⟩, ⟨(.some 35), (.load .false 1 (.t 34)), .none⟩, ⟨(.some 36), (.slice 1 (.t 35) (.some (.c (.sc (.int .i64 1)))) .none), .none⟩, ⟨(.some 37), (.nilck (.t 31)), .none⟩, ⟨(.some 38), (.fadr 4 78 1 (.t 37)), .none⟩, ⟨.none, (.store 1 (.t 38) (.t 36)), .none⟩]) (.ops [⟨(.some 39), (.mv (.t 1)), .none⟩, ⟨(.some 40), (.mv (.t 1)), .none⟩, ⟨(.some 41), (.nilck (.t 40)), .none⟩, ⟨(.some 42), (.fadr 9 83 1 (.t 41)), .none⟩, ⟨(.some 43), (.load .false 1 (.t 42)), .none⟩, ⟨(.some 44), (.mv (.t 4)), .none⟩, ⟨(.some 45), (.nilck (.t 44)), .none⟩, ⟨(.some 46), (.fadr 1 1 1 (.t 45)), .none⟩, ⟨(.some 47), (.load .false 1 (.t 46)), .none⟩, ⟨(.some 48), (.call 58 [(.t 47)]), .none⟩, ⟨(.some 49), (.mv (.t 4)), .none⟩, ⟨(.some 50), (.nilck (.t 49)), .none⟩, ⟨(.some 51), (.fadr 0 0 1 (.t 50)), .none⟩, ⟨(.some 52), (.load .false 1 (.t 51)), .none⟩, ⟨(.some 53), (.mv (.t 4)), .none⟩, ⟨(.some 54), (.nilck (.t 53)), .none⟩, ⟨(.some 55), (.fadr 1 1 1 (.t 54)), .none⟩, ⟨(.some 56), (.load .false 1 (.t 55)), .none⟩, ⟨(.some 57), (.mv (.t 4)), .none⟩, ⟨(.some 58), (.nilck (.t 57)), .none⟩, ⟨(.some 59), (.fadr 4 4 1 (.t 58)), .none⟩, ⟨(.some 60), (.load .false 1 (.t 59)), .none⟩, ⟨(.some 61), (.build 8 [(.sc (.bool .false)), (.sc (.int .i64 0)), (.sc (.int .i64 0)), (.sc (.int .i64 0)), (.sc (.int .u32 0)), (.sc (.int .i64 0)), (.sc (.int .i64 0)), (.sc (.int .i64 0))] [(0, (.c (.sc (.bool .true)))), (1, (.t 48)), (2, (.t 52)), (3, (.t 56)), (4, (.t 60))]), .none⟩, ⟨(.some 62), (.bsl 8 [(.t 61)]), .none⟩, ⟨(.some 63), (.app 8 64 (.t 43) (.t 62)), .none⟩, ⟨(.some 64), (.nilck (.t 39)), .none⟩, ⟨(.some 65), (.fadr 9 83 1 (.t 64)), .none⟩, ⟨.none, (.store 1 (.t 65) (.t 63)), .none⟩]))))))
theorem t_commit_Turn : trF Try.prog qq 38 = some (66, [], c_commit_Turn) := by kernel_rfl
def c_commit_can_1 : AC := (.seq (.ops [⟨(.some 2), (.box (.t 0)), .none⟩, ⟨(.some 3), (.mv (.c (.sc (.bool .false)))), .none⟩]) (.seq (.ops [⟨(.some 4), (.fadr 0 0 1 (.t 2)), .none⟩, ⟨(.some 5), (.load .false 1 (.t 4)), .none⟩, ⟨(.some 6), (.un .not (.t 5)), .none⟩, ⟨(.some 7), (.mv (.t 6)), .none⟩, ⟨(.some 8), (.fadr 2 2 1 (.t 2)), (.some (7, .true))⟩, ⟨(.some 9), (.load .false 1 (.t 8)), (.some (7, .true))⟩, ⟨(.some 10), (.fadr 3 3 1 (.t 2)), (.some (7, .true))⟩, ⟨(.some 11), (.load .false 1 (.t 10)), (.some (7, .true))⟩, ⟨(.some 12), (.fadr 0 0 1 (.t 1)), (.some (7, .true))⟩, ⟨(.some 13), (.load .false 1 (.t 12)), (.some (7, .true))⟩, ⟨(.some 14), (.fadr 1 1 1 (.t 1)), (.some (7, .true))⟩, ⟨(.some 15), (.load .false 1 (.t 14)), (.some (7, .true))⟩, ⟨(.some 16), (.call 56 [(.t 9), (.t 11), (.t 13), (.t 15)]), (.some (7, .true))⟩, ⟨(.some 17), (.pick (.t 7) (.t 16) (.c (.sc (.bool .false)))), .none⟩, ⟨(.some 3), (.mv (.t 17)), .none⟩]) .ret))
theorem t_commit_can_1 : trF Try.prog qq 55 = some (18, [(.tmp 3)], c_commit_can_1) := by kernel_rfl
def c_commit_op : AC := (.seq (.ops [⟨(.some 2), (.mv (.c (.sc (.int .i64 0)))), .none⟩]) (.seq (.seq (.ops [⟨(.some 3), (.mv (.t 0)), .none⟩]) (.block 0 (.seq (.ops [⟨(.some 5), (.bin .eql (.t 3) (.c (.sc (.int .i64 1)))), .none⟩, ⟨(.some 4), (.mv (.t 5)), .none⟩]) (.cond (.t 4) (.seq (.ops [⟨(.some 2), (.mv (.c (.sc (.int .i64 33)))), .none⟩]) .ret) (.seq (.ops [⟨(.some 7), (.bin .eql (.t 3) (.c (.sc (.int .i64 2)))), .none⟩, ⟨(.some 6), (.mv (.t 7)), .none⟩]) (.cond (.t 6) (.seq (.ops [⟨(.some 2), (.mv (.c (.sc (.int .i64 32)))), .none⟩]) .ret) .skip)))))) (.seq (.ops [⟨(.some 2), (.mv (.c (.sc (.int .i64 31)))), .none⟩]) .ret)))
theorem t_commit_op : trF Try.prog qq 58 = some (8, [(.tmp 2)], c_commit_op) := by kernel_rfl
/-- The functions of commit. -/
def cl_commit : CodeL := [(14, 7, [(.tmp 4)], c_commit_Can), (17, 10, [(.cell 4 .true 92)], c_commit_Send), (33, 68, [(.tmp 4)], c_commit_can), (38, 66, [], c_commit_Turn), (55, 18, [(.tmp 3)], c_commit_can_1), (58, 8, [(.tmp 2)], c_commit_op)]
theorem clok_commit : AllL (fun p => trF Try.prog qq p.1 = some p.2) cl_commit := ⟨t_commit_Can, t_commit_Send, t_commit_can, t_commit_Turn, t_commit_can_1, t_commit_op, trivial⟩
end Go.Proofs.Ytbemlndjdbopeaa

/- Abstract code of the functions of ref15: printed by a program from what the given translation yields. -/
namespace Go.Proofs.Ytbemlndjdbopeaa
open Go.Ra
def c_ref15_SameState_l1 : AC := (.seq (.seq (.ops [⟨(.some 101), (.mv (.t 5)), .none⟩, ⟨(.some 102), (.fadr 3 77 1 (.t 2)), .none⟩, ⟨(.some 103), (.load .false 1 (.t 102)), .none⟩, ⟨(.some 104), (.len .none (.t 103)), .none⟩, ⟨(.some 105), (.bin .lss (.t 101) (.t 104)), .none⟩]) (.cond (.t 105) .skip (.exit 0))) (.seq (.block 1 (.seq (.ops [⟨(.some 108), (.fadr 3 77 1 (.t 2)), .none⟩, ⟨(.some 109), (.load .false 1 (.t 108)), .none⟩, ⟨(.some 110), (.mv (.t 5)), .none⟩, ⟨(.some 111), (.iadr .none 3 (.t 109) (.t 110)), .none⟩, ⟨(.some 112), (.load .true 3 (.t 111)), .none⟩, ⟨(.some 113), (.fadr 3 77 1 (.t 3)), .none⟩, ⟨(.some 114), (.load .false 1 (.t 113)), .none⟩, ⟨(.some 115), (.mv (.t 5)), .none⟩, ⟨(.some 116), (.iadr .none 3 (.t 114) (.t 115)), .none⟩, ⟨(.some 117), (.load .true 3 (.t 116)), .none⟩, ⟨(.some 118), (.eqs .true (.agg [(1, .int), (1, .bool), (1, .int)]) (.t 112) (.t 117)), .none⟩]) (.cond (.t 118) (.seq (.ops [⟨(.some 4), (.mv (.c (.sc (.bool .false)))), .none⟩]) .ret) .skip))) (.ops [⟨(.some 106), (.mv (.t 5)), .none⟩, ⟨(.some 107), (.bin .add (.t 106) (.c (.sc (.int .i64 1)))), .none⟩, ⟨(.some 5), (.mv (.t 107)), .none⟩])))
def c_ref15_SameState_l2 : AC := (.seq (.seq (.ops [⟨(.some 119), (.mv (.t 6)), .none⟩, ⟨(.some 120), (.fadr 8 82 1 (.t 2)), .none⟩, ⟨(.some 121), (.load .false 1 (.t 120)), .none⟩, ⟨(.some 122), (.len .none (.t 121)), .none⟩, ⟨(.some 123), (.bin .lss (.t 119) (.t 122)), .none⟩]) (.cond (.t 123) .skip (.exit 2))) (.seq (.block 3 (.seq (.ops [⟨(.some 126), (.fadr 8 82 1 (.t 2)), .none⟩, ⟨(.some 127), (.load .false 1 (.t 126)), .none⟩, ⟨(.some 128), (.mv (.t 6)), .none⟩, ⟨(.some 129), (.iadr .none 5 (.t 127) (.t 128)), .none⟩, ⟨(.some 130), (.load .true 5 (.t 129)), .none⟩, ⟨(.some 131), (.fadr 8 82 1 (.t 3)), .none⟩, ⟨(.some 132), (.load .false 1 (.t 131)), .none⟩, ⟨(.some 133), (.mv (.t 6)), .none⟩, ⟨(.some 134), (.iadr .none 5 (.t 132) (.t 133)), .none⟩, ⟨(.some 135), (.load .true 5 (.t 134)), .none⟩, ⟨(.some 136), (.eqs .true (.agg [(1, .int), (1, .int), (1, .int), (1, .bool), (1, .int)]) (.t 130) (.t 135)), .none⟩]) (.cond (.t 136) (.seq (.ops [⟨(.some 4), (.mv (.c (.sc (.bool .false)))), .none⟩]) .ret) .skip))) (.ops [⟨(.some 124), (.mv (.t 6)), .none⟩, ⟨(.some 125), (.bin .add (.t 124) (.c (.sc (.int .i64 1)))), .none⟩, ⟨(.some 6), (.mv (.t 125)), .none⟩])))
def c_ref15_SameState_l3 : AC := (.seq (.seq (.ops [⟨(.some 137), (.mv (.t 7)), .none⟩, ⟨(.some 138), (.fadr 9 83 1 (.t 2)), .none⟩, ⟨(.some 139), (.load .false 1 (.t 138)), .none⟩, ⟨(.some 140), (.len .none (.t 139)), .none⟩, ⟨(.some 141), (.bin .lss (.t 137) (.t 140)), .none⟩]) (.cond (.t 141) .skip (.exit 4))) (.seq (.block 5 (.seq (.ops [⟨(.some 144), (.fadr 9 83 1 (.t 2)), .none⟩, ⟨(.some 145), (.load .false 1 (.t 144)), .none⟩, ⟨(.some 146), (.mv (.t 7)), .none⟩, ⟨(.some 147), (.iadr .none 8 (.t 145) (.t 146)), .none⟩, ⟨(.some 148), (.load .true 8 (.t 147)), .none⟩, ⟨(.some 149), (.fadr 9 83 1 (.t 3)), .none⟩, ⟨(.some 150), (.load .false 1 (.t 149)), .none⟩, ⟨(.some 151), (.mv (.t 7)), .none⟩, ⟨(.some 152), (.iadr .none 8 (.t 150) (.t 151)), .none⟩, ⟨(.some 153), (.load .true 8 (.t 152)), .none⟩, ⟨(.some 154), (.eqs .true (.agg [(1, .bool), (1, .int), (1, .int), (1, .int), (1, .int), (1, .int), (1, .int), (1, .int)]) (.t 148) (.t 153)), .none⟩]) (.cond (.t 154) (.seq (.ops [⟨(.some 4), (.mv (.c (.sc (.bool .false)))), .none⟩]) .ret) .skip))) (.ops [⟨(.some 142), (.mv (.t 7)), .none⟩, ⟨(.some 143), (.bin .add (.t 142) (.c (.sc (.int .i64 1)))), .none⟩, ⟨(.some 7), (.mv (.t 143)), .none⟩])))
def c_ref15_SameState_l4 : AC := (.seq (.seq (.ops [⟨(.some 155), (.mv (.t 8)), .none⟩, ⟨(.some 156), (.fadr 11 85 1 (.t 2)), .none⟩, ⟨(.some 157), (.load .false 1 (.t 156)), .none⟩, ⟨(.some 158), (.len .none (.t 157)), .none⟩, ⟨(.some 159), (.bin .lss (.t 155) (.t 158)), .none⟩]) (.cond (.t 159) .skip (.exit 6))) (.seq (.block 7 (.seq (.ops [⟨(.some 162), (.fadr 11 85 1 (.t 2)), .none⟩, ⟨(.some 163), (.load .false 1 (.t 162)), .none⟩, ⟨(.some 164), (.mv (.t 8)), .none⟩, ⟨(.some 165), (.iadr .none 3 (.t 163) (.t 164)), .none⟩, ⟨(.some 166), (.load .true 3 (.t 165)), .none⟩, ⟨(.some 167), (.fadr 11 85 1 (.t 3)), .none⟩, ⟨(.some 168), (.load .false 1 (.t 167)), .none⟩, ⟨(.some 169), (.mv (.t 8)), .none⟩, ⟨(.some 170), (.iadr .none 3 (.t 168) (.t 169)), .none⟩, ⟨(.some 171), (.load .true 3 (.t 170)), .none⟩, ⟨(.some 172), (.eqs .true (.agg [(1, .int), (1, .int), (1, .int)]) (.t 166) (.t 171)), .none⟩]) (.cond (.t 172) (.seq (.ops [⟨(.some 4), (.mv (.c (.sc (.bool .false)))), .none⟩]) .ret) .skip))) (.ops [⟨(.some 160), (.mv (.t 8)), .none⟩, ⟨(.some 161), (.bin .add (.t 160) (.c (.sc (.int .i64 1)))), .none⟩, ⟨(.some 8), (.mv (.t 161)), .none⟩])))
def c_ref15_SameState_p1 : AC := (.seq (.ops [⟨(.some 173), (.fadr 4 78 1 (.t 2)), .none⟩, ⟨(.some 174), (.load .false 1 (.t 173)), .none⟩, ⟨(.some 175), (.fadr 4 78 1 (.t 3)), .none⟩, ⟨(.some 176), (.load .false 1 (.t 175)), .none⟩, ⟨(.some 177), (.call 35 [(.t 174), (.t 176)]), .none⟩, ⟨(.some 178), (.mv (.t 177)), .none⟩, ⟨(.some 179), (.fadr 5 79 1 (.t 2)), (.some (178, .true))⟩, ⟨(.some 180), (.load .false 1 (.t 179)), (.some (178, .true))⟩, ⟨(.some 181), (.fadr 5 79 1 (.t 3)), (.some (178, .true))⟩, ⟨(.some 182), (.load .false 1 (.t 181)), (.some (178, .true))⟩, ⟨(.some 183), (.call 35 [(.t 180), (.t 182)]), (.some (178, .true))⟩, ⟨(.some 184), (.pick (.t 178) (.t 183) (.c (.sc (.bool .false)))), .none⟩, ⟨(.some 185), (.mv (.t 184)), .none⟩, ⟨(.some 186), (.fadr 6 80 1 (.t 2)), (.some (185, .true))⟩, ⟨(.some 187), (.load .false 1 (.t 186)), (.some (185, .true))⟩, ⟨(.some 188), (.fadr 6 80 1 (.t 3)), (.some (185, .true))⟩, ⟨(.some 189), (.load .false 1 (.t 188)), (.some (185, .true))⟩, ⟨(.some 190), (.call 36 [(.t 187), (.t 189)]), (.some (185, .true))⟩, ⟨(.some 191), (.pick (.t 185) (.t 190) (.c (.sc (.bool .false)))), .none⟩, ⟨(.some 192), (.mv (.t 191)), .none⟩, ⟨(.some 193), (.fadr 7 81 1 (.t 2)), (.some (192, .true))⟩, ⟨(.some 194), (.load .false 1 (.t 193)), (.some (192, .true))⟩, ⟨(.some 195), (.fadr 7 81 1 (.t 3)), (.some (192, .true))⟩, ⟨(.some 196), (.load .false 1 (.t 195)), (.some (192, .true))⟩, ⟨(.some 197), (.call 36 [(.t 194), (.t 196)]), (.some (192, .true))⟩, ⟨(.some 198), (.pick (.t 192) (.t 197) (.c (.sc (.bool .false)))), .none⟩, ⟨(.some 4), (.mv (.t 198)), .none⟩]) .ret)
def c_ref15_SameState_p2 : AC := (.seq (.seq (.ops [⟨(.some 8), (.mv (.c (.sc (.int .i64 0)))), .none⟩]) (.block 6 (.loop c_ref15_SameState_l4))) c_ref15_SameState_p1)
def c_ref15_SameState_p3 : AC := (.seq (.seq (.ops [⟨(.some 7), (.mv (.c (.sc (.int .i64 0)))), .none⟩]) (.block 4 (.loop c_ref15_SameState_l3))) c_ref15_SameState_p2)
def c_ref15_SameState_p4 : AC := (.seq (.seq (.ops [⟨(.some 6), (.mv (.c (.sc (.int .i64 0)))), .none⟩]) (.block 2 (.loop c_ref15_SameState_l2))) c_ref15_SameState_p3)
def c_ref15_SameState : AC := (.seq (.ops [⟨(.some 2), (.box (.t 0)), .none⟩, ⟨(.some 3), (.box (.t 1)), .none⟩, ⟨(.some 4), (.mv (.c (.sc (.bool .false)))), .none⟩]) (.seq (.seq (.ops [⟨(.some 9), (.fadr 0 0 1 (.t 2)), .none⟩, ⟨(.some 10), (.load .false 1 (.t 9)), .none⟩, ⟨(.some 11), (.fadr 0 0 1 (.t 3)), .none⟩, ⟨(.some 12), (.load .false 1 (.t 11)), .none⟩, ⟨(.some 13), (.bin .neq (.t 10) (.t 12)), .none⟩, ⟨(.some 14), (.mv (.t 13)), .none⟩, ⟨(.some 15), (.fadr 1 1 38 (.t 2)), (.some (14, .false))⟩, ⟨(.some 16), (.load .true 38 (.t 15)), (.some (14, .false))⟩, ⟨(.some 17), (.fadr 1 1 38 (.t 3)), (.some (14, .false))⟩, ⟨(.some 18), (.load .true 38 (.t 17)), (.some (14, .false))⟩, ⟨(.some 19), (.eqs .true (.agg [(16, (.arr 16 1 .int)), (16, (.arr 16 1 .int)), (3, (.agg [(1, .int), (1, .int), (1, .int)])), (1, .int), (1, .bool), (1, .int)]) (.t 16) (.t 18)), (.some (14, .false))⟩, ⟨(.some 20), (.pick (.t 14) (.c (.sc (.bool .true))) (.t 19)), .none⟩, ⟨(.some 21), (.mv (.t 20)), .none⟩, ⟨(.some 22), (.fadr 2 39 38 (.t 2)), (.some (21, .false))⟩, ⟨(.some 23), (.load .true 38 (.t 22)), (.some (21, .false))⟩, ⟨(.some 24), (.fadr 2 39 38 (.t 3)), (.some (21, .false))⟩, ⟨(.some 25), (.load .true 38 (.t 24)), (.some (21, .false))⟩, ⟨(.some 26), (.eqs .true (.agg [(16, (.arr 16 1 .int)), (16, (.arr 16 1 .int)), (3, (.agg [(1, .int), (1, .int), (1, .int)])), (1, .int), (1, .bool), (1, .int)]) (.t 23) (.t 25)), (.some (21, .false))⟩, ⟨(.some 27), (.pick (.t 21) (.c (.sc (.bool .true))) (.t 26)), .none⟩, ⟨(.some 28), (.mv (.t 27)), .none⟩, ⟨(.some 29), (.fadr 12 86 3 (.t 2)), (.some (28, .false))⟩, ⟨(.some 30), (.load .true 3 (.t 29)), (.some (28, .false))⟩, ⟨(.some 31), (.fadr 12 86 3 (.t 3)), (.some (28, .false))⟩, ⟨(.some 32), (.load .true 3 (.t 31)), (.some (28, .false))⟩, ⟨(.some 33), (.eqs .true (.agg [(1, .int), (1, .int), (1, .int)]) (.t 30) (.t 32)), (.some (28, .false))⟩, ⟨(.some 34), (.pick (.t 28) (.c (.sc (.bool .true))) (.t 33)), .none⟩, ⟨(.some 35), (.mv (.t 34)), .none⟩, ⟨(.some 36), (.fadr 13 89 1 (.t 2)), (.some (35, .false))⟩, ⟨(.some 37), (.load .false 1 (.t 36)), (.some (35, .false))⟩, ⟨(.some 38), (.fadr 13 89 1 (.t 3)), (.some (35, .false))⟩, ⟨(.some 39), (.load .false 1 (.t 38)), (.some (35, .false))⟩, ⟨(.some 40), (.bin .neq (.t 37) (.t 39)), (.some (35, .false))⟩, ⟨(.some 41), (.pick (.t 35) (.c (.sc (.bool .true))) (.t 40)), .none⟩, ⟨(.some 42), (.mv (.t 41)), .none⟩, ⟨(.some 43), (.fadr 14 90 1 (.t 2)), (.some (42, .false))⟩, ⟨(.some 44), (.load .false 1 (.t 43)), (.some (42, .false))⟩, ⟨(.some 45), (.fadr 14 90 1 (.t 3)), (.some (42, .false))⟩, ⟨(.some 46), (.load .false 1 (.t 45)), (.some (42, .false))⟩, ⟨(.some 47), (.bin .neq (.t 44) (.t 46)), (.some (42, .false))⟩, ⟨(.some 48), (.pick (.t 42) (.c (.sc (.bool .true))) (.t 47)), .none⟩, ⟨(.some 49), (.mv (.t 48)), .none⟩, ⟨(.some 50), (.fadr 15 91 1 (.t 2)), (.some (49, .false))⟩, ⟨(.some 51), (.load .false 1 (.t 50)), (.some (49, .false))⟩, ⟨(.some 52), (.fadr 15 91 1 (.t 3)), (.some (49, .false))⟩, ⟨(.some 53), (.load .false 1 (.t 52)), (.some (49, .false))⟩, ⟨(.some 54), (.bin .neq (.t 51) (.t 53)), (.some (49, .false))⟩, ⟨(.some 55), (.pick (.t 49) (.c (.sc (.bool .true))) (.t 54)), .none⟩, ⟨(.some 56), (.mv (.t 55)), .none⟩, ⟨(.some 57), (.fadr 10 84 1 (.t 2)), (.some (56, .false))⟩, ⟨(.some 58), (.load .false 1 (.t 57)), (.some (56, .false))⟩, ⟨(.some 59), (.b2s (.t 58)), (.some (56, .false))⟩, ⟨(.some 60), (.fadr 10 84 1 (.t 3)), (.some (56, .false))⟩, ⟨(.some 61), (.load .false 1 (.t 60)), (.some (56, .false))⟩, ⟨(.some 62), (.b2s (.t 61)), (.some (56, .false))⟩, ⟨(.some 63), (.bin .neq (.t 59) (.t 62)), (.some (56, .false))⟩, ⟨(.some 64), (.pick (.t 56) (.c (.sc (.bool .true))) (.t 63)), .none⟩, ⟨(.some 65), (.mv (.t 64)), .none⟩, ⟨(.some 66), (.fadr 3 77 1 (.t 2)), (.some (65, .false))⟩, ⟨(.some 67), (.load .false 1 (.t 66)), (.some (65, .false))⟩, ⟨(.some 68), (.len .none (.t 67)), (.some (65, .false))⟩, ⟨(.some 69), (.fadr 3 77 1 (.t 3)), (.some (65, .false))⟩, ⟨(.some 70), (.load .false 1 (.t 69)), (.some (65, .false))⟩, ⟨(.some 71), (.len .none (.t 70)), (.some (65, .false))⟩, ⟨(.some 72), (.bin .neq (.t 68) (.t 71)), (.some (65, .false))⟩, ⟨(.some 73), (.pick (.t 65) (.c (.sc (.bool .true))) (.t 72)), .none⟩, ⟨(.some 74), (.mv (.t 73)), .none⟩, ⟨(.some 75), (.fadr 8 82 1 (.t 2)), (.some (74, .false))⟩, ⟨(.some 76), (.load .false 1 (.t 75)), (.some (74, .false))⟩, ⟨(.some 77), (.len .none (.t 76)), (.some (74, .false))⟩, ⟨(.some 78), (.fadr 8 82 1 (.t 3)), (.some (74, .false))⟩, ⟨(.some 79), (.load .false 1 (.t 78)), (.some (74, .false))⟩, ⟨(.some 80), (.len .none (.t 79)), (.some (74, .false))⟩, ⟨(.some 81), (.bin .neq (.t 77) (.t 80)), (.some (74, .false))⟩, ⟨(.some 82), (.pick (.t 74) (.c (.sc (.bool .true))) (.t 81)), .none⟩, ⟨(.some 83), (.mv (.t 82)), .none⟩, ⟨(.some 84), (.fadr 9 83 1 (.t 2)), (.some (83, .false))⟩, ⟨(.some 85), (.load .false 1 (.t 84)), (.some (83, .false))⟩, ⟨(.some 86), (.len .none (.t 85)), (.some (83, .false))⟩, ⟨(.some 87), (.fadr 9 83 1 (.t 3)), (.some (83, .false))⟩, ⟨(.some 88), (.load .false 1 (.t 87)), (.some (83, .false))⟩, ⟨(.some 89), (.len .none (.t 88)), (.some (83, .false))⟩, ⟨(.some 90), (.bin .neq (.t 86) (.t 89)), (.some (83, .false))⟩, ⟨(.some 91), (.pick (.t 83) (.c (.sc (.bool .true))) (.t 90)), .none⟩, ⟨(.some 92), (.mv (.t 91)), .none⟩, ⟨(.some 93), (.fadr 11 85 1 (.t 2)), (.some (92, .false))⟩, ⟨(.some 94), (.load .false 1 (.t 93)), (.some (92, .false))⟩, ⟨(.some 95), (.len .none (.t 94)), (.some (92, .false))⟩, ⟨(.some 96), (.fadr 11 85 1 (.t 3)), (.some (92, .false))⟩, ⟨(.some 97), (.load .false 1 (.t 96)), (.some (92, .false))⟩, ⟨(.some 98), (.len .none (.t 97)), (.some (92, .false))⟩, ⟨(.some 99), (.bin .neq (.t 95) (.t 98)), (.some (92, .false))⟩, ⟨(.some 100), (.pick (.t 92) (.c (.sc (.bool .true))) (.t 99)), .none⟩]) (.cond (.t 100) (.seq (.ops [⟨(.some 4), (.mv (.c (.sc (.bool .false)))), .none⟩]) .ret) .skip)) (.seq (.seq (.ops [⟨(.some 5), (.mv (.c (.sc (.int .i64 0)))), .none⟩]) (.block 0 (.loop c_ref15_SameState_l1))) c_ref15_SameState_p4)))
theorem t_ref15_SameState : trF Try.prog qq 16 = some (199, [(.tmp 4)], c_ref15_SameState) := by kernel_rfl
def c_ref15_Copy : AC := (.seq (.ops [⟨(.some 1), (.box (.t 0)), .none⟩, ⟨(.some 2), (.box (.c (.agg 92 [(.sc (.int .i64 0)), (.agg 38 [(.arr 16 1 [(.sc (.int .u32 0)), (.sc (.int .u32 0)), (.sc (.int .u32 0)), (.sc (.int .u32 0)), (.sc (.int .u32 0)), (.sc (.int .u32 0)), (.sc (.int .u32 0)), (.sc (.int .u32 0)), (.sc (.int .u32 0)), (.sc (.int .u32 0)), (.sc (.int .u32 0)), (.sc (.int .u32 0)), (.sc (.int .u32 0)), (.sc (.int .u32 0)), (.sc (.int .u32 0)), (.sc (.int .u32 0))]), (.arr 16 1 [(.sc (.int .i64 0)), (.sc (.int .i64 0)), (.sc (.int .i64 0)), (.sc (.int .i64 0)), (.sc (.int .i64 0)), (.sc (.int .i64 0)), (.sc (.int .i64 0)), (.sc (.int .i64 0)), (.sc (.int .i64 0)), (.sc (.int .i64 0)), (.sc (.int .i64 0)), (.sc (.int .i64 0)), (.sc (.int .i64 0)), (.sc (.int .i64 0)), (.sc (.int .i64 0)), (.sc (.int .i64 0))]), (.agg 3 [(.sc (.int .i64 0)), (.sc (.int .i64 0)), (.sc (.int .i64 0))]), (.sc (.int .i64 0)), (.sc (.bool .false)), (.sc (.int .i64 0))]), (.agg 38 [(.arr 16 1 [(.sc (.int .u32 0)), (.sc (.int .u32 0)), (.sc (.int .u32 0)), (.sc (.int .u32 0)), (.sc (.int .u32 0)), (.sc (.int .u32 0)), (.sc (.int .u32 0)), (.sc (.int .u32 0)), (.sc (.int .u32 0)), (.sc (.int .u32 0)), (.sc (.int .u32 0)), (.sc (.int .u32 0)), (.sc (.int .u32 0)), (.sc (.int .u32 0)), (.sc (.int .u32 0)), (.sc (.int .u32 0))]), (.arr 16 1 [(.sc (.int .i64 0)), (.sc (.int .i64 0)), (.sc (.int .i64 0)), (.sc (.int .i64 0)), (.sc (.int .i64 0)), (.sc (.int .i64 0)), (.sc (.int .i64 0)), (.sc (.int .i64 0)), (.sc (.int .i64 0)), (.sc (.int .i64 0)), (.sc (.int .i64 0)), (.sc (.int .i64 0)), (.sc (.int .i64 0)), (.sc (.int .i64 0)), (.sc (.int .i64 0)), (.sc (.int .i64 0))]), (.agg 3 [(.sc (.int .i64 0)), (.sc (.int .i64 0)), (.sc (.int .i64 0))]), (.sc (.int .i64 0)), (.sc (.bool .false)), (.sc (.int .i64 0))]), (.fro .true 0 []), (.fro .true 0 []), (.fro .true 0 []), (.fro .true 0 []), (.fro .true 0 []), (.fro .true 0 []), (.fro .true 0 []), (.fro .true 0 []), (.fro .true 0 []), (.agg 3 [(.sc (.int .i64 0)), (.sc (.int .i64 0)), (.sc (.int .i64 0))]), (.sc (.int .i64 0)), (.sc (.int .i64 0)), (.sc (.int .i64 0))]))), .none⟩]) (.seq (.ops [⟨(.some 3), (.fadr 3 77 1 (.t 1)), .none⟩, ⟨(.some 4), (.load .false 1 (.t 3)), .none⟩, ⟨(.some 5), (.call 39 [(.t 4)]), .none⟩, ⟨(.some 6), (.fadr 3 77 1 (.t 1)), .none⟩, ⟨.none, (.store 1 (.t 6) (.t 5)), .none⟩]) (.seq (.ops [⟨(.some 7), (.fadr 4 78 1 (.t 1)), .none⟩, ⟨(.some 8), (.load .false 1 (.t 7)), .none⟩, ⟨(.some 9), (.app 1 4 (.c (.fro .true 0 [])) (.t 8)), .none⟩, ⟨(.some 10), (.fadr 4 78 1 (.t 1)), .none⟩, ⟨.none, (.store 1 (.t 10) (.t 9)), .none⟩]) (.seq (.ops [⟨(.some 11), (.fadr 5 79 1 (.t 1)), .none⟩, ⟨(.some 12), (.load .false 1 (.t 11)), .none⟩, ⟨(.some 13), (.app 1 4 (.c (.fro .true 0 [])) (.t 12)), .none⟩, ⟨(.some 14), (.fadr 5 79 1 (.t 1)), .none⟩, ⟨.none, (.store 1 (.t 14) (.t 13)), .none⟩]) (.seq (.ops [⟨(.some 15), (.fadr 6 80 1 (.t 1)), .none⟩, ⟨(.some 16), (.load .false 1 (.t 15)), .none⟩, ⟨(.some 17), (.app 1 1 (.c (.fro .true 0 [])) (.t 16)), .none⟩, ⟨(.some 18), (.fadr 6 80 1 (.t 1)), .none⟩, ⟨.none, (.store 1 (.t 18) (.t 17)), .none⟩]) (.seq (.ops [⟨(.some 19), (.fadr 7 81 1 (.t 1)), .none⟩, ⟨(.some 20), (.load .false 1 (.t 19)), .none⟩, ⟨(.some 21), (.app 1 1 (.c (.fro .true 0 [])) (.t 20)), .none⟩, ⟨(.some 22), (.fadr 7 81 1 (.t 1)), .none⟩, ⟨.none, (.store 1 (.t 22) (.t 21)), .none⟩]) (.seq (.ops [⟨(.some 23), (.fadr 8 82 1 (.t 1)), .none⟩, ⟨(.some 24), (.load .false 1 (.t 23)), .none⟩, ⟨(.some 25), (.app 5 32 (.c (.fro .true 0 [])) (.t 24)), .none⟩, ⟨(.some 26), (.fadr 8 82 1 (.t 1)), .none⟩, ⟨.none, (.store 1 (.t 26) (.t 25)), .none⟩]) (.seq (.ops [⟨(.some 27), (.fadr 9 83 1 (.t 1)), .none⟩, ⟨(.some 28), (.load .false 1 (.t 27)), .none⟩, ⟨(.some 29), (.app 8 64 (.c (.fro .true 0 [])) (.t 28)), .none⟩, ⟨(.some 30), (.fadr 9 83 1 (.t 1)), .none⟩, ⟨.none, (.store 1 (.t 30) (.t 29)), .none⟩]) (.seq (.ops [⟨(.some 31), (.fadr 10 84 1 (.t 1)), .none⟩, ⟨(.some 32), (.load .false 1 (.t 31)), .none⟩, ⟨(.some 33), (.app 1 1 (.c (.fro .true 0 [])) (.t 32)), .none⟩, ⟨(.some 34), (.fadr 10 84 1 (.t 1)), .none⟩, ⟨.none, (.store 1 (.t 34) (.t 33)), .none⟩]) (.seq (.ops [⟨(.some 35), (.fadr 11 85 1 (.t 1)), .none⟩, ⟨(.some 36), (.load .false 1 (.t 35)), .none⟩, ⟨(.some 37), (.app 3 24 (.c (.fro .true 0 [])) (.t 36)), .none⟩, ⟨(.some 38), (.fadr 11 85 1 (.t 1)), .none⟩, ⟨.none, (.store 1 (.t 38) (.t 37)), .none⟩]) (.seq (.ops [⟨(.some 39), (.load .true 92 (.t 1)), .none⟩, ⟨.none, (.store 92 (.t 2) (.t 39)), .none⟩]) .ret)))))))))))
theorem t_ref15_Copy : trF Try.prog qq 18 = some (40, [(.cell 2 .true 92)], c_ref15_Copy) := by kernel_rfl
def c_ref15_Bank : AC := (.seq (.ops [⟨(.some 4), (.mv (.c (.sc (.int .i64 0)))), .none⟩]) (.seq (.seq (.ops [⟨(.some 5), (.mv (.t 0)), .none⟩, ⟨(.some 6), (.bin .lss (.t 5) (.c (.sc (.int .i64 0)))), .none⟩, ⟨(.some 7), (.mv (.t 6)), .none⟩, ⟨(.some 8), (.mv (.t 1)), (.some (7, .false))⟩, ⟨(.some 9), (.bin .lss (.t 8) (.c (.sc (.int .i64 1)))), (.some (7, .false))⟩, ⟨(.some 10), (.pick (.t 7) (.c (.sc (.bool .true))) (.t 9)), .none⟩]) (.cond (.t 10) (.seq (.ops [⟨(.some 4), (.mv (.c (.sc (.int .i64 0)))), .none⟩]) .ret) .skip)) (.seq (.ops [⟨(.some 11), (.mv (.t 0)), .none⟩, ⟨(.some 12), (.bin .quo (.t 11) (.c (.sc (.int .i64 4)))), .none⟩, ⟨(.some 13), (.mv (.t 1)), .none⟩, ⟨(.some 14), (.bin .rem (.t 12) (.t 13)), .none⟩, ⟨(.some 4), (.mv (.t 14)), .none⟩]) .ret)))
theorem t_ref15_Bank : trF Try.prog qq 23 = some (15, [(.tmp 4)], c_ref15_Bank) := by kernel_rfl
def c_ref15_Lat : AC := (.seq (.ops [⟨(.some 3), (.box (.t 0)), .none⟩, ⟨(.some 6), (.mv (.c (.sc (.int .i64 0)))), .none⟩]) (.seq (.seq (.ops [⟨(.some 7), (.mv (.t 2)), .none⟩, ⟨(.some 8), (.bin .lss (.t 7) (.c (.sc (.int .i64 1)))), .none⟩]) (.cond (.t 8) (.seq (.ops [⟨(.some 6), (.mv (.c (.sc (.int .i64 1)))), .none⟩]) .ret) .skip)) (.seq (.ops [⟨(.some 9), (.fadr 0 0 1 (.t 3)), .none⟩, ⟨(.some 10), (.load .false 1 (.t 9)), .none⟩, ⟨(.some 11), (.mv (.t 1)), .none⟩, ⟨(.some 12), (.call 41 [(.t 10), (.t 11)]), .none⟩, ⟨(.some 13), (.mv (.t 2)), .none⟩, ⟨(.some 14), (.bin .rem (.t 12) (.t 13)), .none⟩, ⟨(.some 15), (.bin .add (.c (.sc (.int .i64 1))) (.t 14)), .none⟩, ⟨(.some 6), (.mv (.t 15)), .none⟩]) .ret)))
theorem t_ref15_Lat : trF Try.prog qq 25 = some (16, [(.tmp 6)], c_ref15_Lat) := by kernel_rfl
def c_ref15_Pick : AC := (.seq (.ops [⟨(.some 3), (.box (.t 0)), .none⟩, ⟨(.some 6), (.mv (.c (.sc (.int .i64 0)))), .none⟩]) (.seq (.seq (.ops [⟨(.some 7), (.mv (.t 2)), .none⟩, ⟨(.some 8), (.bin .lss (.t 7) (.c (.sc (.int .i64 1)))), .none⟩]) (.cond (.t 8) (.seq (.ops [⟨(.some 6), (.mv (.c (.sc (.int .i64 0)))), .none⟩]) .ret) .skip)) (.seq (.ops [⟨(.some 9), (.fadr 1 1 1 (.t 3)), .none⟩, ⟨(.some 10), (.load .false 1 (.t 9)), .none⟩, ⟨(.some 11), (.mv (.t 1)), .none⟩, ⟨(.some 12), (.call 41 [(.t 10), (.t 11)]), .none⟩, ⟨(.some 13), (.mv (.t 2)), .none⟩, ⟨(.some 14), (.bin .rem (.t 12) (.t 13)), .none⟩, ⟨(.some 6), (.mv (.t 14)), .none⟩]) .ret)))
theorem t_ref15_Pick : trF Try.prog qq 27 = some (15, [(.tmp 6)], c_ref15_Pick) := by kernel_rfl
def c_ref15_Advance_l1 : AC := (.seq (.seq (.ops [⟨(.some 31), (.mv (.t 9)), .none⟩, ⟨(.some 32), (.mv (.t 8)), .none⟩, ⟨(.some 33), (.len .none (.t 32)), .none⟩, ⟨(.some 34), (.bin .lss (.t 31) (.t 33)), .none⟩]) (.cond (.t 34) .skip (.exit 0))) (.seq (.block 1 (.seq (.ops [⟨(.some 37), (.mv (.t 8)), .none⟩, ⟨(.some 38), (.mv (.t 9)), .none⟩, ⟨(.some 39), (.iadr .none 8 (.t 37) (.t 38)), .none⟩, ⟨(.some 40), (.load .true 8 (.t 39)), .none⟩, ⟨(.some 10), (.box (.c (.agg 8 [(.sc (.bool .false)), (.sc (.int .i64 0)), (.sc (.int .i64 0)), (.sc (.int .i64 0)), (.sc (.int .u32 0)), (.sc (.int .i64 0)), (.sc (.int .i64 0)), (.sc (.int .i64 0))]))), .none⟩, ⟨.none, (.store 8 (.t 10) (.t 40)), .none⟩]) (.seq (.seq (.ops [⟨(.some 41), (.fadr 5 5 1 (.t 10)), .none⟩, ⟨(.some 42), (.load .false 1 (.t 41)), .none⟩, ⟨(.some 43), (.bin .gtr (.t 42) (.c (.sc (.int .i64 0)))), .none⟩]) (.cond (.t 43) (.seq (.ops [⟨(.some 44), (.fadr 5 5 1 (.t 10)), .none⟩, ⟨(.some 45), (.load .false 1 (.t 44)), .none⟩, ⟨(.some 46), (.bin .sub (.t 45) (.c (.sc (.int .i64 1)))), .none⟩, ⟨(.some 47), (.fadr 5 5 1 (.t 10)), .none⟩, ⟨.none, (.store 1 (.t 47) (.t 46)), .none⟩]) (.seq (.ops [⟨(.some 48), (.fadr 5 5 1 (.t 10)), .none⟩, ⟨(.some 49), (.load .false 1 (.t 48)), .none⟩, ⟨(.some 50), (.bin .eql (.t 49) (.c (.sc (.int .i64 0)))), .none⟩]) (.cond (.t 50) (.seq (.ops [⟨(.some 51), (.load .true 92 (.t 5)), .none⟩, ⟨(.some 52), (.load .true 8 (.t 10)), .none⟩, ⟨(.some 53), (.call 51 [(.t 51), (.t 52)]), .none⟩, ⟨.none, (.store 92 (.t 5) (.t 53)), .none⟩]) (.exit 1)) .skip))) .skip)) (.ops [⟨(.some 54), (.mv (.t 7)), .none⟩, ⟨(.some 55), (.load .true 8 (.t 10)), .none⟩, ⟨(.some 56), (.bsl 8 [(.t 55)]), .none⟩, ⟨(.some 57), (.app 8 64 (.t 54) (.t 56)), .none⟩, ⟨(.some 7), (.mv (.t 57)), .none⟩])))) (.ops [⟨(.some 35), (.mv (.t 9)), .none⟩, ⟨(.some 36), (.bin .add (.t 35) (.c (.sc (.int .i64 1)))), .none⟩, ⟨(.some 9), (.mv (.t 36)), .none⟩])))
def c_ref15_Advance_l2 : AC := (.seq (.seq (.ops [⟨(.some 64), (.mv (.t 14)), .none⟩, ⟨(.some 65), (.mv (.t 7)), .none⟩, ⟨(.some 66), (.len .none (.t 65)), .none⟩, ⟨(.some 67), (.bin .lss (.t 64) (.t 66)), .none⟩]) (.cond (.t 67) .skip (.exit 4))) (.seq (.block 5 (.seq (.seq (.ops [⟨(.some 70), (.mv (.t 7)), .none⟩, ⟨(.some 71), (.mv (.t 14)), .none⟩, ⟨(.some 72), (.iadr .none 8 (.t 70) (.t 71)), .none⟩, ⟨(.some 73), (.fadr 2 2 1 (.t 72)), .none⟩, ⟨(.some 74), (.load .false 1 (.t 73)), .none⟩, ⟨(.some 75), (.fadr 6 6 1 (.t 3)), .none⟩, ⟨(.some 76), (.load .false 1 (.t 75)), .none⟩, ⟨(.some 77), (.call 23 [(.t 74), (.t 76)]), .none⟩, ⟨(.some 78), (.mv (.t 11)), .none⟩, ⟨(.some 79), (.bin .neq (.t 77) (.t 78)), .none⟩]) (.cond (.t 79) (.exit 5) .skip)) (.seq (.seq (.ops [⟨(.some 80), (.mv (.t 7)), .none⟩, ⟨(.some 81), (.mv (.t 14)), .none⟩, ⟨(.some 82), (.iadr .none 8 (.t 80) (.t 81)), .none⟩, ⟨(.some 83), (.fadr 5 5 1 (.t 82)), .none⟩, ⟨(.some 84), (.load .false 1 (.t 83)), .none⟩, ⟨(.some 85), (.bin .gtr (.t 84) (.c (.sc (.int .i64 0)))), .none⟩]) (.cond (.t 85) (.ops [⟨(.some 12), (.mv (.c (.sc (.bool .true)))), .none⟩]) .skip)) (.seq (.ops [⟨(.some 86), (.mv (.t 7)), .none⟩, ⟨(.some 87), (.mv (.t 14)), .none⟩, ⟨(.some 88), (.iadr .none 8 (.t 86) (.t 87)), .none⟩, ⟨(.some 89), (.fadr 5 5 1 (.t 88)), .none⟩, ⟨(.some 90), (.load .false 1 (.t 89)), .none⟩, ⟨(.some 91), (.bin .eql (.t 90) (.c (.sc (.int .i64 0)))), .none⟩]) (.cond (.t 91) (.ops [⟨(.some 92), (.mv (.t 13)), .none⟩, ⟨(.some 93), (.mv (.t 14)), .none⟩, ⟨(.some 94), (.bsl 1 [(.t 93)]), .none⟩, ⟨(.some 95), (.app 1 8 (.t 92) (.t 94)), .none⟩, ⟨(.some 13), (.mv (.t 95)), .none⟩]) .skip))))) (.ops [⟨(.some 68), (.mv (.t 14)), .none⟩, ⟨(.some 69), (.bin .add (.t 68) (.c (.sc (.int .i64 1)))), .none⟩, ⟨(.some 14), (.mv (.t 69)), .none⟩])))
def c_ref15_Advance_p1 : AC := (.seq (.seq (.ops [⟨(.some 96), (.mv (.t 12)), .none⟩, ⟨(.some 97), (.mv (.t 96)), .none⟩, ⟨(.some 98), (.mv (.t 13)), (.some (97, .false))⟩, ⟨(.some 99), (.len .none (.t 98)), (.some (97, .false))⟩, ⟨(.some 100), (.bin .eql (.t 99) (.c (.sc (.int .i64 0)))), (.some (97, .false))⟩, ⟨(.some 101), (.pick (.t 97) (.c (.sc (.bool .true))) (.t 100)), .none⟩]) (.cond (.t 101) (.exit 3) .skip)) (.seq (.ops [⟨(.some 15), (.mv (.c (.sc (.int .i64 0)))), .none⟩]) (.seq (.seq (.ops [⟨(.some 102), (.mv (.t 13)), .none⟩, ⟨(.some 103), (.len .none (.t 102)), .none⟩, ⟨(.some 104), (.bin .gtr (.t 103) (.c (.sc (.int .i64 1)))), .none⟩]) (.cond (.t 104) (.seq (.ops [⟨(.some 105), (.load .true 2 (.t 4)), .none⟩, ⟨(.some 106), (.fadr 14 90 1 (.t 5)), .none⟩, ⟨(.some 107), (.load .false 1 (.t 106)), .none⟩, ⟨(.some 108), (.mv (.t 13)), .none⟩, ⟨(.some 109), (.len .none (.t 108)), .none⟩, ⟨(.some 110), (.call 27 [(.t 105), (.t 107), (.t 109)]), .none⟩, ⟨(.some 15), (.mv (.t 110)), .none⟩]) (.ops [⟨(.some 111), (.fadr 14 90 1 (.t 5)), .none⟩, ⟨(.some 112), (.load .false 1 (.t 111)), .none⟩, ⟨(.some 113), (.bin .add (.t 112) (.c (.sc (.int .i64 1)))), .none⟩, ⟨(.some 114), (.fadr 14 90 1 (.t 5)), .none⟩, ⟨.none, (.store 1 (.t 114) (.t 113)), .none⟩])) .skip)) (.seq (.ops [⟨(.some 115), (.mv (.t 7)), .none⟩, ⟨(.some 116), (.mv (.t 13)), .none⟩, ⟨(.some 117), (.mv (.t 15)), .none⟩, ⟨(.some 118), (.iadr .none 1 (.t 116) (.t 117)), .none⟩, ⟨(.some 119), (.load .false 1 (.t 118)), .none⟩, ⟨(.some 120), (.load .true 2 (.t 4)), .none⟩, ⟨(.some 121), (.fadr 13 89 1 (.t 5)), .none⟩, ⟨(.some 122), (.load .false 1 (.t 121)), .none⟩, ⟨(.some 123), (.fadr 9 9 1 (.t 3)), .none⟩, ⟨(.some 124), (.load .false 1 (.t 123)), .none⟩, ⟨(.some 125), (.call 25 [(.t 120), (.t 122), (.t 124)]), .none⟩, ⟨(.some 126), (.iadr .none 8 (.t 115) (.t 119)), .none⟩, ⟨(.some 127), (.fadr 5 5 1 (.t 126)), .none⟩, ⟨.none, (.store 1 (.t 127) (.t 125)), .none⟩]) (.ops [⟨(.some 128), (.fadr 13 89 1 (.t 5)), .none⟩, ⟨(.some 129), (.load .false 1 (.t 128)), .none⟩, ⟨(.some 130), (.bin .add (.t 129) (.c (.sc (.int .i64 1)))), .none⟩, ⟨(.some 131), (.fadr 13 89 1 (.t 5)), .none⟩, ⟨.none, (.store 1 (.t 131) (.t 130)), .none⟩])))))
def c_ref15_Advance_p2 : AC := (.ops [⟨(.some 62), (.mv (.t 11)), .none⟩, ⟨(.some 63), (.bin .add (.t 62) (.c (.sc (.int .i64 1)))), .none⟩, ⟨(.some 11), (.mv (.t 63)), .none⟩])
def c_ref15_Advance_l3 : AC := (.seq (.seq (.ops [⟨(.some 58), (.mv (.t 11)), .none⟩, ⟨(.some 59), (.fadr 6 6 1 (.t 3)), .none⟩, ⟨(.some 60), (.load .false 1 (.t 59)), .none⟩, ⟨(.some 61), (.bin .lss (.t 58) (.t 60)), .none⟩]) (.cond (.t 61) .skip (.exit 2))) (.seq (.block 3 (.seq (.ops [⟨(.some 12), (.mv (.c (.sc (.bool .false)))), .none⟩]) (.seq (.ops [⟨(.some 13), (.mv (.c (.fro .true 0 []))), .none⟩]) (.seq (.seq (.ops [⟨(.some 14), (.mv (.c (.sc (.int .i64 0)))), .none⟩]) (.block 4 (.loop c_ref15_Advance_l2))) c_ref15_Advance_p1)))) c_ref15_Advance_p2))
def c_ref15_Advance_p3 : AC := (.seq (.ops [⟨(.some 132), (.mv (.t 7)), .none⟩, ⟨(.some 133), (.fadr 9 83 1 (.t 5)), .none⟩, ⟨.none, (.store 1 (.t 133) (.t 132)), .none⟩]) (.seq (.ops [⟨(.some 134), (.load .true 92 (.t 5)), .none⟩, ⟨.none, (.store 92 (.t 6) (.t 134)), .none⟩]) .ret))
def c_ref15_Advance_p4 : AC := (.seq (.seq (.ops [⟨(.some 11), (.mv (.c (.sc (.int .i64 0)))), .none⟩]) (.block 2 (.loop c_ref15_Advance_l3))) c_ref15_Advance_p3)
def c_ref15_Advance : AC := (.seq (.ops [⟨(.some 3), (.box (.t 0)), .none⟩, ⟨(.some 4), (.box (.t 1)), .none⟩, ⟨(.some 5), (.box (.t 2)), .none⟩, ⟨(.some 6), (.box (.c (.agg 92 [(.sc (.int .i64 0)), (.agg 38 [(.arr 16 1 [(.sc (.int .u32 0)), (.sc (.int .u32 0)), (.sc (.int .u32 0)), (.sc (.int .u32 0)), (.sc (.int .u32 0)), (.sc (.int .u32 0)), (.sc (.int .u32 0)), (.sc (.int .u32 0)), (.sc (.int .u32 0)), (.sc (.int .u32 0)), (.sc (.int .u32 0)), (.sc (.int .u32 0)), (.sc (.int .u32 0)), (.sc (.int .u32 0)), (.sc (.int .u32 0)), (.sc (.int .u32 0))]), (.arr 16 1 [(.sc (.int .i64 0)), (.sc (.int .i64 0)), (.sc (.int .i64 0)), (.sc (.int .i64 0)), (.sc (.int .i64 0)), (.sc (.int .i64 0)), (.sc (.int .i64 0)), (.sc (.int .i64 0)), (.sc (.int .i64 0)), (.sc (.int .i64 0)), (.sc (.int .i64 0)), (.sc (.int .i64 0)), (.sc (.int .i64 0)), (.sc (.int .i64 0)), (.sc (.int .i64 0)), (.sc (.int .i64 0))]), (.agg 3 [(.sc (.int .i64 0)), (.sc (.int .i64 0)), (.sc (.int .i64 0))]), (.sc (.int .i64 0)), (.sc (.bool .false)), (.sc (.int .i64 0))]), (.agg 38 [(.arr 16 1 [(.sc (.int .u32 0)), (.sc (.int .u32 0)), (.sc (.int .u32 0)), (.sc (.int .u32 0)), (.sc (.int .u32 0)), (.sc (.int .u32 0)), (.sc (.int .u32 0)), (.sc (.int .u32 0)), (.sc (.int .u32 0)), (.sc (.int .u32 0)), (.sc (.int .u32 0)), (.sc (.int .u32 0)), (.sc (.int .u32 0)), (.sc (.int .u32 0)), (.sc (.int .u32 0)), (.sc (.int .u32 0))]), (.arr 16 1 [(.sc (.int .i64 0)), (.sc (.int .i64 0)), (.sc (.int .i64 0)), (.sc (.int .i64 0)), (.sc (.int .i64 0)), (.sc (.int .i64 0)), (.sc (.int .i64 0)), (.sc (.int .i64 0)), (.sc (.int .i64 0)), (.sc (.int .i64 0)), (.sc (.int .i64 0)), (.sc (.int .i64 0)), (.sc (.int .i64 0)), (.sc (.int .i64 0)), (.sc (.int .i64 0)), (.sc (.int .i64 0))]), (.agg 3 [(.sc (.int .i64 0)), (.sc (.int .i64 0)), (.sc (.int .i64 0))]), (.sc (.int .i64 0)), (.sc (.bool .false)), (.sc (.int .i64 0))]), (.fro .true 0 []), (.fro .true 0 []), (.fro .true 0 []), (.fro .true 0 []), (.fro .true 0 []), (.fro .true 0 []), (.fro .true 0 []), (.fro .true 0 []), (.fro .true 0 []), (.agg 3 [(.sc (.int .i64 0)), (.sc (.int .i64 0)), (.sc (.int .i64 0))]), (.sc (.int .i64 0)), (.sc (.int .i64 0)), (.sc (.int .i64 0))]))), .none⟩]) (.seq (.ops [⟨(.some 16), (.load .true 92 (.t 5)), .none⟩, ⟨(.some 17), (.call 18 [(.t 16)]), .none⟩, ⟨.none, (.store 92 (.t 5) (.t 17)), .none⟩]) (.seq (.seq (.ops [⟨(.some 18), (.fadr 6 6 1 (.t 3)), .none⟩, ⟨(.some 19), (.load .false 1 (.t 18)), .none⟩, ⟨(.some 20), (.call 50 [(.t 19), (.c (.sc (.int .i64 16)))]), .none⟩, ⟨(.some 21), (.un .not (.t 20)), .none⟩, ⟨(.some 22), (.mv (.t 21)), .none⟩, ⟨(.some 23), (.fadr 9 9 1 (.t 3)), (.some (22, .false))⟩, ⟨(.some 24), (.load .false 1 (.t 23)), (.some (22, .false))⟩, ⟨(.some 25), (.call 50 [(.t 24), (.c (.sc (.int .i64 1000)))]), (.some (22, .false))⟩, ⟨(.some 26), (.un .not (.t 25)), (.some (22, .false))⟩, ⟨(.some 27), (.pick (.t 22) (.c (.sc (.bool .true))) (.t 26)), .none⟩]) (.cond (.t 27) (.seq (.ops [⟨(.some 28), (.load .true 92 (.t 5)), .none⟩, ⟨.none, (.store 92 (.t 6) (.t 28)), .none⟩]) .ret) .skip)) (.seq (.ops [⟨(.some 7), (.mv (.c (.fro .true 0 []))), .none⟩]) (.seq (.ops [⟨(.some 29), (.fadr 9 83 1 (.t 5)), .none⟩, ⟨(.some 30), (.load .false 1 (.t 29)), .none⟩, ⟨(.some 8), (.mv (.t 30)), .none⟩]) (.seq (.seq (.ops [⟨(.some 9), (.mv (.c (.sc (.int .i64 0)))), .none⟩]) (.block 0 (.loop c_ref15_Advance_l1))) c_ref15_Advance_p4))))))
theorem t_ref15_Advance : trF Try.prog qq 29 = some (135, [(.cell 6 .true 92)], c_ref15_Advance) := by kernel_rfl
def c_ref15_SameWords_l1 : AC := (.seq (.seq (.ops [⟨(.some 11), (.mv (.t 5)), .none⟩, ⟨(.some 12), (.mv (.t 0)), .none⟩, ⟨(.some 13), (.len .none (.t 12)), .none⟩, ⟨(.some 14), (.bin .lss (.t 11) (.t 13)), .none⟩]) (.cond (.t 14) .skip (.exit 0))) (.seq (.block 1 (.seq (.ops [⟨(.some 17), (.mv (.t 0)), .none⟩, ⟨(.some 18), (.mv (.t 5)), .none⟩, ⟨(.some 19), (.iadr .none 1 (.t 17) (.t 18)), .none⟩, ⟨(.some 20), (.load .false 1 (.t 19)), .none⟩, ⟨(.some 21), (.mv (.t 1)), .none⟩, ⟨(.some 22), (.mv (.t 5)), .none⟩, ⟨(.some 23), (.iadr .none 1 (.t 21) (.t 22)), .none⟩, ⟨(.some 24), (.load .false 1 (.t 23)), .none⟩, ⟨(.some 25), (.bin .neq (.t 20) (.t 24)), .none⟩]) (.cond (.t 25) (.seq (.ops [⟨(.some 4), (.mv (.c (.sc (.bool .false)))), .none⟩]) .ret) .skip))) (.ops [⟨(.some 15), (.mv (.t 5)), .none⟩, ⟨(.some 16), (.bin .add (.t 15) (.c (.sc (.int .i64 1)))), .none⟩, ⟨(.some 5), (.mv (.t 16)), .none⟩])))
def c_ref15_SameWords_p1 : AC := (.seq (.ops [⟨(.some 4), (.mv (.c (.sc (.bool .true)))), .none⟩]) .ret)
def c_ref15_SameWords : AC := (.seq (.ops [⟨(.some 4), (.mv (.c (.sc (.bool .false)))), .none⟩]) (.seq (.seq (.ops [⟨(.some 6), (.mv (.t 0)), .none⟩, ⟨(.some 7), (.len .none (.t 6)), .none⟩, ⟨(.some 8), (.mv (.t 1)), .none⟩, ⟨(.some 9), (.len .none (.t 8)), .none⟩, ⟨(.some 10), (.bin .neq (.t 7) (.t 9)), .none⟩]) (.cond (.t 10) (.seq (.ops [⟨(.some 4), (.mv (.c (.sc (.bool .false)))), .none⟩]) .ret) .skip)) (.seq (.seq (.ops [⟨(.some 5), (.mv (.c (.sc (.int .i64 0)))), .none⟩]) (.block 0 (.loop c_ref15_SameWords_l1))) c_ref15_SameWords_p1)))
theorem t_ref15_SameWords : trF Try.prog qq 35 = some (26, [(.tmp 4)], c_ref15_SameWords) := by kernel_rfl
def c_ref15_SameBools_l1 : AC := (.seq (.seq (.ops [⟨(.some 11), (.mv (.t 5)), .none⟩, ⟨(.some 12), (.mv (.t 0)), .none⟩, ⟨(.some 13), (.len .none (.t 12)), .none⟩, ⟨(.some 14), (.bin .lss (.t 11) (.t 13)), .none⟩]) (.cond (.t 14) .skip (.exit 0))) (.seq (.block 1 (.seq (.ops [⟨(.some 17), (.mv (.t 0)), .none⟩, ⟨(.some 18), (.mv (.t 5)), .none⟩, ⟨(.some 19), (.iadr .none 1 (.t 17) (.t 18)), .none⟩, ⟨(.some 20), (.load .false 1 (.t 19)), .none⟩, ⟨(.some 21), (.mv (.t 1)), .none⟩, ⟨(.some 22), (.mv (.t 5)), .none⟩, ⟨(.some 23), (.iadr .none 1 (.t 21) (.t 22)), .none⟩, ⟨(.some 24), (.load .false 1 (.t 23)), .none⟩, ⟨(.some 25), (.eqs .true .bool (.t 20) (.t 24)), .none⟩]) (.cond (.t 25) (.seq (.ops [⟨(.some 4), (.mv (.c (.sc (.bool .false)))), .none⟩]) .ret) .skip))) (.ops [⟨(.some 15), (.mv (.t 5)), .none⟩, ⟨(.some 16), (.bin .add (.t 15) (.c (.sc (.int .i64 1)))), .none⟩, ⟨(.some 5), (.mv (.t 16)), .none⟩])))
def c_ref15_SameBools_p1 : AC := (.seq (.ops [⟨(.some 4), (.mv (.c (.sc (.bool .true)))), .none⟩]) .ret)
def c_ref15_SameBools : AC := (.seq (.ops [⟨(.some 4), (.mv (.c (.sc (.bool .false)))), .none⟩]) (.seq (.seq (.ops [⟨(.some 6), (.mv (.t 0)), .none⟩, ⟨(.some 7), (.len .none (.t 6)), .none⟩, ⟨(.some 8), (.mv (.t 1)), .none⟩, ⟨(.some 9), (.len .none (.t 8)), .none⟩, ⟨(.some 10), (.bin .neq (.t 7) (.t 9)), .none⟩]) (.cond (.t 10) (.seq (.ops [⟨(.some 4), (.mv (.c (.sc (.bool .false)))), .none⟩]) .ret) .skip)) (.seq (.seq (.ops [⟨(.some 5), (.mv (.c (.sc (.int .i64 0)))), .none⟩]) (.block 0 (.loop c_ref15_SameBools_l1))) c_ref15_SameBools_p1)))
theorem t_ref15_SameBools : trF Try.prog qq 36 = some (26, [(.tmp 4)], c_ref15_SameBools) := by kernel_rfl
def c_ref15_slots : AC := copyC 3 16
theorem t_ref15_slots : trF Try.prog qq 39 = some (5, [(.tmp 2)], c_ref15_slots) := by kernel_rfl
def c_ref15_ith : AC := (.seq (.ops [⟨(.some 4), (.mv (.c (.sc (.int .i64 0)))), .none⟩]) (.seq (.seq (.ops [⟨(.some 5), (.mv (.t 0)), .none⟩, ⟨(.some 6), (.len .none (.t 5)), .none⟩, ⟨(.some 7), (.bin .eql (.t 6) (.c (.sc (.int .i64 0)))), .none⟩, ⟨(.some 8), (.mv (.t 7)), .none⟩, ⟨(.some 9), (.mv (.t 1)), (.some (8, .false))⟩, ⟨(.some 10), (.bin .lss (.t 9) (.c (.sc (.int .i64 0)))), (.some (8, .false))⟩, ⟨(.some 11), (.pick (.t 8) (.c (.sc (.bool .true))) (.t 10)), .none⟩]) (.cond (.t 11) (.seq (.ops [⟨(.some 4), (.mv (.c (.sc (.int .i64 0)))), .none⟩]) .ret) .skip)) (.seq (.ops [⟨(.some 12), (.mv (.t 0)), .none⟩, ⟨(.some 13), (.mv (.t 1)), .none⟩, ⟨(.some 14), (.mv (.t 0)), .none⟩, ⟨(.some 15), (.len .none (.t 14)), .none⟩, ⟨(.some 16), (.bin .rem (.t 13) (.t 15)), .none⟩, ⟨(.some 17), (.iadr .none 1 (.t 12) (.t 16)), .none⟩, ⟨(.some 18), (.load .false 1 (.t 17)), .none⟩, ⟨(.some 19), (.bin .and (.t 18) (.c (.sc (.int .i64 1073741823)))), .none⟩, ⟨(.some 4), (.mv (.t 19)), .none⟩]) .ret)))
theorem t_ref15_ith : trF Try.prog qq 41 = some (20, [(.tmp 4)], c_ref15_ith) := by kernel_rfl
def c_ref15_within : AC := (.seq (.ops [⟨(.some 4), (.mv (.c (.sc (.bool .false)))), .none⟩]) (.seq (.ops [⟨(.some 5), (.mv (.t 0)), .none⟩, ⟨(.some 6), (.bin .geq (.t 5) (.c (.sc (.int .i64 1)))), .none⟩, ⟨(.some 7), (.mv (.t 6)), .none⟩, ⟨(.some 8), (.mv (.t 0)), (.some (7, .true))⟩, ⟨(.some 9), (.mv (.t 1)), (.some (7, .true))⟩, ⟨(.some 10), (.bin .leq (.t 8) (.t 9)), (.some (7, .true))⟩, ⟨(.some 11), (.pick (.t 7) (.t 10) (.c (.sc (.bool .false)))), .none⟩, ⟨(.some 4), (.mv (.t 11)), .none⟩]) .ret))
theorem t_ref15_within : trF Try.prog qq 50 = some (12, [(.tmp 4)], c_ref15_within) := by kernel_rfl
def c_ref15_done : AC := (.seq (.ops [⟨(.some 2), (.box (.t 0)), .none⟩, ⟨(.some 3), (.box (.t 1)), .none⟩, ⟨(.some 4), (.box (.c (.agg 92 [(.sc (.int .i64 0)), (.agg 38 [(.arr 16 1 [(.sc (.int .u32 0)), (.sc (.int .u32 0)), (.sc (.int .u32 0)), (.sc (.int .u32 0)), (.sc (.int .u32 0)), (.sc (.int .u32 0)), (.sc (.int .u32 0)), (.sc (.int .u32 0)), (.sc (.int .u32 0)), (.sc (.int .u32 0)), (.sc (.int .u32 0)), (.sc (.int .u32 0)), (.sc (.int .u32 0)), (.sc (.int .u32 0)), (.sc (.int .u32 0)), (.sc (.int .u32 0))]), (.arr 16 1 [(.sc (.int .i64 0)), (.sc (.int .i64 0)), (.sc (.int .i64 0)), (.sc (.int .i64 0)), (.sc (.int .i64 0)), (.sc (.int .i64 0)), (.sc (.int .i64 0)), (.sc (.int .i64 0)), (.sc (.int .i64 0)), (.sc (.int .i64 0)), (.sc (.int .i64 0)), (.sc (.int .i64 0)), (.sc (.int .i64 0)), (.sc (.int .i64 0)), (.sc (.int .i64 0)), (.sc (.int .i64 0))]), (.agg 3 [(.sc (.int .i64 0)), (.sc (.int .i64 0)), (.sc (.int .i64 0))]), (.sc (.int .i64 0)), (.sc (.bool .false)), (.sc (.int .i64 0))]), (.agg 38 [(.arr 16 1 [(.sc (.int .u32 0)), (.sc (.int .u32 0)), (.sc (.int .u32 0)), (.sc (.int .u32 0)), (.sc (.int .u32 0)), (.sc (.int .u32 0)), (.sc (.int .u32 0)), (.sc (.int .u32 0)), (.sc (.int .u32 0)), (.sc (.int .u32 0)), (.sc (.int .u32 0)), (.sc (.int .u32 0)), (.sc (.int .u32 0)), (.sc (.int .u32 0)), (.sc (.int .u32 0)), (.sc (.int .u32 0))]), (.arr 16 1 [(.sc (.int .i64 0)), (.sc (.int .i64 0)), (.sc (.int .i64 0)), (.sc (.int .i64 0)), (.sc (.int .i64 0)), (.sc (.int .i64 0)), (.sc (.int .i64 0)), (.sc (.int .i64 0)), (.sc (.int .i64 0)), (.sc (.int .i64 0)), (.sc (.int .i64 0)), (.sc (.int .i64 0)), (.sc (.int .i64 0)), (.sc (.int .i64 0)), (.sc (.int .i64 0)), (.sc (.int .i64 0))]), (.agg 3 [(.sc (.int .i64 0)), (.sc (.int .i64 0)), (.sc (.int .i64 0))]), (.sc (.int .i64 0)), (.sc (.bool .false)), (.sc (.int .i64 0))]), (.fro .true 0 []), (.fro .true 0 []), (.fro .true 0 []), (.fro .true 0 []), (.fro .true 0 []), (.fro .true 0 []), (.fro .true 0 []), (.fro .true 0 []), (.fro .true 0 []), (.agg 3 [(.sc (.int .i64 0)), (.sc (.int .i64 0)), (.sc (.int .i64 0))]), (.sc (.int .i64 0)), (.sc (.int .i64 0)), (.sc (.int .i64 0))]))), .none⟩]) (.seq (.seq (.ops [⟨(.some 7), (.fadr 0 0 1 (.t 3)), .none⟩, ⟨(.some 8), (.load .false 1 (.t 7)), .none⟩]) (.cond (.t 8) (.seq (.ops [⟨(.some 9), (.fadr 2 2 1 (.t 3)), .none⟩, ⟨(.some 10), (.load .false 1 (.t 9)), .none⟩, ⟨(.some 11), (.fadr 3 3 1 (.t 3)), .none⟩, ⟨(.some 12), (.load .false 1 (.t 11)), .none⟩, ⟨(.some 13), (.fadr 4 4 1 (.t 3)), .none⟩, ⟨(.some 14), (.load .false 1 (.t 13)), .none⟩, ⟨(.some 15), (.build 3 [(.sc (.int .i64 0)), (.sc (.int .i64 0)), (.sc (.int .u32 0))] [(0, (.t 10)), (1, (.t 12)), (2, (.t 14))]), .none⟩, ⟨(.some 5), (.box (.c (.agg 3 [(.sc (.int .i64 0)), (.sc (.int .i64 0)), (.sc (.int .u32 0))]))), .none⟩, ⟨.none, (.store 3 (.t 5) (.t 15)), .none⟩]) (.seq (.ops [⟨(.some 16), (.fadr 10 84 1 (.t 2)), .none⟩, ⟨(.some 17), (.load .false 1 (.t 16)), .none⟩, ⟨(.some 18), (.load .true 3 (.t 5)), .none⟩, ⟨(.some 19), (.call 61 [(.t 17), (.t 18)]), .none⟩, ⟨(.some 20), (.fadr 10 84 1 (.t 2)), .none⟩, ⟨.none, (.store 1 (.t 20) (.t 19)), .none⟩]) (.seq (.ops [⟨(.some 21), (.fadr 11 85 1 (.t 2)), .none⟩, ⟨(.some 22), (.load .false 1 (.t 21)), .none⟩, ⟨(.some 23), (.load .true 3 (.t 5)), .none⟩, ⟨(.some 24), (.bsl 3 [(.t 23)]), .none⟩, ⟨(.some 25), (.app 3 24 (.t 22) (.t 24)), .none⟩, ⟨(.some 26), (.fadr 11 85 1 (.t 2)), .none⟩, ⟨.none, (.store 1 (.t 26) (.t 25)), .none⟩]) (.seq (.seq (.ops [⟨(.some 27), (.fadr 8 82 1 (.t 2)), .none⟩, ⟨(.some 28), (.load .false 1 (.t 27)), .none⟩, ⟨(.some 29), (.len .none (.t 28)), .none⟩, ⟨(.some 30), (.bin .gtr (.t 29) (.c (.sc (.int .i64 0)))), .none⟩]) (.cond (.t 30) (.ops [⟨(.some 31), (.fadr 8 82 1 (.t 2)), .none⟩, ⟨(.some 32), (.load .false 1 (.t 31)), .none⟩, ⟨(.some 33), (.slice 5 (.t 32) (.some (.c (.sc (.int .i64 1)))) .none), .none⟩, ⟨(.some 34), (.app 5 32 (.c (.fro .true 0 [])) (.t 33)), .none⟩, ⟨(.some 35), (.fadr 8 82 1 (.t 2)), .none⟩, ⟨.none, (.store 1 (.t 35) (.t 34)), .none⟩]) .skip)) (.seq (.ops [⟨(.some 36), (.load .true 92 (.t 2)), .none⟩, ⟨.none, (.store 92 (.t 4) (.t 36)), .none⟩]) .ret))))) .skip)) (.seq (.ops [⟨(.some 6), (.mv (.c (.sc (.int .u32 0)))), .none⟩]) (.seq (.seq (.ops [⟨(.some 37), (.fadr 2 2 1 (.t 3)), .none⟩, ⟨(.some 38), (.load .false 1 (.t 37)), .none⟩, ⟨(.some 39), (.bin .geq (.t 38) (.c (.sc (.int .i64 0)))), .none⟩, ⟨(.some 40), (.mv (.t 39)), .none⟩, ⟨(.some 41), (.fadr 2 2 1 (.t 3)), (.some (40, .true))⟩, ⟨(.some 42), (.load .false 1 (.t 41)), (.some (40, .true))⟩, ⟨(.some 43), (.bin .lss (.t 42) (.c (.sc (.int .i64 4294967296)))), (.some (40, .true))⟩, ⟨(.some 44), (.pick (.t 40) (.t 43) (.c (.sc (.bool .false)))), .none⟩]) (.cond (.t 44) (.ops [⟨(.some 45), (.fadr 10 84 1 (.t 2)), .none⟩, ⟨(.some 46), (.load .false 1 (.t 45)), .none⟩, ⟨(.some 47), (.fadr 1 1 1 (.t 3)), .none⟩, ⟨(.some 48), (.load .false 1 (.t 47)), .none⟩, ⟨(.some 49), (.fadr 2 2 1 (.t 3)), .none⟩, ⟨(.some 50), (.load .false 1 (.t 49)), .none⟩, ⟨(.some 51), (.conv .u32 (.t 50)), .none⟩, ⟨(.some 52), (.call 32 [(.t 46), (.t 48), (.t 51)]), .none⟩, ⟨(.some 6), (.mv (.t 52)), .none⟩]) .skip)) (.seq (.block 0 (.seq (.ops [⟨(.some 54), (.fadr 6 6 1 (.t 3)), .none⟩, ⟨(.some 55), (.load .false 1 (.t 54)), .none⟩, ⟨(.some 56), (.bin .lss (.t 55) (.c (.sc (.int .i64 0)))), .none⟩, ⟨(.some 53), (.mv (.t 56)), .none⟩]) (.cond (.t 53) (.ops [⟨(.some 58), (.fadr 3 77 1 (.t 2)), .none⟩, ⟨(.some 59), (.load .false 1 (.t 58)), .none⟩, ⟨(.some 60), (.fadr 7 7 1 (.t 3)), .none⟩, ⟨(.some 61), (.load .false 1 (.t 60)), .none⟩, ⟨(.some 62), (.mv (.t 6)), .none⟩, ⟨(.some 63), (.call 62 [(.t 59), (.t 61), (.t 62)]), .none⟩, ⟨(.some 57), (.mv (.t 63)), .none⟩, ⟨(.some 64), (.ext (.t 57) 0), .none⟩, ⟨(.some 65), (.ext (.t 57) 1), .none⟩, ⟨(.some 66), (.fadr 3 77 1 (.t 2)), .none⟩, ⟨.none, (.store 1 (.t 66) (.t 64)), .none⟩]) (.seq (.ops [⟨(.some 68), (.fadr 6 6 1 (.t 3)), .none⟩, ⟨(.some 69), (.load .false 1 (.t 68)), .none⟩, ⟨(.some 70), (.bin .geq (.t 69) (.c (.sc (.int .i64 1)))), .none⟩, ⟨(.some 71), (.mv (.t 70)), .none⟩, ⟨(.some 72), (.fadr 6 6 1 (.t 3)), (.some (71, .true))⟩, ⟨(.some 73), (.load .false 1 (.t 72)), (.some (71, .true))⟩, ⟨(.some 74), (.bin .leq (.t 73) (.c (.sc (.int .i64 15)))), (.some (71, .true))⟩, ⟨(.some 75), (.pick (.t 71) (.t 74) (.c (.sc (.bool .false)))), .none⟩, ⟨(.some 67), (.mv (.t 75)), .none⟩]) (.cond (.t 67) (.seq (.ops [⟨(.some 76), (.fadr 6 6 1 (.t 3)), .none⟩, ⟨(.some 77), (.load .false 1 (.t 76)), .none⟩, ⟨(.some 78), (.mv (.t 6)), .none⟩, ⟨(.some 79), (.fadr 1 1 38 (.t 2)), .none⟩, ⟨(.some 80), (.fadr 0 0 16 (.t 79)), .none⟩, ⟨(.some 81), (.iadr (.some 16) 1 (.t 80) (.t 77)), .none⟩, ⟨.none, (.store 1 (.t 81) (.t 78)), .none⟩]) (.ops [⟨(.some 82), (.fadr 6 6 1 (.t 3)), .none⟩, ⟨(.some 83), (.load .false 1 (.t 82)), .none⟩, ⟨(.some 84), (.fadr 0 0 1 (.t 2)), .none⟩, ⟨(.some 85), (.load .false 1 (.t 84)), .none⟩, ⟨(.some 86), (.bin .add (.t 85) (.c (.sc (.int .i64 1)))), .none⟩, ⟨(.some 87), (.fadr 1 1 38 (.t 2)), .none⟩, ⟨(.some 88), (.fadr 1 16 16 (.t 87)), .none⟩, ⟨(.some 89), (.iadr (.some 16) 1 (.t 88) (.t 83)), .none⟩, ⟨.none, (.store 1 (.t 89) (.t 86)), .none⟩])) .skip))))) (.seq (.ops [⟨(.some 90), (.load .true 92 (.t 2)), .none⟩, ⟨.none, (.store 92 (.t 4) (.t 90)), .none⟩]) .ret))))))
theorem t_ref15_done : trF Try.prog qq 51 = some (91, [(.cell 4 .true 92)], c_ref15_done) := by kernel_rfl
def c_ref15_Fill_l1 : AC := (.seq (.seq (.ops [⟨(.some 11), (.mv (.t 8)), .none⟩, ⟨(.some 12), (.mv (.t 0)), .none⟩, ⟨(.some 13), (.len .none (.t 12)), .none⟩, ⟨(.some 14), (.bin .lss (.t 11) (.t 13)), .none⟩]) (.cond (.t 14) .skip (.exit 0))) (.seq (.block 1 (.seq (.ops [⟨(.some 17), (.mv (.t 0)), .none⟩, ⟨(.some 18), (.mv (.t 8)), .none⟩, ⟨(.some 19), (.iadr .none 3 (.t 17) (.t 18)), .none⟩, ⟨(.some 20), (.fadr 0 0 1 (.t 19)), .none⟩, ⟨(.some 21), (.load .false 1 (.t 20)), .none⟩, ⟨(.some 22), (.mv (.t 1)), .none⟩, ⟨(.some 23), (.bin .eql (.t 21) (.t 22)), .none⟩, ⟨(.some 24), (.mv (.t 23)), .none⟩, ⟨(.some 25), (.mv (.t 0)), (.some (24, .true))⟩, ⟨(.some 26), (.mv (.t 8)), (.some (24, .true))⟩, ⟨(.some 27), (.iadr .none 3 (.t 25) (.t 26)), (.some (24, .true))⟩, ⟨(.some 28), (.fadr 1 1 1 (.t 27)), (.some (24, .true))⟩, ⟨(.some 29), (.load .false 1 (.t 28)), (.some (24, .true))⟩, ⟨(.some 30), (.un .not (.t 29)), (.some (24, .true))⟩, ⟨(.some 31), (.pick (.t 24) (.t 30) (.c (.sc (.bool .false)))), .none⟩]) (.cond (.t 31) (.seq (.ops [⟨(.some 32), (.mv (.t 0)), .none⟩, ⟨(.some 33), (.mv (.t 8)), .none⟩, ⟨(.some 34), (.iadr .none 3 (.t 32) (.t 33)), .none⟩, ⟨(.some 35), (.fadr 1 1 1 (.t 34)), .none⟩, ⟨.none, (.store 1 (.t 35) (.c (.sc (.bool .true)))), .none⟩]) (.seq (.ops [⟨(.some 36), (.mv (.t 0)), .none⟩, ⟨(.some 37), (.mv (.t 8)), .none⟩, ⟨(.some 38), (.mv (.t 2)), .none⟩, ⟨(.some 39), (.iadr .none 3 (.t 36) (.t 37)), .none⟩, ⟨(.some 40), (.fadr 2 2 1 (.t 39)), .none⟩, ⟨.none, (.store 1 (.t 40) (.t 38)), .none⟩]) (.seq (.ops [⟨(.some 41), (.mv (.t 0)), .none⟩, ⟨(.some 6), (.mv (.t 41)), .none⟩, ⟨(.some 7), (.mv (.c (.sc (.bool .true)))), .none⟩]) .ret))) .skip))) (.ops [⟨(.some 15), (.mv (.t 8)), .none⟩, ⟨(.some 16), (.bin .add (.t 15) (.c (.sc (.int .i64 1)))), .none⟩, ⟨(.some 8), (.mv (.t 16)), .none⟩])))
def c_ref15_Fill_p1 : AC := (.seq (.ops [⟨(.some 42), (.mv (.t 0)), .none⟩, ⟨(.some 6), (.mv (.t 42)), .none⟩, ⟨(.some 7), (.mv (.c (.sc (.bool .false)))), .none⟩]) .ret)
def c_ref15_Fill : AC := (.seq (.ops [⟨(.some 6), (.mv (.c (.fro .true 0 []))), .none⟩, ⟨(.some 7), (.mv (.c (.sc (.bool .false)))), .none⟩]) (.seq (.ops [⟨(.some 9), (.mv (.t 0)), .none⟩, ⟨(.some 10), (.call 39 [(.t 9)]), .none⟩, ⟨(.some 0), (.mv (.t 10)), .none⟩]) (.seq (.seq (.ops [⟨(.some 8), (.mv (.c (.sc (.int .i64 0)))), .none⟩]) (.block 0 (.loop c_ref15_Fill_l1))) c_ref15_Fill_p1)))
theorem t_ref15_Fill : trF Try.prog qq 62 = some (43, [(.tmp 6), (.tmp 7)], c_ref15_Fill) := by kernel_rfl
/-- The functions of ref15. -/
def cl_ref15 : CodeL := [(16, 199, [(.tmp 4)], c_ref15_SameState), (18, 40, [(.cell 2 .true 92)], c_ref15_Copy), (23, 15, [(.tmp 4)], c_ref15_Bank), (25, 16, [(.tmp 6)], c_ref15_Lat), (27, 15, [(.tmp 6)], c_ref15_Pick), (29, 135, [(.cell 6 .true 92)], c_ref15_Advance), (35, 26, [(.tmp 4)], c_ref15_SameWords), (36, 26, [(.tmp 4)], c_ref15_SameBools), (39, 5, [(.tmp 2)], c_ref15_slots), (41, 20, [(.tmp 4)], c_ref15_ith), (50, 12, [(.tmp 4)], c_ref15_within), (51, 91, [(.cell 4 .true 92)], c_ref15_done), (62, 43, [(.tmp 6), (.tmp 7)], c_ref15_Fill)]
theorem clok_ref15 : AllL (fun p => trF Try.prog qq p.1 = some p.2) cl_ref15 := ⟨t_ref15_SameState, t_ref15_Copy, t_ref15_Bank, t_ref15_Lat, t_ref15_Pick, t_ref15_Advance, t_ref15_SameWords, t_ref15_SameBools, t_ref15_slots, t_ref15_ith, t_ref15_within, t_ref15_done, t_ref15_Fill, trivial⟩
/-- What is told of those that only make memory. -/
def gl_ref15 : SgL := [(39, makeS 3 16)]
theorem glok_ref15 : AllL (SgOk Try.prog qq) gl_ref15 := ⟨makeS_ok fun x es0 ts h1 h2 h3 => makes_copy mix t_ref15_slots (by decide) x es0 ts h1 h2 h3, trivial⟩
end Go.Proofs.Ytbemlndjdbopeaa

/- Abstract code of the functions of ref21: printed by a program from what the given translation yields. -/
namespace Go.Proofs.Ytbemlndjdbopeaa
open Go.Ra
def c_ref21_Can_l1 : AC := (.seq (.seq (.ops [⟨(.some 54), (.mv (.t 6)), .none⟩, ⟨(.some 55), (.fadr 9 83 1 (.t 3)), .none⟩, ⟨(.some 56), (.load .false 1 (.t 55)), .none⟩, ⟨(.some 57), (.len .none (.t 56)), .none⟩, ⟨(.some 58), (.bin .lss (.t 54) (.t 57)), .none⟩]) (.cond (.t 58) .skip (.exit 0))) (.seq (.block 1 (.seq (.ops [⟨(.some 61), (.fadr 9 83 1 (.t 3)), .none⟩, ⟨(.some 62), (.load .false 1 (.t 61)), .none⟩, ⟨(.some 63), (.mv (.t 6)), .none⟩, ⟨(.some 64), (.iadr .none 8 (.t 62) (.t 63)), .none⟩, ⟨(.some 65), (.load .true 8 (.t 64)), .none⟩, ⟨(.some 7), (.box (.c (.agg 8 [(.sc (.bool .false)), (.sc (.int .i64 0)), (.sc (.int .i64 0)), (.sc (.int .i64 0)), (.sc (.int .u32 0)), (.sc (.int .i64 0)), (.sc (.int .i64 0)), (.sc (.int .i64 0))]))), .none⟩, ⟨.none, (.store 8 (.t 7) (.t 65)), .none⟩]) (.seq (.ops [⟨(.some 66), (.fadr 0 0 1 (.t 7)), .none⟩, ⟨(.some 67), (.load .false 1 (.t 66)), .none⟩, ⟨(.some 68), (.un .not (.t 67)), .none⟩, ⟨(.some 69), (.mv (.t 68)), .none⟩, ⟨(.some 70), (.fadr 2 2 1 (.t 7)), (.some (69, .true))⟩, ⟨(.some 71), (.load .false 1 (.t 70)), (.some (69, .true))⟩, ⟨(.some 72), (.fadr 3 3 1 (.t 7)), (.some (69, .true))⟩, ⟨(.some 73), (.load .false 1 (.t 72)), (.some (69, .true))⟩, ⟨(.some 74), (.fadr 0 0 1 (.t 5)), (.some (69, .true))⟩, ⟨(.some 75), (.load .false 1 (.t 74)), (.some (69, .true))⟩, ⟨(.some 76), (.fadr 1 1 1 (.t 5)), (.some (69, .true))⟩, ⟨(.some 77), (.load .false 1 (.t 76)), (.some (69, .true))⟩, ⟨(.some 78), (.call 34 [(.t 71), (.t 73), (.t 75), (.t 77)]), (.some (69, .true))⟩, ⟨(.some 79), (.pick (.t 69) (.t 78) (.c (.sc (.bool .false)))), .none⟩]) (.cond (.t 79) (.seq (.ops [⟨(.some 4), (.mv (.c (.sc (.bool .false)))), .none⟩]) .ret) .skip)))) (.ops [⟨(.some 59), (.mv (.t 6)), .none⟩, ⟨(.some 60), (.bin .add (.t 59) (.c (.sc (.int .i64 1)))), .none⟩, ⟨(.some 6), (.mv (.t 60)), .none⟩])))
def c_ref21_Can_p1 : AC := (.seq (.ops [⟨(.some 4), (.mv (.c (.sc (.bool .true)))), .none⟩]) .ret)
def c_ref21_Can : AC := (.seq (.ops [⟨(.some 2), (.box (.t 0)), .none⟩, ⟨(.some 3), (.box (.t 1)), .none⟩, ⟨(.some 4), (.mv (.c (.sc (.bool .false)))), .none⟩]) (.seq (.seq (.ops [⟨(.some 8), (.fadr 8 82 1 (.t 3)), .none⟩, ⟨(.some 9), (.load .false 1 (.t 8)), .none⟩, ⟨(.some 10), (.len .none (.t 9)), .none⟩, ⟨(.some 11), (.bin .eql (.t 10) (.c (.sc (.int .i64 0)))), .none⟩, ⟨(.some 12), (.mv (.t 11)), .none⟩, ⟨(.some 13), (.fadr 8 82 1 (.t 3)), (.some (12, .false))⟩, ⟨(.some 14), (.load .false 1 (.t 13)), (.some (12, .false))⟩, ⟨(.some 15), (.iadr .none 5 (.t 14) (.c (.sc (.int .i64 0)))), (.some (12, .false))⟩, ⟨(.some 16), (.fadr 3 3 1 (.t 15)), (.some (12, .false))⟩, ⟨(.some 17), (.load .false 1 (.t 16)), (.some (12, .false))⟩, ⟨(.some 18), (.pick (.t 12) (.c (.sc (.bool .true))) (.t 17)), .none⟩, ⟨(.some 19), (.mv (.t 18)), .none⟩, ⟨(.some 20), (.fadr 4 78 1 (.t 3)), (.some (19, .false))⟩, ⟨(.some 21), (.load .false 1 (.t 20)), (.some (19, .false))⟩, ⟨(.some 22), (.len .none (.t 21)), (.some (19, .false))⟩, ⟨(.some 23), (.bin .eql (.t 22) (.c (.sc (.int .i64 0)))), (.some (19, .false))⟩, ⟨(.some 24), (.pick (.t 19) (.c (.sc (.bool .true))) (.t 23)), .none⟩, ⟨(.some 25), (.mv (.t 24)), .none⟩, ⟨(.some 26), (.fadr 9 83 1 (.t 3)), (.some (25, .false))⟩, ⟨(.some 27), (.load .false 1 (.t 26)), (.some (25, .false))⟩, ⟨(.some 28), (.len .none (.t 27)), (.some (25, .false))⟩, ⟨(.some 29), (.fadr 7 7 1 (.t 2)), (.some (25, .false))⟩, ⟨(.some 30), (.load .false 1 (.t 29)), (.some (25, .false))⟩, ⟨(.some 31), (.bin .geq (.t 28) (.t 30)), (.some (25, .false))⟩, ⟨(.some 32), (.pick (.t 25) (.c (.sc (.bool .true))) (.t 31)), .none⟩, ⟨(.some 33), (.mv (.t 32)), .none⟩, ⟨(.some 34), (.fadr 12 86 3 (.t 3)), (.some (33, .false))⟩, ⟨(.some 35), (.fadr 0 0 1 (.t 34)), (.some (33, .false))⟩, ⟨(.some 36), (.load .false 1 (.t 35)), (.some (33, .false))⟩, ⟨(.some 37), (.bin .neq (.t 36) (.c (.sc (.int .i64 0)))), (.some (33, .false))⟩, ⟨(.some 38), (.mv (.t 37)), (.some (33, .false))⟩, ⟨(.some 39), (.fadr 8 82 1 (.t 3)), (.some (38, .true))⟩, ⟨(.some 40), (.load .false 1 (.t 39)), (.some (38, .true))⟩, ⟨(.some 41), (.iadr .none 5 (.t 40) (.c (.sc (.int .i64 0)))), (.some (38, .true))⟩, ⟨(.some 42), (.fadr 2 2 1 (.t 41)), (.some (38, .true))⟩, ⟨(.some 43), (.load .false 1 (.t 42)), (.some (38, .true))⟩, ⟨(.some 44), (.fadr 12 86 3 (.t 3)), (.some (38, .true))⟩, ⟨(.some 45), (.fadr 1 1 1 (.t 44)), (.some (38, .true))⟩, ⟨(.some 46), (.load .false 1 (.t 45)), (.some (38, .true))⟩, ⟨(.some 47), (.bin .geq (.t 43) (.t 46)), (.some (38, .true))⟩, ⟨(.some 48), (.pick (.t 38) (.t 47) (.c (.sc (.bool .false)))), (.some (33, .false))⟩, ⟨(.some 49), (.pick (.t 33) (.c (.sc (.bool .true))) (.t 48)), .none⟩]) (.cond (.t 49) (.seq (.ops [⟨(.some 4), (.mv (.c (.sc (.bool .false)))), .none⟩]) .ret) .skip)) (.seq (.ops [⟨(.some 50), (.fadr 8 82 1 (.t 3)), .none⟩, ⟨(.some 51), (.load .false 1 (.t 50)), .none⟩, ⟨(.some 52), (.iadr .none 5 (.t 51) (.c (.sc (.int .i64 0)))), .none⟩, ⟨(.some 53), (.load .true 5 (.t 52)), .none⟩, ⟨(.some 5), (.box (.c (.agg 5 [(.sc (.int .i64 0)), (.sc (.int .i64 0)), (.sc (.int .i64 0)), (.sc (.bool .false)), (.sc (.int .u32 0))]))), .none⟩, ⟨.none, (.store 5 (.t 5) (.t 53)), .none⟩]) (.seq (.seq (.ops [⟨(.some 6), (.mv (.c (.sc (.int .i64 0)))), .none⟩]) (.block 0 (.loop c_ref21_Can_l1))) c_ref21_Can_p1))))
theorem t_ref21_Can : trF Try.prog qq 15 = some (80, [(.tmp 4)], c_ref21_Can) := by kernel_rfl
def c_ref21_Send : AC := (.seq (.ops [⟨(.some 2), (.box (.t 0)), .none⟩, ⟨(.some 3), (.box (.t 1)), .none⟩, ⟨(.some 4), (.box (.c (.agg 92 [(.sc (.int .i64 0)), (.agg 38 [(.arr 16 1 [(.sc (.int .u32 0)), (.sc (.int .u32 0)), (.sc (.int .u32 0)), (.sc (.int .u32 0)), (.sc (.int .u32 0)), (.sc (.int .u32 0)), (.sc (.int .u32 0)), (.sc (.int .u32 0)), (.sc (.int .u32 0)), (.sc (.int .u32 0)), (.sc (.int .u32 0)), (.sc (.int .u32 0)), (.sc (.int .u32 0)), (.sc (.int .u32 0)), (.sc (.int .u32 0)), (.sc (.int .u32 0))]), (.arr 16 1 [(.sc (.int .i64 0)), (.sc (.int .i64 0)), (.sc (.int .i64 0)), (.sc (.int .i64 0)), (.sc (.int .i64 0)), (.sc (.int .i64 0)), (.sc (.int .i64 0)), (.sc (.int .i64 0)), (.sc (.int .i64 0)), (.sc (.int .i64 0)), (.sc (.int .i64 0)), (.sc (.int .i64 0)), (.sc (.int .i64 0)), (.sc (.int .i64 0)), (.sc (.int .i64 0)), (.sc (.int .i64 0))]), (.agg 3 [(.sc (.int .i64 0)), (.sc (.int .i64 0)), (.sc (.int .i64 0))]), (.sc (.int .i64 0)), (.sc (.bool .false)), (.sc (.int .i64 0))]), (.agg 38 [(.arr 16 1 [(.sc (.int .u32 0)), (.sc (.int .u32 0)), (.sc (.int .u32 0)), (.sc (.int .u32 0)), (.sc (.int .u32 0)), (.sc (.int .u32 0)), (.sc (.int .u32 0)), (.sc (.int .u32 0)), (.sc (.int .u32 0)), (.sc (.int .u32 0)), (.sc (.int .u32 0)), (.sc (.int .u32 0)), (.sc (.int .u32 0)), (.sc (.int .u32 0)), (.sc (.int .u32 0)), (.sc (.int .u32 0))]), (.arr 16 1 [(.sc (.int .i64 0)), (.sc (.int .i64 0)), (.sc (.int .i64 0)), (.sc (.int .i64 0)), (.sc (.int .i64 0)), (.sc (.int .i64 0)), (.sc (.int .i64 0)), (.sc (.int .i64 0)), (.sc (.int .i64 0)), (.sc (.int .i64 0)), (.sc (.int .i64 0)), (.sc (.int .i64 0)), (.sc (.int .i64 0)), (.sc (.int .i64 0)), (.sc (.int .i64 0)), (.sc (.int .i64 0))]), (.agg 3 [(.sc (.int .i64 0)), (.sc (.int .i64 0)), (.sc (.int .i64 0))]), (.sc (.int .i64 0)), (.sc (.bool .false)), (.sc (.int .i64 0))]), (.fro .true 0 []), (.fro .true 0 []), (.fro .true 0 []), (.fro .true 0 []), (.fro .true 0 []), (.fro .true 0 []), (.fro .true 0 []), (.fro .true 0 []), (.fro .true 0 []), (.agg 3 [(.sc (.int .i64 0)), (.sc (.int .i64 0)), (.sc (.int .i64 0))]), (.sc (.int .i64 0)), (.sc (.int .i64 0)), (.sc (.int .i64 0))]))), .none⟩]) (.seq (.ops [⟨(.some 7), (.load .true 92 (.t 3)), .none⟩, ⟨(.some 8), (.call 18 [(.t 7)]), .none⟩, ⟨.none, (.store 92 (.t 3) (.t 8)), .none⟩]) (.seq (.seq (.ops [⟨(.some 9), (.load .true 12 (.t 2)), .none⟩, ⟨(.some 10), (.load .true 92 (.t 3)), .none⟩, ⟨(.some 11), (.call 15 [(.t 9), (.t 10)]), .none⟩, ⟨(.some 12), (.un .not (.t 11)), .none⟩]) (.cond (.t 12) (.seq (.ops [⟨(.some 13), (.load .true 92 (.t 3)), .none⟩, ⟨.none, (.store 92 (.t 4) (.t 13)), .none⟩]) .ret) .skip)) (.seq (.ops [⟨(.some 14), (.fadr 8 82 1 (.t 3)), .none⟩, ⟨(.some 15), (.load .false 1 (.t 14)), .none⟩, ⟨(.some 16), (.iadr .none 5 (.t 15) (.c (.sc (.int .i64 0)))), .none⟩, ⟨(.some 5), (.mv (.t 16)), .none⟩]) (.seq (.ops [⟨(.some 17), (.mv (.t 5)), .none⟩, ⟨(.some 18), (.nilck (.t 17)), .none⟩, ⟨(.some 19), (.fadr 3 3 1 (.t 18)), .none⟩, ⟨.none, (.store 1 (.t 19) (.c (.sc (.bool .true)))), .none⟩]) (.seq (.ops [⟨(.some 20), (.mv (.t 5)), .none⟩, ⟨(.some 21), (.fadr 4 78 1 (.t 3)), .none⟩, ⟨(.some 22), (.load .false 1 (.t 21)), .none⟩, ⟨(.some 23), (.iadr .none 1 (.t 22) (.c (.sc (.int .i64 0)))), .none⟩, ⟨(.some 24), (.load .false 1 (.t 23)), .none⟩, ⟨(.some 25), (.mv (.t 5)), .none⟩, ⟨(.some 26), (.nilck (.t 25)), .none⟩, ⟨(.some 27), (.fadr 1 1 1 (.t 26)), .none⟩, ⟨(.some 28), (.load .false 1 (.t 27)), .none⟩, ⟨(.some 29), (.call 20 [(.t 24), (.t 28)]), .none⟩, ⟨(.some 30), (.nilck (.t 20)), .none⟩, ⟨(.some 31), (.fadr 4 4 1 (.t 30)), .none⟩, ⟨.none, (.store 1 (.t 31) (.t 29)), .none⟩]) (.seq (.ops [⟨(.some 32), (.fadr 4 78 1 (.t 3)), .none⟩, ⟨(.some 33), (.load .false 1 (.t 32)), .none⟩, ⟨(.some 34), (.slice 1 (.t 33) (.some (.c (.sc (.int .i64 1)))) .none), .none⟩, ⟨(.some 35), (.fadr 4 78 1 (.t 3)), .none⟩, ⟨.none, (.store 1 (.t 35) (.t 34)), .none⟩]) (.seq (.ops [⟨(.some 6), (.mv (.c (.sc (.int .i64 31)))), .none⟩]) (.seq (.seq (.ops [⟨(.some 36), (.mv (.t 5)), .none⟩, ⟨(.some 37), (.nilck (.t 36)), .none⟩, ⟨(.some 38), (.fadr 1 1 1 (.t 37)), .none⟩, ⟨(.some 39), (.load .false 1 (.t 38)), .none⟩]) (.block 0 (.seq (.ops [⟨(.some 41), (.bin .eql (.t 39) (.c (.sc (.int .i64 2)))), .none⟩, ⟨(.some 40), (.mv (.t 41)), .none⟩]) (.cond (.t 40) (.ops [⟨(.some 6), (.mv (.c (.sc (.int .i64 32)))), .none⟩]) (.seq (.ops [⟨(.some 43), (.bin .eql (.t 39) (.c (.sc (.int .i64 1)))), .none⟩, ⟨(.some 42), (.mv (.t 43)), .none⟩]) (.cond (.t 42) (.ops [⟨(.some 6), (.mv (.c (.sc (.int .i64 33)))), .none⟩]) .skip)))))) (.seq (.ops [⟨(.some 44), (.fadr 9 83 1 (.t 3)), .none⟩, ⟨(.some 45), (.load .false 1 (.t 44)), .none⟩, ⟨(.some 46), (.mv (.t 6)), .none⟩, ⟨(.some 47), (.mv (.t 5)), .none⟩, ⟨(.some 48), (.nilck (.t 47)), .none⟩, ⟨(.some 49), (.fadr 0 0 1 (.t 48)), .none⟩, ⟨(.some 50), (.load .false 1 (.t 49)), .none⟩, ⟨(.some 51), (.mv (.t 5)), .none⟩, ⟨(.some 52), (.nilck (.t 51)), .none⟩, ⟨(.some 53), (.fadr 1 1 1 (.t 52)), .none⟩, ⟨(.some 54), (.load .false 1 (.t 53)), .none⟩, ⟨(.some 55), (.mv (.t 5)), .none⟩, ⟨(.some 56), (.nilck (.t 55)), .none⟩, ⟨(.some 57), (.fadr 4 4 1 (.t 56)), .none⟩, ⟨(.some 58), (.load .false 1 (.t 57)), .none⟩, ⟨(.some 59), (.build 8 [(.sc (.bool .false)), (.sc (.int .i64 0)), (.sc (.int .i64 0)), (.sc (.int .i64 0)), (.sc (.int .u32 0)), (.sc (.int .i64 0)), (.sc (.int .i64 0)), (.sc (.int .i64 0))] [(0, (.c (.sc (.bool .true)))), (1, (.t 46)), (2, (.t 50)), (3, (.t 54)), (4, (.t 58))]), .none⟩, ⟨(.some 60), (.bsl 8 [(.t 59)]), .none⟩, ⟨(.some 61), (.app 8 64 (.t 45) (.t 60)), .none⟩, ⟨(.some 62), (.fadr 9 83 1 (.t 3)), .none⟩, ⟨.none, (.store 1 (.t 62) (.t 61)), .none⟩]) (.seq (.ops [⟨(.some 63), (.load .true 92 (.t 3)), .none⟩, ⟨.none, (.store 92 (.t 4) (.t 63)), .none⟩]) .ret)))))))))))
theorem t_ref21_Send : trF Try.prog qq 19 = some (64, [(.cell 4 .true 92)], c_ref21_Send) := by kernel_rfl
/-- The functions of ref21. -/
def cl_ref21 : CodeL := [(15, 80, [(.tmp 4)], c_ref21_Can), (19, 64, [(.cell 4 .true 92)], c_ref21_Send)]
theorem clok_ref21 : AllL (fun p => trF Try.prog qq p.1 = some p.2) cl_ref21 := ⟨t_ref21_Can, t_ref21_Send, trivial⟩
end Go.Proofs.Ytbemlndjdbopeaa

/- Abstract code of the functions of saq: printed by a program from what the given translation yields. -/
namespace Go.Proofs.Ytbemlndjdbopeaa
open Go.Ra
def c_saq_Mask : AC := (.seq (.ops [⟨(.some 4), (.mv (.c (.sc (.int .u32 0)))), .none⟩]) (.seq (.seq (.ops [⟨(.some 5), (.mv (.t 1)), .none⟩]) (.block 0 (.seq (.ops [⟨(.some 7), (.bin .eql (.t 5) (.c (.sc (.int .i64 1)))), .none⟩, ⟨(.some 6), (.mv (.t 7)), .none⟩]) (.cond (.t 6) (.seq (.ops [⟨(.some 8), (.mv (.t 0)), .none⟩, ⟨(.some 9), (.bin .and (.t 8) (.c (.sc (.int .u32 255)))), .none⟩, ⟨(.some 4), (.mv (.t 9)), .none⟩]) .ret) (.seq (.ops [⟨(.some 11), (.bin .eql (.t 5) (.c (.sc (.int .i64 2)))), .none⟩, ⟨(.some 10), (.mv (.t 11)), .none⟩]) (.cond (.t 10) (.seq (.ops [⟨(.some 12), (.mv (.t 0)), .none⟩, ⟨(.some 13), (.bin .and (.t 12) (.c (.sc (.int .u32 65535)))), .none⟩, ⟨(.some 4), (.mv (.t 13)), .none⟩]) .ret) (.seq (.ops [⟨(.some 15), (.bin .eql (.t 5) (.c (.sc (.int .i64 4)))), .none⟩, ⟨(.some 14), (.mv (.t 15)), .none⟩]) (.cond (.t 14) (.seq (.ops [⟨(.some 16), (.mv (.t 0)), .none⟩, ⟨(.some 4), (.mv (.t 16)), .none⟩]) .ret) .skip)))))))) (.seq (.ops [⟨(.some 4), (.mv (.c (.sc (.int .u32 0)))), .none⟩]) .ret)))
theorem t_saq_Mask : trF Try.prog qq 57 = some (17, [(.tmp 4)], c_saq_Mask) := by kernel_rfl
/-- The functions of saq. -/
def cl_saq : CodeL := [(57, 17, [(.tmp 4)], c_saq_Mask)]
theorem clok_saq : AllL (fun p => trF Try.prog qq p.1 = some p.2) cl_saq := ⟨t_saq_Mask, trivial⟩
end Go.Proofs.Ytbemlndjdbopeaa

/- Abstract code of the functions of slots: printed by a program from what the given translation yields. -/
namespace Go.Proofs.Ytbemlndjdbopeaa
open Go.Ra
def c_slots_Fill : AC := (.seq (.ops [⟨(.some 4), (.box (.t 1)), .none⟩, ⟨(.some 6), (.mv (.c (.fro .true 0 []))), .none⟩, ⟨(.some 7), (.mv (.c (.sc (.bool .false)))), .none⟩]) (.seq (.ops [⟨(.some 10), (.mv (.t 0)), .none⟩, ⟨(.some 11), (.call 42 [(.t 10)]), .none⟩, ⟨(.some 8), (.mv (.t 11)), .none⟩]) (.seq (.ops [⟨(.some 12), (.mv (.t 8)), .none⟩, ⟨(.some 13), (.mkf 76 [(.t 4)]), .none⟩, ⟨(.some 14), (.call 75 [(.t 12), (.t 13)]), .none⟩, ⟨(.some 9), (.mv (.t 14)), .none⟩]) (.seq (.seq (.ops [⟨(.some 15), (.mv (.t 9)), .none⟩, ⟨(.some 16), (.bin .lss (.t 15) (.c (.sc (.int .i64 0)))), .none⟩]) (.cond (.t 16) (.seq (.ops [⟨(.some 17), (.mv (.t 8)), .none⟩, ⟨(.some 6), (.mv (.t 17)), .none⟩, ⟨(.some 7), (.mv (.c (.sc (.bool .false)))), .none⟩]) .ret) .skip)) (.seq (.ops [⟨(.some 18), (.mv (.t 8)), .none⟩, ⟨(.some 19), (.mv (.t 9)), .none⟩, ⟨(.some 20), (.mv (.t 8)), .none⟩, ⟨(.some 21), (.mv (.t 9)), .none⟩, ⟨(.some 22), (.mv (.t 2)), .none⟩, ⟨(.some 23), (.iadr .none 3 (.t 18) (.t 19)), .none⟩, ⟨(.some 24), (.fadr 1 1 1 (.t 23)), .none⟩, ⟨.none, (.store 1 (.t 24) (.c (.sc (.bool .true)))), .none⟩, ⟨(.some 25), (.iadr .none 3 (.t 20) (.t 21)), .none⟩, ⟨(.some 26), (.fadr 2 2 1 (.t 25)), .none⟩, ⟨.none, (.store 1 (.t 26) (.t 22)), .none⟩]) (.seq (.ops [⟨(.some 27), (.mv (.t 8)), .none⟩, ⟨(.some 6), (.mv (.t 27)), .none⟩, ⟨(.some 7), (.mv (.c (.sc (.bool .true)))), .none⟩]) .ret))))))
theorem t_slots_Fill : trF Try.prog qq 70 = some (28, [(.tmp 6), (.tmp 7)], c_slots_Fill) := by kernel_rfl
def c_slots_Fill_1 : AC := (.seq (.ops [⟨(.some 2), (.box (.t 0)), .none⟩, ⟨(.some 3), (.mv (.c (.sc (.bool .false)))), .none⟩]) (.seq (.ops [⟨(.some 4), (.fadr 0 0 1 (.t 2)), .none⟩, ⟨(.some 5), (.load .false 1 (.t 4)), .none⟩, ⟨(.some 6), (.load .false 1 (.t 1)), .none⟩, ⟨(.some 7), (.bin .eql (.t 5) (.t 6)), .none⟩, ⟨(.some 8), (.mv (.t 7)), .none⟩, ⟨(.some 9), (.fadr 1 1 1 (.t 2)), (.some (8, .true))⟩, ⟨(.some 10), (.load .false 1 (.t 9)), (.some (8, .true))⟩, ⟨(.some 11), (.un .not (.t 10)), (.some (8, .true))⟩, ⟨(.some 12), (.pick (.t 8) (.t 11) (.c (.sc (.bool .false)))), .none⟩, ⟨(.some 3), (.mv (.t 12)), .none⟩]) .ret))
theorem t_slots_Fill_1 : trF Try.prog qq 76 = some (13, [(.tmp 3)], c_slots_Fill_1) := by kernel_rfl
/-- The functions of slots. -/
def cl_slots : CodeL := [(70, 28, [(.tmp 6), (.tmp 7)], c_slots_Fill), (76, 13, [(.tmp 3)], c_slots_Fill_1)]
theorem clok_slots : AllL (fun p => trF Try.prog qq p.1 = some p.2) cl_slots := ⟨t_slots_Fill, t_slots_Fill_1, trivial⟩
end Go.Proofs.Ytbemlndjdbopeaa

/- Abstract code of the functions of state: printed by a program from what the given translation yields. -/
namespace Go.Proofs.Ytbemlndjdbopeaa
open Go.Ra
def c_state_Clone : AC := (.seq (.ops [⟨(.some 1), (.box (.t 0)), .none⟩, ⟨(.some 2), (.box (.c (.agg 92 [(.sc (.int .i64 0)), (.agg 38 [(.arr 16 1 [(.sc (.int .u32 0)), (.sc (.int .u32 0)), (.sc (.int .u32 0)), (.sc (.int .u32 0)), (.sc (.int .u32 0)), (.sc (.int .u32 0)), (.sc (.int .u32 0)), (.sc (.int .u32 0)), (.sc (.int .u32 0)), (.sc (.int .u32 0)), (.sc (.int .u32 0)), (.sc (.int .u32 0)), (.sc (.int .u32 0)), (.sc (.int .u32 0)), (.sc (.int .u32 0)), (.sc (.int .u32 0))]), (.arr 16 1 [(.sc (.int .i64 0)), (.sc (.int .i64 0)), (.sc (.int .i64 0)), (.sc (.int .i64 0)), (.sc (.int .i64 0)), (.sc (.int .i64 0)), (.sc (.int .i64 0)), (.sc (.int .i64 0)), (.sc (.int .i64 0)), (.sc (.int .i64 0)), (.sc (.int .i64 0)), (.sc (.int .i64 0)), (.sc (.int .i64 0)), (.sc (.int .i64 0)), (.sc (.int .i64 0)), (.sc (.int .i64 0))]), (.agg 3 [(.sc (.int .i64 0)), (.sc (.int .i64 0)), (.sc (.int .i64 0))]), (.sc (.int .i64 0)), (.sc (.bool .false)), (.sc (.int .i64 0))]), (.agg 38 [(.arr 16 1 [(.sc (.int .u32 0)), (.sc (.int .u32 0)), (.sc (.int .u32 0)), (.sc (.int .u32 0)), (.sc (.int .u32 0)), (.sc (.int .u32 0)), (.sc (.int .u32 0)), (.sc (.int .u32 0)), (.sc (.int .u32 0)), (.sc (.int .u32 0)), (.sc (.int .u32 0)), (.sc (.int .u32 0)), (.sc (.int .u32 0)), (.sc (.int .u32 0)), (.sc (.int .u32 0)), (.sc (.int .u32 0))]), (.arr 16 1 [(.sc (.int .i64 0)), (.sc (.int .i64 0)), (.sc (.int .i64 0)), (.sc (.int .i64 0)), (.sc (.int .i64 0)), (.sc (.int .i64 0)), (.sc (.int .i64 0)), (.sc (.int .i64 0)), (.sc (.int .i64 0)), (.sc (.int .i64 0)), (.sc (.int .i64 0)), (.sc (.int .i64 0)), (.sc (.int .i64 0)), (.sc (.int .i64 0)), (.sc (.int .i64 0)), (.sc (.int .i64 0))]), (.agg 3 [(.sc (.int .i64 0)), (.sc (.int .i64 0)), (.sc (.int .i64 0))]), (.sc (.int .i64 0)), (.sc (.bool .false)), (.sc (.int .i64 0))]), (.fro .true 0 []), (.fro .true 0 []), (.fro .true 0 []), (.fro .true 0 []), (.fro .true 0 []), (.fro .true 0 []), (.fro .true 0 []), (.fro .true 0 []), (.fro .true 0 []), (.agg 3 [(.sc (.int .i64 0)), (.sc (.int .i64 0)), (.sc (.int .i64 0))]), (.sc (.int .i64 0)), (.sc (.int .i64 0)), (.sc (.int .i64 0))]))), .none⟩]) (.seq (.ops [⟨(.some 3), (.fadr 3 77 1 (.t 1)), .none⟩, ⟨(.some 4), (.load .false 1 (.t 3)), .none⟩, ⟨(.some 5), (.call 42 [(.t 4)]), .none⟩, ⟨(.some 6), (.fadr 4 78 1 (.t 1)), .none⟩, ⟨(.some 7), (.load .false 1 (.t 6)), .none⟩, ⟨(.some 8), (.call 45 [(.t 7)]), .none⟩, ⟨(.some 9), (.fadr 5 79 1 (.t 1)), .none⟩, ⟨(.some 10), (.load .false 1 (.t 9)), .none⟩, ⟨(.some 11), (.call 45 [(.t 10)]), .none⟩, ⟨(.some 12), (.fadr 3 77 1 (.t 1)), .none⟩, ⟨.none, (.store 1 (.t 12) (.t 5)), .none⟩, ⟨(.some 13), (.fadr 4 78 1 (.t 1)), .none⟩, ⟨.none, (.store 1 (.t 13) (.t 8)), .none⟩, ⟨(.some 14), (.fadr 5 79 1 (.t 1)), .none⟩, ⟨.none, (.store 1 (.t 14) (.t 11)), .none⟩]) (.seq (.ops [⟨(.some 15), (.fadr 6 80 1 (.t 1)), .none⟩, ⟨(.some 16), (.load .false 1 (.t 15)), .none⟩, ⟨(.some 17), (.call 46 [(.t 16)]), .none⟩, ⟨(.some 18), (.fadr 7 81 1 (.t 1)), .none⟩, ⟨(.some 19), (.load .false 1 (.t 18)), .none⟩, ⟨(.some 20), (.call 46 [(.t 19)]), .none⟩, ⟨(.some 21), (.fadr 6 80 1 (.t 1)), .none⟩, ⟨.none, (.store 1 (.t 21) (.t 17)), .none⟩, ⟨(.some 22), (.fadr 7 81 1 (.t 1)), .none⟩, ⟨.none, (.store 1 (.t 22) (.t 20)), .none⟩]) (.seq (.ops [⟨(.some 23), (.fadr 8 82 1 (.t 1)), .none⟩, ⟨(.some 24), (.load .false 1 (.t 23)), .none⟩, ⟨(.some 25), (.call 43 [(.t 24)]), .none⟩, ⟨(.some 26), (.fadr 9 83 1 (.t 1)), .none⟩, ⟨(.some 27), (.load .false 1 (.t 26)), .none⟩, ⟨(.some 28), (.call 44 [(.t 27)]), .none⟩, ⟨(.some 29), (.fadr 8 82 1 (.t 1)), .none⟩, ⟨.none, (.store 1 (.t 29) (.t 25)), .none⟩, ⟨(.some 30), (.fadr 9 83 1 (.t 1)), .none⟩, ⟨.none, (.store 1 (.t 30) (.t 28)), .none⟩]) (.seq (.ops [⟨(.some 31), (.fadr 10 84 1 (.t 1)), .none⟩, ⟨(.some 32), (.load .false 1 (.t 31)), .none⟩, ⟨(.some 33), (.call 47 [(.t 32)]), .none⟩, ⟨(.some 34), (.fadr 11 85 1 (.t 1)), .none⟩, ⟨(.some 35), (.load .false 1 (.t 34)), .none⟩, ⟨(.some 36), (.call 48 [(.t 35)]), .none⟩, ⟨(.some 37), (.fadr 10 84 1 (.t 1)), .none⟩, ⟨.none, (.store 1 (.t 37) (.t 33)), .none⟩, ⟨(.some 38), (.fadr 11 85 1 (.t 1)), .none⟩, ⟨.none, (.store 1 (.t 38) (.t 36)), .none⟩]) (.seq (.ops [⟨(.some 39), (.load .true 92 (.t 1)), .none⟩, ⟨.none, (.store 92 (.t 2) (.t 39)), .none⟩]) .ret))))))
theorem t_state_Clone : trF Try.prog qq 37 = some (40, [(.cell 2 .true 92)], c_state_Clone) := by kernel_rfl
/-- The functions of state. -/
def cl_state : CodeL := [(37, 40, [(.cell 2 .true 92)], c_state_Clone)]
theorem clok_state : AllL (fun p => trF Try.prog qq p.1 = some p.2) cl_state := ⟨t_state_Clone, trivial⟩
end Go.Proofs.Ytbemlndjdbopeaa

/- Banks: what shows that the layers are there. -/
namespace Go.Proofs.Ytbemlndjdbopeaa
open Go.Ra
set_option linter.unusedVariables false
set_option linter.unusedSimpArgs false
def TK0 : Tab := mkT qq (cl_law18 ++ cl_law23 ++ cl_banks ++ cl_bytes ++ cl_commit ++ cl_ref1 ++ cl_ref15 ++ cl_ref21 ++ cl_saq ++ cl_slices ++ cl_slots ++ cl_state) [] (gl_slices ++ gl_ref15)
def alvSp : List XV → Option (List Bool × XV)
  | [] => some ([], .bool true)
  | _ => none
def TK : Tab := mkT qq (cl_law18 ++ cl_law23 ++ cl_banks ++ cl_bytes ++ cl_commit ++ cl_ref1 ++ cl_ref15 ++ cl_ref21 ++ cl_saq ++ cl_slices ++ cl_slots ++ cl_state) [(21, alvSp), (12, alvSp)] (gl_slices ++ gl_ref15)
theorem TK0ok : TabOk Try.prog TK0 := mkT_ok (((((((((((clok_law18.app clok_law23).app clok_banks).app clok_bytes).app clok_commit).app clok_ref1).app clok_ref15).app clok_ref21).app clok_saq).app clok_slices).app clok_slots).app clok_state) trivial (glok_slices.app glok_ref15)
theorem r_alv18 (K : XV → Prop) : (quietGo TK0 80 (callI TK0 80 20) 21 [] K) = (K (.bool true)) := by kernel_rfl
theorem r_alv23 (K : XV → Prop) : (quietGo TK0 80 (callI TK0 80 20) 12 [] K) = (K (.bool true)) := by kernel_rfl
theorem alv18 : Pure Try.prog 21 (cons []) (con (.bool true)) := by
  refine pureX (u := 80) (k := 20) mix TK0ok ?_
  rw [r_alv18]
theorem sp_alv18 : SpOk Try.prog (21, alvSp) := fun args nd v h hn => by
  simp only [alvSp] at h
  split at h
  · simp only [Option.some.injEq, Prod.mk.injEq] at h
    obtain ⟨rfl, rfl⟩ := h
    exact alv18
  · cases h
theorem alv23 : Pure Try.prog 12 (cons []) (con (.bool true)) := by
  refine pureX (u := 80) (k := 20) mix TK0ok ?_
  rw [r_alv23]
theorem sp_alv23 : SpOk Try.prog (12, alvSp) := fun args nd v h hn => by
  simp only [alvSp] at h
  split at h
  · simp only [Option.some.injEq, Prod.mk.injEq] at h
    obtain ⟨rfl, rfl⟩ := h
    exact alv23
  · cases h
theorem TKok : TabOk Try.prog TK := mkT_ok (((((((((((clok_law18.app clok_law23).app clok_banks).app clok_bytes).app clok_commit).app clok_ref1).app clok_ref15).app clok_ref21).app clok_saq).app clok_slices).app clok_slots).app clok_state) ⟨sp_alv18, sp_alv23, trivial⟩ (glok_slices.app glok_ref15)
theorem pk3 (p z : Bool) : (bif (bif p then (bif !z then p else false) else true) then true else !!z) = true := by cases p <;> cases z <;> rfl
theorem pk4 (z : Bool) : (bif (bif !z then true else false) then true else !!z) = true := by cases z <;> rfl
end Go.Proofs.Ytbemlndjdbopeaa

/- Less said, functions that work on own memory, and loops of any end. -/
namespace Go.Ra
set_option linter.unusedVariables false
set_option linter.unusedSimpArgs false

mutual
/-- Of the second value the same is said, or less. -/
inductive leQ : AV → AV → Prop
  | refl (a : AV) : leQ a a
  | row {x : Bool} {es es' : Nat} {ts us : List AV} : (es' = es ∨ ts = []) → leQs ts us → leQ (.fro x es ts) (.fro false es' us)
  | agg {n : Nat} {l r : List AV} : leQs l r → leQ (.agg n l) (.agg n r)
  | arr {n es : Nat} {l r : List AV} : leQs l r → leQ (.arr n es l) (.arr n es r)
  | fptr {a b : AV} : leQ a b → leQ (.fptr a) (.fptr b)
  | tup {l r : List AV} : leQs l r → leQ (.tup l) (.tup r)
  | clo {f : Nat} {l r : List AV} : leQs l r → leQ (.clo f l) (.clo f r)
inductive leQs : List AV → List AV → Prop
  | nil : leQs [] []
  | cons {a b : AV} {l r : List AV} : leQ a b → leQs l r → leQs (a :: l) (b :: r)
end
theorem leQs_refl : ∀ l : List AV, leQs l l
  | [] => .nil
  | a :: l => .cons (.refl a) (leQs_refl l)
theorem leQs.len : ∀ {l r : List AV}, leQs l r → r.length = l.length
  | _, _, .nil => rfl
  | _, _, .cons _ h => by simp [leQs.len h]
theorem leQ.isAgg {a b : AV} (h : leQ a b) : b.isAgg = a.isAgg := by cases h <;> rfl
theorem leQs_nil {r : List AV} (h : leQs [] r) : r = [] := by cases h; rfl
theorem leQs_nil' {l : List AV} (h : leQs l []) : l = [] := by cases h; rfl

mutual
theorem leQ.relC {w : World} {F : Nat → Prop} : ∀ {ρ : Nat → Option Loc} {a b : AV} {cs : List Value}, leQ a b → RelC w F ρ a cs → RelC w F ρ b cs
  | _, _, _, _, .refl a, h => h
  | _, _, _, _, .row he hl, h => by
    cases h with
    | fro0 h => rw [leQs_nil hl]; exact .fro0 fun h => by cases h
    | fro h1 h2 h3 h4 h5 =>
      rename_i x es es' ts us cs b o cap
      have hn := leQs.len hl
      by_cases hus : us = []
      · subst hus
        have := leQs_nil' hl
        subst this
        exact .fro0 fun h => by cases h
      · have hts : ts ≠ [] := fun e => hus (by rw [e] at hl; exact leQs_nil hl)
        have he' : es' = es := he.resolve_right hts
        subst he'
        rw [← hn]
        exact .fro (leQs.relE hl h1) h2 h3 (fun h => by cases h) (by rw [hn]; exact h5)
  | _, _, _, _, .agg hl, h => by
    cases h with
    | agg h hn => exact .agg (leQs.relL hl h) hn
  | _, _, _, _, .arr hl, h => by
    cases h with
    | arr h hn => exact .arr (leQs.relE hl h) (by rw [leQs.len hl]; exact hn)
  | _, _, _, _, .fptr hl, h => by
    cases h with
    | fptr h1 h2 h3 => exact .fptr (leQ.relC hl h1) h2 h3
  | _, _, _, _, .tup hl, h => by cases h
  | _, _, _, _, .clo hl, h => by
    cases h with
    | clo h => exact .clo (leQs.relO hl h)
theorem leQs.relL {w : World} {F : Nat → Prop} : ∀ {ρ : Nat → Option Loc} {l r : List AV} {cs : List Value}, leQs l r → RelL w F ρ l cs → RelL w F ρ r cs
  | _, _, _, _, .nil, h => h
  | _, _, _, _, .cons h1 h2, .cons h3 h4 => .cons (leQ.relC h1 h3) (leQs.relL h2 h4)
theorem leQs.relE {w : World} {F : Nat → Prop} : ∀ {es : Nat} {l r : List AV} {cs : List Value}, leQs l r → RelE w F es l cs → RelE w F es r cs
  | _, _, _, _, .nil, .nil => .nil
  | _, _, _, _, .cons h1 h2, .cons h3 h4 h5 => .cons (leQ.relC h1 h3) h4 (leQs.relE h2 h5)
theorem leQs.relO {w : World} {F : Nat → Prop} : ∀ {ρ : Nat → Option Loc} {l r : List AV} {cs : List Value}, leQs l r → RelO w F ρ l cs → RelO w F ρ r cs
  | _, _, _, _, .nil, h => h
  | _, _, _, _, .cons h1 h2, .cons h3 h4 h5 => .cons (leQ.relC h1 h3) ((leQ.isAgg h1).trans h4) (leQs.relO h2 h5)
end
mutual
theorem leQ.rel {w : World} {F : Nat → Prop} {ρ : Nat → Option Loc} : ∀ {a b : AV} {v : Value}, leQ a b → RelV w F ρ a v → RelV w F ρ b v
  | _, _, _, h, .one h1 h2 => .one (h.relC h1) (h.isAgg.trans h2)
  | _, _, _, h, .agg h1 h2 => .agg (h.relC h1) (h.isAgg.trans h2)
  | _, _, _, .refl _, h => h
  | _, _, _, .tup hl, .tup h => .tup (leQs.rels hl h)
theorem leQs.rels {w : World} {F : Nat → Prop} {ρ : Nat → Option Loc} : ∀ {l r : List AV} {vs : List Value}, leQs l r → RelVs w F ρ l vs → RelVs w F ρ r vs
  | _, _, _, .nil, h => h
  | _, _, _, .cons h1 h2, .cons h3 h4 => .cons (leQ.rel h1 h3) (leQs.rels h2 h4)
end
theorem Pure.args {P : Program} {f : Nat} {l r : List AV} {v : AV} (hp : Pure P f r v) (h : leQs l r) : Pure P f l v :=
  ⟨hp.1, fun w F vs hF hr => hp.2 w F vs hF (h.rels hr)⟩
theorem Pure.out {P : Program} {f : Nat} {l : List AV} {v r : AV} (hp : Pure P f l v) (h : leQ v r) : Pure P f l r :=
  ⟨hp.1, fun w F vs hF hr => (hp.2 w F vs hF hr).mono fun e w' ⟨u, F', h1, h2, h3, h4, h5⟩ => ⟨u, F', h1, h2, h3, h4, h.rel h5⟩⟩

theorem lq_eq {a b : XV} (h : a = b) : leQ (con a) (con b) := by rw [h]; exact .refl _
theorem lq_con {a b : XV} (h : con a = con b) : leQ (con a) (con b) := by rw [h]; exact .refl _
theorem lq_int {k : IntKind} {a b : Int} (h : a = b) : leQ (con (.int k a)) (con (.int k b)) := by rw [h]; exact .refl _
theorem lq_bool {a b : Bool} (h : a = b) : leQ (con (.bool a)) (con (.bool b)) := by rw [h]; exact .refl _
theorem lq_agg {n : Nat} {l r : List XV} (h : leQs (cons l) (cons r)) : leQ (con (.agg n l)) (con (.agg n r)) := .agg h
theorem lq_tup {l r : List XV} (h : leQs (cons l) (cons r)) : leQ (con (.tup l)) (con (.tup r)) := .tup h
theorem lq_clo {f : Nat} {l r : List XV} (h : leQs (cons l) (cons r)) : leQ (con (.clo f l)) (con (.clo f r)) := .clo h
theorem lq_fptr {a b : XV} (h : leQ (con a) (con b)) : leQ (con (.fptr a)) (con (.fptr b)) := .fptr h
theorem lqs_nil : leQs (cons []) (cons []) := .nil
theorem lqs_cons {a b : XV} {l r : List XV} (h : leQ (con a) (con b)) (h2 : leQs (cons l) (cons r)) : leQs (cons (a :: l)) (cons (b :: r)) := .cons h h2
theorem leQs_tab {n : Nat} {f g : Nat → AV} (h : ∀ i, i < n → leQ (f i) (g i)) : leQs (tabL n f) (tabL n g) := by
  have key : ∀ l : List Nat, (∀ i ∈ l, i < n) → leQs (l.map f) (l.map g) := by
    intro l
    induction l with
    | nil => intro _; exact .nil
    | cons i l ih => exact fun hl => .cons (h i (hl i (by simp))) (ih fun j hj => hl j (by simp [hj]))
  exact key _ fun i hi => List.mem_range.1 hi
theorem lq_row {x : Bool} {e es n m : Nat} {f g : Nat → XV} (hn : n = m) (he : es = e ∨ n = 0) (h : ∀ i, i < n → leQ (con (f i)) (con (g i))) : leQ (con (.row x e n f)) (con (.row false es m g)) := by
  subst hn
  exact .row (he.imp id fun h => tabL_nil.2 h) (leQs_tab h)
theorem lq_tab {n es : Nat} {f g : Nat → XV} (h : ∀ i, i < n → leQ (con (f i)) (con (g i))) : leQ (con (.tab n es f)) (con (.tab n es g)) := .arr (leQs_tab h)

/-- What a call is told of its arguments. -/
structure ArgsLe (a b : List XV) : Prop where
  out : leQs (cons a) (cons b)
structure ResLe (a b : XV) : Prop where
  out : leQ (con a) (con b)
structure PreIs (p : Prop) : Prop where
  out : p
/-- What memory there is, and maybe more. -/
structure MemIs (σ τ : XSt) : Prop where
  mem : ∀ i, τ.st.H i = none ∨ τ.st.H i = σ.st.H i
  num : σ.n ≤ τ.n
theorem ArgsLe.rfl {a : List XV} : ArgsLe a a := ⟨leQs_refl _⟩
theorem ResLe.rfl {a : XV} : ResLe a a := ⟨.refl _⟩
theorem memIs {σ τ : XSt} (h : agreeXH τ.hl σ.hl) (hn : σ.n ≤ τ.n) : MemIs σ τ := ⟨agreesH_look (agreeXH_ok h), hn⟩

/-- A function that leaves memory alone: for each of these, so much being so, it gives this. -/
def skOf {α β : Type} (en : α → List XV) (pre : α → Prop) (F : α → β) (er : β → XV) : List XV → Option ((XV → Prop) → Prop) := fun args => some fun K => ∃ s : α, ArgsLe args (en s) ∧ PreIs (pre s) ∧ ∀ y : β, y = F s → K (er y)
theorem skOf_ok {P : Program} {f : Nat} {α β : Type} {en : α → List XV} {pre : α → Prop} {F : α → β} {er : β → XV} (h : ∀ s, pre s → Pure P f (cons (en s)) (con (er (F s)))) : SkOk P (f, skOf en pre F er) := by
  intro args W hW K hK
  simp only [skOf, Option.some.injEq] at hW
  subst hW
  obtain ⟨s, h1, h2, h3⟩ := hK
  exact ⟨er (F s), (h s h2.out).args h1.out, h3 _ rfl⟩

theorem Own.less {fr : Fr} {G : Gh} {w : World} {σ τ : St} (h : Own fr G w σ) (h1 : ∀ i, τ.H i = none ∨ τ.H i = σ.H i) (h2 : σ.n ≤ τ.n) : Own fr G w τ := by
  have hk : Weak ⟨[], σ.hl, σ.hb, σ.n⟩ ⟨[], τ.hl, τ.hb, τ.n⟩ := ⟨fun _ => .inl rfl, h1, h2⟩
  exact ⟨Wf.weak (σ := ⟨[], σ.hl, σ.hb, σ.n⟩) (τ := ⟨[], τ.hl, τ.hb, τ.n⟩) h.1 hk, FrOk.weak (σ := ⟨[], σ.hl, σ.hb, σ.n⟩) (τ := ⟨[], τ.hl, τ.hb, τ.n⟩) h.2 hk⟩
theorem Gen.less {P : Program} {f : Nat} {args args' : List AV} {σ τ υ : St} {v : AV} (h : Gen P f args' τ v υ) (ha : leQs args args') (h1 : ∀ i, τ.H i = none ∨ τ.H i = σ.H i) (h2 : σ.n ≤ τ.n) : Gen P f args σ v υ :=
  ⟨h.1, fun fr G w vs hown hr => h.2 fr G w vs (hown.less h1 h2) (ha.rels hr)⟩
/-- A function that works on own memory. -/
def gkOf {α β : Type} (en : α → List XV) (mem : α → XSt) (pre : α → Prop) (F : α → β) (er : β → XV) (mem' : β → XSt) : List XV → XSt → Option ((XV → XSt → Prop) → Prop) := fun args σ => some fun K => ∃ s : α, ArgsLe args (en s) ∧ MemIs σ (mem s) ∧ PreIs (pre s) ∧ ∀ y : β, y = F s → K (er y) (mem' y)
theorem gkOf_ok {P : Program} {q : Nat → Bool} {f : Nat} {α β : Type} {en : α → List XV} {mem : α → XSt} {pre : α → Prop} {F : α → β} {er : β → XV} {mem' : β → XSt} (hq : q (f + 1000000) = false)
    (h : ∀ s, pre s → Gen P f (cons (en s)) (mem s).st (con (er (F s))) (mem' (F s)).st) : GkOk P q (f, gkOf en mem pre F er mem') := by
  intro args σ W hW hqf K hK
  simp only [gkOf, Option.some.injEq] at hW
  subst hW
  obtain ⟨s, h1, h2, h3, h4⟩ := hK
  exact ⟨er (F s), mem' (F s), .inr (.inr (.inl ⟨hqf, hq, (h s h3.out).less h1.out h2.mem h2.num⟩)), h4 _ rfl⟩

/-- What an end of a function tells is at least this. -/
def GoW (m : Nat) (v' : AV) (τ' : St) (v : AV) (τ : St) : Prop := ∀ fr G0 w0 G w u, (∀ i l, G0.ρ i = some l → i < m) → Goto fr G0 w0 G w τ' → RelV w G.F G.ρ v' u → ∃ G2, Goto fr G0 w0 G2 w τ ∧ RelV w G2.F G2.ρ v u
theorem goW_of {m : Nat} {v v' : AV} {τ τ' : St} (h : WeakE m ⟨[(0, v')], τ'.hl, τ'.hb, τ'.n⟩ ⟨[(0, v)], τ.hl, τ.hb, τ.n⟩) : GoW m v' τ' v τ := by
  intro fr G0 w0 G w u hm hg hr
  have hs : Sim fr G0 w0 1 ⟨[(0, v')], τ'.hl, τ'.hb, τ'.n⟩ { tmps := #[u], defers := [] } w := by
    refine ⟨G, hg, fun t => ?_, rfl, rfl⟩
    cases t with
    | zero => exact hr
    | succ t => exact .unk
  obtain ⟨G2, g1, g2, _, _⟩ := h fr G0 w0 1 _ w hm hs
  exact ⟨G2, g1, g2 0⟩
theorem gen_of {P : Program} {q : Nat → Bool} {C : Orc} (hmix : P.follows .mixedOrders = true) (hC : OrcOk P C) (hq : Quiet q C) {f nt : Nat} {rs : List AR} {ac : AC} (hF : trF P q f = some (nt, rs, ac)) {args : List AV} {σ τ : St} {v : AV} (hlen : args.length ≤ nt)
    (h : wpC C ac ⟨envOf 0 args, σ.hl, σ.hb, σ.n⟩ (retP rs fun v' τ' => GoW σ.n v' τ' v τ)) : Gen P f args σ v τ := by
  refine ⟨trF_known hF, fun fr G w vs hown hr => ?_⟩
  refine (enter hmix hC hq hF hlen (hl := σ.hl) (hb := σ.hb) (n := σ.n) hown hr h).mono fun e w' ⟨u, G', v', τ', he, hgo, hrel, hk⟩ => ?_
  obtain ⟨G2, h1, h2⟩ := hk fr G w G' w' u (fun i l hi => Nat.lt_of_not_le fun hge => by
    have := (hown.1.free i hge).2
    rw [this] at hi; cases hi) hgo hrel
  exact ⟨u, G2, he, h1, h2⟩

section
variable {P : Program} {T : Tab}
/-- Code of a function up to its loops, for any end. -/
abbrev goX (P : Program) (T : Tab) (kp : List Nat) (fin : AE → XSt → Prop) (Φ : AE → St → Prop) (j : Job) (s : List Frm) (σ : XSt) : Prop := exS T (Ok P T.q) (callI T 80 20) kp fin Φ 2000 j s σ
theorem loopX (hmix : P.follows .mixedOrders = true) (hT : TabOk P T) {kp : List Nat} {fin : AE → XSt → Prop} {Φ : AE → St → Prop} (hfin : ∀ e σ, fin e σ → Φ e σ.st) {c : AC} {σ : XSt} {s : List Frm} {ι : Type} (S : ι → XSt) (V : ι → Prop) (m : ι → Nat) (i0 : ι) (hV : V i0) (h0 : WeakE σ.n σ.st (S i0).st)
    (hr : ∀ i, V i → goX P T kp fin Φ (.run c) (.lp c (fun τ => ∃ j, V j ∧ WeakE σ.n τ.st (S j).st ∧ m j < m i) :: s) (S i)) : LoopAt (Ok P T.q) c σ s Φ :=
  ⟨wpC_forE (fun i => (S i).st) V m i0 hV h0 fun i hi => by
    have h := exS_ok hT (callI_ok hmix hT 20) hfin 2000 _ _ _ (hr i hi)
    refine wpC_mono _ _ (fun e t he => ?_) c _ h
    cases e with
    | normal =>
      obtain ⟨τ, hw, j, h1, h2, h3⟩ := he
      exact ⟨j, h1, weakE_trans hw h2, h3⟩
    | exit _ => exact he
    | ret => exact he⟩

/-- The end of a function that leaves memory alone: what it gives says at least this. -/
def finQ (rs : List AR) (r : XV) : AE → XSt → Prop := retX rs (frzK fun v => ResLe v r)
def finQR (rs : List AR) (r : XV) : AE → St → Prop := retP rs fun v τ => ∃ r', frz τ 6 v = some r' ∧ leQ r' (con r)
theorem finQ_ok {rs : List AR} {r : XV} (e : AE) (σ : XSt) (h : finQ rs r e σ) : finQR rs r e σ.st := by
  obtain ⟨v, h3, h4⟩ := retX_ok h
  refine h4 (fun v τ => ∃ r', frz τ 6 v = some r' ∧ leQ r' (con r)) ?_
  unfold frzK at h3
  split at h3
  · rename_i nd r' hz
    rw [need_iff] at h3
    exact ⟨con r', frzX_con (st_H σ) 6 v nd r' hz h3.1, h3.2.out⟩
  · cases h3
theorem pure_ofQ {q : Nat → Bool} {C : Orc} (hmix : P.follows .mixedOrders = true) (hC : OrcOk P C) (hq : Quiet q C) {f nt : Nat} {rs : List AR} {ac : AC} (hF : trF P q f = some (nt, rs, ac)) {args : List AV} {r : AV} {k : Nat} (hlen : args.length ≤ nt)
    (h : wpC C ac ⟨envOf 0 args, [], fun _ => none, 0⟩ (retP rs fun v τ => ∃ r', frz τ k v = some r' ∧ leQ r' r)) : Pure P f args r := by
  refine ⟨trF_known hF, fun w F vs hFs hr => ?_⟩
  have hown : Own ⟨w, fun _ => False, F, 0⟩ ⟨noIds, F⟩ w ⟨envOf 0 args, [], fun _ => none, 0⟩ :=
    ⟨⟨fun i _ => ⟨rfl, rfl⟩, hFs, fun i t hi => (by cases hi), fun i j b o o' hi => absurd rfl hi⟩, ⟨rfl, rfl, rfl, Nat.le_refl _, fun _ _ _ => rfl, Ext.refl _ _, fun _ h => h, fun _ h => .inl h, fun i b o hi => absurd rfl hi⟩⟩
  refine (enter hmix hC hq hF hlen hown hr h).mono fun e w' ⟨u, G', v, τ, he, hgo, hrel, r', hk, hle⟩ => ?_
  refine ⟨u, FF G' τ, he, ⟨hgo.fr.os, hgo.fr.tape, hgo.fr.output, hgo.fr.size, fun b hb => hgo.fr.same b hb (fun h => h)⟩, fun b hb => .inl (hgo.leF b hb), fun b hb => ⟨?_, FF_lt hgo.own hb⟩, hle.rel (frzV hgo.own k v r' u hrel hk)⟩
  rcases hb with hb | ⟨i, o, h1, h2⟩
  · rcases hgo.fr.fnew b hb with h | h | h
    · exact .inl h
    · cases h
    · exact .inr h
  · rcases hgo.fr.loc i b o h1 h2 with h | h
    · cases h
    · exact .inr h
abbrev goQ (P : Program) (T : Tab) (rs : List AR) (r : XV) (j : Job) (s : List Frm) (σ : XSt) : Prop := goX P T (keepR rs) (finQ rs r) (finQR rs r) j s σ
/-- A function that leaves memory alone, gone through up to its loops. -/
theorem pureQ (hmix : P.follows .mixedOrders = true) (hT : TabOk P T) {f nt : Nat} {rs : List AR} {c : AC} (hF : trF P T.q f = some (nt, rs, c)) {args : List XV} {r : XV} (hl : args.length ≤ nt) (h : goQ P T rs r (.run c) [] ⟨envX 0 args, [], 0⟩) : Pure P f (cons args) (con r) := by
  have := exS_ok hT (callI_ok hmix hT 20) finQ_ok 2000 _ _ _ h
  refine pure_ofQ (k := 6) hmix Ok.ok Ok.quiet hF (by rw [cons_len]; exact hl) ?_
  simpa [jobWp, unwind, XSt.st, envX_con, conH, finQR] using this
/-- The same, all of it gone through. -/
theorem pureR (hmix : P.follows .mixedOrders = true) (hT : TabOk P T) {u k f : Nat} {args : List XV} {r : XV} (h : quietGo T u (callI T u k) f args fun v => ResLe v r) : Pure P f (cons args) (con r) := by
  obtain ⟨v, h1, h2⟩ := quietGo_ok hmix hT (callI_ok hmix hT k) h
  exact h1.out h2.out
theorem loopQ (hmix : P.follows .mixedOrders = true) (hT : TabOk P T) {rs : List AR} {r : XV} {c : AC} {σ : XSt} {s : List Frm} {ι : Type} (S : ι → XSt) (V : ι → Prop) (m : ι → Nat) (i0 : ι) (hV : V i0) (h0 : WeakE σ.n σ.st (S i0).st)
    (hr : ∀ i, V i → goQ P T rs r (.run c) (.lp c (fun τ => ∃ j, V j ∧ WeakE σ.n τ.st (S j).st ∧ m j < m i) :: s) (S i)) : LoopAt (Ok P T.q) c σ s (finQR rs r) := loopX hmix hT finQ_ok S V m i0 hV h0 hr

/-- What an end tells, under other names maybe. -/
structure EndAt (m : Nat) (v' : XV) (σ : XSt) (v : XV) (τ : XSt) : Prop where
  out : WeakE m (XSt.st ⟨[(0, v')], σ.hl, σ.n⟩) (XSt.st ⟨[(0, v)], τ.hl, τ.n⟩)
def finG (rs : List AR) (m : Nat) (v : XV) (τ : XSt) : AE → XSt → Prop := retX rs fun v' σ => EndAt m v' σ v τ
def finGR (rs : List AR) (m : Nat) (v : XV) (τ : XSt) : AE → St → Prop := retP rs fun v' σ => GoW m v' σ (con v) τ.st
theorem finG_ok {rs : List AR} {m : Nat} {v : XV} {τ : XSt} (e : AE) (σ : XSt) (h : finG rs m v τ e σ) : finGR rs m v τ e σ.st := by
  obtain ⟨v', h3, h4⟩ := retX_ok h
  exact h4 (fun v' σ => GoW m v' σ (con v) τ.st) (goW_of h3.out)
abbrev goG (P : Program) (T : Tab) (rs : List AR) (m : Nat) (v : XV) (τ : XSt) (j : Job) (s : List Frm) (σ : XSt) : Prop := goX P T (keepR rs) (finG rs m v τ) (finGR rs m v τ) j s σ
/-- A function that works on own memory, gone through up to its loops. -/
theorem genG (hmix : P.follows .mixedOrders = true) (hT : TabOk P T) {f nt : Nat} {rs : List AR} {c : AC} (hF : trF P T.q f = some (nt, rs, c)) {args : List XV} {σ τ : XSt} {v : XV} (hl : args.length ≤ nt) (h : goG P T rs σ.n v τ (.run c) [] ⟨envX 0 args, σ.hl, σ.n⟩) : Gen P f (cons args) σ.st (con v) τ.st := by
  have := exS_ok hT (callI_ok hmix hT 20) finG_ok 2000 _ _ _ h
  refine gen_of hmix Ok.ok Ok.quiet hF (by rw [cons_len]; exact hl) ?_
  simpa [jobWp, unwind, XSt.st, envX_con, conH, finGR] using this
theorem loopG (hmix : P.follows .mixedOrders = true) (hT : TabOk P T) {rs : List AR} {m0 : Nat} {v : XV} {τ0 : XSt} {c : AC} {σ : XSt} {s : List Frm} {ι : Type} (S : ι → XSt) (V : ι → Prop) (m : ι → Nat) (i0 : ι) (hV : V i0) (h0 : WeakE σ.n σ.st (S i0).st)
    (hr : ∀ i, V i → goG P T rs m0 v τ0 (.run c) (.lp c (fun τ => ∃ j, V j ∧ WeakE σ.n τ.st (S j).st ∧ m j < m i) :: s) (S i)) : LoopAt (Ok P T.q) c σ s (finGR rs m0 v τ0) := loopX hmix hT finG_ok S V m i0 hV h0 hr
end
end Go.Ra

/- Plain values of the program's types, and the abstract values that stand for them. -/
namespace Go.Ra
set_option linter.unusedVariables false
set_option linter.unusedSimpArgs false

/-- The element at a place. -/
def ix {α : Type} [Inhabited α] (l : List α) (i : Nat) : α := l.getD i default
section
variable {α : Type} [Inhabited α]
theorem ix_lt {l : List α} {i : Nat} (h : i < l.length) : ix l i = l[i] := by simp [ix, h]
theorem ix_ge {l : List α} {i : Nat} (h : l.length ≤ i) : ix l i = default := by simp [ix, h]
theorem ix_get {l : List α} {i : Nat} (h : i < l.length) : l[i]? = some (ix l i) := by rw [ix_lt h]; exact List.getElem?_eq_getElem h
theorem ix_mem {l : List α} {i : Nat} (h : i < l.length) : ix l i ∈ l := by rw [ix_lt h]; exact List.getElem_mem h
theorem ix_cons_zero {a : α} {l : List α} : ix (a :: l) 0 = a := rfl
theorem ix_cons_succ {a : α} {l : List α} {i : Nat} : ix (a :: l) (i + 1) = ix l i := rfl
theorem ix_append {l r : List α} {i : Nat} : ix (l ++ r) i = if i < l.length then ix l i else ix r (i - l.length) := by
  unfold ix
  split
  · rename_i h; rw [List.getD_eq_getElem?_getD, List.getElem?_append_left h, List.getD_eq_getElem?_getD]
  · rename_i h; rw [List.getD_eq_getElem?_getD, List.getElem?_append_right (by omega), List.getD_eq_getElem?_getD]
theorem ix_drop {l : List α} {k i : Nat} : ix (l.drop k) i = ix l (k + i) := by
  unfold ix
  rw [List.getD_eq_getElem?_getD, List.getElem?_drop, List.getD_eq_getElem?_getD]
theorem ix_tail {l : List α} {i : Nat} : ix l.tail i = ix l (i + 1) := by
  cases l with
  | nil => rfl
  | cons a l => rfl
theorem ix_set {l : List α} {k i : Nat} {a : α} : ix (l.set k a) i = if i = k ∧ k < l.length then a else ix l i := by
  unfold ix
  rw [List.getD_eq_getElem?_getD, List.getElem?_set, List.getD_eq_getElem?_getD]
  by_cases h : k = i
  · subst h
    by_cases h2 : k < l.length
    · simp [h2]
    · simp [h2, List.getElem?_eq_none (Nat.le_of_not_lt h2)]
  · have : ¬ (i = k ∧ k < l.length) := fun e => h e.1.symm
    rw [if_neg this, if_neg h]
theorem ix_ext {l r : List α} (hl : l.length = r.length) (h : ∀ i, i < l.length → ix l i = ix r i) : l = r := by
  refine List.ext_getElem hl fun i h1 h2 => ?_
  have := h i h1
  rw [ix_lt h1, ix_lt h2] at this
  exact this
theorem ix_tabL {n i : Nat} {f : Nat → α} (h : i < n) : ix (tabL n f) i = f i := by
  unfold ix
  rw [List.getD_eq_getElem?_getD, tabL_get h]; rfl
theorem tabL_ix (l : List α) : tabL l.length (ix l) = l := ix_ext tabL_len fun i h => by rw [tabL_len] at h; exact ix_tabL h
theorem ix_map {β : Type} [Inhabited β] {f : α → β} {l : List α} {i : Nat} (h : i < l.length) : ix (l.map f) i = f (ix l i) := by
  rw [ix_lt h, ix_lt (by simpa using h)]
  simp
theorem ix_take {l : List α} {k i : Nat} (h : i < k) : ix (l.take k) i = ix l i := by
  unfold ix
  rw [List.getD_eq_getElem?_getD, List.getElem?_take, if_pos h, List.getD_eq_getElem?_getD]
end

/-- The first place that has something; -1 if there is none. -/
def idxF {α : Type} (p : α → Bool) (l : List α) : Int := if l.any p then (l.findIdx p : Int) else -1
theorem idxF_some {α : Type} [Inhabited α] {p : α → Bool} {l : List α} {i : Nat} (hi : i < l.length) (hp : p (ix l i) = true) (hn : ∀ j, j < i → p (ix l j) = false) : idxF p l = i := by
  unfold idxF
  have h1 : l.any p = true := List.any_eq_true.2 ⟨_, ix_mem hi, hp⟩
  rw [if_pos h1]
  have h2 : l.findIdx p = i := by
    rw [List.findIdx_eq hi]
    refine ⟨by rw [← ix_lt hi]; exact hp, fun j hj => ?_⟩
    rw [← ix_lt (by omega)]
    exact hn j hj
  rw [h2]
theorem idxF_none {α : Type} [Inhabited α] {p : α → Bool} {l : List α} (hn : ∀ j, j < l.length → p (ix l j) = false) : idxF p l = -1 := by
  unfold idxF
  rw [if_neg]
  rw [List.any_eq_true]
  rintro ⟨x, hx, hp⟩
  obtain ⟨j, hj, rfl⟩ := List.mem_iff_getElem.1 hx
  have := hn j hj
  rw [ix_lt hj, hp] at this
  cases this
theorem idxF_ge {α : Type} {p : α → Bool} {l : List α} : decide (idxF p l ≥ 0) = l.any p := by
  unfold idxF
  split
  · rename_i h; rw [h]; exact decide_eq_true (by omega)
  · rename_i h
    simp only [Bool.not_eq_true] at h
    rw [h]; exact decide_eq_false (by omega)

def e_i64 (n : Int) : XV := .int .i64 n
def e_u32 (n : Int) : XV := .int .u32 n
def e_u8 (n : Int) : XV := .int .u8 n
def e_bool (b : Bool) : XV := .bool b
/-- A row. -/
def e_row {α : Type} [Inhabited α] (es : Nat) (en : α → XV) (l : List α) : XV := .row false es l.length (fun i => en (ix l i))

structure Slot where
  tag : Int
  full : Bool
  val : Int
  deriving Inhabited, DecidableEq
structure Entry where
  addr : Int
  size : Int
  step : Int
  known : Bool
  val : Int
  deriving Inhabited, DecidableEq
structure Req where
  store : Bool
  op : Int
  addr : Int
  size : Int
  val : Int
  left : Int
  reg : Int
  tag : Int
  deriving Inhabited, DecidableEq
structure Wr where
  addr : Int
  size : Int
  val : Int
  deriving Inhabited, DecidableEq
structure Pos where
  block : Int
  index : Int
  base : Int
  deriving Inhabited, DecidableEq
structure Trp where
  kind : Int
  step : Int
  pc : Int
  deriving Inhabited, DecidableEq
structure Side where
  regs : Nat → Int
  ready : Nat → Int
  pos : Pos
  wait : Int
  halted : Bool
  done : Int
  deriving Inhabited
structure Stt where
  cycle : Int
  a : Side
  e : Side
  ldq : List Slot
  sdq : List Int
  aeq : List Int
  abq : List Bool
  ebq : List Bool
  saq : List Entry
  table : List Req
  mem : List Int
  writes : List Wr
  trap : Trp
  lats : Int
  picks : Int
  tags : Int
  deriving Inhabited
structure Cfg where
  ldq : Int
  sdq : Int
  aeq : Int
  abq : Int
  ebq : Int
  saq : Int
  banks : Int
  flight : Int
  slip : Int
  lat : Int
  mul : Int
  div : Int
  deriving Inhabited, DecidableEq
structure Script where
  lats : List Int
  picks : List Int
  deriving Inhabited, DecidableEq
structure Ins where
  op : Int
  d : Int
  a : Int
  b : Int
  imm : Int
  deriving Inhabited, DecidableEq
structure Cell where
  kind : Int
  ins : Ins
  reg : Int
  pc : Int
  off : Int
  deriving Inhabited, DecidableEq
structure Block where
  src : Int
  dst : Int
  next : Int
  taken : Int
  a : List Cell
  e : List Cell
  deriving Inhabited, DecidableEq
structure Split where
  blocks : List Block
  owner : Nat → Int
  deriving Inhabited
structure Prog where
  code : List Ins
  size : Int
  data : List Int
  deriving Inhabited, DecidableEq
structure Rslt where
  fin : Int
  trap : Trp
  steps : Int
  regs : Nat → Int
  mem : List Int
  writes : List Wr
  deriving Inhabited

def e_Slot (s : Slot) : XV := .agg 3 [.int .i64 s.tag, .bool s.full, .int .u32 s.val]
def e_Entry (s : Entry) : XV := .agg 5 [.int .i64 s.addr, .int .i64 s.size, .int .i64 s.step, .bool s.known, .int .u32 s.val]
def e_Req (r : Req) : XV := .agg 8 [.bool r.store, .int .i64 r.op, .int .i64 r.addr, .int .i64 r.size, .int .u32 r.val, .int .i64 r.left, .int .i64 r.reg, .int .i64 r.tag]
def e_Wr (w : Wr) : XV := .agg 3 [.int .i64 w.addr, .int .i64 w.size, .int .u32 w.val]
def e_Pos (p : Pos) : XV := .agg 3 [.int .i64 p.block, .int .i64 p.index, .int .i64 p.base]
def e_Trp (t : Trp) : XV := .agg 3 [.int .i64 t.kind, .int .i64 t.step, .int .i64 t.pc]
def e_Side (s : Side) : XV := .agg 38 [.tab 16 1 (fun i => .int .u32 (s.regs i)), .tab 16 1 (fun i => .int .i64 (s.ready i)), e_Pos s.pos, .int .i64 s.wait, .bool s.halted, .int .i64 s.done]
def e_Stt (s : Stt) : XV := .agg 92 [.int .i64 s.cycle, e_Side s.a, e_Side s.e, e_row 3 e_Slot s.ldq, e_row 1 e_u32 s.sdq, e_row 1 e_u32 s.aeq, e_row 1 e_bool s.abq, e_row 1 e_bool s.ebq, e_row 5 e_Entry s.saq, e_row 8 e_Req s.table, e_row 1 e_u8 s.mem, e_row 3 e_Wr s.writes, e_Trp s.trap, .int .i64 s.lats, .int .i64 s.picks, .int .i64 s.tags]
def e_Cfg (c : Cfg) : XV := .agg 12 [.int .i64 c.ldq, .int .i64 c.sdq, .int .i64 c.aeq, .int .i64 c.abq, .int .i64 c.ebq, .int .i64 c.saq, .int .i64 c.banks, .int .i64 c.flight, .int .i64 c.slip, .int .i64 c.lat, .int .i64 c.mul, .int .i64 c.div]
def e_Script (s : Script) : XV := .agg 2 [e_row 1 e_i64 s.lats, e_row 1 e_i64 s.picks]
def e_Ins (i : Ins) : XV := .agg 5 [.int .i64 i.op, .int .i64 i.d, .int .i64 i.a, .int .i64 i.b, .int .i64 i.imm]
def e_Cell (c : Cell) : XV := .agg 9 [.int .i64 c.kind, e_Ins c.ins, .int .i64 c.reg, .int .i64 c.pc, .int .i64 c.off]
def e_Block (b : Block) : XV := .agg 6 [.int .i64 b.src, .int .i64 b.dst, .int .i64 b.next, .int .i64 b.taken, e_row 9 e_Cell b.a, e_row 9 e_Cell b.e]
def e_Split (s : Split) : XV := .agg 17 [e_row 6 e_Block s.blocks, .tab 16 1 (fun i => .int .i64 (s.owner i))]
def e_Prog (p : Prog) : XV := .agg 3 [e_row 5 e_Ins p.code, .int .i64 p.size, e_row 1 e_u8 p.data]
def e_Rslt (r : Rslt) : XV := .agg 23 [.int .i64 r.fin, e_Trp r.trap, .int .i64 r.steps, .tab 16 1 (fun i => .int .u32 (r.regs i)), e_row 1 e_u8 r.mem, e_row 3 e_Wr r.writes]

/-- What a row stands for. -/
theorem con_erow {α : Type} [Inhabited α] {es : Nat} {en : α → XV} {l : List α} : con (e_row es en l) = .fro false es (l.map fun x => con (en x)) := by
  show AV.fro false es (tabL l.length fun i => con (en (ix l i))) = _
  congr 1
  have : (tabL l.length fun i => con (en (ix l i))) = (tabL l.length (ix l)).map fun x => con (en x) := by simp [tabL]
  rw [this, tabL_ix]
/-- A row of such elements stands for a list. -/
theorem lq_erow {α : Type} [Inhabited α] {x : Bool} {e es n : Nat} {f : Nat → XV} {en : α → XV} {l : List α} (hn : n = l.length) (he : es = e ∨ n = 0) (h : ∀ i, i < n → leQ (con (f i)) (con (en (ix l i)))) : leQ (con (.row x e n f)) (con (e_row es en l)) := lq_row hn he h
theorem lq_Slot {a b : Slot} (h : a = b) : leQ (con (e_Slot a)) (con (e_Slot b)) := lq_eq (by rw [h])

-- What comes in.
def i64R (n : Int) : Prop := -9223372036854775808 ≤ n ∧ n ≤ 9223372036854775807
def u32R (n : Int) : Prop := 0 ≤ n ∧ n ≤ 4294967295
def u8R (n : Int) : Prop := 0 ≤ n ∧ n ≤ 255
theorem has_row {α : Type} [Inhabited α] {es bytes : Nat} {T : Ty} {a : AV} {en : α → XV} {wf : α → Prop} (ho : ∀ b, T.has b → ∃ x, b = con (en x) ∧ wf x) (h : (Ty.slice es bytes T).has a) : ∃ l : List α, a = con (e_row es en l) ∧ (∀ x ∈ l, wf x) ∧ l.length * bytes ≤ 140737488351232 := by
  simp only [Ty.has] at h
  obtain ⟨ts, rfl, h1, h2⟩ := h
  have key : ∀ us : List AV, (∀ t ∈ us, T.has t) → ∃ l : List α, us = l.map (fun x => con (en x)) ∧ ∀ x ∈ l, wf x := by
    intro us
    induction us with
    | nil => exact fun _ => ⟨[], rfl, fun x hx => by cases hx⟩
    | cons u us ih =>
      intro hu
      obtain ⟨x, h3, h4⟩ := ho u (hu u (by simp))
      obtain ⟨l, h5, h6⟩ := ih fun t ht => hu t (by simp [ht])
      refine ⟨x :: l, by rw [h3, h5]; rfl, fun y hy => ?_⟩
      rcases List.mem_cons.1 hy with rfl | hy
      · exact h4
      · exact h6 y hy
  obtain ⟨l, h3, h4⟩ := key ts h2
  refine ⟨l, by rw [con_erow, h3], h4, ?_⟩
  rw [h3] at h1
  simpa using h1
theorem has_tabI {n : Nat} {k : IntKind} {a : AV} {R : Int → Prop} (ho : ∀ b, (Ty.int k).has b → ∃ x, b = con (.int k x) ∧ R x) (h : (Ty.arr n 1 (.int k)).has a) : ∃ f : Nat → Int, a = con (.tab n 1 (fun i => .int k (f i))) ∧ ∀ i, i < n → R (f i) := by
  simp only [Ty.has] at h
  obtain ⟨ts, rfl, h1, h2⟩ := h
  refine ⟨fun i => avI (ts.getD i .unk), ?_, fun i hi => ?_⟩
  · show AV.arr n 1 ts = .arr n 1 (tabL n fun i => con (.int k (avI (ts.getD i .unk))))
    congr 1
    refine tabL_eq h1 fun i hi => ?_
    have hlt : i < ts.length := by omega
    obtain ⟨x, h3, _⟩ := ho _ (h2 _ (List.getElem_mem hlt))
    rw [List.getElem?_eq_getElem hlt, List.getD_eq_getElem?_getD, List.getElem?_eq_getElem hlt, Option.getD_some, h3]
    rfl
  · have hlt : i < ts.length := by omega
    obtain ⟨x, h3, h4⟩ := ho _ (h2 _ (List.getElem_mem hlt))
    show R (avI (ts.getD i .unk))
    rw [List.getD_eq_getElem?_getD, List.getElem?_eq_getElem hlt, Option.getD_some, h3]
    exact h4
theorem has_i64' (a : AV) (h : (Ty.int .i64).has a) : ∃ n, a = con (.int .i64 n) ∧ i64R n := by
  have h1 := has_i64 h
  simp only [Ty.has] at h
  obtain ⟨n, rfl, _⟩ := h
  exact ⟨n, rfl, h1⟩
theorem has_u32' (a : AV) (h : (Ty.int .u32).has a) : ∃ n, a = con (.int .u32 n) ∧ u32R n := by
  have h1 := has_u32 h
  simp only [Ty.has] at h
  obtain ⟨n, rfl, _⟩ := h
  exact ⟨n, rfl, h1⟩
theorem has_u8' (a : AV) (h : (Ty.int .u8).has a) : ∃ n, a = con (.int .u8 n) ∧ u8R n := by
  have h1 := has_u8 h
  simp only [Ty.has] at h
  obtain ⟨n, rfl, _⟩ := h
  exact ⟨n, rfl, h1⟩
theorem has_bool' (a : AV) (h : Ty.bool.has a) : ∃ b, a = con (.bool b) ∧ True := by
  simp only [Ty.has] at h
  obtain ⟨b, rfl⟩ := h
  exact ⟨b, rfl, trivial⟩
def T_Slot : Ty := .agg 3 [.int .i64, .bool, .int .u32]
def Slot.wf (s : Slot) : Prop := i64R s.tag ∧ u32R s.val
theorem has_Slot (a : AV) (h : T_Slot.has a) : ∃ s : Slot, a = con (e_Slot s) ∧ s.wf := by
  simp only [T_Slot, Ty.has, Ty.hasL] at h
  obtain ⟨_, rfl, h⟩ := h
  obtain ⟨a0, _, rfl, h0, h⟩ := h
  obtain ⟨a1, _, rfl, h1, h⟩ := h
  obtain ⟨a2, _, rfl, h2, h⟩ := h
  subst h
  obtain ⟨x0, rfl, w0⟩ := has_i64' _ (by simp only [Ty.has]; exact h0)
  obtain ⟨x1, rfl, w1⟩ := has_bool' _ (by simp only [Ty.has]; exact h1)
  obtain ⟨x2, rfl, w2⟩ := has_u32' _ (by simp only [Ty.has]; exact h2)
  exact ⟨⟨x0, x1, x2⟩, rfl, ⟨w0, w2⟩⟩
def T_Entry : Ty := .agg 5 [.int .i64, .int .i64, .int .i64, .bool, .int .u32]
def Entry.wf (s : Entry) : Prop := i64R s.addr ∧ i64R s.size ∧ i64R s.step ∧ u32R s.val
theorem has_Entry (a : AV) (h : T_Entry.has a) : ∃ s : Entry, a = con (e_Entry s) ∧ s.wf := by
  simp only [T_Entry, Ty.has, Ty.hasL] at h
  obtain ⟨_, rfl, h⟩ := h
  obtain ⟨a0, _, rfl, h0, h⟩ := h
  obtain ⟨a1, _, rfl, h1, h⟩ := h
  obtain ⟨a2, _, rfl, h2, h⟩ := h
  obtain ⟨a3, _, rfl, h3, h⟩ := h
  obtain ⟨a4, _, rfl, h4, h⟩ := h
  subst h
  obtain ⟨x0, rfl, w0⟩ := has_i64' _ (by simp only [Ty.has]; exact h0)
  obtain ⟨x1, rfl, w1⟩ := has_i64' _ (by simp only [Ty.has]; exact h1)
  obtain ⟨x2, rfl, w2⟩ := has_i64' _ (by simp only [Ty.has]; exact h2)
  obtain ⟨x3, rfl, w3⟩ := has_bool' _ (by simp only [Ty.has]; exact h3)
  obtain ⟨x4, rfl, w4⟩ := has_u32' _ (by simp only [Ty.has]; exact h4)
  exact ⟨⟨x0, x1, x2, x3, x4⟩, rfl, ⟨w0, w1, w2, w4⟩⟩
def T_Req : Ty := .agg 8 [.bool, .int .i64, .int .i64, .int .i64, .int .u32, .int .i64, .int .i64, .int .i64]
def Req.wf (s : Req) : Prop := i64R s.op ∧ i64R s.addr ∧ i64R s.size ∧ u32R s.val ∧ i64R s.left ∧ i64R s.reg ∧ i64R s.tag
theorem has_Req (a : AV) (h : T_Req.has a) : ∃ s : Req, a = con (e_Req s) ∧ s.wf := by
  simp only [T_Req, Ty.has, Ty.hasL] at h
  obtain ⟨_, rfl, h⟩ := h
  obtain ⟨a0, _, rfl, h0, h⟩ := h
  obtain ⟨a1, _, rfl, h1, h⟩ := h
  obtain ⟨a2, _, rfl, h2, h⟩ := h
  obtain ⟨a3, _, rfl, h3, h⟩ := h
  obtain ⟨a4, _, rfl, h4, h⟩ := h
  obtain ⟨a5, _, rfl, h5, h⟩ := h
  obtain ⟨a6, _, rfl, h6, h⟩ := h
  obtain ⟨a7, _, rfl, h7, h⟩ := h
  subst h
  obtain ⟨x0, rfl, w0⟩ := has_bool' _ (by simp only [Ty.has]; exact h0)
  obtain ⟨x1, rfl, w1⟩ := has_i64' _ (by simp only [Ty.has]; exact h1)
  obtain ⟨x2, rfl, w2⟩ := has_i64' _ (by simp only [Ty.has]; exact h2)
  obtain ⟨x3, rfl, w3⟩ := has_i64' _ (by simp only [Ty.has]; exact h3)
  obtain ⟨x4, rfl, w4⟩ := has_u32' _ (by simp only [Ty.has]; exact h4)
  obtain ⟨x5, rfl, w5⟩ := has_i64' _ (by simp only [Ty.has]; exact h5)
  obtain ⟨x6, rfl, w6⟩ := has_i64' _ (by simp only [Ty.has]; exact h6)
  obtain ⟨x7, rfl, w7⟩ := has_i64' _ (by simp only [Ty.has]; exact h7)
  exact ⟨⟨x0, x1, x2, x3, x4, x5, x6, x7⟩, rfl, ⟨w1, w2, w3, w4, w5, w6, w7⟩⟩
def T_Wr : Ty := .agg 3 [.int .i64, .int .i64, .int .u32]
def Wr.wf (s : Wr) : Prop := i64R s.addr ∧ i64R s.size ∧ u32R s.val
theorem has_Wr (a : AV) (h : T_Wr.has a) : ∃ s : Wr, a = con (e_Wr s) ∧ s.wf := by
  simp only [T_Wr, Ty.has, Ty.hasL] at h
  obtain ⟨_, rfl, h⟩ := h
  obtain ⟨a0, _, rfl, h0, h⟩ := h
  obtain ⟨a1, _, rfl, h1, h⟩ := h
  obtain ⟨a2, _, rfl, h2, h⟩ := h
  subst h
  obtain ⟨x0, rfl, w0⟩ := has_i64' _ (by simp only [Ty.has]; exact h0)
  obtain ⟨x1, rfl, w1⟩ := has_i64' _ (by simp only [Ty.has]; exact h1)
  obtain ⟨x2, rfl, w2⟩ := has_u32' _ (by simp only [Ty.has]; exact h2)
  exact ⟨⟨x0, x1, x2⟩, rfl, ⟨w0, w1, w2⟩⟩
def T_Pos : Ty := .agg 3 [.int .i64, .int .i64, .int .i64]
def Pos.wf (s : Pos) : Prop := i64R s.block ∧ i64R s.index ∧ i64R s.base
theorem has_Pos (a : AV) (h : T_Pos.has a) : ∃ s : Pos, a = con (e_Pos s) ∧ s.wf := by
  simp only [T_Pos, Ty.has, Ty.hasL] at h
  obtain ⟨_, rfl, h⟩ := h
  obtain ⟨a0, _, rfl, h0, h⟩ := h
  obtain ⟨a1, _, rfl, h1, h⟩ := h
  obtain ⟨a2, _, rfl, h2, h⟩ := h
  subst h
  obtain ⟨x0, rfl, w0⟩ := has_i64' _ (by simp only [Ty.has]; exact h0)
  obtain ⟨x1, rfl, w1⟩ := has_i64' _ (by simp only [Ty.has]; exact h1)
  obtain ⟨x2, rfl, w2⟩ := has_i64' _ (by simp only [Ty.has]; exact h2)
  exact ⟨⟨x0, x1, x2⟩, rfl, ⟨w0, w1, w2⟩⟩
def T_Trp : Ty := .agg 3 [.int .i64, .int .i64, .int .i64]
def Trp.wf (s : Trp) : Prop := i64R s.kind ∧ i64R s.step ∧ i64R s.pc
theorem has_Trp (a : AV) (h : T_Trp.has a) : ∃ s : Trp, a = con (e_Trp s) ∧ s.wf := by
  simp only [T_Trp, Ty.has, Ty.hasL] at h
  obtain ⟨_, rfl, h⟩ := h
  obtain ⟨a0, _, rfl, h0, h⟩ := h
  obtain ⟨a1, _, rfl, h1, h⟩ := h
  obtain ⟨a2, _, rfl, h2, h⟩ := h
  subst h
  obtain ⟨x0, rfl, w0⟩ := has_i64' _ (by simp only [Ty.has]; exact h0)
  obtain ⟨x1, rfl, w1⟩ := has_i64' _ (by simp only [Ty.has]; exact h1)
  obtain ⟨x2, rfl, w2⟩ := has_i64' _ (by simp only [Ty.has]; exact h2)
  exact ⟨⟨x0, x1, x2⟩, rfl, ⟨w0, w1, w2⟩⟩
def T_Side : Ty := .agg 38 [.arr 16 1 (.int .u32), .arr 16 1 (.int .i64), T_Pos, .int .i64, .bool, .int .i64]
def Side.wf (s : Side) : Prop := (∀ i, i < 16 → u32R (s.regs i)) ∧ (∀ i, i < 16 → i64R (s.ready i)) ∧ s.pos.wf ∧ i64R s.wait ∧ i64R s.done
theorem has_Side (a : AV) (h : T_Side.has a) : ∃ s : Side, a = con (e_Side s) ∧ s.wf := by
  simp only [T_Side, Ty.has, Ty.hasL] at h
  obtain ⟨_, rfl, h⟩ := h
  obtain ⟨a0, _, rfl, h0, h⟩ := h
  obtain ⟨a1, _, rfl, h1, h⟩ := h
  obtain ⟨a2, _, rfl, h2, h⟩ := h
  obtain ⟨a3, _, rfl, h3, h⟩ := h
  obtain ⟨a4, _, rfl, h4, h⟩ := h
  obtain ⟨a5, _, rfl, h5, h⟩ := h
  subst h
  obtain ⟨x0, rfl, w0⟩ := has_tabI has_u32' (by simp only [Ty.has]; exact h0)
  obtain ⟨x1, rfl, w1⟩ := has_tabI has_i64' (by simp only [Ty.has]; exact h1)
  obtain ⟨x2, rfl, w2⟩ := has_Pos _ h2
  obtain ⟨x3, rfl, w3⟩ := has_i64' _ (by simp only [Ty.has]; exact h3)
  obtain ⟨x4, rfl, w4⟩ := has_bool' _ (by simp only [Ty.has]; exact h4)
  obtain ⟨x5, rfl, w5⟩ := has_i64' _ (by simp only [Ty.has]; exact h5)
  exact ⟨⟨x0, x1, x2, x3, x4, x5⟩, rfl, ⟨w0, w1, w2, w3, w5⟩⟩
def T_Stt : Ty := .agg 92 [.int .i64, T_Side, T_Side, .slice 3 16 T_Slot, .slice 1 4 (.int .u32), .slice 1 4 (.int .u32), .slice 1 1 .bool, .slice 1 1 .bool, .slice 5 32 T_Entry, .slice 8 64 T_Req, .slice 1 1 (.int .u8), .slice 3 24 T_Wr, T_Trp, .int .i64, .int .i64, .int .i64]
def Stt.wf (s : Stt) : Prop := i64R s.cycle ∧ s.a.wf ∧ s.e.wf ∧ ((∀ x ∈ s.ldq, x.wf) ∧ s.ldq.length * 16 ≤ 140737488351232) ∧ ((∀ x ∈ s.sdq, u32R x) ∧ s.sdq.length * 4 ≤ 140737488351232) ∧ ((∀ x ∈ s.aeq, u32R x) ∧ s.aeq.length * 4 ≤ 140737488351232) ∧ ((∀ x ∈ s.abq, True) ∧ s.abq.length * 1 ≤ 140737488351232) ∧ ((∀ x ∈ s.ebq, True) ∧ s.ebq.length * 1 ≤ 140737488351232) ∧ ((∀ x ∈ s.saq, x.wf) ∧ s.saq.length * 32 ≤ 140737488351232) ∧ ((∀ x ∈ s.table, x.wf) ∧ s.table.length * 64 ≤ 140737488351232) ∧ ((∀ x ∈ s.mem, u8R x) ∧ s.mem.length * 1 ≤ 140737488351232) ∧ ((∀ x ∈ s.writes, x.wf) ∧ s.writes.length * 24 ≤ 140737488351232) ∧ s.trap.wf ∧ i64R s.lats ∧ i64R s.picks ∧ i64R s.tags
theorem has_Stt (a : AV) (h : T_Stt.has a) : ∃ s : Stt, a = con (e_Stt s) ∧ s.wf := by
  simp only [T_Stt, Ty.has, Ty.hasL] at h
  obtain ⟨_, rfl, h⟩ := h
  obtain ⟨a0, _, rfl, h0, h⟩ := h
  obtain ⟨a1, _, rfl, h1, h⟩ := h
  obtain ⟨a2, _, rfl, h2, h⟩ := h
  obtain ⟨a3, _, rfl, h3, h⟩ := h
  obtain ⟨a4, _, rfl, h4, h⟩ := h
  obtain ⟨a5, _, rfl, h5, h⟩ := h
  obtain ⟨a6, _, rfl, h6, h⟩ := h
  obtain ⟨a7, _, rfl, h7, h⟩ := h
  obtain ⟨a8, _, rfl, h8, h⟩ := h
  obtain ⟨a9, _, rfl, h9, h⟩ := h
  obtain ⟨a10, _, rfl, h10, h⟩ := h
  obtain ⟨a11, _, rfl, h11, h⟩ := h
  obtain ⟨a12, _, rfl, h12, h⟩ := h
  obtain ⟨a13, _, rfl, h13, h⟩ := h
  obtain ⟨a14, _, rfl, h14, h⟩ := h
  obtain ⟨a15, _, rfl, h15, h⟩ := h
  subst h
  obtain ⟨x0, rfl, w0⟩ := has_i64' _ (by simp only [Ty.has]; exact h0)
  obtain ⟨x1, rfl, w1⟩ := has_Side _ h1
  obtain ⟨x2, rfl, w2⟩ := has_Side _ h2
  obtain ⟨x3, rfl, w3⟩ := has_row (en := e_Slot) (wf := Slot.wf) has_Slot (by simp only [Ty.has]; exact h3)
  obtain ⟨x4, rfl, w4⟩ := has_row (en := e_u32) (wf := u32R) has_u32' (by simp only [Ty.has]; exact h4)
  obtain ⟨x5, rfl, w5⟩ := has_row (en := e_u32) (wf := u32R) has_u32' (by simp only [Ty.has]; exact h5)
  obtain ⟨x6, rfl, w6⟩ := has_row (en := e_bool) (wf := fun _ => True) has_bool' (by simp only [Ty.has]; exact h6)
  obtain ⟨x7, rfl, w7⟩ := has_row (en := e_bool) (wf := fun _ => True) has_bool' (by simp only [Ty.has]; exact h7)
  obtain ⟨x8, rfl, w8⟩ := has_row (en := e_Entry) (wf := Entry.wf) has_Entry (by simp only [Ty.has]; exact h8)
  obtain ⟨x9, rfl, w9⟩ := has_row (en := e_Req) (wf := Req.wf) has_Req (by simp only [Ty.has]; exact h9)
  obtain ⟨x10, rfl, w10⟩ := has_row (en := e_u8) (wf := u8R) has_u8' (by simp only [Ty.has]; exact h10)
  obtain ⟨x11, rfl, w11⟩ := has_row (en := e_Wr) (wf := Wr.wf) has_Wr (by simp only [Ty.has]; exact h11)
  obtain ⟨x12, rfl, w12⟩ := has_Trp _ h12
  obtain ⟨x13, rfl, w13⟩ := has_i64' _ (by simp only [Ty.has]; exact h13)
  obtain ⟨x14, rfl, w14⟩ := has_i64' _ (by simp only [Ty.has]; exact h14)
  obtain ⟨x15, rfl, w15⟩ := has_i64' _ (by simp only [Ty.has]; exact h15)
  exact ⟨⟨x0, x1, x2, x3, x4, x5, x6, x7, x8, x9, x10, x11, x12, x13, x14, x15⟩, rfl, ⟨w0, w1, w2, w3, w4, w5, w6, w7, w8, w9, w10, w11, w12, w13, w14, w15⟩⟩
def T_Cfg : Ty := .agg 12 [.int .i64, .int .i64, .int .i64, .int .i64, .int .i64, .int .i64, .int .i64, .int .i64, .int .i64, .int .i64, .int .i64, .int .i64]
def Cfg.wf (s : Cfg) : Prop := i64R s.ldq ∧ i64R s.sdq ∧ i64R s.aeq ∧ i64R s.abq ∧ i64R s.ebq ∧ i64R s.saq ∧ i64R s.banks ∧ i64R s.flight ∧ i64R s.slip ∧ i64R s.lat ∧ i64R s.mul ∧ i64R s.div
theorem has_Cfg (a : AV) (h : T_Cfg.has a) : ∃ s : Cfg, a = con (e_Cfg s) ∧ s.wf := by
  simp only [T_Cfg, Ty.has, Ty.hasL] at h
  obtain ⟨_, rfl, h⟩ := h
  obtain ⟨a0, _, rfl, h0, h⟩ := h
  obtain ⟨a1, _, rfl, h1, h⟩ := h
  obtain ⟨a2, _, rfl, h2, h⟩ := h
  obtain ⟨a3, _, rfl, h3, h⟩ := h
  obtain ⟨a4, _, rfl, h4, h⟩ := h
  obtain ⟨a5, _, rfl, h5, h⟩ := h
  obtain ⟨a6, _, rfl, h6, h⟩ := h
  obtain ⟨a7, _, rfl, h7, h⟩ := h
  obtain ⟨a8, _, rfl, h8, h⟩ := h
  obtain ⟨a9, _, rfl, h9, h⟩ := h
  obtain ⟨a10, _, rfl, h10, h⟩ := h
  obtain ⟨a11, _, rfl, h11, h⟩ := h
  subst h
  obtain ⟨x0, rfl, w0⟩ := has_i64' _ (by simp only [Ty.has]; exact h0)
  obtain ⟨x1, rfl, w1⟩ := has_i64' _ (by simp only [Ty.has]; exact h1)
  obtain ⟨x2, rfl, w2⟩ := has_i64' _ (by simp only [Ty.has]; exact h2)
  obtain ⟨x3, rfl, w3⟩ := has_i64' _ (by simp only [Ty.has]; exact h3)
  obtain ⟨x4, rfl, w4⟩ := has_i64' _ (by simp only [Ty.has]; exact h4)
  obtain ⟨x5, rfl, w5⟩ := has_i64' _ (by simp only [Ty.has]; exact h5)
  obtain ⟨x6, rfl, w6⟩ := has_i64' _ (by simp only [Ty.has]; exact h6)
  obtain ⟨x7, rfl, w7⟩ := has_i64' _ (by simp only [Ty.has]; exact h7)
  obtain ⟨x8, rfl, w8⟩ := has_i64' _ (by simp only [Ty.has]; exact h8)
  obtain ⟨x9, rfl, w9⟩ := has_i64' _ (by simp only [Ty.has]; exact h9)
  obtain ⟨x10, rfl, w10⟩ := has_i64' _ (by simp only [Ty.has]; exact h10)
  obtain ⟨x11, rfl, w11⟩ := has_i64' _ (by simp only [Ty.has]; exact h11)
  exact ⟨⟨x0, x1, x2, x3, x4, x5, x6, x7, x8, x9, x10, x11⟩, rfl, ⟨w0, w1, w2, w3, w4, w5, w6, w7, w8, w9, w10, w11⟩⟩
def T_Script : Ty := .agg 2 [.slice 1 8 (.int .i64), .slice 1 8 (.int .i64)]
def Script.wf (s : Script) : Prop := ((∀ x ∈ s.lats, i64R x) ∧ s.lats.length * 8 ≤ 140737488351232) ∧ ((∀ x ∈ s.picks, i64R x) ∧ s.picks.length * 8 ≤ 140737488351232)
theorem has_Script (a : AV) (h : T_Script.has a) : ∃ s : Script, a = con (e_Script s) ∧ s.wf := by
  simp only [T_Script, Ty.has, Ty.hasL] at h
  obtain ⟨_, rfl, h⟩ := h
  obtain ⟨a0, _, rfl, h0, h⟩ := h
  obtain ⟨a1, _, rfl, h1, h⟩ := h
  subst h
  obtain ⟨x0, rfl, w0⟩ := has_row (en := e_i64) (wf := i64R) has_i64' (by simp only [Ty.has]; exact h0)
  obtain ⟨x1, rfl, w1⟩ := has_row (en := e_i64) (wf := i64R) has_i64' (by simp only [Ty.has]; exact h1)
  exact ⟨⟨x0, x1⟩, rfl, ⟨w0, w1⟩⟩
def T_Ins : Ty := .agg 5 [.int .i64, .int .i64, .int .i64, .int .i64, .int .i64]
def Ins.wf (s : Ins) : Prop := i64R s.op ∧ i64R s.d ∧ i64R s.a ∧ i64R s.b ∧ i64R s.imm
theorem has_Ins (a : AV) (h : T_Ins.has a) : ∃ s : Ins, a = con (e_Ins s) ∧ s.wf := by
  simp only [T_Ins, Ty.has, Ty.hasL] at h
  obtain ⟨_, rfl, h⟩ := h
  obtain ⟨a0, _, rfl, h0, h⟩ := h
  obtain ⟨a1, _, rfl, h1, h⟩ := h
  obtain ⟨a2, _, rfl, h2, h⟩ := h
  obtain ⟨a3, _, rfl, h3, h⟩ := h
  obtain ⟨a4, _, rfl, h4, h⟩ := h
  subst h
  obtain ⟨x0, rfl, w0⟩ := has_i64' _ (by simp only [Ty.has]; exact h0)
  obtain ⟨x1, rfl, w1⟩ := has_i64' _ (by simp only [Ty.has]; exact h1)
  obtain ⟨x2, rfl, w2⟩ := has_i64' _ (by simp only [Ty.has]; exact h2)
  obtain ⟨x3, rfl, w3⟩ := has_i64' _ (by simp only [Ty.has]; exact h3)
  obtain ⟨x4, rfl, w4⟩ := has_i64' _ (by simp only [Ty.has]; exact h4)
  exact ⟨⟨x0, x1, x2, x3, x4⟩, rfl, ⟨w0, w1, w2, w3, w4⟩⟩
def T_Cell : Ty := .agg 9 [.int .i64, T_Ins, .int .i64, .int .i64, .int .i64]
def Cell.wf (s : Cell) : Prop := i64R s.kind ∧ s.ins.wf ∧ i64R s.reg ∧ i64R s.pc ∧ i64R s.off
theorem has_Cell (a : AV) (h : T_Cell.has a) : ∃ s : Cell, a = con (e_Cell s) ∧ s.wf := by
  simp only [T_Cell, Ty.has, Ty.hasL] at h
  obtain ⟨_, rfl, h⟩ := h
  obtain ⟨a0, _, rfl, h0, h⟩ := h
  obtain ⟨a1, _, rfl, h1, h⟩ := h
  obtain ⟨a2, _, rfl, h2, h⟩ := h
  obtain ⟨a3, _, rfl, h3, h⟩ := h
  obtain ⟨a4, _, rfl, h4, h⟩ := h
  subst h
  obtain ⟨x0, rfl, w0⟩ := has_i64' _ (by simp only [Ty.has]; exact h0)
  obtain ⟨x1, rfl, w1⟩ := has_Ins _ h1
  obtain ⟨x2, rfl, w2⟩ := has_i64' _ (by simp only [Ty.has]; exact h2)
  obtain ⟨x3, rfl, w3⟩ := has_i64' _ (by simp only [Ty.has]; exact h3)
  obtain ⟨x4, rfl, w4⟩ := has_i64' _ (by simp only [Ty.has]; exact h4)
  exact ⟨⟨x0, x1, x2, x3, x4⟩, rfl, ⟨w0, w1, w2, w3, w4⟩⟩
def T_Block : Ty := .agg 6 [.int .i64, .int .i64, .int .i64, .int .i64, .slice 9 72 T_Cell, .slice 9 72 T_Cell]
def Block.wf (s : Block) : Prop := i64R s.src ∧ i64R s.dst ∧ i64R s.next ∧ i64R s.taken ∧ ((∀ x ∈ s.a, x.wf) ∧ s.a.length * 72 ≤ 140737488351232) ∧ ((∀ x ∈ s.e, x.wf) ∧ s.e.length * 72 ≤ 140737488351232)
theorem has_Block (a : AV) (h : T_Block.has a) : ∃ s : Block, a = con (e_Block s) ∧ s.wf := by
  simp only [T_Block, Ty.has, Ty.hasL] at h
  obtain ⟨_, rfl, h⟩ := h
  obtain ⟨a0, _, rfl, h0, h⟩ := h
  obtain ⟨a1, _, rfl, h1, h⟩ := h
  obtain ⟨a2, _, rfl, h2, h⟩ := h
  obtain ⟨a3, _, rfl, h3, h⟩ := h
  obtain ⟨a4, _, rfl, h4, h⟩ := h
  obtain ⟨a5, _, rfl, h5, h⟩ := h
  subst h
  obtain ⟨x0, rfl, w0⟩ := has_i64' _ (by simp only [Ty.has]; exact h0)
  obtain ⟨x1, rfl, w1⟩ := has_i64' _ (by simp only [Ty.has]; exact h1)
  obtain ⟨x2, rfl, w2⟩ := has_i64' _ (by simp only [Ty.has]; exact h2)
  obtain ⟨x3, rfl, w3⟩ := has_i64' _ (by simp only [Ty.has]; exact h3)
  obtain ⟨x4, rfl, w4⟩ := has_row (en := e_Cell) (wf := Cell.wf) has_Cell (by simp only [Ty.has]; exact h4)
  obtain ⟨x5, rfl, w5⟩ := has_row (en := e_Cell) (wf := Cell.wf) has_Cell (by simp only [Ty.has]; exact h5)
  exact ⟨⟨x0, x1, x2, x3, x4, x5⟩, rfl, ⟨w0, w1, w2, w3, w4, w5⟩⟩
def T_Split : Ty := .agg 17 [.slice 6 80 T_Block, .arr 16 1 (.int .i64)]
def Split.wf (s : Split) : Prop := ((∀ x ∈ s.blocks, x.wf) ∧ s.blocks.length * 80 ≤ 140737488351232) ∧ (∀ i, i < 16 → i64R (s.owner i))
theorem has_Split (a : AV) (h : T_Split.has a) : ∃ s : Split, a = con (e_Split s) ∧ s.wf := by
  simp only [T_Split, Ty.has, Ty.hasL] at h
  obtain ⟨_, rfl, h⟩ := h
  obtain ⟨a0, _, rfl, h0, h⟩ := h
  obtain ⟨a1, _, rfl, h1, h⟩ := h
  subst h
  obtain ⟨x0, rfl, w0⟩ := has_row (en := e_Block) (wf := Block.wf) has_Block (by simp only [Ty.has]; exact h0)
  obtain ⟨x1, rfl, w1⟩ := has_tabI has_i64' (by simp only [Ty.has]; exact h1)
  exact ⟨⟨x0, x1⟩, rfl, ⟨w0, w1⟩⟩
def T_Prog : Ty := .agg 3 [.slice 5 40 T_Ins, .int .i64, .slice 1 1 (.int .u8)]
def Prog.wf (s : Prog) : Prop := ((∀ x ∈ s.code, x.wf) ∧ s.code.length * 40 ≤ 140737488351232) ∧ i64R s.size ∧ ((∀ x ∈ s.data, u8R x) ∧ s.data.length * 1 ≤ 140737488351232)
theorem has_Prog (a : AV) (h : T_Prog.has a) : ∃ s : Prog, a = con (e_Prog s) ∧ s.wf := by
  simp only [T_Prog, Ty.has, Ty.hasL] at h
  obtain ⟨_, rfl, h⟩ := h
  obtain ⟨a0, _, rfl, h0, h⟩ := h
  obtain ⟨a1, _, rfl, h1, h⟩ := h
  obtain ⟨a2, _, rfl, h2, h⟩ := h
  subst h
  obtain ⟨x0, rfl, w0⟩ := has_row (en := e_Ins) (wf := Ins.wf) has_Ins (by simp only [Ty.has]; exact h0)
  obtain ⟨x1, rfl, w1⟩ := has_i64' _ (by simp only [Ty.has]; exact h1)
  obtain ⟨x2, rfl, w2⟩ := has_row (en := e_u8) (wf := u8R) has_u8' (by simp only [Ty.has]; exact h2)
  exact ⟨⟨x0, x1, x2⟩, rfl, ⟨w0, w1, w2⟩⟩
/-- A state whose rows are not too long. -/
def Stt.ok (s : Stt) : Prop := s.wf ∧ s.ldq.length ≤ 1000000 ∧ s.sdq.length ≤ 1000000 ∧ s.aeq.length ≤ 1000000 ∧ s.abq.length ≤ 1000000 ∧ s.ebq.length ≤ 1000000 ∧ s.saq.length ≤ 1000000 ∧ s.table.length ≤ 1000000 ∧ s.mem.length ≤ 1000000 ∧ s.writes.length ≤ 1000000
end Go.Ra

/- Which request first has a byte of an entry. -/
namespace Go.Proofs.Ytbemlndjdbopeaa
open Go.Ra
set_option linter.unusedVariables false
set_option linter.unusedSimpArgs false
def TC0 : Tab := mkT qq (cl_commit ++ cl_slices) [(56, ovlSp)] gl_slices
/-- Is it a load that has a byte of an entry? -/
def ldOf (e : Entry) (r : Req) : Bool := !r.store && ovlB r.addr r.size e.addr e.size
def idrS : List XV → Option ((XV → Prop) → Prop) := skOf (fun p : List Req × Entry => [e_row 8 e_Req p.1, .clo 55 [.fptr (e_Entry p.2)]]) (fun p => p.1.length ≤ 1000000 ∧ (∀ r ∈ p.1, r.wf) ∧ p.2.wf) (fun p => idxF (ldOf p.2) p.1) (fun y => .int .i64 y)
theorem TC0ok : TabOk Try.prog TC0 := mkT_ok (clok_commit.app clok_slices) ⟨sp_ovl, trivial⟩ glok_slices
theorem r_idr1 (l : List Req) (e : Entry) (r : XV) : (goQ Try.prog TC0 [(.tmp 4)] r (.run c_slices_IndexFunc_Request_Request) [] ⟨envX 0 [e_row 8 e_Req l, .clo 55 [.fptr (e_Entry e)]], [], 0⟩) = (LoopAt (Ok Try.prog (Tab.q TC0)) c_slices_IndexFunc_Request_Request_l1 (XSt.mk [(8, .int .i64 0), (7, .int .i64 (↑(List.length l) : Int)), (4, .int .i64 0),
 (0, e_row 8 e_Req l), (1, .clo 55 [.fptr (e_Entry e)])] [] 0) [Frm.blk 0, Frm.seq c_slices_IndexFunc_Request_Request_p1] (finQR [AR.tmp 4] r)) := by kernel_rfl
theorem r_idr2 (l : List Req) (e : Entry) (i : Nat) (r : XV) (A : XSt → Prop) : (goQ Try.prog TC0 [(.tmp 4)] r (.run c_slices_IndexFunc_Request_Request_l1) [.lp c_slices_IndexFunc_Request_Request_l1 A, .blk 0, .seq c_slices_IndexFunc_Request_Request_p1] ⟨[(0, e_row 8 e_Req l), (1, .clo 55 [.fptr (e_Entry e)]), (8, .int .i64 i), (7, .int .i64 l.length)], [], 0⟩) = (bif decide ((↑i : Int) < (↑(List.length l) : Int)) then bif decide ((↑i : Int) < (↑(List.length l) : Int)) then bif bif i64B (Req.addr (ix l i)) then true else
 !!Req.store (ix l i) then bif bif i64B (Req.size (ix l i)) then true else !!Req.store (ix l i) then bif bif i64B (Entry.addr e) then true else !!Req.store (ix l
 i) then bif bif i64B (Entry.size e) then true else !!Req.store (ix l i) then bif bif !Req.store (ix l i) then !Req.store (ix l i) else true then bif bif !Req.store
 (ix l i) then ovlB (Req.addr (ix l i)) (Req.size (ix l i)) (Entry.addr e) (Entry.size e) else false then ResLe (.int .i64 (↑i : Int)) r else A (XSt.mk [(8, .int
 .i64 (IntKind.wrap .i64 ((↑i : Int) + (1 : Int)))), (0, e_row 8 e_Req l), (1, .clo 55 [.fptr (e_Entry e)]), (7, .int .i64 (↑(List.length l) : Int))] [] 0) else False
 else False else False else False else False else False
else ResLe (.int .i64 (-1 : Int)) r) := by kernel_rfl
theorem i64B_of {n : Int} (h : i64R n) : i64B n = true := i64B_iff.2 h
theorem sk_idr : SkOk Try.prog (64, idrS) := skOf_ok fun ⟨l, e⟩ h => by
  obtain ⟨hl, hw, he⟩ : l.length ≤ 1000000 ∧ (∀ r ∈ l, r.wf) ∧ e.wf := h
  refine pureQ mix TC0ok t_slices_IndexFunc_Request_Request (Nat.le_of_ble_eq_true rfl) ?_
  refine Eq.mpr (r_idr1 l e _) ?_
  refine loopQ mix TC0ok (fun i : Nat => ⟨[(0, e_row 8 e_Req l), (1, .clo 55 [.fptr (e_Entry e)]), (8, .int .i64 i), (7, .int .i64 l.length)], [], 0⟩) (fun i => i ≤ l.length ∧ ∀ j, j < i → ldOf e (ix l j) = false) (fun i => l.length - i) 0 ⟨Nat.zero_le _, fun j hj => by omega⟩ (.of (weakX ⟨rfl, rfl, rfl, rfl, trivial⟩ trivial (Nat.le_refl _))) ?_
  rintro i ⟨hi, hp⟩
  refine Eq.mpr (r_idr2 l e i _ _) ?_
  by_cases hlt : i < l.length
  · have h1 : (i : Int) < (l.length : Int) := by omega
    have h2 := hw _ (ix_mem hlt)
    have w1 : IntKind.i64.wrap ((i : Int) + 1) = ((i + 1 : Nat) : Int) := wrap_i64 (by omega) (by omega)
    simp only [h1, i64B_of h2.2.1, i64B_of h2.2.2.1, i64B_of he.1, i64B_of he.2.1, w1, decide_true, decide_false, cond_true, cond_false, allN_true, Nat.le_refl, Int.toNat_natCast, Nat.beq_refl, pk_and, pk_or, Bool.not_true, Bool.not_false, not_true_eq_false, not_false_eq_true, Bool.and_true, Bool.true_and, Bool.and_self, ge_iff_le, Int.le_refl, if_true, if_false, reduceCtorEq, eq_self, BEq.rfl]
    have e1 : ldOf e (ix l i) = bif !(ix l i).store then ovlB (ix l i).addr (ix l i).size e.addr e.size else false := by
      unfold ldOf; cases (ix l i).store <;> rfl
    rw [← e1]
    refine cnd2 (fun h => ?_) (fun h => ?_)
    · rw [idxF_some hlt h hp]; exact .rfl
    · refine ⟨i + 1, ⟨hlt, fun j hj => ?_⟩, .of (weakX ⟨rfl, rfl, rfl, rfl, trivial⟩ trivial (Nat.le_refl _)), by omega⟩
      by_cases hji : j = i
      · subst hji; exact h
      · exact hp j (by omega)
  · have h1 : ¬ (i : Int) < (l.length : Int) := by omega
    simp only [h1, decide_true, decide_false, cond_true, cond_false, allN_true, Nat.le_refl, Int.toNat_natCast, Nat.beq_refl, pk_and, pk_or, Bool.not_true, Bool.not_false, not_true_eq_false, not_false_eq_true, Bool.and_true, Bool.true_and, Bool.and_self, ge_iff_le, Int.le_refl, if_true, if_false, reduceCtorEq, eq_self, BEq.rfl]
    rw [idxF_none fun j hj => hp j (by omega)]
    exact .rfl
end Go.Proofs.Ytbemlndjdbopeaa

/- May the first store be sent? -/
namespace Go.Proofs.Ytbemlndjdbopeaa
open Go.Ra
set_option linter.unusedVariables false
set_option linter.unusedSimpArgs false
def TC1 : Tab := mkT2 qq (cl_commit ++ cl_slices) [] gl_slices [(64, idrS)] []
/-- May the first store be sent? -/
def canF (c : Cfg) (s : Stt) : Bool := decide (¬ s.saq = []) && (!(ix s.saq 0).known && (decide (¬ s.sdq = []) && (decide ((s.table.length : Int) < c.flight) && (!(decide (¬ s.trap.kind = 0) && decide ((ix s.saq 0).step ≥ s.trap.step)) && !s.table.any (ldOf (ix s.saq 0))))))
def canS : List XV → Option ((XV → Prop) → Prop) := skOf (fun p : Cfg × Stt => [e_Cfg p.1, .fptr (e_Stt p.2)]) (fun p => p.2.ok) (fun p => canF p.1 p.2) (fun y => .bool y)
theorem TC1ok : TabOk Try.prog TC1 := mkT2_ok (clok_commit.app clok_slices) trivial glok_slices ⟨sk_idr, trivial⟩ trivial
theorem nil_len {α : Type} (l : List α) : ((l.length : Int) = 0) = (l = []) := by
  cases l with
  | nil => simp
  | cons a l => simp; omega
theorem r_can (c : Cfg) (s : Stt) (r : XV) : (quietGo TC1 80 (callI TC1 80 20) 33 [e_Cfg c, .fptr (e_Stt s)] (fun v => ResLe v r)) = (bif bif decide (0 < (↑(List.length (Stt.saq s)) : Int)) then true else !!decide ((↑(List.length (Stt.saq s)) : Int) = 0) then bif bif decide ((↑(List.length
 (Stt.saq s)) : Int) = 0) then true else !decide ((↑(List.length (Stt.saq s)) : Int) = 0) then bif bif bif decide ((↑(List.length (Stt.saq s)) : Int) = 0) then true
 else Entry.known (ix (Stt.saq s) 0) then true else !bif decide ((↑(List.length (Stt.saq s)) : Int) = 0) then true else Entry.known (ix (Stt.saq s) 0) then bif bif
 bif bif decide ((↑(List.length (Stt.saq s)) : Int) = 0) then true else Entry.known (ix (Stt.saq s) 0) then true else decide ((↑(List.length (Stt.sdq s)) : Int) =
 0) then true else !bif bif decide ((↑(List.length (Stt.saq s)) : Int) = 0) then true else Entry.known (ix (Stt.saq s) 0) then true else decide ((↑(List.length (Stt.sdq
 s)) : Int) = 0) then bif bif bif bif decide ((↑(List.length (Stt.saq s)) : Int) = 0) then true else Entry.known (ix (Stt.saq s) 0) then true else decide ((↑(List.length
 (Stt.sdq s)) : Int) = 0) then true else decide ((↑(List.length (Stt.table s)) : Int) ≥ Cfg.flight c) then ResLe (.bool false) r else bif decide (0 < (↑(List.length
 (Stt.saq s)) : Int)) then bif bif decide ¬Trp.kind (Stt.trap s) = 0 then decide ¬Trp.kind (Stt.trap s) = 0 else true then bif bif decide ¬Trp.kind (Stt.trap s) =
 0 then decide (Entry.step (ix (Stt.saq s) 0) ≥ Trp.step (Stt.trap s)) else false then ResLe (.bool false) r else ∃ (s_1 : List Req × Entry), ArgsLe [e_row 8 e_Req
 (Stt.table s), .clo 55 [.fptr (e_Entry (ix (Stt.saq s) 0))]] [e_row 8 e_Req (Prod.fst s_1), .clo 55 [.fptr (e_Entry (Prod.snd s_1))]] ∧ PreIs (List.length (Prod.fst
 s_1) ≤ 1000000 ∧ (∀ (r : Req), r ∈ Prod.fst s_1 → Req.wf r) ∧ Entry.wf (Prod.snd s_1)) ∧ ∀ (y : Int), y = idxF (ldOf (Prod.snd s_1)) (Prod.fst s_1) → ResLe (.bool
 !decide (y ≥ 0)) r else False else False else False else False else False
else False) := by kernel_rfl
theorem sk_can : SkOk Try.prog (33, canS) := skOf_ok fun ⟨c, s⟩ h => by
  have h : s.ok := h
  refine pureR (u := 80) (k := 20) mix TC1ok ?_
  refine Eq.mpr (r_can c s _) ?_
  show _
  simp only [nil_len, pk_or, pk_and, cond_true]
  unfold canF
  by_cases g8 : s.saq = []
  · simp [g8]; exact .rfl
  have l8 : 0 < s.saq.length := List.length_pos_iff.2 g8
  have l8' : (0 : Int) < (s.saq.length : Int) := by omega
  cases hk : (ix s.saq 0).known with
  | true => simp [g8, l8, hk]; exact .rfl
  | false =>
    by_cases g4 : s.sdq = []
    · simp [g8, l8, hk, g4]; exact .rfl
    by_cases gf : (s.table.length : Int) < c.flight
    · have gf' : ¬ c.flight ≤ (s.table.length : Int) := by omega
      by_cases gt : ¬ s.trap.kind = 0 ∧ (ix s.saq 0).step ≥ s.trap.step
      · have gt2 : s.trap.step ≤ (ix s.saq 0).step := gt.2
        simp [g8, l8, hk, g4, gf, gf', gt.1, gt2]; exact .rfl
      · have ht : (decide (¬ s.trap.kind = 0) && decide ((ix s.saq 0).step ≥ s.trap.step)) = false := by
          rw [Bool.and_eq_false_iff, decide_eq_false_iff_not, decide_eq_false_iff_not]
          by_cases h0 : s.trap.kind = 0
          · exact .inl (by simp [h0])
          · exact .inr fun h => gt ⟨h0, h⟩
        have ht2 : (bif decide (¬ s.trap.kind = 0) then decide ((ix s.saq 0).step ≥ s.trap.step) else false) = false := by rw [← ht]; cases decide (¬ s.trap.kind = 0) <;> rfl
        rw [ht, ht2]
        have d1 : decide ((s.table.length : Int) ≥ c.flight) = false := decide_eq_false gf'
        simp only [g8, g4, hk, l8', gf, d1, decide_true, decide_false, cond_true, cond_false, Bool.not_true, Bool.not_false, Bool.true_and, not_false_eq_true]
        refine ⟨(s.table, ix s.saq 0), .rfl, ⟨h.2.2.2.2.2.2.2.1, h.1.2.2.2.2.2.2.2.2.2.1.1, h.1.2.2.2.2.2.2.2.2.1.1 _ (ix_mem l8)⟩, ?_⟩
        rintro y rfl
        rw [idxF_ge]
        exact .rfl
    · have gf' : c.flight ≤ (s.table.length : Int) := by omega
      simp [g8, l8, hk, g4, gf, gf']; exact .rfl
end Go.Proofs.Ytbemlndjdbopeaa

/- The sending of the first store. -/
namespace Go.Proofs.Ytbemlndjdbopeaa
open Go.Ra
set_option linter.unusedVariables false
set_option linter.unusedSimpArgs false
def TMs : Tab := mkT qq (cl_saq ++ cl_commit) [] []
def opI (s : Int) : Int := if s = 1 then 33 else if s = 2 then 32 else 31
def opSp : List XV → Option (List Bool × XV)
  | [.int .i64 n] => some ([], .int .i64 (opI n))
  | _ => none
def TC2 : Tab := mkT2 qq (cl_commit ++ cl_slices ++ cl_state ++ cl_saq) [(57, mskSp), (58, opSp)] gl_slices [(33, canS)] []
/-- The state behind the sending of the first store. -/
def sendG (s : Stt) : Stt := { s with
  saq := s.saq.set 0 { ix s.saq 0 with known := true, val := mskI (ix s.sdq 0) (ix s.saq 0).size }
  sdq := s.sdq.tail
  table := s.table ++ [⟨true, opI (ix s.saq 0).size, (ix s.saq 0).addr, (ix s.saq 0).size, mskI (ix s.sdq 0) (ix s.saq 0).size, 0, 0, 0⟩] }
def sendF (c : Cfg) (s : Stt) : Stt := if canF c s then sendG s else s
def sndS : List XV → Option ((XV → Prop) → Prop) := skOf (fun p : Cfg × Stt => [e_Cfg p.1, e_Stt p.2]) (fun p => p.2.ok) (fun p => sendF p.1 p.2) (fun y => e_Stt y)
theorem TMsok : TabOk Try.prog TMs := mkT_ok (clok_saq.app clok_commit) trivial trivial
theorem r_smask (w n : Int) (K : XV → Prop) : (quietGo TMs 80 (callI TMs 80 20) 57 [.int .u32 w, .int .i64 n] K) = (bif decide (n = 1) then K (.int .u32 (bitsI .and .u32 w (255 : Int)))
else bif decide (n = 2) then K (.int .u32 (bitsI .and .u32 w (65535 : Int))) else bif decide
 (n = 4) then K (.int .u32 w) else K (.int .u32 0)) := by kernel_rfl
theorem r_op (n : Int) (K : XV → Prop) : (quietGo TMs 80 (callI TMs 80 20) 58 [.int .i64 n] K) = (bif decide (n = 1) then K (.int .i64 33) else bif decide (n = 2) then K (.int .i64 32) else K (.int .i64 31)) := by kernel_rfl
theorem sp_smask : SpOk Try.prog (57, mskSp) := by
  intro args nd v ha hn
  simp only [mskSp] at ha
  split at ha <;> simp only [Option.some.injEq, Prod.mk.injEq, reduceCtorEq] at ha
  obtain ⟨hnd, rfl⟩ := ha
  clear hnd hn
  rename_i w n
  refine pureX (u := 80) (k := 20) mix TMsok ?_
  rw [r_smask]
  unfold mskI
  by_cases h1 : n = 1
  · subst h1; simp
  by_cases h2 : n = 2
  · subst h2; simp
  by_cases h3 : n = 4
  · subst h3; simp
  simp [h1, h2, h3]
theorem sp_op : SpOk Try.prog (58, opSp) := by
  intro args nd v ha hn
  simp only [opSp] at ha
  split at ha <;> simp only [Option.some.injEq, Prod.mk.injEq, reduceCtorEq] at ha
  obtain ⟨hnd, rfl⟩ := ha
  clear hnd hn
  rename_i n
  refine pureX (u := 80) (k := 20) mix TMsok ?_
  rw [r_op]
  unfold opI
  by_cases h1 : n = 1
  · subst h1; simp
  by_cases h2 : n = 2
  · subst h2; simp
  simp [h1, h2]
theorem TC2ok : TabOk Try.prog TC2 := mkT2_ok (((clok_commit.app clok_slices).app clok_state).app clok_saq) ⟨sp_smask, sp_op, trivial⟩ glok_slices ⟨sk_can, trivial⟩ trivial
theorem r_snd (c : Cfg) (s : Stt) (r : XV) : (quietGo TC2 80 (callI TC2 80 20) 17 [e_Cfg c, e_Stt s] (fun v => ResLe v r)) = (bif decide (List.length (Stt.ldq s) * 16 ≤ 140737488355328) then bif allN (fun i => true) (List.length (Stt.ldq s)) then bif decide (List.length (Stt.sdq s)
 * 4 ≤ 140737488355328) then bif allN (fun i => true) (List.length (Stt.sdq s)) then bif decide (List.length (Stt.aeq s) * 4 ≤ 140737488355328) then bif allN (fun
 i => true) (List.length (Stt.aeq s)) then bif decide (List.length (Stt.abq s) * 1 ≤ 140737488355328) then bif allN (fun i => true) (List.length (Stt.abq s)) then
 bif decide (List.length (Stt.ebq s) * 1 ≤ 140737488355328) then bif allN (fun i => true) (List.length (Stt.ebq s)) then bif decide (List.length (Stt.saq s) * 32
 ≤ 140737488355328) then bif allN (fun i => true) (List.length (Stt.saq s)) then bif decide (List.length (Stt.table s) * 64 ≤ 140737488355328) then bif allN (fun
 i => true) (List.length (Stt.table s)) then bif decide (List.length (Stt.mem s) * 1 ≤ 140737488355328) then bif allN (fun i => true) (List.length (Stt.mem s)) then
 bif decide (List.length (Stt.writes s) * 24 ≤ 140737488355328) then bif allN (fun i => true) (List.length (Stt.writes s)) then bif decide (List.length (Stt.ldq s)
 ≤ List.length (Stt.ldq s)) then bif decide (List.length (Stt.sdq s) ≤ List.length (Stt.sdq s)) then bif decide (List.length (Stt.aeq s) ≤ List.length (Stt.aeq s))
 then bif decide (List.length (Stt.abq s) ≤ List.length (Stt.abq s)) then bif decide (List.length (Stt.ebq s) ≤ List.length (Stt.ebq s)) then bif decide (List.length
 (Stt.saq s) ≤ List.length (Stt.saq s)) then bif decide (List.length (Stt.table s) ≤ List.length (Stt.table s)) then bif decide (List.length (Stt.mem s) ≤ List.length
 (Stt.mem s)) then bif decide (List.length (Stt.writes s) ≤ List.length (Stt.writes s)) then ∃ (s_1 : Cfg × Stt), ArgsLe [e_Cfg c, .fptr (e_Stt s)] [e_Cfg (Prod.fst
 s_1), .fptr (e_Stt (Prod.snd s_1))] ∧ PreIs (Stt.ok (Prod.snd s_1)) ∧ ∀ (y : Bool), y = canF (Prod.fst s_1) (Prod.snd s_1) → bif !y then bif decide (List.length
 (Stt.ldq s) ≤ List.length (Stt.ldq s)) then bif decide (List.length (Stt.sdq s) ≤ List.length (Stt.sdq s)) then bif decide (List.length (Stt.aeq s) ≤ List.length
 (Stt.aeq s)) then bif decide (List.length (Stt.abq s) ≤ List.length (Stt.abq s)) then bif decide (List.length (Stt.ebq s) ≤ List.length (Stt.ebq s)) then bif decide
 (List.length (Stt.saq s) ≤ List.length (Stt.saq s)) then bif decide (List.length (Stt.table s) ≤ List.length (Stt.table s)) then bif decide (List.length (Stt.mem
 s) ≤ List.length (Stt.mem s)) then bif decide (List.length (Stt.writes s) ≤ List.length (Stt.writes s)) then ResLe (e_Stt s) r else False else False else False else
 False else False else False else False else False else False else bif decide (0 < (↑(List.length (Stt.saq s)) : Int)) then bif decide (0 < (↑(List.length (Stt.sdq
 s)) : Int)) then bif decide (0 < List.length (Stt.sdq s)) then bif decide (0 < List.length (Stt.saq s)) then bif decide (0 < List.length (Stt.saq s)) then bif decide
 (0 < List.length (Stt.saq s)) then bif decide (0 < List.length (Stt.saq s)) then bif decide (0 < List.length (Stt.saq s)) then bif decide (1 ≤ (↑(List.length (Stt.sdq
 s)) : Int)) then bif decide (0 < List.length (Stt.saq s)) then bif decide (0 < List.length (Stt.saq s)) then bif decide (0 < List.length (Stt.saq s)) then bif decide
 (0 < List.length (Stt.saq s)) then bif decide (List.length (Stt.table s) ≤ List.length (Stt.table s)) then bif decide (pl (List.length (Stt.table s)) 1 * 64 ≤ 140737488355328)
 then bif decide (List.length (Stt.ldq s) ≤ List.length (Stt.ldq s)) then bif decide (pl 1 (List.length (Stt.sdq s) - 1) ≤ List.length (Stt.sdq s)) then bif decide
 (List.length (Stt.aeq s) ≤ List.length (Stt.aeq s)) then bif decide (List.length (Stt.abq s) ≤ List.length (Stt.abq s)) then bif decide (List.length (Stt.ebq s)
 ≤ List.length (Stt.ebq s)) then bif decide (List.length (Stt.saq s) ≤ List.length (Stt.saq s)) then bif decide (pl (List.length (Stt.table s)) 1 ≤ pl (List.length
 (Stt.table s)) 1) then bif decide (List.length (Stt.mem s) ≤ List.length (Stt.mem s)) then bif decide (List.length (Stt.writes s) ≤ List.length (Stt.writes s)) then
 ResLe (.agg 92 [.int .i64 (Stt.cycle s), e_Side (Stt.a s), e_Side (Stt.e s), e_row 3 e_Slot (Stt.ldq s), .row false 1 (List.length (Stt.sdq s) - 1) fun i => e_u32
 (ix (Stt.sdq s) (pl 1 i)), e_row 1 e_u32 (Stt.aeq s), e_row 1 e_bool (Stt.abq s), e_row 1 e_bool (Stt.ebq s), .row false 5 (List.length (Stt.saq s)) fun i => .agg
 5 [.int .i64 (bif Nat.beq i 0 then Entry.addr (ix (Stt.saq s) 0) else bif Nat.beq i 0 then Entry.addr (ix (Stt.saq s) 0) else Entry.addr (ix (Stt.saq s) i)), .int
 .i64 (bif Nat.beq i 0 then Entry.size (ix (Stt.saq s) 0) else bif Nat.beq i 0 then Entry.size (ix (Stt.saq s) 0) else Entry.size (ix (Stt.saq s) i)), .int .i64 (bif
 Nat.beq i 0 then Entry.step (ix (Stt.saq s) 0) else bif Nat.beq i 0 then Entry.step (ix (Stt.saq s) 0) else Entry.step (ix (Stt.saq s) i)), .bool (bif Nat.beq i
 0 then true else bif Nat.beq i 0 then true else Entry.known (ix (Stt.saq s) i)), .int .u32 (bif Nat.beq i 0 then mskI (ix (Stt.sdq s) 0) (Entry.size (ix (Stt.saq
 s) 0)) else bif Nat.beq i 0 then Entry.val (ix (Stt.saq s) 0) else Entry.val (ix (Stt.saq s) i))], .row false 8 (pl (List.length (Stt.table s)) 1) fun i => .agg
 8 [.bool (bif decide (i < List.length (Stt.table s)) then Req.store (ix (Stt.table s) i) else true), .int .i64 (bif decide (i < List.length (Stt.table s)) then Req.op
 (ix (Stt.table s) i) else opI (Entry.size (ix (Stt.saq s) 0))), .int .i64 (bif decide (i < List.length (Stt.table s)) then Req.addr (ix (Stt.table s) i) else Entry.addr
 (ix (Stt.saq s) 0)), .int .i64 (bif decide (i < List.length (Stt.table s)) then Req.size (ix (Stt.table s) i) else Entry.size (ix (Stt.saq s) 0)), .int .u32 (bif
 decide (i < List.length (Stt.table s)) then Req.val (ix (Stt.table s) i) else mskI (ix (Stt.sdq s) 0) (Entry.size (ix (Stt.saq s) 0))), .int .i64 (bif decide (i
 < List.length (Stt.table s)) then Req.left (ix (Stt.table s) i) else (0 : Int)), .int .i64 (bif decide (i < List.length (Stt.table s)) then Req.reg (ix (Stt.table
 s) i) else (0 : Int)), .int .i64 (bif decide (i < List.length (Stt.table s)) then Req.tag (ix (Stt.table s) i) else (0 : Int))], e_row 1 e_u8 (Stt.mem s), e_row
 3 e_Wr (Stt.writes s), e_Trp (Stt.trap s), .int .i64 (Stt.lats s), .int .i64 (Stt.picks s), .int .i64 (Stt.tags s)]) r else False else False else False else False
 else False else False else False else False else False else False else False else False else False else False else False else False else False else False else False
 else False else False else False else False else False else False else False else False else False else False else False else False else False else False else False
 else False else False else False else False else False else False else False else False else False else False else False else False else False else False else False
 else False
else False) := by kernel_rfl
/-- The rows of a state are of lengths that slices may have. -/
theorem ok_b {s : Stt} (h : s.ok) : s.ldq.length * 16 ≤ 140737488355328 ∧ s.sdq.length * 4 ≤ 140737488355328 ∧ s.aeq.length * 4 ≤ 140737488355328 ∧ s.abq.length * 1 ≤ 140737488355328 ∧ s.ebq.length * 1 ≤ 140737488355328 ∧ s.saq.length * 32 ≤ 140737488355328 ∧ s.table.length * 64 ≤ 140737488355328 ∧ s.mem.length * 1 ≤ 140737488355328 ∧ s.writes.length * 24 ≤ 140737488355328 := by
  obtain ⟨_, h⟩ := h
  omega
theorem sk_snd : SkOk Try.prog (17, sndS) := skOf_ok fun ⟨c, s⟩ h => by
  have h : s.ok := h
  refine pureR (u := 80) (k := 20) mix TC2ok ?_
  refine Eq.mpr (r_snd c s _) ?_
  obtain ⟨b1, b2, b3, b4, b5, b6, b7, b8, b9⟩ := ok_b h
  simp only [b1, b2, b3, b4, b5, b6, b7, b8, b9, allN_true, Nat.le_refl, pl_eq, decide_true, cond_true]
  refine ⟨(c, s), .rfl, ⟨h⟩, ?_⟩
  rintro y rfl
  show cond (!canF c s) _ _
  unfold sendF
  cases hu : canF c s with
  | false => exact .rfl
  | true =>
    have hu' := hu
    simp only [canF, Bool.and_eq_true, decide_eq_true_eq] at hu'
    have l8 : 0 < s.saq.length := List.length_pos_iff.2 hu'.1
    have l4 : 0 < s.sdq.length := List.length_pos_iff.2 hu'.2.2.1
    have l8' : (0 : Int) < (s.saq.length : Int) := by omega
    have l4' : (0 : Int) < (s.sdq.length : Int) := by omega
    have l4a : (1 : Int) ≤ (s.sdq.length : Int) := by omega
    have l4b : 1 + (s.sdq.length - 1) ≤ s.sdq.length := by omega
    have l9 : (s.table.length + 1) * 64 ≤ 140737488355328 := by have := h.2; omega
    simp only [Bool.not_true, cond_false, cond_true, l8, l4, l8', l4', l4a, l4b, l9, decide_true, if_true]
    refine ⟨lq_agg ?_⟩
    repeat' (first | with_reducible exact .refl _ | exact lqs_nil | refine lqs_cons ?_ ?_ | exact .refl _)
    · refine lq_erow (by simp [sendG]) (.inl rfl) fun i hi => ?_
      show leQ (con (e_u32 (ix s.sdq (1 + i)))) (con (e_u32 (ix s.sdq.tail i)))
      rw [ix_tail, Nat.add_comm]
      exact .refl _
    · refine lq_erow (by simp [sendG]) (.inl rfl) fun i hi => ?_
      refine lq_con ?_
      by_cases hi0 : i = 0
      · subst hi0
        simp only [sendG, ix_set, l8, and_self, if_true, Nat.beq_refl, cond_true]
        rfl
      · simp only [sendG, ix_set, hi0, false_and, if_false, beq_ne hi0, cond_false]
        rfl
    · refine lq_erow (by simp [sendG]) (.inl rfl) fun i hi => ?_
      refine lq_con ?_
      by_cases hi0 : i < s.table.length
      · simp only [sendG, ix_append, hi0, if_true, decide_true, cond_true]
        rfl
      · have : i - s.table.length = 0 := by omega
        simp only [sendG, ix_append, hi0, if_false, decide_false, cond_false, this]
        rfl
end Go.Proofs.Ytbemlndjdbopeaa

/- When two states are one. -/
namespace Go.Proofs.Ytbemlndjdbopeaa
open Go.Ra
set_option linter.unusedVariables false
set_option linter.unusedSimpArgs false
def TC5 : Tab := mkT qq cl_ref15 [] gl_ref15
def wrdS : List XV → Option ((XV → Prop) → Prop) := skOf (fun p : List Int × List Int => [e_row 1 e_u32 p.1, e_row 1 e_u32 p.2]) (fun p => p.1.length ≤ 1000000) (fun p => decide (p.1 = p.2)) (fun y => .bool y)
def boolS : List XV → Option ((XV → Prop) → Prop) := skOf (fun p : List Bool × List Bool => [e_row 1 e_bool p.1, e_row 1 e_bool p.2]) (fun p => p.1.length ≤ 1000000) (fun p => decide (p.1 = p.2)) (fun y => .bool y)
def TC6 : Tab := mkT2 qq cl_ref15 [] gl_ref15 [(35, wrdS), (36, boolS)] []
def sideB (x y : Side) : Bool := allN (fun i => decide (x.regs i = y.regs i)) 16 && (allN (fun i => decide (x.ready i = y.ready i)) 16 && ((decide (x.pos.block = y.pos.block) && (decide (x.pos.index = y.pos.index) && (decide (x.pos.base = y.pos.base) && true))) && (decide (x.wait = y.wait) && ((x.halted == y.halted) && (decide (x.done = y.done) && true)))))
def trpB (x y : Trp) : Bool := decide (x.kind = y.kind) && (decide (x.step = y.step) && (decide (x.pc = y.pc) && true))
def hdB (a b : Stt) : Bool := decide (a.cycle = b.cycle) && (sideB a.a b.a && (sideB a.e b.e && (trpB a.trap b.trap && (decide (a.lats = b.lats) && (decide (a.picks = b.picks) && (decide (a.tags = b.tags) && (decide (a.mem = b.mem) && (decide ((a.ldq.length : Int) = b.ldq.length) && (decide ((a.saq.length : Int) = b.saq.length) && (decide ((a.table.length : Int) = b.table.length) && decide ((a.writes.length : Int) = b.writes.length)))))))))))
/-- Are two states one? -/
def sameF (a b : Stt) : Bool := hdB a b && (decide (a.ldq = b.ldq) && (decide (a.saq = b.saq) && (decide (a.table = b.table) && (decide (a.writes = b.writes) && (decide (a.sdq = b.sdq) && (decide (a.aeq = b.aeq) && (decide (a.abq = b.abq) && decide (a.ebq = b.ebq))))))))
def samS : List XV → Option ((XV → Prop) → Prop) := skOf (fun p : Stt × Stt => [e_Stt p.1, e_Stt p.2]) (fun p => p.1.ok ∧ p.2.ok) (fun p => sameF p.1 p.2) (fun y => .bool y)
def ssS (k : Nat) (i : Nat) (a b : Stt) : XSt := ⟨[(2, .ptr 0 [] 0), (3, .ptr 1 [] 0), (k, .int .i64 i)], [(1, some (e_Stt b)), (0, some (e_Stt a))], 2⟩
theorem TC5ok : TabOk Try.prog TC5 := mkT_ok clok_ref15 trivial glok_ref15
theorem r_w0 (l m : List Int) (r : XV) : (goQ Try.prog TC5 [(.tmp 4)] r (.run c_ref15_SameWords) [] ⟨envX 0 [e_row 1 e_u32 l, e_row 1 e_u32 m], [], 0⟩) = (bif decide ¬(↑(List.length l) : Int) = (↑(List.length m) : Int) then ResLe (.bool false) r
else LoopAt (Ok Try.prog (Tab.q TC5)) c_ref15_SameWords_l1 (XSt.mk
 [(5, .int .i64 0), (4, .bool false), (0, e_row 1 e_u32 l), (1, e_row 1 e_u32 m)] [] 0) [Frm.blk 0, Frm.seq c_ref15_SameWords_p1] (finQR [AR.tmp 4] r)) := by kernel_rfl 

theorem r_w1 (l m : List Int) (i : Nat) (r : XV) (A : XSt → Prop) : (goQ Try.prog TC5 [(.tmp 4)] r (.run c_ref15_SameWords_l1) [.lp c_ref15_SameWords_l1 A, .blk 0, .seq c_ref15_SameWords_p1] ⟨[(0, e_row 1 e_u32 l), (1, e_row 1 e_u32 m), (5, .int .i64 i)], [], 0⟩) = (bif decide ((↑i : Int) < (↑(List.length l) : Int)) then bif decide ((↑i : Int) < (↑(List.length l) : Int)) then bif decide ((↑i : Int) < (↑(List.length m) :
 Int)) then bif decide ¬ix l i = ix m i then ResLe (.bool false) r else A (XSt.mk [(5, .int .i64 (IntKind.wrap .i64 ((↑i : Int) + (1 : Int)))), (0, e_row 1 e_u32
 l), (1, e_row 1 e_u32 m)] [] 0) else False else False
else ResLe (.bool true) r) := by kernel_rfl
theorem r_b0 (l m : List Bool) (r : XV) : (goQ Try.prog TC5 [(.tmp 4)] r (.run c_ref15_SameBools) [] ⟨envX 0 [e_row 1 e_bool l, e_row 1 e_bool m], [], 0⟩) = (bif decide ¬(↑(List.length l) : Int) = (↑(List.length m) : Int) then ResLe (.bool false) r
else LoopAt (Ok Try.prog (Tab.q TC5)) c_ref15_SameBools_l1 (XSt.mk
 [(5, .int .i64 0), (4, .bool false), (0, e_row 1 e_bool l), (1, e_row 1 e_bool m)] [] 0) [Frm.blk 0, Frm.seq c_ref15_SameBools_p1] (finQR [AR.tmp 4] r)) := by kernel_rfl 

theorem r_b1 (l m : List Bool) (i : Nat) (r : XV) (A : XSt → Prop) : (goQ Try.prog TC5 [(.tmp 4)] r (.run c_ref15_SameBools_l1) [.lp c_ref15_SameBools_l1 A, .blk 0, .seq c_ref15_SameBools_p1] ⟨[(0, e_row 1 e_bool l), (1, e_row 1 e_bool m), (5, .int .i64 i)], [], 0⟩) = (bif decide ((↑i : Int) < (↑(List.length l) : Int)) then bif decide ((↑i : Int) < (↑(List.length l) : Int)) then bif decide ((↑i : Int) < (↑(List.length m) :
 Int)) then bif !ix l i == ix m i then ResLe (.bool false) r else A (XSt.mk [(5, .int .i64 (IntKind.wrap .i64 ((↑i : Int) + (1 : Int)))), (0, e_row 1 e_bool l), (1,
 e_row 1 e_bool m)] [] 0) else False else False
else ResLe (.bool true) r) := by kernel_rfl
theorem sk_words : SkOk Try.prog (35, wrdS) := skOf_ok fun ⟨l, m⟩ h => by
  have hl : l.length ≤ 1000000 := h
  show Pure _ _ (cons [e_row 1 e_u32 l, e_row 1 e_u32 m]) (con (.bool (decide (l = m))))
  refine pureQ mix TC5ok t_ref15_SameWords (Nat.le_of_ble_eq_true rfl) ?_
  refine Eq.mpr (r_w0 l m _) ?_
  by_cases hn : l.length = m.length
  · have hn' : ¬ ¬ (l.length : Int) = (m.length : Int) := by omega
    simp only [hn', decide_false, cond_false]
    refine loopQ mix TC5ok (fun i : Nat => ⟨[(0, e_row 1 e_u32 l), (1, e_row 1 e_u32 m), (5, .int .i64 i)], [], 0⟩) (fun i => i ≤ l.length ∧ ∀ j, j < i → ix l j = ix m j) (fun i => l.length - i) 0 ⟨Nat.zero_le _, fun j hj => by omega⟩ (.of (weakX ⟨rfl, rfl, rfl, trivial⟩ trivial (Nat.le_refl _))) ?_
    rintro i ⟨hi, hp⟩
    refine Eq.mpr (r_w1 l m i _ _) ?_
    by_cases hlt : i < l.length
    · have h1 : (i : Int) < (l.length : Int) := by omega
      have h2 : (i : Int) < (m.length : Int) := by omega
      have w1 : IntKind.i64.wrap ((i : Int) + 1) = ((i + 1 : Nat) : Int) := wrap_i64 (by omega) (by omega)
      simp only [h1, h2, w1, decide_true, decide_false, cond_true, cond_false, allN_true, Nat.le_refl, Int.toNat_natCast, Nat.beq_refl, pk_and, pk_or, Bool.not_true, Bool.not_false, not_true_eq_false, not_false_eq_true, Bool.and_true, Bool.true_and, Bool.and_self, ge_iff_le, Int.le_refl, if_true, if_false, reduceCtorEq, eq_self, BEq.rfl]
      by_cases he : ix l i = ix m i
      · have he' : ¬ ¬ ix l i = ix m i := fun h => h he
        simp only [he', decide_true, decide_false, cond_true, cond_false, allN_true, Nat.le_refl, Int.toNat_natCast, Nat.beq_refl, pk_and, pk_or, Bool.not_true, Bool.not_false, not_true_eq_false, not_false_eq_true, Bool.and_true, Bool.true_and, Bool.and_self, ge_iff_le, Int.le_refl, if_true, if_false, reduceCtorEq, eq_self, BEq.rfl]
        refine ⟨i + 1, ⟨hlt, fun j hj => ?_⟩, .of (weakX ⟨rfl, rfl, rfl, trivial⟩ trivial (Nat.le_refl _)), by omega⟩
        by_cases hji : j = i
        · subst hji; exact he
        · exact hp j (by omega)
      · simp only [he, decide_true, decide_false, cond_true, cond_false, allN_true, Nat.le_refl, Int.toNat_natCast, Nat.beq_refl, pk_and, pk_or, Bool.not_true, Bool.not_false, not_true_eq_false, not_false_eq_true, Bool.and_true, Bool.true_and, Bool.and_self, ge_iff_le, Int.le_refl, if_true, if_false, reduceCtorEq, eq_self, BEq.rfl]
        rw [decide_eq_false fun e => he (by rw [e])]
        exact .rfl
    · have h1 : ¬ (i : Int) < (l.length : Int) := by omega
      simp only [h1, decide_true, decide_false, cond_true, cond_false, allN_true, Nat.le_refl, Int.toNat_natCast, Nat.beq_refl, pk_and, pk_or, Bool.not_true, Bool.not_false, not_true_eq_false, not_false_eq_true, Bool.and_true, Bool.true_and, Bool.and_self, ge_iff_le, Int.le_refl, if_true, if_false, reduceCtorEq, eq_self, BEq.rfl]
      rw [decide_eq_true (ix_ext hn fun j hj => hp j (by omega))]
      exact .rfl
  · have hn' : ¬ (l.length : Int) = (m.length : Int) := by omega
    simp only [hn', not_false_eq_true, decide_true, cond_true]
    rw [decide_eq_false fun e => hn (by rw [e])]
    exact .rfl
theorem sk_bools : SkOk Try.prog (36, boolS) := skOf_ok fun ⟨l, m⟩ h => by
  have hl : l.length ≤ 1000000 := h
  show Pure _ _ (cons [e_row 1 e_bool l, e_row 1 e_bool m]) (con (.bool (decide (l = m))))
  refine pureQ mix TC5ok t_ref15_SameBools (Nat.le_of_ble_eq_true rfl) ?_
  refine Eq.mpr (r_b0 l m _) ?_
  by_cases hn : l.length = m.length
  · have hn' : ¬ ¬ (l.length : Int) = (m.length : Int) := by omega
    simp only [hn', decide_false, cond_false]
    refine loopQ mix TC5ok (fun i : Nat => ⟨[(0, e_row 1 e_bool l), (1, e_row 1 e_bool m), (5, .int .i64 i)], [], 0⟩) (fun i => i ≤ l.length ∧ ∀ j, j < i → ix l j = ix m j) (fun i => l.length - i) 0 ⟨Nat.zero_le _, fun j hj => by omega⟩ (.of (weakX ⟨rfl, rfl, rfl, trivial⟩ trivial (Nat.le_refl _))) ?_
    rintro i ⟨hi, hp⟩
    refine Eq.mpr (r_b1 l m i _ _) ?_
    by_cases hlt : i < l.length
    · have h1 : (i : Int) < (l.length : Int) := by omega
      have h2 : (i : Int) < (m.length : Int) := by omega
      have w1 : IntKind.i64.wrap ((i : Int) + 1) = ((i + 1 : Nat) : Int) := wrap_i64 (by omega) (by omega)
      simp only [h1, h2, w1, decide_true, decide_false, cond_true, cond_false, allN_true, Nat.le_refl, Int.toNat_natCast, Nat.beq_refl, pk_and, pk_or, Bool.not_true, Bool.not_false, not_true_eq_false, not_false_eq_true, Bool.and_true, Bool.true_and, Bool.and_self, ge_iff_le, Int.le_refl, if_true, if_false, reduceCtorEq, eq_self, BEq.rfl]
      by_cases he : ix l i = ix m i
      · simp only [he, decide_true, decide_false, cond_true, cond_false, allN_true, Nat.le_refl, Int.toNat_natCast, Nat.beq_refl, pk_and, pk_or, Bool.not_true, Bool.not_false, not_true_eq_false, not_false_eq_true, Bool.and_true, Bool.true_and, Bool.and_self, ge_iff_le, Int.le_refl, if_true, if_false, reduceCtorEq, eq_self, BEq.rfl]
        refine ⟨i + 1, ⟨hlt, fun j hj => ?_⟩, .of (weakX ⟨rfl, rfl, rfl, trivial⟩ trivial (Nat.le_refl _)), by omega⟩
        by_cases hji : j = i
        · subst hji; exact he
        · exact hp j (by omega)
      · have he' : (ix l i == ix m i) = false := by simpa using he
        simp only [he', decide_true, decide_false, cond_true, cond_false, allN_true, Nat.le_refl, Int.toNat_natCast, Nat.beq_refl, pk_and, pk_or, Bool.not_true, Bool.not_false, not_true_eq_false, not_false_eq_true, Bool.and_true, Bool.true_and, Bool.and_self, ge_iff_le, Int.le_refl, if_true, if_false, reduceCtorEq, eq_self, BEq.rfl]
        rw [decide_eq_false fun e => he (by rw [e])]
        exact .rfl
    · have h1 : ¬ (i : Int) < (l.length : Int) := by omega
      simp only [h1, decide_true, decide_false, cond_true, cond_false, allN_true, Nat.le_refl, Int.toNat_natCast, Nat.beq_refl, pk_and, pk_or, Bool.not_true, Bool.not_false, not_true_eq_false, not_false_eq_true, Bool.and_true, Bool.true_and, Bool.and_self, ge_iff_le, Int.le_refl, if_true, if_false, reduceCtorEq, eq_self, BEq.rfl]
      rw [decide_eq_true (ix_ext hn fun j hj => hp j (by omega))]
      exact .rfl
  · have hn' : ¬ (l.length : Int) = (m.length : Int) := by omega
    simp only [hn', not_false_eq_true, decide_true, cond_true]
    rw [decide_eq_false fun e => hn (by rw [e])]
    exact .rfl
theorem TC6ok : TabOk Try.prog TC6 := mkT2_ok clok_ref15 trivial glok_ref15 ⟨sk_words, sk_bools, trivial⟩ trivial
theorem r_ss0 (a b : Stt) (r : XV) : (goQ Try.prog TC6 [(.tmp 4)] r (.run c_ref15_SameState) [] ⟨envX 0 [e_Stt a, e_Stt b], [], 0⟩) = (bif bif decide ¬Stt.cycle a = Stt.cycle b then true else !decide ¬Stt.cycle a = Stt.cycle b then bif bif bif decide ¬Stt.cycle a = Stt.cycle b then true else
 !(allN (fun i => decide (Side.regs (Stt.a a) i = Side.regs (Stt.a b) i)) 16 && (allN (fun i => decide (Side.ready (Stt.a a) i = Side.ready (Stt.a b) i)) 16 && (decide
 (Pos.block (Side.pos (Stt.a a)) = Pos.block (Side.pos (Stt.a b))) && (decide (Pos.index (Side.pos (Stt.a a)) = Pos.index (Side.pos (Stt.a b))) && (decide (Pos.base
 (Side.pos (Stt.a a)) = Pos.base (Side.pos (Stt.a b))) && true)) && (decide (Side.wait (Stt.a a) = Side.wait (Stt.a b)) && (Side.halted (Stt.a a) == Side.halted (Stt.a
 b) && (decide (Side.done (Stt.a a) = Side.done (Stt.a b)) && true)))))) then true else !bif decide ¬Stt.cycle a = Stt.cycle b then true else !(allN (fun i => decide
 (Side.regs (Stt.a a) i = Side.regs (Stt.a b) i)) 16 && (allN (fun i => decide (Side.ready (Stt.a a) i = Side.ready (Stt.a b) i)) 16 && (decide (Pos.block (Side.pos
 (Stt.a a)) = Pos.block (Side.pos (Stt.a b))) && (decide (Pos.index (Side.pos (Stt.a a)) = Pos.index (Side.pos (Stt.a b))) && (decide (Pos.base (Side.pos (Stt.a a))
 = Pos.base (Side.pos (Stt.a b))) && true)) && (decide (Side.wait (Stt.a a) = Side.wait (Stt.a b)) && (Side.halted (Stt.a a) == Side.halted (Stt.a b) && (decide (Side.done
 (Stt.a a) = Side.done (Stt.a b)) && true)))))) then bif bif bif bif decide ¬Stt.cycle a = Stt.cycle b then true else !(allN (fun i => decide (Side.regs (Stt.a a)
 i = Side.regs (Stt.a b) i)) 16 && (allN (fun i => decide (Side.ready (Stt.a a) i = Side.ready (Stt.a b) i)) 16 && (decide (Pos.block (Side.pos (Stt.a a)) = Pos.block
 (Side.pos (Stt.a b))) && (decide (Pos.index (Side.pos (Stt.a a)) = Pos.index (Side.pos (Stt.a b))) && (decide (Pos.base (Side.pos (Stt.a a)) = Pos.base (Side.pos
 (Stt.a b))) && true)) && (decide (Side.wait (Stt.a a) = Side.wait (Stt.a b)) && (Side.halted (Stt.a a) == Side.halted (Stt.a b) && (decide (Side.done (Stt.a a) =
 Side.done (Stt.a b)) && true)))))) then true else !(allN (fun i => decide (Side.regs (Stt.e a) i = Side.regs (Stt.e b) i)) 16 && (allN (fun i => decide (Side.ready
 (Stt.e a) i = Side.ready (Stt.e b) i)) 16 && (decide (Pos.block (Side.pos (Stt.e a)) = Pos.block (Side.pos (Stt.e b))) && (decide (Pos.index (Side.pos (Stt.e a))
 = Pos.index (Side.pos (Stt.e b))) && (decide (Pos.base (Side.pos (Stt.e a)) = Pos.base (Side.pos (Stt.e b))) && true)) && (decide (Side.wait (Stt.e a) = Side.wait
 (Stt.e b)) && (Side.halted (Stt.e a) == Side.halted (Stt.e b) && (decide (Side.done (Stt.e a) = Side.done (Stt.e b)) && true)))))) then true else !bif bif decide
 ¬Stt.cycle a = Stt.cycle b then true else !(allN (fun i => decide (Side.regs (Stt.a a) i = Side.regs (Stt.a b) i)) 16 && (allN (fun i => decide (Side.ready (Stt.a
 a) i = Side.ready (Stt.a b) i)) 16 && (decide (Pos.block (Side.pos (Stt.a a)) = Pos.block (Side.pos (Stt.a b))) && (decide (Pos.index (Side.pos (Stt.a a)) = Pos.index
 (Side.pos (Stt.a b))) && (decide (Pos.base (Side.pos (Stt.a a)) = Pos.base (Side.pos (Stt.a b))) && true)) && (decide (Side.wait (Stt.a a) = Side.wait (Stt.a b))
 && (Side.halted (Stt.a a) == Side.halted (Stt.a b) && (decide (Side.done (Stt.a a) = Side.done (Stt.a b)) && true)))))) then true else !(allN (fun i => decide (Side.regs
 (Stt.e a) i = Side.regs (Stt.e b) i)) 16 && (allN (fun i => decide (Side.ready (Stt.e a) i = Side.ready (Stt.e b) i)) 16 && (decide (Pos.block (Side.pos (Stt.e a))
 = Pos.block (Side.pos (Stt.e b))) && (decide (Pos.index (Side.pos (Stt.e a)) = Pos.index (Side.pos (Stt.e b))) && (decide (Pos.base (Side.pos (Stt.e a)) = Pos.base
 (Side.pos (Stt.e b))) && true)) && (decide (Side.wait (Stt.e a) = Side.wait (Stt.e b)) && (Side.halted (Stt.e a) == Side.halted (Stt.e b) && (decide (Side.done (Stt.e
 a) = Side.done (Stt.e b)) && true)))))) then bif bif bif bif bif decide ¬Stt.cycle a = Stt.cycle b then true else !(allN (fun i => decide (Side.regs (Stt.a a) i
 = Side.regs (Stt.a b) i)) 16 && (allN (fun i => decide (Side.ready (Stt.a a) i = Side.ready (Stt.a b) i)) 16 && (decide (Pos.block (Side.pos (Stt.a a)) = Pos.block
 (Side.pos (Stt.a b))) && (decide (Pos.index (Side.pos (Stt.a a)) = Pos.index (Side.pos (Stt.a b))) && (decide (Pos.base (Side.pos (Stt.a a)) = Pos.base (Side.pos
 (Stt.a b))) && true)) && (decide (Side.wait (Stt.a a) = Side.wait (Stt.a b)) && (Side.halted (Stt.a a) == Side.halted (Stt.a b) && (decide (Side.done (Stt.a a) =
 Side.done (Stt.a b)) && true)))))) then true else !(allN (fun i => decide (Side.regs (Stt.e a) i = Side.regs (Stt.e b) i)) 16 && (allN (fun i => decide (Side.ready
 (Stt.e a) i = Side.ready (Stt.e b) i)) 16 && (decide (Pos.block (Side.pos (Stt.e a)) = Pos.block (Side.pos (Stt.e b))) && (decide (Pos.index (Side.pos (Stt.e a))
 = Pos.index (Side.pos (Stt.e b))) && (decide (Pos.base (Side.pos (Stt.e a)) = Pos.base (Side.pos (Stt.e b))) && true)) && (decide (Side.wait (Stt.e a) = Side.wait
 (Stt.e b)) && (Side.halted (Stt.e a) == Side.halted (Stt.e b) && (decide (Side.done (Stt.e a) = Side.done (Stt.e b)) && true)))))) then true else !(decide (Trp.kind
 (Stt.trap a) = Trp.kind (Stt.trap b)) && (decide (Trp.step (Stt.trap a) = Trp.step (Stt.trap b)) && (decide (Trp.pc (Stt.trap a) = Trp.pc (Stt.trap b)) && true)))
 then true else !bif bif bif decide ¬Stt.cycle a = Stt.cycle b then true else !(allN (fun i => decide (Side.regs (Stt.a a) i = Side.regs (Stt.a b) i)) 16 && (allN
 (fun i => decide (Side.ready (Stt.a a) i = Side.ready (Stt.a b) i)) 16 && (decide (Pos.block (Side.pos (Stt.a a)) = Pos.block (Side.pos (Stt.a b))) && (decide (Pos.index
 (Side.pos (Stt.a a)) = Pos.index (Side.pos (Stt.a b))) && (decide (Pos.base (Side.pos (Stt.a a)) = Pos.base (Side.pos (Stt.a b))) && true)) && (decide (Side.wait
 (Stt.a a) = Side.wait (Stt.a b)) && (Side.halted (Stt.a a) == Side.halted (Stt.a b) && (decide (Side.done (Stt.a a) = Side.done (Stt.a b)) && true)))))) then true
 else !(allN (fun i => decide (Side.regs (Stt.e a) i = Side.regs (Stt.e b) i)) 16 && (allN (fun i => decide (Side.ready (Stt.e a) i = Side.ready (Stt.e b) i)) 16
 && (decide (Pos.block (Side.pos (Stt.e a)) = Pos.block (Side.pos (Stt.e b))) && (decide (Pos.index (Side.pos (Stt.e a)) = Pos.index (Side.pos (Stt.e b))) && (decide
 (Pos.base (Side.pos (Stt.e a)) = Pos.base (Side.pos (Stt.e b))) && true)) && (decide (Side.wait (Stt.e a) = Side.wait (Stt.e b)) && (Side.halted (Stt.e a) == Side.halted
 (Stt.e b) && (decide (Side.done (Stt.e a) = Side.done (Stt.e b)) && true)))))) then true else !(decide (Trp.kind (Stt.trap a) = Trp.kind (Stt.trap b)) && (decide
 (Trp.step (Stt.trap a) = Trp.step (Stt.trap b)) && (decide (Trp.pc (Stt.trap a) = Trp.pc (Stt.trap b)) && true))) then bif bif bif bif bif bif decide ¬Stt.cycle
 a = Stt.cycle b then true else !(allN (fun i => decide (Side.regs (Stt.a a) i = Side.regs (Stt.a b) i)) 16 && (allN (fun i => decide (Side.ready (Stt.a a) i = Side.ready
 (Stt.a b) i)) 16 && (decide (Pos.block (Side.pos (Stt.a a)) = Pos.block (Side.pos (Stt.a b))) && (decide (Pos.index (Side.pos (Stt.a a)) = Pos.index (Side.pos (Stt.a
 b))) && (decide (Pos.base (Side.pos (Stt.a a)) = Pos.base (Side.pos (Stt.a b))) && true)) && (decide (Side.wait (Stt.a a) = Side.wait (Stt.a b)) && (Side.halted
 (Stt.a a) == Side.halted (Stt.a b) && (decide (Side.done (Stt.a a) = Side.done (Stt.a b)) && true)))))) then true else !(allN (fun i => decide (Side.regs (Stt.e
 a) i = Side.regs (Stt.e b) i)) 16 && (allN (fun i => decide (Side.ready (Stt.e a) i = Side.ready (Stt.e b) i)) 16 && (decide (Pos.block (Side.pos (Stt.e a)) = Pos.block
 (Side.pos (Stt.e b))) && (decide (Pos.index (Side.pos (Stt.e a)) = Pos.index (Side.pos (Stt.e b))) && (decide (Pos.base (Side.pos (Stt.e a)) = Pos.base (Side.pos
 (Stt.e b))) && true)) && (decide (Side.wait (Stt.e a) = Side.wait (Stt.e b)) && (Side.halted (Stt.e a) == Side.halted (Stt.e b) && (decide (Side.done (Stt.e a) =
 Side.done (Stt.e b)) && true)))))) then true else !(decide (Trp.kind (Stt.trap a) = Trp.kind (Stt.trap b)) && (decide (Trp.step (Stt.trap a) = Trp.step (Stt.trap
 b)) && (decide (Trp.pc (Stt.trap a) = Trp.pc (Stt.trap b)) && true))) then true else decide ¬Stt.lats a = Stt.lats b then true else !bif bif bif bif decide ¬Stt.cycle
 a = Stt.cycle b then true else !(allN (fun i => decide (Side.regs (Stt.a a) i = Side.regs (Stt.a b) i)) 16 && (allN (fun i => decide (Side.ready (Stt.a a) i = Side.ready
 (Stt.a b) i)) 16 && (decide (Pos.block (Side.pos (Stt.a a)) = Pos.block (Side.pos (Stt.a b))) && (decide (Pos.index (Side.pos (Stt.a a)) = Pos.index (Side.pos (Stt.a
 b))) && (decide (Pos.base (Side.pos (Stt.a a)) = Pos.base (Side.pos (Stt.a b))) && true)) && (decide (Side.wait (Stt.a a) = Side.wait (Stt.a b)) && (Side.halted
 (Stt.a a) == Side.halted (Stt.a b) && (decide (Side.done (Stt.a a) = Side.done (Stt.a b)) && true)))))) then true else !(allN (fun i => decide (Side.regs (Stt.e
 a) i = Side.regs (Stt.e b) i)) 16 && (allN (fun i => decide (Side.ready (Stt.e a) i = Side.ready (Stt.e b) i)) 16 && (decide (Pos.block (Side.pos (Stt.e a)) = Pos.block
 (Side.pos (Stt.e b))) && (decide (Pos.index (Side.pos (Stt.e a)) = Pos.index (Side.pos (Stt.e b))) && (decide (Pos.base (Side.pos (Stt.e a)) = Pos.base (Side.pos
 (Stt.e b))) && true)) && (decide (Side.wait (Stt.e a) = Side.wait (Stt.e b)) && (Side.halted (Stt.e a) == Side.halted (Stt.e b) && (decide (Side.done (Stt.e a) =
 Side.done (Stt.e b)) && true)))))) then true else !(decide (Trp.kind (Stt.trap a) = Trp.kind (Stt.trap b)) && (decide (Trp.step (Stt.trap a) = Trp.step (Stt.trap
 b)) && (decide (Trp.pc (Stt.trap a) = Trp.pc (Stt.trap b)) && true))) then true else decide ¬Stt.lats a = Stt.lats b then bif bif bif bif bif bif bif decide ¬Stt.cycle
 a = Stt.cycle b then true else !(allN (fun i => decide (Side.regs (Stt.a a) i = Side.regs (Stt.a b) i)) 16 && (allN (fun i => decide (Side.ready (Stt.a a) i = Side.ready
 (Stt.a b) i)) 16 && (decide (Pos.block (Side.pos (Stt.a a)) = Pos.block (Side.pos (Stt.a b))) && (decide (Pos.index (Side.pos (Stt.a a)) = Pos.index (Side.pos (Stt.a
 b))) && (decide (Pos.base (Side.pos (Stt.a a)) = Pos.base (Side.pos (Stt.a b))) && true)) && (decide (Side.wait (Stt.a a) = Side.wait (Stt.a b)) && (Side.halted
 (Stt.a a) == Side.halted (Stt.a b) && (decide (Side.done (Stt.a a) = Side.done (Stt.a b)) && true)))))) then true else !(allN (fun i => decide (Side.regs (Stt.e
 a) i = Side.regs (Stt.e b) i)) 16 && (allN (fun i => decide (Side.ready (Stt.e a) i = Side.ready (Stt.e b) i)) 16 && (decide (Pos.block (Side.pos (Stt.e a)) = Pos.block
 (Side.pos (Stt.e b))) && (decide (Pos.index (Side.pos (Stt.e a)) = Pos.index (Side.pos (Stt.e b))) && (decide (Pos.base (Side.pos (Stt.e a)) = Pos.base (Side.pos
 (Stt.e b))) && true)) && (decide (Side.wait (Stt.e a) = Side.wait (Stt.e b)) && (Side.halted (Stt.e a) == Side.halted (Stt.e b) && (decide (Side.done (Stt.e a) =
 Side.done (Stt.e b)) && true)))))) then true else !(decide (Trp.kind (Stt.trap a) = Trp.kind (Stt.trap b)) && (decide (Trp.step (Stt.trap a) = Trp.step (Stt.trap
 b)) && (decide (Trp.pc (Stt.trap a) = Trp.pc (Stt.trap b)) && true))) then true else decide ¬Stt.lats a = Stt.lats b then true else decide ¬Stt.picks a = Stt.picks
 b then true else !bif bif bif bif bif decide ¬Stt.cycle a = Stt.cycle b then true else !(allN (fun i => decide (Side.regs (Stt.a a) i = Side.regs (Stt.a b) i)) 16
 && (allN (fun i => decide (Side.ready (Stt.a a) i = Side.ready (Stt.a b) i)) 16 && (decide (Pos.block (Side.pos (Stt.a a)) = Pos.block (Side.pos (Stt.a b))) && (decide
 (Pos.index (Side.pos (Stt.a a)) = Pos.index (Side.pos (Stt.a b))) && (decide (Pos.base (Side.pos (Stt.a a)) = Pos.base (Side.pos (Stt.a b))) && true)) && (decide
 (Side.wait (Stt.a a) = Side.wait (Stt.a b)) && (Side.halted (Stt.a a) == Side.halted (Stt.a b) && (decide (Side.done (Stt.a a) = Side.done (Stt.a b)) && true))))))
 then true else !(allN (fun i => decide (Side.regs (Stt.e a) i = Side.regs (Stt.e b) i)) 16 && (allN (fun i => decide (Side.ready (Stt.e a) i = Side.ready (Stt.e
 b) i)) 16 && (decide (Pos.block (Side.pos (Stt.e a)) = Pos.block (Side.pos (Stt.e b))) && (decide (Pos.index (Side.pos (Stt.e a)) = Pos.index (Side.pos (Stt.e b)))
 && (decide (Pos.base (Side.pos (Stt.e a)) = Pos.base (Side.pos (Stt.e b))) && true)) && (decide (Side.wait (Stt.e a) = Side.wait (Stt.e b)) && (Side.halted (Stt.e
 a) == Side.halted (Stt.e b) && (decide (Side.done (Stt.e a) = Side.done (Stt.e b)) && true)))))) then true else !(decide (Trp.kind (Stt.trap a) = Trp.kind (Stt.trap
 b)) && (decide (Trp.step (Stt.trap a) = Trp.step (Stt.trap b)) && (decide (Trp.pc (Stt.trap a) = Trp.pc (Stt.trap b)) && true))) then true else decide ¬Stt.lats
 a = Stt.lats b then true else decide ¬Stt.picks a = Stt.picks b then bif bif allN (fun i => true) (List.length (Stt.mem a)) then true else !!bif bif bif bif bif
 bif decide ¬Stt.cycle a = Stt.cycle b then true else !(allN (fun i => decide (Side.regs (Stt.a a) i = Side.regs (Stt.a b) i)) 16 && (allN (fun i => decide (Side.ready
 (Stt.a a) i = Side.ready (Stt.a b) i)) 16 && (decide (Pos.block (Side.pos (Stt.a a)) = Pos.block (Side.pos (Stt.a b))) && (decide (Pos.index (Side.pos (Stt.a a))
 = Pos.index (Side.pos (Stt.a b))) && (decide (Pos.base (Side.pos (Stt.a a)) = Pos.base (Side.pos (Stt.a b))) && true)) && (decide (Side.wait (Stt.a a) = Side.wait
 (Stt.a b)) && (Side.halted (Stt.a a) == Side.halted (Stt.a b) && (decide (Side.done (Stt.a a) = Side.done (Stt.a b)) && true)))))) then true else !(allN (fun i =>
 decide (Side.regs (Stt.e a) i = Side.regs (Stt.e b) i)) 16 && (allN (fun i => decide (Side.ready (Stt.e a) i = Side.ready (Stt.e b) i)) 16 && (decide (Pos.block
 (Side.pos (Stt.e a)) = Pos.block (Side.pos (Stt.e b))) && (decide (Pos.index (Side.pos (Stt.e a)) = Pos.index (Side.pos (Stt.e b))) && (decide (Pos.base (Side.pos
 (Stt.e a)) = Pos.base (Side.pos (Stt.e b))) && true)) && (decide (Side.wait (Stt.e a) = Side.wait (Stt.e b)) && (Side.halted (Stt.e a) == Side.halted (Stt.e b) &&
 (decide (Side.done (Stt.e a) = Side.done (Stt.e b)) && true)))))) then true else !(decide (Trp.kind (Stt.trap a) = Trp.kind (Stt.trap b)) && (decide (Trp.step (Stt.trap
 a) = Trp.step (Stt.trap b)) && (decide (Trp.pc (Stt.trap a) = Trp.pc (Stt.trap b)) && true))) then true else decide ¬Stt.lats a = Stt.lats b then true else decide
 ¬Stt.picks a = Stt.picks b then true else decide ¬Stt.tags a = Stt.tags b then bif bif allN (fun i => true) (List.length (Stt.mem b)) then true else !!bif bif bif
 bif bif bif decide ¬Stt.cycle a = Stt.cycle b then true else !(allN (fun i => decide (Side.regs (Stt.a a) i = Side.regs (Stt.a b) i)) 16 && (allN (fun i => decide
 (Side.ready (Stt.a a) i = Side.ready (Stt.a b) i)) 16 && (decide (Pos.block (Side.pos (Stt.a a)) = Pos.block (Side.pos (Stt.a b))) && (decide (Pos.index (Side.pos
 (Stt.a a)) = Pos.index (Side.pos (Stt.a b))) && (decide (Pos.base (Side.pos (Stt.a a)) = Pos.base (Side.pos (Stt.a b))) && true)) && (decide (Side.wait (Stt.a a)
 = Side.wait (Stt.a b)) && (Side.halted (Stt.a a) == Side.halted (Stt.a b) && (decide (Side.done (Stt.a a) = Side.done (Stt.a b)) && true)))))) then true else !(allN
 (fun i => decide (Side.regs (Stt.e a) i = Side.regs (Stt.e b) i)) 16 && (allN (fun i => decide (Side.ready (Stt.e a) i = Side.ready (Stt.e b) i)) 16 && (decide (Pos.block
 (Side.pos (Stt.e a)) = Pos.block (Side.pos (Stt.e b))) && (decide (Pos.index (Side.pos (Stt.e a)) = Pos.index (Side.pos (Stt.e b))) && (decide (Pos.base (Side.pos
 (Stt.e a)) = Pos.base (Side.pos (Stt.e b))) && true)) && (decide (Side.wait (Stt.e a) = Side.wait (Stt.e b)) && (Side.halted (Stt.e a) == Side.halted (Stt.e b) &&
 (decide (Side.done (Stt.e a) = Side.done (Stt.e b)) && true)))))) then true else !(decide (Trp.kind (Stt.trap a) = Trp.kind (Stt.trap b)) && (decide (Trp.step (Stt.trap
 a) = Trp.step (Stt.trap b)) && (decide (Trp.pc (Stt.trap a) = Trp.pc (Stt.trap b)) && true))) then true else decide ¬Stt.lats a = Stt.lats b then true else decide
 ¬Stt.picks a = Stt.picks b then true else decide ¬Stt.tags a = Stt.tags b then bif bif bif bif bif bif bif bif decide ¬Stt.cycle a = Stt.cycle b then true else !(allN
 (fun i => decide (Side.regs (Stt.a a) i = Side.regs (Stt.a b) i)) 16 && (allN (fun i => decide (Side.ready (Stt.a a) i = Side.ready (Stt.a b) i)) 16 && (decide (Pos.block
 (Side.pos (Stt.a a)) = Pos.block (Side.pos (Stt.a b))) && (decide (Pos.index (Side.pos (Stt.a a)) = Pos.index (Side.pos (Stt.a b))) && (decide (Pos.base (Side.pos
 (Stt.a a)) = Pos.base (Side.pos (Stt.a b))) && true)) && (decide (Side.wait (Stt.a a) = Side.wait (Stt.a b)) && (Side.halted (Stt.a a) == Side.halted (Stt.a b) &&
 (decide (Side.done (Stt.a a) = Side.done (Stt.a b)) && true)))))) then true else !(allN (fun i => decide (Side.regs (Stt.e a) i = Side.regs (Stt.e b) i)) 16 && (allN
 (fun i => decide (Side.ready (Stt.e a) i = Side.ready (Stt.e b) i)) 16 && (decide (Pos.block (Side.pos (Stt.e a)) = Pos.block (Side.pos (Stt.e b))) && (decide (Pos.index
 (Side.pos (Stt.e a)) = Pos.index (Side.pos (Stt.e b))) && (decide (Pos.base (Side.pos (Stt.e a)) = Pos.base (Side.pos (Stt.e b))) && true)) && (decide (Side.wait
 (Stt.e a) = Side.wait (Stt.e b)) && (Side.halted (Stt.e a) == Side.halted (Stt.e b) && (decide (Side.done (Stt.e a) = Side.done (Stt.e b)) && true)))))) then true
 else !(decide (Trp.kind (Stt.trap a) = Trp.kind (Stt.trap b)) && (decide (Trp.step (Stt.trap a) = Trp.step (Stt.trap b)) && (decide (Trp.pc (Stt.trap a) = Trp.pc
 (Stt.trap b)) && true))) then true else decide ¬Stt.lats a = Stt.lats b then true else decide ¬Stt.picks a = Stt.picks b then true else decide ¬Stt.tags a = Stt.tags
 b then true else !bif bif bif bif bif bif decide ¬Stt.cycle a = Stt.cycle b then true else !(allN (fun i => decide (Side.regs (Stt.a a) i = Side.regs (Stt.a b) i))
 16 && (allN (fun i => decide (Side.ready (Stt.a a) i = Side.ready (Stt.a b) i)) 16 && (decide (Pos.block (Side.pos (Stt.a a)) = Pos.block (Side.pos (Stt.a b))) &&
 (decide (Pos.index (Side.pos (Stt.a a)) = Pos.index (Side.pos (Stt.a b))) && (decide (Pos.base (Side.pos (Stt.a a)) = Pos.base (Side.pos (Stt.a b))) && true)) &&
 (decide (Side.wait (Stt.a a) = Side.wait (Stt.a b)) && (Side.halted (Stt.a a) == Side.halted (Stt.a b) && (decide (Side.done (Stt.a a) = Side.done (Stt.a b)) &&
 true)))))) then true else !(allN (fun i => decide (Side.regs (Stt.e a) i = Side.regs (Stt.e b) i)) 16 && (allN (fun i => decide (Side.ready (Stt.e a) i = Side.ready
 (Stt.e b) i)) 16 && (decide (Pos.block (Side.pos (Stt.e a)) = Pos.block (Side.pos (Stt.e b))) && (decide (Pos.index (Side.pos (Stt.e a)) = Pos.index (Side.pos (Stt.e
 b))) && (decide (Pos.base (Side.pos (Stt.e a)) = Pos.base (Side.pos (Stt.e b))) && true)) && (decide (Side.wait (Stt.e a) = Side.wait (Stt.e b)) && (Side.halted
 (Stt.e a) == Side.halted (Stt.e b) && (decide (Side.done (Stt.e a) = Side.done (Stt.e b)) && true)))))) then true else !(decide (Trp.kind (Stt.trap a) = Trp.kind
 (Stt.trap b)) && (decide (Trp.step (Stt.trap a) = Trp.step (Stt.trap b)) && (decide (Trp.pc (Stt.trap a) = Trp.pc (Stt.trap b)) && true))) then true else decide
 ¬Stt.lats a = Stt.lats b then true else decide ¬Stt.picks a = Stt.picks b then true else decide ¬Stt.tags a = Stt.tags b then bif bif bif bif bif bif bif bif bif
 decide ¬Stt.cycle a = Stt.cycle b then true else !(allN (fun i => decide (Side.regs (Stt.a a) i = Side.regs (Stt.a b) i)) 16 && (allN (fun i => decide (Side.ready
 (Stt.a a) i = Side.ready (Stt.a b) i)) 16 && (decide (Pos.block (Side.pos (Stt.a a)) = Pos.block (Side.pos (Stt.a b))) && (decide (Pos.index (Side.pos (Stt.a a))
 = Pos.index (Side.pos (Stt.a b))) && (decide (Pos.base (Side.pos (Stt.a a)) = Pos.base (Side.pos (Stt.a b))) && true)) && (decide (Side.wait (Stt.a a) = Side.wait
 (Stt.a b)) && (Side.halted (Stt.a a) == Side.halted (Stt.a b) && (decide (Side.done (Stt.a a) = Side.done (Stt.a b)) && true)))))) then true else !(allN (fun i =>
 decide (Side.regs (Stt.e a) i = Side.regs (Stt.e b) i)) 16 && (allN (fun i => decide (Side.ready (Stt.e a) i = Side.ready (Stt.e b) i)) 16 && (decide (Pos.block
 (Side.pos (Stt.e a)) = Pos.block (Side.pos (Stt.e b))) && (decide (Pos.index (Side.pos (Stt.e a)) = Pos.index (Side.pos (Stt.e b))) && (decide (Pos.base (Side.pos
 (Stt.e a)) = Pos.base (Side.pos (Stt.e b))) && true)) && (decide (Side.wait (Stt.e a) = Side.wait (Stt.e b)) && (Side.halted (Stt.e a) == Side.halted (Stt.e b) &&
 (decide (Side.done (Stt.e a) = Side.done (Stt.e b)) && true)))))) then true else !(decide (Trp.kind (Stt.trap a) = Trp.kind (Stt.trap b)) && (decide (Trp.step (Stt.trap
 a) = Trp.step (Stt.trap b)) && (decide (Trp.pc (Stt.trap a) = Trp.pc (Stt.trap b)) && true))) then true else decide ¬Stt.lats a = Stt.lats b then true else decide
 ¬Stt.picks a = Stt.picks b then true else decide ¬Stt.tags a = Stt.tags b then true else !strEq (List.length (Stt.mem a)) (fun i => ix (Stt.mem a) i) (List.length
 (Stt.mem b)) fun i => ix (Stt.mem b) i then true else !bif bif bif bif bif bif bif decide ¬Stt.cycle a = Stt.cycle b then true else !(allN (fun i => decide (Side.regs
 (Stt.a a) i = Side.regs (Stt.a b) i)) 16 && (allN (fun i => decide (Side.ready (Stt.a a) i = Side.ready (Stt.a b) i)) 16 && (decide (Pos.block (Side.pos (Stt.a a))
 = Pos.block (Side.pos (Stt.a b))) && (decide (Pos.index (Side.pos (Stt.a a)) = Pos.index (Side.pos (Stt.a b))) && (decide (Pos.base (Side.pos (Stt.a a)) = Pos.base
 (Side.pos (Stt.a b))) && true)) && (decide (Side.wait (Stt.a a) = Side.wait (Stt.a b)) && (Side.halted (Stt.a a) == Side.halted (Stt.a b) && (decide (Side.done (Stt.a
 a) = Side.done (Stt.a b)) && true)))))) then true else !(allN (fun i => decide (Side.regs (Stt.e a) i = Side.regs (Stt.e b) i)) 16 && (allN (fun i => decide (Side.ready
 (Stt.e a) i = Side.ready (Stt.e b) i)) 16 && (decide (Pos.block (Side.pos (Stt.e a)) = Pos.block (Side.pos (Stt.e b))) && (decide (Pos.index (Side.pos (Stt.e a))
 = Pos.index (Side.pos (Stt.e b))) && (decide (Pos.base (Side.pos (Stt.e a)) = Pos.base (Side.pos (Stt.e b))) && true)) && (decide (Side.wait (Stt.e a) = Side.wait
 (Stt.e b)) && (Side.halted (Stt.e a) == Side.halted (Stt.e b) && (decide (Side.done (Stt.e a) = Side.done (Stt.e b)) && true)))))) then true else !(decide (Trp.kind
 (Stt.trap a) = Trp.kind (Stt.trap b)) && (decide (Trp.step (Stt.trap a) = Trp.step (Stt.trap b)) && (decide (Trp.pc (Stt.trap a) = Trp.pc (Stt.trap b)) && true)))
 then true else decide ¬Stt.lats a = Stt.lats b then true else decide ¬Stt.picks a = Stt.picks b then true else decide ¬Stt.tags a = Stt.tags b then true else !strEq
 (List.length (Stt.mem a)) (fun i => ix (Stt.mem a) i) (List.length (Stt.mem b)) fun i => ix (Stt.mem b) i then bif bif bif bif bif bif bif bif bif bif decide ¬Stt.cycle
 a = Stt.cycle b then true else !(allN (fun i => decide (Side.regs (Stt.a a) i = Side.regs (Stt.a b) i)) 16 && (allN (fun i => decide (Side.ready (Stt.a a) i = Side.ready
 (Stt.a b) i)) 16 && (decide (Pos.block (Side.pos (Stt.a a)) = Pos.block (Side.pos (Stt.a b))) && (decide (Pos.index (Side.pos (Stt.a a)) = Pos.index (Side.pos (Stt.a
 b))) && (decide (Pos.base (Side.pos (Stt.a a)) = Pos.base (Side.pos (Stt.a b))) && true)) && (decide (Side.wait (Stt.a a) = Side.wait (Stt.a b)) && (Side.halted
 (Stt.a a) == Side.halted (Stt.a b) && (decide (Side.done (Stt.a a) = Side.done (Stt.a b)) && true)))))) then true else !(allN (fun i => decide (Side.regs (Stt.e
 a) i = Side.regs (Stt.e b) i)) 16 && (allN (fun i => decide (Side.ready (Stt.e a) i = Side.ready (Stt.e b) i)) 16 && (decide (Pos.block (Side.pos (Stt.e a)) = Pos.block
 (Side.pos (Stt.e b))) && (decide (Pos.index (Side.pos (Stt.e a)) = Pos.index (Side.pos (Stt.e b))) && (decide (Pos.base (Side.pos (Stt.e a)) = Pos.base (Side.pos
 (Stt.e b))) && true)) && (decide (Side.wait (Stt.e a) = Side.wait (Stt.e b)) && (Side.halted (Stt.e a) == Side.halted (Stt.e b) && (decide (Side.done (Stt.e a) =
 Side.done (Stt.e b)) && true)))))) then true else !(decide (Trp.kind (Stt.trap a) = Trp.kind (Stt.trap b)) && (decide (Trp.step (Stt.trap a) = Trp.step (Stt.trap
 b)) && (decide (Trp.pc (Stt.trap a) = Trp.pc (Stt.trap b)) && true))) then true else decide ¬Stt.lats a = Stt.lats b then true else decide ¬Stt.picks a = Stt.picks
 b then true else decide ¬Stt.tags a = Stt.tags b then true else !strEq (List.length (Stt.mem a)) (fun i => ix (Stt.mem a) i) (List.length (Stt.mem b)) fun i => ix
 (Stt.mem b) i then true else decide ¬(↑(List.length (Stt.ldq a)) : Int) = (↑(List.length (Stt.ldq b)) : Int) then true else !bif bif bif bif bif bif bif bif decide
 ¬Stt.cycle a = Stt.cycle b then true else !(allN (fun i => decide (Side.regs (Stt.a a) i = Side.regs (Stt.a b) i)) 16 && (allN (fun i => decide (Side.ready (Stt.a
 a) i = Side.ready (Stt.a b) i)) 16 && (decide (Pos.block (Side.pos (Stt.a a)) = Pos.block (Side.pos (Stt.a b))) && (decide (Pos.index (Side.pos (Stt.a a)) = Pos.index
 (Side.pos (Stt.a b))) && (decide (Pos.base (Side.pos (Stt.a a)) = Pos.base (Side.pos (Stt.a b))) && true)) && (decide (Side.wait (Stt.a a) = Side.wait (Stt.a b))
 && (Side.halted (Stt.a a) == Side.halted (Stt.a b) && (decide (Side.done (Stt.a a) = Side.done (Stt.a b)) && true)))))) then true else !(allN (fun i => decide (Side.regs
 (Stt.e a) i = Side.regs (Stt.e b) i)) 16 && (allN (fun i => decide (Side.ready (Stt.e a) i = Side.ready (Stt.e b) i)) 16 && (decide (Pos.block (Side.pos (Stt.e a))
 = Pos.block (Side.pos (Stt.e b))) && (decide (Pos.index (Side.pos (Stt.e a)) = Pos.index (Side.pos (Stt.e b))) && (decide (Pos.base (Side.pos (Stt.e a)) = Pos.base
 (Side.pos (Stt.e b))) && true)) && (decide (Side.wait (Stt.e a) = Side.wait (Stt.e b)) && (Side.halted (Stt.e a) == Side.halted (Stt.e b) && (decide (Side.done (Stt.e
 a) = Side.done (Stt.e b)) && true)))))) then true else !(decide (Trp.kind (Stt.trap a) = Trp.kind (Stt.trap b)) && (decide (Trp.step (Stt.trap a) = Trp.step (Stt.trap
 b)) && (decide (Trp.pc (Stt.trap a) = Trp.pc (Stt.trap b)) && true))) then true else decide ¬Stt.lats a = Stt.lats b then true else decide ¬Stt.picks a = Stt.picks
 b then true else decide ¬Stt.tags a = Stt.tags b then true else !strEq (List.length (Stt.mem a)) (fun i => ix (Stt.mem a) i) (List.length (Stt.mem b)) fun i => ix
 (Stt.mem b) i then true else decide ¬(↑(List.length (Stt.ldq a)) : Int) = (↑(List.length (Stt.ldq b)) : Int) then bif bif bif bif bif bif bif bif bif bif bif decide
 ¬Stt.cycle a = Stt.cycle b then true else !(allN (fun i => decide (Side.regs (Stt.a a) i = Side.regs (Stt.a b) i)) 16 && (allN (fun i => decide (Side.ready (Stt.a
 a) i = Side.ready (Stt.a b) i)) 16 && (decide (Pos.block (Side.pos (Stt.a a)) = Pos.block (Side.pos (Stt.a b))) && (decide (Pos.index (Side.pos (Stt.a a)) = Pos.index
 (Side.pos (Stt.a b))) && (decide (Pos.base (Side.pos (Stt.a a)) = Pos.base (Side.pos (Stt.a b))) && true)) && (decide (Side.wait (Stt.a a) = Side.wait (Stt.a b))
 && (Side.halted (Stt.a a) == Side.halted (Stt.a b) && (decide (Side.done (Stt.a a) = Side.done (Stt.a b)) && true)))))) then true else !(allN (fun i => decide (Side.regs
 (Stt.e a) i = Side.regs (Stt.e b) i)) 16 && (allN (fun i => decide (Side.ready (Stt.e a) i = Side.ready (Stt.e b) i)) 16 && (decide (Pos.block (Side.pos (Stt.e a))
 = Pos.block (Side.pos (Stt.e b))) && (decide (Pos.index (Side.pos (Stt.e a)) = Pos.index (Side.pos (Stt.e b))) && (decide (Pos.base (Side.pos (Stt.e a)) = Pos.base
 (Side.pos (Stt.e b))) && true)) && (decide (Side.wait (Stt.e a) = Side.wait (Stt.e b)) && (Side.halted (Stt.e a) == Side.halted (Stt.e b) && (decide (Side.done (Stt.e
 a) = Side.done (Stt.e b)) && true)))))) then true else !(decide (Trp.kind (Stt.trap a) = Trp.kind (Stt.trap b)) && (decide (Trp.step (Stt.trap a) = Trp.step (Stt.trap
 b)) && (decide (Trp.pc (Stt.trap a) = Trp.pc (Stt.trap b)) && true))) then true else decide ¬Stt.lats a = Stt.lats b then true else decide ¬Stt.picks a = Stt.picks
 b then true else decide ¬Stt.tags a = Stt.tags b then true else !strEq (List.length (Stt.mem a)) (fun i => ix (Stt.mem a) i) (List.length (Stt.mem b)) fun i => ix
 (Stt.mem b) i then true else decide ¬(↑(List.length (Stt.ldq a)) : Int) = (↑(List.length (Stt.ldq b)) : Int) then true else decide ¬(↑(List.length (Stt.saq a)) :
 Int) = (↑(List.length (Stt.saq b)) : Int) then true else !bif bif bif bif bif bif bif bif bif decide ¬Stt.cycle a = Stt.cycle b then true else !(allN (fun i => decide
 (Side.regs (Stt.a a) i = Side.regs (Stt.a b) i)) 16 && (allN (fun i => decide (Side.ready (Stt.a a) i = Side.ready (Stt.a b) i)) 16 && (decide (Pos.block (Side.pos
 (Stt.a a)) = Pos.block (Side.pos (Stt.a b))) && (decide (Pos.index (Side.pos (Stt.a a)) = Pos.index (Side.pos (Stt.a b))) && (decide (Pos.base (Side.pos (Stt.a a))
 = Pos.base (Side.pos (Stt.a b))) && true)) && (decide (Side.wait (Stt.a a) = Side.wait (Stt.a b)) && (Side.halted (Stt.a a) == Side.halted (Stt.a b) && (decide (Side.done
 (Stt.a a) = Side.done (Stt.a b)) && true)))))) then true else !(allN (fun i => decide (Side.regs (Stt.e a) i = Side.regs (Stt.e b) i)) 16 && (allN (fun i => decide
 (Side.ready (Stt.e a) i = Side.ready (Stt.e b) i)) 16 && (decide (Pos.block (Side.pos (Stt.e a)) = Pos.block (Side.pos (Stt.e b))) && (decide (Pos.index (Side.pos
 (Stt.e a)) = Pos.index (Side.pos (Stt.e b))) && (decide (Pos.base (Side.pos (Stt.e a)) = Pos.base (Side.pos (Stt.e b))) && true)) && (decide (Side.wait (Stt.e a)
 = Side.wait (Stt.e b)) && (Side.halted (Stt.e a) == Side.halted (Stt.e b) && (decide (Side.done (Stt.e a) = Side.done (Stt.e b)) && true)))))) then true else !(decide
 (Trp.kind (Stt.trap a) = Trp.kind (Stt.trap b)) && (decide (Trp.step (Stt.trap a) = Trp.step (Stt.trap b)) && (decide (Trp.pc (Stt.trap a) = Trp.pc (Stt.trap b))
 && true))) then true else decide ¬Stt.lats a = Stt.lats b then true else decide ¬Stt.picks a = Stt.picks b then true else decide ¬Stt.tags a = Stt.tags b then true
 else !strEq (List.length (Stt.mem a)) (fun i => ix (Stt.mem a) i) (List.length (Stt.mem b)) fun i => ix (Stt.mem b) i then true else decide ¬(↑(List.length (Stt.ldq
 a)) : Int) = (↑(List.length (Stt.ldq b)) : Int) then true else decide ¬(↑(List.length (Stt.saq a)) : Int) = (↑(List.length (Stt.saq b)) : Int) then bif bif bif bif
 bif bif bif bif bif bif bif bif decide ¬Stt.cycle a = Stt.cycle b then true else !(allN (fun i => decide (Side.regs (Stt.a a) i = Side.regs (Stt.a b) i)) 16 && (allN
 (fun i => decide (Side.ready (Stt.a a) i = Side.ready (Stt.a b) i)) 16 && (decide (Pos.block (Side.pos (Stt.a a)) = Pos.block (Side.pos (Stt.a b))) && (decide (Pos.index
 (Side.pos (Stt.a a)) = Pos.index (Side.pos (Stt.a b))) && (decide (Pos.base (Side.pos (Stt.a a)) = Pos.base (Side.pos (Stt.a b))) && true)) && (decide (Side.wait
 (Stt.a a) = Side.wait (Stt.a b)) && (Side.halted (Stt.a a) == Side.halted (Stt.a b) && (decide (Side.done (Stt.a a) = Side.done (Stt.a b)) && true)))))) then true
 else !(allN (fun i => decide (Side.regs (Stt.e a) i = Side.regs (Stt.e b) i)) 16 && (allN (fun i => decide (Side.ready (Stt.e a) i = Side.ready (Stt.e b) i)) 16
 && (decide (Pos.block (Side.pos (Stt.e a)) = Pos.block (Side.pos (Stt.e b))) && (decide (Pos.index (Side.pos (Stt.e a)) = Pos.index (Side.pos (Stt.e b))) && (decide
 (Pos.base (Side.pos (Stt.e a)) = Pos.base (Side.pos (Stt.e b))) && true)) && (decide (Side.wait (Stt.e a) = Side.wait (Stt.e b)) && (Side.halted (Stt.e a) == Side.halted
 (Stt.e b) && (decide (Side.done (Stt.e a) = Side.done (Stt.e b)) && true)))))) then true else !(decide (Trp.kind (Stt.trap a) = Trp.kind (Stt.trap b)) && (decide
 (Trp.step (Stt.trap a) = Trp.step (Stt.trap b)) && (decide (Trp.pc (Stt.trap a) = Trp.pc (Stt.trap b)) && true))) then true else decide ¬Stt.lats a = Stt.lats b
 then true else decide ¬Stt.picks a = Stt.picks b then true else decide ¬Stt.tags a = Stt.tags b then true else !strEq (List.length (Stt.mem a)) (fun i => ix (Stt.mem
 a) i) (List.length (Stt.mem b)) fun i => ix (Stt.mem b) i then true else decide ¬(↑(List.length (Stt.ldq a)) : Int) = (↑(List.length (Stt.ldq b)) : Int) then true
 else decide ¬(↑(List.length (Stt.saq a)) : Int) = (↑(List.length (Stt.saq b)) : Int) then true else decide ¬(↑(List.length (Stt.table a)) : Int) = (↑(List.length
 (Stt.table b)) : Int) then true else !bif bif bif bif bif bif bif bif bif bif decide ¬Stt.cycle a = Stt.cycle b then true else !(allN (fun i => decide (Side.regs
 (Stt.a a) i = Side.regs (Stt.a b) i)) 16 && (allN (fun i => decide (Side.ready (Stt.a a) i = Side.ready (Stt.a b) i)) 16 && (decide (Pos.block (Side.pos (Stt.a a))
 = Pos.block (Side.pos (Stt.a b))) && (decide (Pos.index (Side.pos (Stt.a a)) = Pos.index (Side.pos (Stt.a b))) && (decide (Pos.base (Side.pos (Stt.a a)) = Pos.base
 (Side.pos (Stt.a b))) && true)) && (decide (Side.wait (Stt.a a) = Side.wait (Stt.a b)) && (Side.halted (Stt.a a) == Side.halted (Stt.a b) && (decide (Side.done (Stt.a
 a) = Side.done (Stt.a b)) && true)))))) then true else !(allN (fun i => decide (Side.regs (Stt.e a) i = Side.regs (Stt.e b) i)) 16 && (allN (fun i => decide (Side.ready
 (Stt.e a) i = Side.ready (Stt.e b) i)) 16 && (decide (Pos.block (Side.pos (Stt.e a)) = Pos.block (Side.pos (Stt.e b))) && (decide (Pos.index (Side.pos (Stt.e a))
 = Pos.index (Side.pos (Stt.e b))) && (decide (Pos.base (Side.pos (Stt.e a)) = Pos.base (Side.pos (Stt.e b))) && true)) && (decide (Side.wait (Stt.e a) = Side.wait
 (Stt.e b)) && (Side.halted (Stt.e a) == Side.halted (Stt.e b) && (decide (Side.done (Stt.e a) = Side.done (Stt.e b)) && true)))))) then true else !(decide (Trp.kind
 (Stt.trap a) = Trp.kind (Stt.trap b)) && (decide (Trp.step (Stt.trap a) = Trp.step (Stt.trap b)) && (decide (Trp.pc (Stt.trap a) = Trp.pc (Stt.trap b)) && true)))
 then true else decide ¬Stt.lats a = Stt.lats b then true else decide ¬Stt.picks a = Stt.picks b then true else decide ¬Stt.tags a = Stt.tags b then true else !strEq
 (List.length (Stt.mem a)) (fun i => ix (Stt.mem a) i) (List.length (Stt.mem b)) fun i => ix (Stt.mem b) i then true else decide ¬(↑(List.length (Stt.ldq a)) : Int)
 = (↑(List.length (Stt.ldq b)) : Int) then true else decide ¬(↑(List.length (Stt.saq a)) : Int) = (↑(List.length (Stt.saq b)) : Int) then true else decide ¬(↑(List.length
 (Stt.table a)) : Int) = (↑(List.length (Stt.table b)) : Int) then bif bif bif bif bif bif bif bif bif bif bif bif decide ¬Stt.cycle a = Stt.cycle b then true else
 !(allN (fun i => decide (Side.regs (Stt.a a) i = Side.regs (Stt.a b) i)) 16 && (allN (fun i => decide (Side.ready (Stt.a a) i = Side.ready (Stt.a b) i)) 16 && (decide
 (Pos.block (Side.pos (Stt.a a)) = Pos.block (Side.pos (Stt.a b))) && (decide (Pos.index (Side.pos (Stt.a a)) = Pos.index (Side.pos (Stt.a b))) && (decide (Pos.base
 (Side.pos (Stt.a a)) = Pos.base (Side.pos (Stt.a b))) && true)) && (decide (Side.wait (Stt.a a) = Side.wait (Stt.a b)) && (Side.halted (Stt.a a) == Side.halted (Stt.a
 b) && (decide (Side.done (Stt.a a) = Side.done (Stt.a b)) && true)))))) then true else !(allN (fun i => decide (Side.regs (Stt.e a) i = Side.regs (Stt.e b) i)) 16
 && (allN (fun i => decide (Side.ready (Stt.e a) i = Side.ready (Stt.e b) i)) 16 && (decide (Pos.block (Side.pos (Stt.e a)) = Pos.block (Side.pos (Stt.e b))) && (decide
 (Pos.index (Side.pos (Stt.e a)) = Pos.index (Side.pos (Stt.e b))) && (decide (Pos.base (Side.pos (Stt.e a)) = Pos.base (Side.pos (Stt.e b))) && true)) && (decide
 (Side.wait (Stt.e a) = Side.wait (Stt.e b)) && (Side.halted (Stt.e a) == Side.halted (Stt.e b) && (decide (Side.done (Stt.e a) = Side.done (Stt.e b)) && true))))))
 then true else !(decide (Trp.kind (Stt.trap a) = Trp.kind (Stt.trap b)) && (decide (Trp.step (Stt.trap a) = Trp.step (Stt.trap b)) && (decide (Trp.pc (Stt.trap a)
 = Trp.pc (Stt.trap b)) && true))) then true else decide ¬Stt.lats a = Stt.lats b then true else decide ¬Stt.picks a = Stt.picks b then true else decide ¬Stt.tags
 a = Stt.tags b then true else !strEq (List.length (Stt.mem a)) (fun i => ix (Stt.mem a) i) (List.length (Stt.mem b)) fun i => ix (Stt.mem b) i then true else decide
 ¬(↑(List.length (Stt.ldq a)) : Int) = (↑(List.length (Stt.ldq b)) : Int) then true else decide ¬(↑(List.length (Stt.saq a)) : Int) = (↑(List.length (Stt.saq b))
 : Int) then true else decide ¬(↑(List.length (Stt.table a)) : Int) = (↑(List.length (Stt.table b)) : Int) then true else decide ¬(↑(List.length (Stt.writes a)) :
 Int) = (↑(List.length (Stt.writes b)) : Int) then ResLe (.bool false) r else LoopAt (Ok Try.prog (Tab.q TC6)) c_ref15_SameState_l1 (XSt.mk [(5, .int .i64 0), (4,
 .bool false), (3, .ptr 1 [] 0), (2, .ptr 0 [] 0)] [(1, some (e_Stt b)), (0, some (e_Stt a))] 2) [Frm.blk 0, Frm.seq c_ref15_SameState_p4] (finQR [AR.tmp 4] r) else
 False else False else False else False else False else False else False else False else False else False else False else False
else False) := by kernel_rfl
theorem r_ss1 (a b : Stt) (i : Nat) (r : XV) (A : XSt → Prop) : (goQ Try.prog TC6 [(.tmp 4)] r (.run c_ref15_SameState_l1) [.lp c_ref15_SameState_l1 A, .blk 0, .seq c_ref15_SameState_p4] (ssS 5 i a b)) = (bif decide ((↑i : Int) < (↑(List.length (Stt.ldq a)) : Int)) then bif decide ((↑i : Int) < (↑(List.length (Stt.ldq a)) : Int)) then bif decide ((↑i : Int) <
 (↑(List.length (Stt.ldq b)) : Int)) then bif !(decide (Slot.tag (ix (Stt.ldq a) i) = Slot.tag (ix (Stt.ldq b) i)) && (Slot.full (ix (Stt.ldq a) i) == Slot.full (ix
 (Stt.ldq b) i) && (decide (Slot.val (ix (Stt.ldq a) i) = Slot.val (ix (Stt.ldq b) i)) && true))) then ResLe (.bool false) r else A (XSt.mk [(5, .int .i64 (IntKind.wrap
 .i64 ((↑i : Int) + (1 : Int)))), (2, .ptr 0 [] 0), (3, .ptr 1 [] 0)] [(1, some (e_Stt b)), (0, some (e_Stt a))] 2) else False else False
else LoopAt (Ok Try.prog
 (Tab.q TC6)) c_ref15_SameState_l2 (XSt.mk [(6, .int .i64 0), (2, .ptr 0 [] 0), (3, .ptr 1 [] 0)] [(1, some (e_Stt b)), (0, some (e_Stt a))] 2) [Frm.blk 2, Frm.seq
 c_ref15_SameState_p3] (finQR [AR.tmp 4] r)) := by kernel_rfl
theorem r_ss2 (a b : Stt) (i : Nat) (r : XV) (A : XSt → Prop) : (goQ Try.prog TC6 [(.tmp 4)] r (.run c_ref15_SameState_l2) [.lp c_ref15_SameState_l2 A, .blk 2, .seq c_ref15_SameState_p3] (ssS 6 i a b)) = (bif decide ((↑i : Int) < (↑(List.length (Stt.saq a)) : Int)) then bif decide ((↑i : Int) < (↑(List.length (Stt.saq a)) : Int)) then bif decide ((↑i : Int) <
 (↑(List.length (Stt.saq b)) : Int)) then bif !(decide (Entry.addr (ix (Stt.saq a) i) = Entry.addr (ix (Stt.saq b) i)) && (decide (Entry.size (ix (Stt.saq a) i) =
 Entry.size (ix (Stt.saq b) i)) && (decide (Entry.step (ix (Stt.saq a) i) = Entry.step (ix (Stt.saq b) i)) && (Entry.known (ix (Stt.saq a) i) == Entry.known (ix (Stt.saq
 b) i) && (decide (Entry.val (ix (Stt.saq a) i) = Entry.val (ix (Stt.saq b) i)) && true))))) then ResLe (.bool false) r else A (XSt.mk [(6, .int .i64 (IntKind.wrap
 .i64 ((↑i : Int) + (1 : Int)))), (2, .ptr 0 [] 0), (3, .ptr 1 [] 0)] [(1, some (e_Stt b)), (0, some (e_Stt a))] 2) else False else False
else LoopAt (Ok Try.prog
 (Tab.q TC6)) c_ref15_SameState_l3 (XSt.mk [(7, .int .i64 0), (2, .ptr 0 [] 0), (3, .ptr 1 [] 0)] [(1, some (e_Stt b)), (0, some (e_Stt a))] 2) [Frm.blk 4, Frm.seq
 c_ref15_SameState_p2] (finQR [AR.tmp 4] r)) := by kernel_rfl
theorem r_ss3 (a b : Stt) (i : Nat) (r : XV) (A : XSt → Prop) : (goQ Try.prog TC6 [(.tmp 4)] r (.run c_ref15_SameState_l3) [.lp c_ref15_SameState_l3 A, .blk 4, .seq c_ref15_SameState_p2] (ssS 7 i a b)) = (bif decide ((↑i : Int) < (↑(List.length (Stt.table a)) : Int)) then bif decide ((↑i : Int) < (↑(List.length (Stt.table a)) : Int)) then bif decide ((↑i : Int)
 < (↑(List.length (Stt.table b)) : Int)) then bif !(Req.store (ix (Stt.table a) i) == Req.store (ix (Stt.table b) i) && (decide (Req.op (ix (Stt.table a) i) = Req.op
 (ix (Stt.table b) i)) && (decide (Req.addr (ix (Stt.table a) i) = Req.addr (ix (Stt.table b) i)) && (decide (Req.size (ix (Stt.table a) i) = Req.size (ix (Stt.table
 b) i)) && (decide (Req.val (ix (Stt.table a) i) = Req.val (ix (Stt.table b) i)) && (decide (Req.left (ix (Stt.table a) i) = Req.left (ix (Stt.table b) i)) && (decide
 (Req.reg (ix (Stt.table a) i) = Req.reg (ix (Stt.table b) i)) && (decide (Req.tag (ix (Stt.table a) i) = Req.tag (ix (Stt.table b) i)) && true)))))))) then ResLe
 (.bool false) r else A (XSt.mk [(7, .int .i64 (IntKind.wrap .i64 ((↑i : Int) + (1 : Int)))), (2, .ptr 0 [] 0), (3, .ptr 1 [] 0)] [(1, some (e_Stt b)), (0, some (e_Stt
 a))] 2) else False else False
else LoopAt (Ok Try.prog (Tab.q TC6)) c_ref15_SameState_l4 (XSt.mk [(8, .int .i64 0), (2, .ptr 0 [] 0), (3, .ptr 1 [] 0)] [(1, some
 (e_Stt b)), (0, some (e_Stt a))] 2) [Frm.blk 6, Frm.seq c_ref15_SameState_p1] (finQR [AR.tmp 4] r)) := by kernel_rfl
theorem r_ss4 (a b : Stt) (i : Nat) (r : XV) (A : XSt → Prop) : (goQ Try.prog TC6 [(.tmp 4)] r (.run c_ref15_SameState_l4) [.lp c_ref15_SameState_l4 A, .blk 6, .seq c_ref15_SameState_p1] (ssS 8 i a b)) = (bif decide ((↑i : Int) < (↑(List.length (Stt.writes a)) : Int)) then bif decide ((↑i : Int) < (↑(List.length (Stt.writes a)) : Int)) then bif decide ((↑i : Int)
 < (↑(List.length (Stt.writes b)) : Int)) then bif !(decide (Wr.addr (ix (Stt.writes a) i) = Wr.addr (ix (Stt.writes b) i)) && (decide (Wr.size (ix (Stt.writes a)
 i) = Wr.size (ix (Stt.writes b) i)) && (decide (Wr.val (ix (Stt.writes a) i) = Wr.val (ix (Stt.writes b) i)) && true))) then ResLe (.bool false) r else A (XSt.mk
 [(8, .int .i64 (IntKind.wrap .i64 ((↑i : Int) + (1 : Int)))), (2, .ptr 0 [] 0), (3, .ptr 1 [] 0)] [(1, some (e_Stt b)), (0, some (e_Stt a))] 2) else False else False
else
 ∃ (s : List Int × List Int), ArgsLe [e_row 1 e_u32 (Stt.sdq a), e_row 1 e_u32 (Stt.sdq b)] [e_row 1 e_u32 (Prod.fst s), e_row 1 e_u32 (Prod.snd s)] ∧ PreIs (List.length
 (Prod.fst s) ≤ 1000000) ∧ ∀ (y : Bool), y = decide (Prod.fst s = Prod.snd s) → bif y then ∃ (s : List Int × List Int), ArgsLe [e_row 1 e_u32 (Stt.aeq a), e_row 1
 e_u32 (Stt.aeq b)] [e_row 1 e_u32 (Prod.fst s), e_row 1 e_u32 (Prod.snd s)] ∧ PreIs (List.length (Prod.fst s) ≤ 1000000) ∧ ∀ (y_1 : Bool), y_1 = decide (Prod.fst
 s = Prod.snd s) → bif bif y then y_1 else false then ∃ (s : List Bool × List Bool), ArgsLe [e_row 1 e_bool (Stt.abq a), e_row 1 e_bool (Stt.abq b)] [e_row 1 e_bool
 (Prod.fst s), e_row 1 e_bool (Prod.snd s)] ∧ PreIs (List.length (Prod.fst s) ≤ 1000000) ∧ ∀ (y_2 : Bool), y_2 = decide (Prod.fst s = Prod.snd s) → bif bif bif y
 then y_1 else false then y_2 else false then ∃ (s : List Bool × List Bool), ArgsLe [e_row 1 e_bool (Stt.ebq a), e_row 1 e_bool (Stt.ebq b)] [e_row 1 e_bool (Prod.fst
 s), e_row 1 e_bool (Prod.snd s)] ∧ PreIs (List.length (Prod.fst s) ≤ 1000000) ∧ ∀ (y_3 : Bool), y_3 = decide (Prod.fst s = Prod.snd s) → ResLe (.bool (bif bif bif
 y then y_1 else false then y_2 else false then y_3 else false)) r else bif !bif bif y then y_1 else false then y_2 else false then ResLe (.bool false) r else False
 else bif !bif y then y_1 else false then ResLe (.bool false) r else False else bif !y then ResLe (.bool false) r else False) := by kernel_rfl
theorem sideB_fold (x y : Side) : (allN (fun i => decide (x.regs i = y.regs i)) 16 && (allN (fun i => decide (x.ready i = y.ready i)) 16 && ((decide (x.pos.block = y.pos.block) && (decide (x.pos.index = y.pos.index) && (decide (x.pos.base = y.pos.base) && true))) && (decide (x.wait = y.wait) && ((x.halted == y.halted) && (decide (x.done = y.done) && true)))))) = sideB x y := rfl
theorem trpB_fold (x y : Trp) : (decide (x.kind = y.kind) && (decide (x.step = y.step) && (decide (x.pc = y.pc) && true))) = trpB x y := rfl
theorem byt_inj {a b : Int} (ha : u8R a) (hb : u8R b) (h : byt a = byt b) : a = b := by
  unfold byt at h
  have h1 := congrArg UInt8.toNat h
  unfold u8R at ha hb
  simp only [UInt8.toNat_ofNat'] at h1
  omega
theorem strEq_list {l m : List Int} (hl : ∀ x ∈ l, u8R x) (hm : ∀ x ∈ m, u8R x) : strEq l.length (fun i => ix l i) m.length (fun i => ix m i) = decide (l = m) := by
  rw [Bool.eq_iff_iff, decide_eq_true_iff]
  unfold strEq
  by_cases h : l.length = m.length
  · rw [show Nat.beq l.length m.length = true by rw [h]; exact Nat.beq_refl _, cond_true, allN_iff]
    constructor
    · intro h2
      refine ix_ext h fun i hi => ?_
      have h3 := h2 i hi
      simp only [decide_eq_true_eq] at h3
      exact byt_inj (hl _ (ix_mem hi)) (hm _ (ix_mem (by omega))) h3
    · rintro rfl i _
      simp
  · rw [beq_ne h, cond_false]
    constructor
    · intro h2; cases h2
    · rintro rfl; exact absurd rfl h
theorem bor (a b : Bool) : (bif a then true else b) = (a || b) := by cases a <;> rfl
theorem slotB (x y : Slot) : (decide (x.tag = y.tag) && ((x.full == y.full) && (decide (x.val = y.val) && true))) = decide (x = y) := by
  obtain ⟨a, b, c⟩ := x
  obtain ⟨a', b', c'⟩ := y
  rw [Bool.eq_iff_iff]; simp
theorem entB (x y : Entry) : (decide (x.addr = y.addr) && (decide (x.size = y.size) && (decide (x.step = y.step) && ((x.known == y.known) && (decide (x.val = y.val) && true))))) = decide (x = y) := by
  obtain ⟨a, b, c, d, e⟩ := x
  obtain ⟨a', b', c', d', e'⟩ := y
  rw [Bool.eq_iff_iff]; simp
theorem reqB (x y : Req) : ((x.store == y.store) && (decide (x.op = y.op) && (decide (x.addr = y.addr) && (decide (x.size = y.size) && (decide (x.val = y.val) && (decide (x.left = y.left) && (decide (x.reg = y.reg) && (decide (x.tag = y.tag) && true)))))))) = decide (x = y) := by
  obtain ⟨a, b, c, d, e, f, g, h⟩ := x
  obtain ⟨a', b', c', d', e', f', g', h'⟩ := y
  rw [Bool.eq_iff_iff]; simp
theorem wrB (x y : Wr) : (decide (x.addr = y.addr) && (decide (x.size = y.size) && (decide (x.val = y.val) && true))) = decide (x = y) := by
  obtain ⟨a, b, c⟩ := x
  obtain ⟨a', b', c'⟩ := y
  rw [Bool.eq_iff_iff]; simp
theorem sameF_iff {a b : Stt} : sameF a b = true ↔ hdB a b = true ∧ a.ldq = b.ldq ∧ a.saq = b.saq ∧ a.table = b.table ∧ a.writes = b.writes ∧ a.sdq = b.sdq ∧ a.aeq = b.aeq ∧ a.abq = b.abq ∧ a.ebq = b.ebq := by
  simp only [sameF, Bool.and_eq_true, decide_eq_true_eq]
theorem not_same {a b : Stt} (h : ¬ (hdB a b = true ∧ a.ldq = b.ldq ∧ a.saq = b.saq ∧ a.table = b.table ∧ a.writes = b.writes ∧ a.sdq = b.sdq ∧ a.aeq = b.aeq ∧ a.abq = b.abq ∧ a.ebq = b.ebq)) : sameF a b = false := by
  rw [← Bool.not_eq_true, sameF_iff]; exact h
theorem sk_same : SkOk Try.prog (16, samS) := skOf_ok fun ⟨a, b⟩ h => by
  obtain ⟨ha, hb⟩ : a.ok ∧ b.ok := h
  show Pure _ _ (cons [e_Stt a, e_Stt b]) (con (.bool (sameF a b)))
  refine pureQ mix TC6ok t_ref15_SameState (Nat.le_of_ble_eq_true rfl) ?_
  refine Eq.mpr (r_ss0 a b _) ?_
  have hm : strEq a.mem.length (fun i => ix a.mem i) b.mem.length (fun i => ix b.mem i) = decide (a.mem = b.mem) := strEq_list ha.1.2.2.2.2.2.2.2.2.2.2.1.1 hb.1.2.2.2.2.2.2.2.2.2.2.1.1
  simp only [allN_true, pk_or, cond_true, sideB_fold, trpB_fold, hm]
  refine cnd2 (fun h => ?_) (fun h => ?_)
  · rw [not_same]
    · exact .rfl
    rintro ⟨h1, _⟩
    simp only [hdB, Bool.and_eq_true] at h1
    simp only [bor, Bool.or_eq_true, Bool.not_eq_true', decide_not] at h
    simp only [h1, Bool.true_eq_false, or_self] at h
  · have hd : hdB a b = true := by
      simp only [bor, Bool.or_eq_false_iff, Bool.not_eq_false', decide_not] at h
      simp only [hdB, h, Bool.and_self]
    have hd' := hd
    simp only [hdB, Bool.and_eq_true, decide_eq_true_eq] at hd'
    obtain ⟨_, _, _, _, _, _, _, _, n1, n2, n3, n4⟩ := hd'
    have m1 : a.ldq.length = b.ldq.length := by omega
    have m2 : a.saq.length = b.saq.length := by omega
    have m3 : a.table.length = b.table.length := by omega
    have m4 : a.writes.length = b.writes.length := by omega
    obtain ⟨_, o1, o2, o3, o4, o5, o6, o7, o8, o9⟩ := ha
    refine loopQ mix TC6ok (fun i : Nat => ssS 5 i a b) (fun i => i ≤ a.ldq.length ∧ ∀ j, j < i → ix a.ldq j = ix b.ldq j) (fun i => a.ldq.length - i) 0 ⟨Nat.zero_le _, fun j hj => by omega⟩ (.of (weakX ⟨rfl, rfl, rfl, trivial⟩ ⟨rfl, rfl, trivial⟩ (Nat.le_refl _))) ?_
    rintro i ⟨hi, hp⟩
    refine Eq.mpr (r_ss1 a b i _ _) ?_
    simp only [slotB]
    by_cases hlt : i < a.ldq.length
    · have h1 : (i : Int) < (a.ldq.length : Int) := by omega
      have h2 : (i : Int) < (b.ldq.length : Int) := by omega
      have w1 : IntKind.i64.wrap ((i : Int) + 1) = ((i + 1 : Nat) : Int) := wrap_i64 (by omega) (by omega)
      simp only [h1, h2, w1, decide_true, decide_false, cond_true, cond_false, allN_true, Nat.le_refl, Int.toNat_natCast, Nat.beq_refl, pk_and, pk_or, Bool.not_true, Bool.not_false, not_true_eq_false, not_false_eq_true, Bool.and_true, Bool.true_and, Bool.and_self, ge_iff_le, Int.le_refl, if_true, if_false, reduceCtorEq, eq_self, BEq.rfl]
      refine cnd2 (fun h => ?_) (fun h => ?_) <;> simp only [Bool.not_eq_true', Bool.not_eq_false', decide_eq_false_iff_not, decide_eq_true_eq] at h
      · rw [not_same fun e => h (by rw [e.2.1])]; exact .rfl
      · refine ⟨i + 1, ⟨hlt, fun j hj => ?_⟩, .of (weakX ⟨rfl, rfl, rfl, trivial⟩ ⟨rfl, rfl, trivial⟩ (Nat.le_refl _)), by omega⟩
        by_cases hji : j = i
        · subst hji; exact h
        · exact hp j (by omega)
    have h1 : ¬ (i : Int) < (a.ldq.length : Int) := by omega
    simp only [h1, decide_true, decide_false, cond_true, cond_false, allN_true, Nat.le_refl, Int.toNat_natCast, Nat.beq_refl, pk_and, pk_or, Bool.not_true, Bool.not_false, not_true_eq_false, not_false_eq_true, Bool.and_true, Bool.true_and, Bool.and_self, ge_iff_le, Int.le_refl, if_true, if_false, reduceCtorEq, eq_self, BEq.rfl]
    have q1 : a.ldq = b.ldq := ix_ext m1 fun j hj => hp j (by omega)
    clear hp hi hlt h1
    refine loopQ mix TC6ok (fun i : Nat => ssS 6 i a b) (fun i => i ≤ a.saq.length ∧ ∀ j, j < i → ix a.saq j = ix b.saq j) (fun i => a.saq.length - i) 0 ⟨Nat.zero_le _, fun j hj => by omega⟩ (.of (weakX ⟨rfl, rfl, rfl, trivial⟩ ⟨rfl, rfl, trivial⟩ (Nat.le_refl _))) ?_
    rintro i ⟨hi, hp⟩
    refine Eq.mpr (r_ss2 a b i _ _) ?_
    simp only [entB]
    by_cases hlt : i < a.saq.length
    · have h1 : (i : Int) < (a.saq.length : Int) := by omega
      have h2 : (i : Int) < (b.saq.length : Int) := by omega
      have w1 : IntKind.i64.wrap ((i : Int) + 1) = ((i + 1 : Nat) : Int) := wrap_i64 (by omega) (by omega)
      simp only [h1, h2, w1, decide_true, decide_false, cond_true, cond_false, allN_true, Nat.le_refl, Int.toNat_natCast, Nat.beq_refl, pk_and, pk_or, Bool.not_true, Bool.not_false, not_true_eq_false, not_false_eq_true, Bool.and_true, Bool.true_and, Bool.and_self, ge_iff_le, Int.le_refl, if_true, if_false, reduceCtorEq, eq_self, BEq.rfl]
      refine cnd2 (fun h => ?_) (fun h => ?_) <;> simp only [Bool.not_eq_true', Bool.not_eq_false', decide_eq_false_iff_not, decide_eq_true_eq] at h
      · rw [not_same fun e => h (by rw [e.2.2.1])]; exact .rfl
      · refine ⟨i + 1, ⟨hlt, fun j hj => ?_⟩, .of (weakX ⟨rfl, rfl, rfl, trivial⟩ ⟨rfl, rfl, trivial⟩ (Nat.le_refl _)), by omega⟩
        by_cases hji : j = i
        · subst hji; exact h
        · exact hp j (by omega)
    have h1 : ¬ (i : Int) < (a.saq.length : Int) := by omega
    simp only [h1, decide_true, decide_false, cond_true, cond_false, allN_true, Nat.le_refl, Int.toNat_natCast, Nat.beq_refl, pk_and, pk_or, Bool.not_true, Bool.not_false, not_true_eq_false, not_false_eq_true, Bool.and_true, Bool.true_and, Bool.and_self, ge_iff_le, Int.le_refl, if_true, if_false, reduceCtorEq, eq_self, BEq.rfl]
    have q2 : a.saq = b.saq := ix_ext m2 fun j hj => hp j (by omega)
    clear hp hi hlt h1
    refine loopQ mix TC6ok (fun i : Nat => ssS 7 i a b) (fun i => i ≤ a.table.length ∧ ∀ j, j < i → ix a.table j = ix b.table j) (fun i => a.table.length - i) 0 ⟨Nat.zero_le _, fun j hj => by omega⟩ (.of (weakX ⟨rfl, rfl, rfl, trivial⟩ ⟨rfl, rfl, trivial⟩ (Nat.le_refl _))) ?_
    rintro i ⟨hi, hp⟩
    refine Eq.mpr (r_ss3 a b i _ _) ?_
    simp only [reqB]
    by_cases hlt : i < a.table.length
    · have h1 : (i : Int) < (a.table.length : Int) := by omega
      have h2 : (i : Int) < (b.table.length : Int) := by omega
      have w1 : IntKind.i64.wrap ((i : Int) + 1) = ((i + 1 : Nat) : Int) := wrap_i64 (by omega) (by omega)
      simp only [h1, h2, w1, decide_true, decide_false, cond_true, cond_false, allN_true, Nat.le_refl, Int.toNat_natCast, Nat.beq_refl, pk_and, pk_or, Bool.not_true, Bool.not_false, not_true_eq_false, not_false_eq_true, Bool.and_true, Bool.true_and, Bool.and_self, ge_iff_le, Int.le_refl, if_true, if_false, reduceCtorEq, eq_self, BEq.rfl]
      refine cnd2 (fun h => ?_) (fun h => ?_) <;> simp only [Bool.not_eq_true', Bool.not_eq_false', decide_eq_false_iff_not, decide_eq_true_eq] at h
      · rw [not_same fun e => h (by rw [e.2.2.2.1])]; exact .rfl
      · refine ⟨i + 1, ⟨hlt, fun j hj => ?_⟩, .of (weakX ⟨rfl, rfl, rfl, trivial⟩ ⟨rfl, rfl, trivial⟩ (Nat.le_refl _)), by omega⟩
        by_cases hji : j = i
        · subst hji; exact h
        · exact hp j (by omega)
    have h1 : ¬ (i : Int) < (a.table.length : Int) := by omega
    simp only [h1, decide_true, decide_false, cond_true, cond_false, allN_true, Nat.le_refl, Int.toNat_natCast, Nat.beq_refl, pk_and, pk_or, Bool.not_true, Bool.not_false, not_true_eq_false, not_false_eq_true, Bool.and_true, Bool.true_and, Bool.and_self, ge_iff_le, Int.le_refl, if_true, if_false, reduceCtorEq, eq_self, BEq.rfl]
    have q3 : a.table = b.table := ix_ext m3 fun j hj => hp j (by omega)
    clear hp hi hlt h1
    refine loopQ mix TC6ok (fun i : Nat => ssS 8 i a b) (fun i => i ≤ a.writes.length ∧ ∀ j, j < i → ix a.writes j = ix b.writes j) (fun i => a.writes.length - i) 0 ⟨Nat.zero_le _, fun j hj => by omega⟩ (.of (weakX ⟨rfl, rfl, rfl, trivial⟩ ⟨rfl, rfl, trivial⟩ (Nat.le_refl _))) ?_
    rintro i ⟨hi, hp⟩
    refine Eq.mpr (r_ss4 a b i _ _) ?_
    simp only [wrB]
    by_cases hlt : i < a.writes.length
    · have h1 : (i : Int) < (a.writes.length : Int) := by omega
      have h2 : (i : Int) < (b.writes.length : Int) := by omega
      have w1 : IntKind.i64.wrap ((i : Int) + 1) = ((i + 1 : Nat) : Int) := wrap_i64 (by omega) (by omega)
      simp only [h1, h2, w1, decide_true, decide_false, cond_true, cond_false, allN_true, Nat.le_refl, Int.toNat_natCast, Nat.beq_refl, pk_and, pk_or, Bool.not_true, Bool.not_false, not_true_eq_false, not_false_eq_true, Bool.and_true, Bool.true_and, Bool.and_self, ge_iff_le, Int.le_refl, if_true, if_false, reduceCtorEq, eq_self, BEq.rfl]
      refine cnd2 (fun h => ?_) (fun h => ?_) <;> simp only [Bool.not_eq_true', Bool.not_eq_false', decide_eq_false_iff_not, decide_eq_true_eq] at h
      · rw [not_same fun e => h (by rw [e.2.2.2.2.1])]; exact .rfl
      · refine ⟨i + 1, ⟨hlt, fun j hj => ?_⟩, .of (weakX ⟨rfl, rfl, rfl, trivial⟩ ⟨rfl, rfl, trivial⟩ (Nat.le_refl _)), by omega⟩
        by_cases hji : j = i
        · subst hji; exact h
        · exact hp j (by omega)
    have h1 : ¬ (i : Int) < (a.writes.length : Int) := by omega
    simp only [h1, decide_true, decide_false, cond_true, cond_false, allN_true, Nat.le_refl, Int.toNat_natCast, Nat.beq_refl, pk_and, pk_or, Bool.not_true, Bool.not_false, not_true_eq_false, not_false_eq_true, Bool.and_true, Bool.true_and, Bool.and_self, ge_iff_le, Int.le_refl, if_true, if_false, reduceCtorEq, eq_self, BEq.rfl]
    have q4 : a.writes = b.writes := ix_ext m4 fun j hj => hp j (by omega)
    have e0 : sameF a b = (bif bif bif decide (a.sdq = b.sdq) then decide (a.aeq = b.aeq) else false then decide (a.abq = b.abq) else false then decide (a.ebq = b.ebq) else false) := by
      unfold sameF
      rw [hd, decide_eq_true q1, decide_eq_true q2, decide_eq_true q3, decide_eq_true q4]
      cases decide (a.sdq = b.sdq) <;> cases decide (a.aeq = b.aeq) <;> cases decide (a.abq = b.abq) <;> rfl
    rw [e0]
    refine ⟨(a.sdq, b.sdq), .rfl, ⟨o2⟩, fun y hy => ?_⟩
    replace hy : y = decide (a.sdq = b.sdq) := hy
    subst hy
    refine cnd2 (fun g1 => ?_) (fun g1 => by rw [g1]; exact .rfl)
    rw [g1]
    refine ⟨(a.aeq, b.aeq), .rfl, ⟨o3⟩, fun y hy => ?_⟩
    replace hy : y = decide (a.aeq = b.aeq) := hy
    subst hy
    simp only [cond_true]
    refine cnd2 (fun g2 => ?_) (fun g2 => by rw [g2]; exact .rfl)
    rw [g2]
    refine ⟨(a.abq, b.abq), .rfl, ⟨o4⟩, fun y hy => ?_⟩
    replace hy : y = decide (a.abq = b.abq) := hy
    subst hy
    simp only [cond_true]
    refine cnd2 (fun g3 => ?_) (fun g3 => by rw [g3]; exact .rfl)
    rw [g3]
    refine ⟨(a.ebq, b.ebq), .rfl, ⟨o5⟩, fun y hy => ?_⟩
    replace hy : y = decide (a.ebq = b.ebq) := hy
    subst hy
    exact .rfl
theorem sideB_self (x : Side) : sideB x x = true := by simp [sideB, allN_true]
theorem trpB_self (x : Trp) : trpB x x = true := by simp [trpB]
theorem sameF_self (a : Stt) : sameF a a = true := by
  rw [sameF_iff]
  refine ⟨?_, rfl, rfl, rfl, rfl, rfl, rfl, rfl, rfl⟩
  simp [hdB, sideB_self, trpB_self]
end Go.Proofs.Ytbemlndjdbopeaa

