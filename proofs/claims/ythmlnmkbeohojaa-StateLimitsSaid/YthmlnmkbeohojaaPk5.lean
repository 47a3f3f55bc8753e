/- Texts put together. -/
import Derived.Test.YthmlnmkbeohojaaPk4
/- Abstract code of the functions of ref15: printed by a program from what the given translation yields. -/
namespace Go.Proofs.Ythmlnmkbeohojaa
open Go.Ra
def c_ref15_RightConfig_l1 : AC := (.seq (.seq (.ops [⟨(.some 22), (.mv (.t 4)), .none⟩, ⟨(.some 23), (.mv (.t 3)), .none⟩, ⟨(.some 24), (.len .none (.t 23)), .none⟩, ⟨(.some 25), (.bin .lss (.t 22) (.t 24)), .none⟩]) (.cond (.t 25) .skip (.exit 0))) (.seq (.block 1 (.seq (.ops [⟨(.some 28), (.mv (.t 3)), .none⟩, ⟨(.some 29), (.mv (.t 4)), .none⟩, ⟨(.some 30), (.iadr .none 1 (.t 28) (.t 29)), .none⟩, ⟨(.some 31), (.load .false 1 (.t 30)), .none⟩, ⟨(.some 32), (.call 24 [(.t 31), (.c (.sc (.int .i64 64)))]), .none⟩, ⟨(.some 33), (.un .not (.t 32)), .none⟩]) (.cond (.t 33) (.seq (.ops [⟨(.some 2), (.mv (.c (.sc (.bool .false)))), .none⟩]) .ret) .skip))) (.ops [⟨(.some 26), (.mv (.t 4)), .none⟩, ⟨(.some 27), (.bin .add (.t 26) (.c (.sc (.int .i64 1)))), .none⟩, ⟨(.some 4), (.mv (.t 27)), .none⟩])))
def c_ref15_RightConfig_p1 : AC := (.seq (.ops [⟨(.some 34), (.fadr 6 6 1 (.t 1)), .none⟩, ⟨(.some 35), (.load .false 1 (.t 34)), .none⟩, ⟨(.some 36), (.call 24 [(.t 35), (.c (.sc (.int .i64 16)))]), .none⟩, ⟨(.some 37), (.mv (.t 36)), .none⟩, ⟨(.some 38), (.fadr 9 9 1 (.t 1)), (.some (37, .true))⟩, ⟨(.some 39), (.load .false 1 (.t 38)), (.some (37, .true))⟩, ⟨(.some 40), (.call 24 [(.t 39), (.c (.sc (.int .i64 1000)))]), (.some (37, .true))⟩, ⟨(.some 41), (.pick (.t 37) (.t 40) (.c (.sc (.bool .false)))), .none⟩, ⟨(.some 42), (.mv (.t 41)), .none⟩, ⟨(.some 43), (.fadr 10 10 1 (.t 1)), (.some (42, .true))⟩, ⟨(.some 44), (.load .false 1 (.t 43)), (.some (42, .true))⟩, ⟨(.some 45), (.call 24 [(.t 44), (.c (.sc (.int .i64 50)))]), (.some (42, .true))⟩, ⟨(.some 46), (.pick (.t 42) (.t 45) (.c (.sc (.bool .false)))), .none⟩, ⟨(.some 47), (.mv (.t 46)), .none⟩, ⟨(.some 48), (.fadr 11 11 1 (.t 1)), (.some (47, .true))⟩, ⟨(.some 49), (.load .false 1 (.t 48)), (.some (47, .true))⟩, ⟨(.some 50), (.call 24 [(.t 49), (.c (.sc (.int .i64 50)))]), (.some (47, .true))⟩, ⟨(.some 51), (.pick (.t 47) (.t 50) (.c (.sc (.bool .false)))), .none⟩, ⟨(.some 2), (.mv (.t 51)), .none⟩]) .ret)
def c_ref15_RightConfig : AC := (.seq (.ops [⟨(.some 1), (.box (.t 0)), .none⟩, ⟨(.some 2), (.mv (.c (.sc (.bool .false)))), .none⟩]) (.seq (.ops [⟨(.some 5), (.fadr 0 0 1 (.t 1)), .none⟩, ⟨(.some 6), (.load .false 1 (.t 5)), .none⟩, ⟨(.some 7), (.fadr 1 1 1 (.t 1)), .none⟩, ⟨(.some 8), (.load .false 1 (.t 7)), .none⟩, ⟨(.some 9), (.fadr 2 2 1 (.t 1)), .none⟩, ⟨(.some 10), (.load .false 1 (.t 9)), .none⟩, ⟨(.some 11), (.fadr 3 3 1 (.t 1)), .none⟩, ⟨(.some 12), (.load .false 1 (.t 11)), .none⟩, ⟨(.some 13), (.fadr 4 4 1 (.t 1)), .none⟩, ⟨(.some 14), (.load .false 1 (.t 13)), .none⟩, ⟨(.some 15), (.fadr 5 5 1 (.t 1)), .none⟩, ⟨(.some 16), (.load .false 1 (.t 15)), .none⟩, ⟨(.some 17), (.fadr 7 7 1 (.t 1)), .none⟩, ⟨(.some 18), (.load .false 1 (.t 17)), .none⟩, ⟨(.some 19), (.fadr 8 8 1 (.t 1)), .none⟩, ⟨(.some 20), (.load .false 1 (.t 19)), .none⟩, ⟨(.some 21), (.bsl 1 [(.t 6), (.t 8), (.t 10), (.t 12), (.t 14), (.t 16), (.t 18), (.t 20)]), .none⟩, ⟨(.some 3), (.mv (.t 21)), .none⟩]) (.seq (.seq (.ops [⟨(.some 4), (.mv (.c (.sc (.int .i64 0)))), .none⟩]) (.block 0 (.loop c_ref15_RightConfig_l1))) c_ref15_RightConfig_p1)))
theorem t_ref15_RightConfig : trF Try.prog qq 12 = some (52, [(.tmp 2)], c_ref15_RightConfig) := by kernel_rfl
def c_ref15_SameState_l1 : AC := (.seq (.seq (.ops [⟨(.some 101), (.mv (.t 5)), .none⟩, ⟨(.some 102), (.fadr 3 77 1 (.t 2)), .none⟩, ⟨(.some 103), (.load .false 1 (.t 102)), .none⟩, ⟨(.some 104), (.len .none (.t 103)), .none⟩, ⟨(.some 105), (.bin .lss (.t 101) (.t 104)), .none⟩]) (.cond (.t 105) .skip (.exit 0))) (.seq (.block 1 (.seq (.ops [⟨(.some 108), (.fadr 3 77 1 (.t 2)), .none⟩, ⟨(.some 109), (.load .false 1 (.t 108)), .none⟩, ⟨(.some 110), (.mv (.t 5)), .none⟩, ⟨(.some 111), (.iadr .none 3 (.t 109) (.t 110)), .none⟩, ⟨(.some 112), (.load .true 3 (.t 111)), .none⟩, ⟨(.some 113), (.fadr 3 77 1 (.t 3)), .none⟩, ⟨(.some 114), (.load .false 1 (.t 113)), .none⟩, ⟨(.some 115), (.mv (.t 5)), .none⟩, ⟨(.some 116), (.iadr .none 3 (.t 114) (.t 115)), .none⟩, ⟨(.some 117), (.load .true 3 (.t 116)), .none⟩, ⟨(.some 118), (.eqs .true (.agg [(1, .int), (1, .bool), (1, .int)]) (.t 112) (.t 117)), .none⟩]) (.cond (.t 118) (.seq (.ops [⟨(.some 4), (.mv (.c (.sc (.bool .false)))), .none⟩]) .ret) .skip))) (.ops [⟨(.some 106), (.mv (.t 5)), .none⟩, ⟨(.some 107), (.bin .add (.t 106) (.c (.sc (.int .i64 1)))), .none⟩, ⟨(.some 5), (.mv (.t 107)), .none⟩])))
def c_ref15_SameState_l2 : AC := (.seq (.seq (.ops [⟨(.some 119), (.mv (.t 6)), .none⟩, ⟨(.some 120), (.fadr 8 82 1 (.t 2)), .none⟩, ⟨(.some 121), (.load .false 1 (.t 120)), .none⟩, ⟨(.some 122), (.len .none (.t 121)), .none⟩, ⟨(.some 123), (.bin .lss (.t 119) (.t 122)), .none⟩]) (.cond (.t 123) .skip (.exit 2))) (.seq (.block 3 (.seq (.ops [⟨(.some 126), (.fadr 8 82 1 (.t 2)), .none⟩, ⟨(.some 127), (.load .false 1 (.t 126)), .none⟩, ⟨(.some 128), (.mv (.t 6)), .none⟩, ⟨(.some 129), (.iadr .none 5 (.t 127) (.t 128)), .none⟩, ⟨(.some 130), (.load .true 5 (.t 129)), .none⟩, ⟨(.some 131), (.fadr 8 82 1 (.t 3)), .none⟩, ⟨(.some 132), (.load .false 1 (.t 131)), .none⟩, ⟨(.some 133), (.mv (.t 6)), .none⟩, ⟨(.some 134), (.iadr .none 5 (.t 132) (.t 133)), .none⟩, ⟨(.some 135), (.load .true 5 (.t 134)), .none⟩, ⟨(.some 136), (.eqs .true (.agg [(1, .int), (1, .int), (1, .int), (1, .bool), (1, .int)]) (.t 130) (.t 135)), .none⟩]) (.cond (.t 136) (.seq (.ops [⟨(.some 4), (.mv (.c (.sc (.bool .false)))), .none⟩]) .ret) .skip))) (.ops [⟨(.some 124), (.mv (.t 6)), .none⟩, ⟨(.some 125), (.bin .add (.t 124) (.c (.sc (.int .i64 1)))), .none⟩, ⟨(.some 6), (.mv (.t 125)), .none⟩])))
def c_ref15_SameState_l3 : AC := (.seq (.seq (.ops [⟨(.some 137), (.mv (.t 7)), .none⟩, ⟨(.some 138), (.fadr 9 83 1 (.t 2)), .none⟩, ⟨(.some 139), (.load .false 1 (.t 138)), .none⟩, ⟨(.some 140), (.len .none (.t 139)), .none⟩, ⟨(.some 141), (.bin .lss (.t 137) (.t 140)), .none⟩]) (.cond (.t 141) .skip (.exit 4))) (.seq (.block 5 (.seq (.ops [⟨(.some 144), (.fadr 9 83 1 (.t 2)), .none⟩, ⟨(.some 145), (.load .false 1 (.t 144)), .none⟩, ⟨(.some 146), (.mv (.t 7)), .none⟩, ⟨(.some 147), (.iadr .none 8 (.t 145) (.t 146)), .none⟩, ⟨(.some 148), (.load .true 8 (.t 147)), .none⟩, ⟨(.some 149), (.fadr 9 83 1 (.t 3)), .none⟩, ⟨(.some 150), (.load .false 1 (.t 149)), .none⟩, ⟨(.some 151), (.mv (.t 7)), .none⟩, ⟨(.some 152), (.iadr .none 8 (.t 150) (.t 151)), .none⟩, ⟨(.some 153), (.load .true 8 (.t 152)), .none⟩, ⟨(.some 154), (.eqs .true (.agg [(1, .bool), (1, .int), (1, .int), (1, .int), (1, .int), (1, .int), (1, .int), (1, .int)]) (.t 148) (.t 153)), .none⟩]) (.cond (.t 154) (.seq (.ops [⟨(.some 4), (.mv (.c (.sc (.bool .false)))), .none⟩]) .ret) .skip))) (.ops [⟨(.some 142), (.mv (.t 7)), .none⟩, ⟨(.some 143), (.bin .add (.t 142) (.c (.sc (.int .i64 1)))), .none⟩, ⟨(.some 7), (.mv (.t 143)), .none⟩])))
def c_ref15_SameState_l4 : AC := (.seq (.seq (.ops [⟨(.some 155), (.mv (.t 8)), .none⟩, ⟨(.some 156), (.fadr 11 85 1 (.t 2)), .none⟩, ⟨(.some 157), (.load .false 1 (.t 156)), .none⟩, ⟨(.some 158), (.len .none (.t 157)), .none⟩, ⟨(.some 159), (.bin .lss (.t 155) (.t 158)), .none⟩]) (.cond (.t 159) .skip (.exit 6))) (.seq (.block 7 (.seq (.ops [⟨(.some 162), (.fadr 11 85 1 (.t 2)), .none⟩, ⟨(.some 163), (.load .false 1 (.t 162)), .none⟩, ⟨(.some 164), (.mv (.t 8)), .none⟩, ⟨(.some 165), (.iadr .none 3 (.t 163) (.t 164)), .none⟩, ⟨(.some 166), (.load .true 3 (.t 165)), .none⟩, ⟨(.some 167), (.fadr 11 85 1 (.t 3)), .none⟩, ⟨(.some 168), (.load .false 1 (.t 167)), .none⟩, ⟨(.some 169), (.mv (.t 8)), .none⟩, ⟨(.some 170), (.iadr .none 3 (.t 168) (.t 169)), .none⟩, ⟨(.some 171), (.load .true 3 (.t 170)), .none⟩, ⟨(.some 172), (.eqs .true (.agg [(1, .int), (1, .int), (1, .int)]) (.t 166) (.t 171)), .none⟩]) (.cond (.t 172) (.seq (.ops [⟨(.some 4), (.mv (.c (.sc (.bool .false)))), .none⟩]) .ret) .skip))) (.ops [⟨(.some 160), (.mv (.t 8)), .none⟩, ⟨(.some 161), (.bin .add (.t 160) (.c (.sc (.int .i64 1)))), .none⟩, ⟨(.some 8), (.mv (.t 161)), .none⟩])))
def c_ref15_SameState_p1 : AC := (.seq (.ops [⟨(.some 173), (.fadr 4 78 1 (.t 2)), .none⟩, ⟨(.some 174), (.load .false 1 (.t 173)), .none⟩, ⟨(.some 175), (.fadr 4 78 1 (.t 3)), .none⟩, ⟨(.some 176), (.load .false 1 (.t 175)), .none⟩, ⟨(.some 177), (.call 25 [(.t 174), (.t 176)]), .none⟩, ⟨(.some 178), (.mv (.t 177)), .none⟩, ⟨(.some 179), (.fadr 5 79 1 (.t 2)), (.some (178, .true))⟩, ⟨(.some 180), (.load .false 1 (.t 179)), (.some (178, .true))⟩, ⟨(.some 181), (.fadr 5 79 1 (.t 3)), (.some (178, .true))⟩, ⟨(.some 182), (.load .false 1 (.t 181)), (.some (178, .true))⟩, ⟨(.some 183), (.call 25 [(.t 180), (.t 182)]), (.some (178, .true))⟩, ⟨(.some 184), (.pick (.t 178) (.t 183) (.c (.sc (.bool .false)))), .none⟩, ⟨(.some 185), (.mv (.t 184)), .none⟩, ⟨(.some 186), (.fadr 6 80 1 (.t 2)), (.some (185, .true))⟩, ⟨(.some 187), (.load .false 1 (.t 186)), (.some (185, .true))⟩, ⟨(.some 188), (.fadr 6 80 1 (.t 3)), (.some (185, .true))⟩, ⟨(.some 189), (.load .false 1 (.t 188)), (.some (185, .true))⟩, ⟨(.some 190), (.call 26 [(.t 187), (.t 189)]), (.some (185, .true))⟩, ⟨(.some 191), (.pick (.t 185) (.t 190) (.c (.sc (.bool .false)))), .none⟩, ⟨(.some 192), (.mv (.t 191)), .none⟩, ⟨(.some 193), (.fadr 7 81 1 (.t 2)), (.some (192, .true))⟩, ⟨(.some 194), (.load .false 1 (.t 193)), (.some (192, .true))⟩, ⟨(.some 195), (.fadr 7 81 1 (.t 3)), (.some (192, .true))⟩, ⟨(.some 196), (.load .false 1 (.t 195)), (.some (192, .true))⟩, ⟨(.some 197), (.call 26 [(.t 194), (.t 196)]), (.some (192, .true))⟩, ⟨(.some 198), (.pick (.t 192) (.t 197) (.c (.sc (.bool .false)))), .none⟩, ⟨(.some 4), (.mv (.t 198)), .none⟩]) .ret)
def c_ref15_SameState_p2 : AC := (.seq (.seq (.ops [⟨(.some 8), (.mv (.c (.sc (.int .i64 0)))), .none⟩]) (.block 6 (.loop c_ref15_SameState_l4))) c_ref15_SameState_p1)
def c_ref15_SameState_p3 : AC := (.seq (.seq (.ops [⟨(.some 7), (.mv (.c (.sc (.int .i64 0)))), .none⟩]) (.block 4 (.loop c_ref15_SameState_l3))) c_ref15_SameState_p2)
def c_ref15_SameState_p4 : AC := (.seq (.seq (.ops [⟨(.some 6), (.mv (.c (.sc (.int .i64 0)))), .none⟩]) (.block 2 (.loop c_ref15_SameState_l2))) c_ref15_SameState_p3)
def c_ref15_SameState : AC := (.seq (.ops [⟨(.some 2), (.box (.t 0)), .none⟩, ⟨(.some 3), (.box (.t 1)), .none⟩, ⟨(.some 4), (.mv (.c (.sc (.bool .false)))), .none⟩]) (.seq (.seq (.ops [⟨(.some 9), (.fadr 0 0 1 (.t 2)), .none⟩, ⟨(.some 10), (.load .false 1 (.t 9)), .none⟩, ⟨(.some 11), (.fadr 0 0 1 (.t 3)), .none⟩, ⟨(.some 12), (.load .false 1 (.t 11)), .none⟩, ⟨(.some 13), (.bin .neq (.t 10) (.t 12)), .none⟩, ⟨(.some 14), (.mv (.t 13)), .none⟩, ⟨(.some 15), (.fadr 1 1 38 (.t 2)), (.some (14, .false))⟩, ⟨(.some 16), (.load .true 38 (.t 15)), (.some (14, .false))⟩, ⟨(.some 17), (.fadr 1 1 38 (.t 3)), (.some (14, .false))⟩, ⟨(.some 18), (.load .true 38 (.t 17)), (.some (14, .false))⟩, ⟨(.some 19), (.eqs .true (.agg [(16, (.arr 16 1 .int)), (16, (.arr 16 1 .int)), (3, (.agg [(1, .int), (1, .int), (1, .int)])), (1, .int), (1, .bool), (1, .int)]) (.t 16) (.t 18)), (.some (14, .false))⟩, ⟨(.some 20), (.pick (.t 14) (.c (.sc (.bool .true))) (.t 19)), .none⟩, ⟨(.some 21), (.mv (.t 20)), .none⟩, ⟨(.some 22), (.fadr 2 39 38 (.t 2)), (.some (21, .false))⟩, ⟨(.some 23), (.load .true 38 (.t 22)), (.some (21, .false))⟩, ⟨(.some 24), (.fadr 2 39 38 (.t 3)), (.some (21, .false))⟩, ⟨(.some 25), (.load .true 38 (.t 24)), (.some (21, .false))⟩, ⟨(.some 26), (.eqs .true (.agg [(16, (.arr 16 1 .int)), (16, (.arr 16 1 .int)), (3, (.agg [(1, .int), (1, .int), (1, .int)])), (1, .int), (1, .bool), (1, .int)]) (.t 23) (.t 25)), (.some (21, .false))⟩, ⟨(.some 27), (.pick (.t 21) (.c (.sc (.bool .true))) (.t 26)), .none⟩, ⟨(.some 28), (.mv (.t 27)), .none⟩, ⟨(.some 29), (.fadr 12 86 3 (.t 2)), (.some (28, .false))⟩, ⟨(.some 30), (.load .true 3 (.t 29)), (.some (28, .false))⟩, ⟨(.some 31), (.fadr 12 86 3 (.t 3)), (.some (28, .false))⟩, ⟨(.some 32), (.load .true 3 (.t 31)), (.some (28, .false))⟩, ⟨(.some 33), (.eqs .true (.agg [(1, .int), (1, .int), (1, .int)]) (.t 30) (.t 32)), (.some (28, .false))⟩, ⟨(.some 34), (.pick (.t 28) (.c (.sc (.bool .true))) (.t 33)), .none⟩, ⟨(.some 35), (.mv (.t 34)), .none⟩, ⟨(.some 36), (.fadr 13 89 1 (.t 2)), (.some (35, .false))⟩, ⟨(.some 37), (.load .false 1 (.t 36)), (.some (35, .false))⟩, ⟨(.some 38), (.fadr 13 89 1 (.t 3)), (.some (35, .false))⟩, ⟨(.some 39), (.load .false 1 (.t 38)), (.some (35, .false))⟩, ⟨(.some 40), (.bin .neq (.t 37) (.t 39)), (.some (35, .false))⟩, ⟨(.some 41), (.pick (.t 35) (.c (.sc (.bool .true))) (.t 40)), .none⟩, ⟨(.some 42), (.mv (.t 41)), .none⟩, ⟨(.some 43), (.fadr 14 90 1 (.t 2)), (.some (42, .false))⟩, ⟨(.some 44), (.load .false 1 (.t 43)), (.some (42, .false))⟩, ⟨(.some 45), (.fadr 14 90 1 (.t 3)), (.some (42, .false))⟩, ⟨(.some 46), (.load .false 1 (.t 45)), (.some (42, .false))⟩, ⟨(.some 47), (.bin .neq (.t 44) (.t 46)), (.some (42, .false))⟩, ⟨(.some 48), (.pick (.t 42) (.c (.sc (.bool .true))) (.t 47)), .none⟩, ⟨(.some 49), (.mv (.t 48)), .none⟩, ⟨(.some 50), (.fadr 15 91 1 (.t 2)), (.some (49, .false))⟩, ⟨(.some 51), (.load .false 1 (.t 50)), (.some (49, .false))⟩, ⟨(.some 52), (.fadr 15 91 1 (.t 3)), (.some (49, .false))⟩, ⟨(.some 53), (.load .false 1 (.t 52)), (.some (49, .false))⟩, ⟨(.some 54), (.bin .neq (.t 51) (.t 53)), (.some (49, .false))⟩, ⟨(.some 55), (.pick (.t 49) (.c (.sc (.bool .true))) (.t 54)), .none⟩, ⟨(.some 56), (.mv (.t 55)), .none⟩, ⟨(.some 57), (.fadr 10 84 1 (.t 2)), (.some (56, .false))⟩, ⟨(.some 58), (.load .false 1 (.t 57)), (.some (56, .false))⟩, ⟨(.some 59), (.b2s (.t 58)), (.some (56, .false))⟩, ⟨(.some 60), (.fadr 10 84 1 (.t 3)), (.some (56, .false))⟩, ⟨(.some 61), (.load .false 1 (.t 60)), (.some (56, .false))⟩, ⟨(.some 62), (.b2s (.t 61)), (.some (56, .false))⟩, ⟨(.some 63), (.bin .neq (.t 59) (.t 62)), (.some (56, .false))⟩, ⟨(.some 64), (.pick (.t 56) (.c (.sc (.bool .true))) (.t 63)), .none⟩, ⟨(.some 65), (.mv (.t 64)), .none⟩, ⟨(.some 66), (.fadr 3 77 1 (.t 2)), (.some (65, .false))⟩, ⟨(.some 67), (.load .false 1 (.t 66)), (.some (65, .false))⟩, ⟨(.some 68), (.len .none (.t 67)), (.some (65, .false))⟩, ⟨(.some 69), (.fadr 3 77 1 (.t 3)), (.some (65, .false))⟩, ⟨(.some 70), (.load .false 1 (.t 69)), (.some (65, .false))⟩, ⟨(.some 71), (.len .none (.t 70)), (.some (65, .false))⟩, ⟨(.some 72), (.bin .neq (.t 68) (.t 71)), (.some (65, .false))⟩, ⟨(.some 73), (.pick (.t 65) (.c (.sc (.bool .true))) (.t 72)), .none⟩, ⟨(.some 74), (.mv (.t 73)), .none⟩, ⟨(.some 75), (.fadr 8 82 1 (.t 2)), (.some (74, .false))⟩, ⟨(.some 76), (.load .false 1 (.t 75)), (.some (74, .false))⟩, ⟨(.some 77), (.len .none (.t 76)), (.some (74, .false))⟩, ⟨(.some 78), (.fadr 8 82 1 (.t 3)), (.some (74, .false))⟩, ⟨(.some 79), (.load .false 1 (.t 78)), (.some (74, .false))⟩, ⟨(.some 80), (.len .none (.t 79)), (.some (74, .false))⟩, ⟨(.some 81), (.bin .neq (.t 77) (.t 80)), (.some (74, .false))⟩, ⟨(.some 82), (.pick (.t 74) (.c (.sc (.bool .true))) (.t 81)), .none⟩, ⟨(.some 83), (.mv (.t 82)), .none⟩, ⟨(.some 84), (.fadr 9 83 1 (.t 2)), (.some (83, .false))⟩, ⟨(.some 85), (.load .false 1 (.t 84)), (.some (83, .false))⟩, ⟨(.some 86), (.len .none (.t 85)), (.some (83, .false))⟩, ⟨(.some 87), (.fadr 9 83 1 (.t 3)), (.some (83, .false))⟩, ⟨(.some 88), (.load .false 1 (.t 87)), (.some (83, .false))⟩, ⟨(.some 89), (.len .none (.t 88)), (.some (83, .false))⟩, ⟨(.some 90), (.bin .neq (.t 86) (.t 89)), (.some (83, .false))⟩, ⟨(.some 91), (.pick (.t 83) (.c (.sc (.bool .true))) (.t 90)), .none⟩, ⟨(.some 92), (.mv (.t 91)), .none⟩, ⟨(.some 93), (.fadr 11 85 1 (.t 2)), (.some (92, .false))⟩, ⟨(.some 94), (.load .false 1 (.t 93)), (.some (92, .false))⟩, ⟨(.some 95), (.len .none (.t 94)), (.some (92, .false))⟩, ⟨(.some 96), (.fadr 11 85 1 (.t 3)), (.some (92, .false))⟩, ⟨(.some 97), (.load .false 1 (.t 96)), (.some (92, .false))⟩, ⟨(.some 98), (.len .none (.t 97)), (.some (92, .false))⟩, ⟨(.some 99), (.bin .neq (.t 95) (.t 98)), (.some (92, .false))⟩, ⟨(.some 100), (.pick (.t 92) (.c (.sc (.bool .true))) (.t 99)), .none⟩]) (.cond (.t 100) (.seq (.ops [⟨(.some 4), (.mv (.c (.sc (.bool .false)))), .none⟩]) .ret) .skip)) (.seq (.seq (.ops [⟨(.some 5), (.mv (.c (.sc (.int .i64 0)))), .none⟩]) (.block 0 (.loop c_ref15_SameState_l1))) c_ref15_SameState_p4)))
theorem t_ref15_SameState : trF Try.prog qq 13 = some (199, [(.tmp 4)], c_ref15_SameState) := by kernel_rfl
def c_ref15_First : AC := (.seq (.ops [⟨(.some 1), (.box (.t 0)), .none⟩, ⟨(.some 2), (.box (.c (.agg 92 [(.sc (.int .i64 0)), (.agg 38 [(.arr 16 1 [(.sc (.int .u32 0)), (.sc (.int .u32 0)), (.sc (.int .u32 0)), (.sc (.int .u32 0)), (.sc (.int .u32 0)), (.sc (.int .u32 0)), (.sc (.int .u32 0)), (.sc (.int .u32 0)), (.sc (.int .u32 0)), (.sc (.int .u32 0)), (.sc (.int .u32 0)), (.sc (.int .u32 0)), (.sc (.int .u32 0)), (.sc (.int .u32 0)), (.sc (.int .u32 0)), (.sc (.int .u32 0))]), (.arr 16 1 [(.sc (.int .i64 0)), (.sc (.int .i64 0)), (.sc (.int .i64 0)), (.sc (.int .i64 0)), (.sc (.int .i64 0)), (.sc (.int .i64 0)), (.sc (.int .i64 0)), (.sc (.int .i64 0)), (.sc (.int .i64 0)), (.sc (.int .i64 0)), (.sc (.int .i64 0)), (.sc (.int .i64 0)), (.sc (.int .i64 0)), (.sc (.int .i64 0)), (.sc (.int .i64 0)), (.sc (.int .i64 0))]), (.agg 3 [(.sc (.int .i64 0)), (.sc (.int .i64 0)), (.sc (.int .i64 0))]), (.sc (.int .i64 0)), (.sc (.bool .false)), (.sc (.int .i64 0))]), (.agg 38 [(.arr 16 1 [(.sc (.int .u32 0)), (.sc (.int .u32 0)), (.sc (.int .u32 0)), (.sc (.int .u32 0)), (.sc (.int .u32 0)), (.sc (.int .u32 0)), (.sc (.int .u32 0)), (.sc (.int .u32 0)), (.sc (.int .u32 0)), (.sc (.int .u32 0)), (.sc (.int .u32 0)), (.sc (.int .u32 0)), (.sc (.int .u32 0)), (.sc (.int .u32 0)), (.sc (.int .u32 0)), (.sc (.int .u32 0))]), (.arr 16 1 [(.sc (.int .i64 0)), (.sc (.int .i64 0)), (.sc (.int .i64 0)), (.sc (.int .i64 0)), (.sc (.int .i64 0)), (.sc (.int .i64 0)), (.sc (.int .i64 0)), (.sc (.int .i64 0)), (.sc (.int .i64 0)), (.sc (.int .i64 0)), (.sc (.int .i64 0)), (.sc (.int .i64 0)), (.sc (.int .i64 0)), (.sc (.int .i64 0)), (.sc (.int .i64 0)), (.sc (.int .i64 0))]), (.agg 3 [(.sc (.int .i64 0)), (.sc (.int .i64 0)), (.sc (.int .i64 0))]), (.sc (.int .i64 0)), (.sc (.bool .false)), (.sc (.int .i64 0))]), (.fro .true 0 []), (.fro .true 0 []), (.fro .true 0 []), (.fro .true 0 []), (.fro .true 0 []), (.fro .true 0 []), (.fro .true 0 []), (.fro .true 0 []), (.fro .true 0 []), (.agg 3 [(.sc (.int .i64 0)), (.sc (.int .i64 0)), (.sc (.int .i64 0))]), (.sc (.int .i64 0)), (.sc (.int .i64 0)), (.sc (.int .i64 0))]))), .none⟩]) (.seq (.seq (.ops [⟨(.some 3), (.load .true 3 (.t 1)), .none⟩, ⟨(.some 4), (.call 29 [(.t 3)]), .none⟩, ⟨(.some 5), (.un .not (.t 4)), .none⟩]) (.cond (.t 5) (.seq (.ops [⟨(.some 6), (.build 92 [(.sc (.int .i64 0)), (.agg 38 [(.arr 16 1 [(.sc (.int .u32 0)), (.sc (.int .u32 0)), (.sc (.int .u32 0)), (.sc (.int .u32 0)), (.sc (.int .u32 0)), (.sc (.int .u32 0)), (.sc (.int .u32 0)), (.sc (.int .u32 0)), (.sc (.int .u32 0)), (.sc (.int .u32 0)), (.sc (.int .u32 0)), (.sc (.int .u32 0)), (.sc (.int .u32 0)), (.sc (.int .u32 0)), (.sc (.int .u32 0)), (.sc (.int .u32 0))]), (.arr 16 1 [(.sc (.int .i64 0)), (.sc (.int .i64 0)), (.sc (.int .i64 0)), (.sc (.int .i64 0)), (.sc (.int .i64 0)), (.sc (.int .i64 0)), (.sc (.int .i64 0)), (.sc (.int .i64 0)), (.sc (.int .i64 0)), (.sc (.int .i64 0)), (.sc (.int .i64 0)), (.sc (.int .i64 0)), (.sc (.int .i64 0)), (.sc (.int .i64 0)), (.sc (.int .i64 0)), (.sc (.int .i64 0))]), (.agg 3 [(.sc (.int .i64 0)), (.sc (.int .i64 0)), (.sc (.int .i64 0))]), (.sc (.int .i64 0)), (.sc (.bool .false)), (.sc (.int .i64 0))]), (.agg 38 [(.arr 16 1 [(.sc (.int .u32 0)), (.sc (.int .u32 0)), (.sc (.int .u32 0)), (.sc (.int .u32 0)), (.sc (.int .u32 0)), (.sc (.int .u32 0)), (.sc (.int .u32 0)), (.sc (.int .u32 0)), (.sc (.int .u32 0)), (.sc (.int .u32 0)), (.sc (.int .u32 0)), (.sc (.int .u32 0)), (.sc (.int .u32 0)), (.sc (.int .u32 0)), (.sc (.int .u32 0)), (.sc (.int .u32 0))]), (.arr 16 1 [(.sc (.int .i64 0)), (.sc (.int .i64 0)), (.sc (.int .i64 0)), (.sc (.int .i64 0)), (.sc (.int .i64 0)), (.sc (.int .i64 0)), (.sc (.int .i64 0)), (.sc (.int .i64 0)), (.sc (.int .i64 0)), (.sc (.int .i64 0)), (.sc (.int .i64 0)), (.sc (.int .i64 0)), (.sc (.int .i64 0)), (.sc (.int .i64 0)), (.sc (.int .i64 0)), (.sc (.int .i64 0))]), (.agg 3 [(.sc (.int .i64 0)), (.sc (.int .i64 0)), (.sc (.int .i64 0))]), (.sc (.int .i64 0)), (.sc (.bool .false)), (.sc (.int .i64 0))]), (.fro .true 0 []), (.fro .true 0 []), (.fro .true 0 []), (.fro .true 0 []), (.fro .true 0 []), (.fro .true 0 []), (.fro .true 0 []), (.fro .true 0 []), (.fro .true 0 []), (.agg 3 [(.sc (.int .i64 0)), (.sc (.int .i64 0)), (.sc (.int .i64 0))]), (.sc (.int .i64 0)), (.sc (.int .i64 0)), (.sc (.int .i64 0))] []), .none⟩, ⟨.none, (.store 92 (.t 2) (.t 6)), .none⟩]) .ret) .skip)) (.seq (.ops [⟨(.some 7), (.load .true 3 (.t 1)), .none⟩, ⟨(.some 8), (.call 20 [(.t 7)]), .none⟩, ⟨(.some 9), (.build 92 [(.sc (.int .i64 0)), (.agg 38 [(.arr 16 1 [(.sc (.int .u32 0)), (.sc (.int .u32 0)), (.sc (.int .u32 0)), (.sc (.int .u32 0)), (.sc (.int .u32 0)), (.sc (.int .u32 0)), (.sc (.int .u32 0)), (.sc (.int .u32 0)), (.sc (.int .u32 0)), (.sc (.int .u32 0)), (.sc (.int .u32 0)), (.sc (.int .u32 0)), (.sc (.int .u32 0)), (.sc (.int .u32 0)), (.sc (.int .u32 0)), (.sc (.int .u32 0))]), (.arr 16 1 [(.sc (.int .i64 0)), (.sc (.int .i64 0)), (.sc (.int .i64 0)), (.sc (.int .i64 0)), (.sc (.int .i64 0)), (.sc (.int .i64 0)), (.sc (.int .i64 0)), (.sc (.int .i64 0)), (.sc (.int .i64 0)), (.sc (.int .i64 0)), (.sc (.int .i64 0)), (.sc (.int .i64 0)), (.sc (.int .i64 0)), (.sc (.int .i64 0)), (.sc (.int .i64 0)), (.sc (.int .i64 0))]), (.agg 3 [(.sc (.int .i64 0)), (.sc (.int .i64 0)), (.sc (.int .i64 0))]), (.sc (.int .i64 0)), (.sc (.bool .false)), (.sc (.int .i64 0))]), (.agg 38 [(.arr 16 1 [(.sc (.int .u32 0)), (.sc (.int .u32 0)), (.sc (.int .u32 0)), (.sc (.int .u32 0)), (.sc (.int .u32 0)), (.sc (.int .u32 0)), (.sc (.int .u32 0)), (.sc (.int .u32 0)), (.sc (.int .u32 0)), (.sc (.int .u32 0)), (.sc (.int .u32 0)), (.sc (.int .u32 0)), (.sc (.int .u32 0)), (.sc (.int .u32 0)), (.sc (.int .u32 0)), (.sc (.int .u32 0))]), (.arr 16 1 [(.sc (.int .i64 0)), (.sc (.int .i64 0)), (.sc (.int .i64 0)), (.sc (.int .i64 0)), (.sc (.int .i64 0)), (.sc (.int .i64 0)), (.sc (.int .i64 0)), (.sc (.int .i64 0)), (.sc (.int .i64 0)), (.sc (.int .i64 0)), (.sc (.int .i64 0)), (.sc (.int .i64 0)), (.sc (.int .i64 0)), (.sc (.int .i64 0)), (.sc (.int .i64 0)), (.sc (.int .i64 0))]), (.agg 3 [(.sc (.int .i64 0)), (.sc (.int .i64 0)), (.sc (.int .i64 0))]), (.sc (.int .i64 0)), (.sc (.bool .false)), (.sc (.int .i64 0))]), (.fro .true 0 []), (.fro .true 0 []), (.fro .true 0 []), (.fro .true 0 []), (.fro .true 0 []), (.fro .true 0 []), (.fro .true 0 []), (.fro .true 0 []), (.fro .true 0 []), (.agg 3 [(.sc (.int .i64 0)), (.sc (.int .i64 0)), (.sc (.int .i64 0))]), (.sc (.int .i64 0)), (.sc (.int .i64 0)), (.sc (.int .i64 0))] [(10, (.t 8))]), .none⟩, ⟨.none, (.store 92 (.t 2) (.t 9)), .none⟩]) .ret)))
theorem t_ref15_First : trF Try.prog qq 15 = some (10, [(.cell 2 .true 92)], c_ref15_First) := by kernel_rfl
def c_ref15_RightState_l1 : AC := (.seq (.seq (.ops [⟨(.some 115), (.mv (.t 7)), .none⟩, ⟨(.some 116), (.fadr 8 82 1 (.t 5)), .none⟩, ⟨(.some 117), (.load .false 1 (.t 116)), .none⟩, ⟨(.some 118), (.len .none (.t 117)), .none⟩, ⟨(.some 119), (.bin .lss (.t 115) (.t 118)), .none⟩]) (.cond (.t 119) .skip (.exit 0))) (.seq (.block 1 (.seq (.ops [⟨(.some 122), (.fadr 8 82 1 (.t 5)), .none⟩, ⟨(.some 123), (.load .false 1 (.t 122)), .none⟩, ⟨(.some 124), (.mv (.t 7)), .none⟩, ⟨(.some 125), (.iadr .none 5 (.t 123) (.t 124)), .none⟩, ⟨(.some 126), (.load .true 5 (.t 125)), .none⟩, ⟨(.some 8), (.box (.c (.agg 5 [(.sc (.int .i64 0)), (.sc (.int .i64 0)), (.sc (.int .i64 0)), (.sc (.bool .false)), (.sc (.int .u32 0))]))), .none⟩, ⟨.none, (.store 5 (.t 8) (.t 126)), .none⟩]) (.seq (.ops [⟨(.some 127), (.fadr 0 0 1 (.t 8)), .none⟩, ⟨(.some 128), (.load .false 1 (.t 127)), .none⟩, ⟨(.some 129), (.fadr 1 1 1 (.t 8)), .none⟩, ⟨(.some 130), (.load .false 1 (.t 129)), .none⟩, ⟨(.some 131), (.fadr 10 84 1 (.t 5)), .none⟩, ⟨(.some 132), (.load .false 1 (.t 131)), .none⟩, ⟨(.some 133), (.len .none (.t 132)), .none⟩, ⟨(.some 134), (.call 38 [(.t 128), (.t 130), (.t 133)]), .none⟩, ⟨(.some 135), (.un .not (.t 134)), .none⟩, ⟨(.some 136), (.mv (.t 135)), .none⟩, ⟨(.some 137), (.fadr 2 2 1 (.t 8)), (.some (136, .false))⟩, ⟨(.some 138), (.load .false 1 (.t 137)), (.some (136, .false))⟩, ⟨(.some 139), (.call 37 [(.t 138)]), (.some (136, .false))⟩, ⟨(.some 140), (.un .not (.t 139)), (.some (136, .false))⟩, ⟨(.some 141), (.pick (.t 136) (.c (.sc (.bool .true))) (.t 140)), .none⟩, ⟨(.some 142), (.mv (.t 141)), .none⟩, ⟨(.some 143), (.fadr 3 3 1 (.t 8)), (.some (142, .false))⟩, ⟨(.some 144), (.load .false 1 (.t 143)), (.some (142, .false))⟩, ⟨(.some 145), (.mv (.t 144)), (.some (142, .false))⟩, ⟨(.some 146), (.mv (.t 7)), (.some (145, .true))⟩, ⟨(.some 147), (.bin .gtr (.t 146) (.c (.sc (.int .i64 0)))), (.some (145, .true))⟩, ⟨(.some 148), (.pick (.t 145) (.t 147) (.c (.sc (.bool .false)))), (.some (142, .false))⟩, ⟨(.some 149), (.pick (.t 142) (.c (.sc (.bool .true))) (.t 148)), .none⟩]) (.cond (.t 149) (.seq (.ops [⟨(.some 6), (.mv (.c (.sc (.bool .false)))), .none⟩]) .ret) .skip)))) (.ops [⟨(.some 120), (.mv (.t 7)), .none⟩, ⟨(.some 121), (.bin .add (.t 120) (.c (.sc (.int .i64 1)))), .none⟩, ⟨(.some 7), (.mv (.t 121)), .none⟩])))
def c_ref15_RightState_l2 : AC := (.seq (.seq (.ops [⟨(.some 150), (.mv (.t 10)), .none⟩, ⟨(.some 151), (.fadr 9 83 1 (.t 5)), .none⟩, ⟨(.some 152), (.load .false 1 (.t 151)), .none⟩, ⟨(.some 153), (.len .none (.t 152)), .none⟩, ⟨(.some 154), (.bin .lss (.t 150) (.t 153)), .none⟩]) (.cond (.t 154) .skip (.exit 2))) (.seq (.block 3 (.seq (.ops [⟨(.some 157), (.fadr 9 83 1 (.t 5)), .none⟩, ⟨(.some 158), (.load .false 1 (.t 157)), .none⟩, ⟨(.some 159), (.mv (.t 10)), .none⟩, ⟨(.some 160), (.iadr .none 8 (.t 158) (.t 159)), .none⟩, ⟨(.some 161), (.load .true 8 (.t 160)), .none⟩, ⟨(.some 11), (.box (.c (.agg 8 [(.sc (.bool .false)), (.sc (.int .i64 0)), (.sc (.int .i64 0)), (.sc (.int .i64 0)), (.sc (.int .u32 0)), (.sc (.int .i64 0)), (.sc (.int .i64 0)), (.sc (.int .i64 0))]))), .none⟩, ⟨.none, (.store 8 (.t 11) (.t 161)), .none⟩]) (.seq (.seq (.ops [⟨(.some 162), (.load .true 8 (.t 11)), .none⟩, ⟨(.some 163), (.fadr 10 84 1 (.t 5)), .none⟩, ⟨(.some 164), (.load .false 1 (.t 163)), .none⟩, ⟨(.some 165), (.len .none (.t 164)), .none⟩, ⟨(.some 166), (.call 39 [(.t 162), (.t 165)]), .none⟩, ⟨(.some 167), (.un .not (.t 166)), .none⟩]) (.cond (.t 167) (.seq (.ops [⟨(.some 6), (.mv (.c (.sc (.bool .false)))), .none⟩]) .ret) .skip)) (.seq (.ops [⟨(.some 168), (.fadr 0 0 1 (.t 11)), .none⟩, ⟨(.some 169), (.load .false 1 (.t 168)), .none⟩]) (.cond (.t 169) (.seq (.ops [⟨(.some 170), (.mv (.t 9)), .none⟩, ⟨(.some 171), (.bin .add (.t 170) (.c (.sc (.int .i64 1)))), .none⟩, ⟨(.some 9), (.mv (.t 171)), .none⟩]) (.seq (.ops [⟨(.some 172), (.fadr 8 82 1 (.t 5)), .none⟩, ⟨(.some 173), (.load .false 1 (.t 172)), .none⟩, ⟨(.some 174), (.len .none (.t 173)), .none⟩, ⟨(.some 175), (.bin .eql (.t 174) (.c (.sc (.int .i64 0)))), .none⟩, ⟨(.some 176), (.mv (.t 175)), .none⟩, ⟨(.some 177), (.fadr 8 82 1 (.t 5)), (.some (176, .false))⟩, ⟨(.some 178), (.load .false 1 (.t 177)), (.some (176, .false))⟩, ⟨(.some 179), (.iadr .none 5 (.t 178) (.c (.sc (.int .i64 0)))), (.some (176, .false))⟩, ⟨(.some 180), (.fadr 0 0 1 (.t 179)), (.some (176, .false))⟩, ⟨(.some 181), (.load .false 1 (.t 180)), (.some (176, .false))⟩, ⟨(.some 182), (.fadr 2 2 1 (.t 11)), (.some (176, .false))⟩, ⟨(.some 183), (.load .false 1 (.t 182)), (.some (176, .false))⟩, ⟨(.some 184), (.bin .neq (.t 181) (.t 183)), (.some (176, .false))⟩, ⟨(.some 185), (.pick (.t 176) (.c (.sc (.bool .true))) (.t 184)), .none⟩, ⟨(.some 186), (.mv (.t 185)), .none⟩, ⟨(.some 187), (.fadr 8 82 1 (.t 5)), (.some (186, .false))⟩, ⟨(.some 188), (.load .false 1 (.t 187)), (.some (186, .false))⟩, ⟨(.some 189), (.iadr .none 5 (.t 188) (.c (.sc (.int .i64 0)))), (.some (186, .false))⟩, ⟨(.some 190), (.fadr 1 1 1 (.t 189)), (.some (186, .false))⟩, ⟨(.some 191), (.load .false 1 (.t 190)), (.some (186, .false))⟩, ⟨(.some 192), (.fadr 3 3 1 (.t 11)), (.some (186, .false))⟩, ⟨(.some 193), (.load .false 1 (.t 192)), (.some (186, .false))⟩, ⟨(.some 194), (.bin .neq (.t 191) (.t 193)), (.some (186, .false))⟩, ⟨(.some 195), (.pick (.t 186) (.c (.sc (.bool .true))) (.t 194)), .none⟩]) (.cond (.t 195) (.seq (.ops [⟨(.some 6), (.mv (.c (.sc (.bool .false)))), .none⟩]) .ret) .skip))) .skip))))) (.ops [⟨(.some 155), (.mv (.t 10)), .none⟩, ⟨(.some 156), (.bin .add (.t 155) (.c (.sc (.int .i64 1)))), .none⟩, ⟨(.some 10), (.mv (.t 156)), .none⟩])))
def c_ref15_RightState_p1 : AC := (.seq (.ops [⟨(.some 196), (.fadr 8 82 1 (.t 5)), .none⟩, ⟨(.some 197), (.load .false 1 (.t 196)), .none⟩, ⟨(.some 198), (.len .none (.t 197)), .none⟩, ⟨(.some 199), (.bin .gtr (.t 198) (.c (.sc (.int .i64 0)))), .none⟩, ⟨(.some 200), (.mv (.t 199)), .none⟩, ⟨(.some 201), (.fadr 8 82 1 (.t 5)), (.some (200, .true))⟩, ⟨(.some 202), (.load .false 1 (.t 201)), (.some (200, .true))⟩, ⟨(.some 203), (.iadr .none 5 (.t 202) (.c (.sc (.int .i64 0)))), (.some (200, .true))⟩, ⟨(.some 204), (.fadr 3 3 1 (.t 203)), (.some (200, .true))⟩, ⟨(.some 205), (.load .false 1 (.t 204)), (.some (200, .true))⟩, ⟨(.some 206), (.pick (.t 200) (.t 205) (.c (.sc (.bool .false)))), .none⟩, ⟨(.some 12), (.mv (.t 206)), .none⟩]) (.seq (.seq (.ops [⟨(.some 207), (.mv (.t 9)), .none⟩, ⟨(.some 208), (.bin .gtr (.t 207) (.c (.sc (.int .i64 1)))), .none⟩, ⟨(.some 209), (.mv (.t 208)), .none⟩, ⟨(.some 210), (.mv (.t 12)), (.some (209, .false))⟩, ⟨(.some 211), (.mv (.t 9)), (.some (209, .false))⟩, ⟨(.some 212), (.bin .eql (.t 211) (.c (.sc (.int .i64 1)))), (.some (209, .false))⟩, ⟨(.some 213), (.eqs .true .bool (.t 210) (.t 212)), (.some (209, .false))⟩, ⟨(.some 214), (.pick (.t 209) (.c (.sc (.bool .true))) (.t 213)), .none⟩]) (.cond (.t 214) (.seq (.ops [⟨(.some 6), (.mv (.c (.sc (.bool .false)))), .none⟩]) .ret) .skip)) (.seq (.ops [⟨(.some 215), (.fadr 12 86 3 (.t 5)), .none⟩, ⟨(.some 216), (.load .true 3 (.t 215)), .none⟩, ⟨(.some 13), (.box (.c (.agg 3 [(.sc (.int .i64 0)), (.sc (.int .i64 0)), (.sc (.int .i64 0))]))), .none⟩, ⟨.none, (.store 3 (.t 13) (.t 216)), .none⟩]) (.seq (.ops [⟨(.some 217), (.fadr 0 0 1 (.t 13)), .none⟩, ⟨(.some 218), (.load .false 1 (.t 217)), .none⟩, ⟨(.some 219), (.bin .geq (.t 218) (.c (.sc (.int .i64 0)))), .none⟩, ⟨(.some 220), (.mv (.t 219)), .none⟩, ⟨(.some 221), (.fadr 0 0 1 (.t 13)), (.some (220, .true))⟩, ⟨(.some 222), (.load .false 1 (.t 221)), (.some (220, .true))⟩, ⟨(.some 223), (.bin .leq (.t 222) (.c (.sc (.int .i64 4)))), (.some (220, .true))⟩, ⟨(.some 224), (.pick (.t 220) (.t 223) (.c (.sc (.bool .false)))), .none⟩, ⟨(.some 225), (.mv (.t 224)), .none⟩, ⟨(.some 226), (.fadr 1 1 1 (.t 13)), (.some (225, .true))⟩, ⟨(.some 227), (.load .false 1 (.t 226)), (.some (225, .true))⟩, ⟨(.some 228), (.call 37 [(.t 227)]), (.some (225, .true))⟩, ⟨(.some 229), (.pick (.t 225) (.t 228) (.c (.sc (.bool .false)))), .none⟩, ⟨(.some 230), (.mv (.t 229)), .none⟩, ⟨(.some 231), (.fadr 2 2 1 (.t 13)), (.some (230, .true))⟩, ⟨(.some 232), (.load .false 1 (.t 231)), (.some (230, .true))⟩, ⟨(.some 233), (.call 37 [(.t 232)]), (.some (230, .true))⟩, ⟨(.some 234), (.pick (.t 230) (.t 233) (.c (.sc (.bool .false)))), .none⟩, ⟨(.some 235), (.mv (.t 234)), .none⟩, ⟨(.some 236), (.fadr 0 0 1 (.t 13)), (.some (235, .true))⟩, ⟨(.some 237), (.load .false 1 (.t 236)), (.some (235, .true))⟩, ⟨(.some 238), (.bin .gtr (.t 237) (.c (.sc (.int .i64 0)))), (.some (235, .true))⟩, ⟨(.some 239), (.mv (.t 238)), (.some (235, .true))⟩, ⟨(.some 240), (.fadr 1 1 1 (.t 13)), (.some (239, .false))⟩, ⟨(.some 241), (.load .false 1 (.t 240)), (.some (239, .false))⟩, ⟨(.some 242), (.bin .eql (.t 241) (.c (.sc (.int .i64 0)))), (.some (239, .false))⟩, ⟨(.some 243), (.mv (.t 242)), (.some (239, .false))⟩, ⟨(.some 244), (.fadr 2 2 1 (.t 13)), (.some (243, .true))⟩, ⟨(.some 245), (.load .false 1 (.t 244)), (.some (243, .true))⟩, ⟨(.some 246), (.bin .eql (.t 245) (.c (.sc (.int .i64 0)))), (.some (243, .true))⟩, ⟨(.some 247), (.pick (.t 243) (.t 246) (.c (.sc (.bool .false)))), (.some (239, .false))⟩, ⟨(.some 248), (.pick (.t 239) (.c (.sc (.bool .true))) (.t 247)), (.some (235, .true))⟩, ⟨(.some 249), (.pick (.t 235) (.t 248) (.c (.sc (.bool .false)))), .none⟩, ⟨(.some 6), (.mv (.t 249)), .none⟩]) .ret))))
def c_ref15_RightState_p2 : AC := (.seq (.ops [⟨(.some 9), (.mv (.c (.sc (.int .i64 0)))), .none⟩]) (.seq (.seq (.ops [⟨(.some 10), (.mv (.c (.sc (.int .i64 0)))), .none⟩]) (.block 2 (.loop c_ref15_RightState_l2))) c_ref15_RightState_p1))
def c_ref15_RightState : AC := (.seq (.ops [⟨(.some 3), (.box (.t 0)), .none⟩, ⟨(.some 4), (.box (.t 1)), .none⟩, ⟨(.some 5), (.box (.t 2)), .none⟩, ⟨(.some 6), (.mv (.c (.sc (.bool .false)))), .none⟩]) (.seq (.seq (.ops [⟨(.some 14), (.load .true 12 (.t 3)), .none⟩, ⟨(.some 15), (.call 12 [(.t 14)]), .none⟩, ⟨(.some 16), (.un .not (.t 15)), .none⟩, ⟨(.some 17), (.mv (.t 16)), .none⟩, ⟨(.some 18), (.load .true 17 (.t 4)), (.some (17, .false))⟩, ⟨(.some 19), (.fadr 1 1 38 (.t 5)), (.some (17, .false))⟩, ⟨(.some 20), (.load .true 38 (.t 19)), (.some (17, .false))⟩, ⟨(.some 21), (.call 36 [(.t 18), (.c (.sc (.bool .false))), (.t 20)]), (.some (17, .false))⟩, ⟨(.some 22), (.un .not (.t 21)), (.some (17, .false))⟩, ⟨(.some 23), (.pick (.t 17) (.c (.sc (.bool .true))) (.t 22)), .none⟩, ⟨(.some 24), (.mv (.t 23)), .none⟩, ⟨(.some 25), (.load .true 17 (.t 4)), (.some (24, .false))⟩, ⟨(.some 26), (.fadr 2 39 38 (.t 5)), (.some (24, .false))⟩, ⟨(.some 27), (.load .true 38 (.t 26)), (.some (24, .false))⟩, ⟨(.some 28), (.call 36 [(.t 25), (.c (.sc (.bool .true))), (.t 27)]), (.some (24, .false))⟩, ⟨(.some 29), (.un .not (.t 28)), (.some (24, .false))⟩, ⟨(.some 30), (.pick (.t 24) (.c (.sc (.bool .true))) (.t 29)), .none⟩, ⟨(.some 31), (.mv (.t 30)), .none⟩, ⟨(.some 32), (.fadr 0 0 1 (.t 5)), (.some (31, .false))⟩, ⟨(.some 33), (.load .false 1 (.t 32)), (.some (31, .false))⟩, ⟨(.some 34), (.call 37 [(.t 33)]), (.some (31, .false))⟩, ⟨(.some 35), (.un .not (.t 34)), (.some (31, .false))⟩, ⟨(.some 36), (.pick (.t 31) (.c (.sc (.bool .true))) (.t 35)), .none⟩, ⟨(.some 37), (.mv (.t 36)), .none⟩, ⟨(.some 38), (.fadr 13 89 1 (.t 5)), (.some (37, .false))⟩, ⟨(.some 39), (.load .false 1 (.t 38)), (.some (37, .false))⟩, ⟨(.some 40), (.call 37 [(.t 39)]), (.some (37, .false))⟩, ⟨(.some 41), (.un .not (.t 40)), (.some (37, .false))⟩, ⟨(.some 42), (.pick (.t 37) (.c (.sc (.bool .true))) (.t 41)), .none⟩, ⟨(.some 43), (.mv (.t 42)), .none⟩, ⟨(.some 44), (.fadr 14 90 1 (.t 5)), (.some (43, .false))⟩, ⟨(.some 45), (.load .false 1 (.t 44)), (.some (43, .false))⟩, ⟨(.some 46), (.call 37 [(.t 45)]), (.some (43, .false))⟩, ⟨(.some 47), (.un .not (.t 46)), (.some (43, .false))⟩, ⟨(.some 48), (.pick (.t 43) (.c (.sc (.bool .true))) (.t 47)), .none⟩, ⟨(.some 49), (.mv (.t 48)), .none⟩, ⟨(.some 50), (.fadr 15 91 1 (.t 5)), (.some (49, .false))⟩, ⟨(.some 51), (.load .false 1 (.t 50)), (.some (49, .false))⟩, ⟨(.some 52), (.call 37 [(.t 51)]), (.some (49, .false))⟩, ⟨(.some 53), (.un .not (.t 52)), (.some (49, .false))⟩, ⟨(.some 54), (.pick (.t 49) (.c (.sc (.bool .true))) (.t 53)), .none⟩]) (.cond (.t 54) (.seq (.ops [⟨(.some 6), (.mv (.c (.sc (.bool .false)))), .none⟩]) .ret) .skip)) (.seq (.seq (.ops [⟨(.some 55), (.fadr 3 77 1 (.t 5)), .none⟩, ⟨(.some 56), (.load .false 1 (.t 55)), .none⟩, ⟨(.some 57), (.len .none (.t 56)), .none⟩, ⟨(.some 58), (.fadr 0 0 1 (.t 3)), .none⟩, ⟨(.some 59), (.load .false 1 (.t 58)), .none⟩, ⟨(.some 60), (.bin .gtr (.t 57) (.t 59)), .none⟩, ⟨(.some 61), (.mv (.t 60)), .none⟩, ⟨(.some 62), (.fadr 4 78 1 (.t 5)), (.some (61, .false))⟩, ⟨(.some 63), (.load .false 1 (.t 62)), (.some (61, .false))⟩, ⟨(.some 64), (.len .none (.t 63)), (.some (61, .false))⟩, ⟨(.some 65), (.fadr 1 1 1 (.t 3)), (.some (61, .false))⟩, ⟨(.some 66), (.load .false 1 (.t 65)), (.some (61, .false))⟩, ⟨(.some 67), (.bin .gtr (.t 64) (.t 66)), (.some (61, .false))⟩, ⟨(.some 68), (.pick (.t 61) (.c (.sc (.bool .true))) (.t 67)), .none⟩, ⟨(.some 69), (.mv (.t 68)), .none⟩, ⟨(.some 70), (.fadr 5 79 1 (.t 5)), (.some (69, .false))⟩, ⟨(.some 71), (.load .false 1 (.t 70)), (.some (69, .false))⟩, ⟨(.some 72), (.len .none (.t 71)), (.some (69, .false))⟩, ⟨(.some 73), (.fadr 2 2 1 (.t 3)), (.some (69, .false))⟩, ⟨(.some 74), (.load .false 1 (.t 73)), (.some (69, .false))⟩, ⟨(.some 75), (.bin .gtr (.t 72) (.t 74)), (.some (69, .false))⟩, ⟨(.some 76), (.pick (.t 69) (.c (.sc (.bool .true))) (.t 75)), .none⟩, ⟨(.some 77), (.mv (.t 76)), .none⟩, ⟨(.some 78), (.fadr 6 80 1 (.t 5)), (.some (77, .false))⟩, ⟨(.some 79), (.load .false 1 (.t 78)), (.some (77, .false))⟩, ⟨(.some 80), (.len .none (.t 79)), (.some (77, .false))⟩, ⟨(.some 81), (.fadr 3 3 1 (.t 3)), (.some (77, .false))⟩, ⟨(.some 82), (.load .false 1 (.t 81)), (.some (77, .false))⟩, ⟨(.some 83), (.bin .gtr (.t 80) (.t 82)), (.some (77, .false))⟩, ⟨(.some 84), (.pick (.t 77) (.c (.sc (.bool .true))) (.t 83)), .none⟩, ⟨(.some 85), (.mv (.t 84)), .none⟩, ⟨(.some 86), (.fadr 7 81 1 (.t 5)), (.some (85, .false))⟩, ⟨(.some 87), (.load .false 1 (.t 86)), (.some (85, .false))⟩, ⟨(.some 88), (.len .none (.t 87)), (.some (85, .false))⟩, ⟨(.some 89), (.fadr 4 4 1 (.t 3)), (.some (85, .false))⟩, ⟨(.some 90), (.load .false 1 (.t 89)), (.some (85, .false))⟩, ⟨(.some 91), (.bin .gtr (.t 88) (.t 90)), (.some (85, .false))⟩, ⟨(.some 92), (.pick (.t 85) (.c (.sc (.bool .true))) (.t 91)), .none⟩, ⟨(.some 93), (.mv (.t 92)), .none⟩, ⟨(.some 94), (.fadr 8 82 1 (.t 5)), (.some (93, .false))⟩, ⟨(.some 95), (.load .false 1 (.t 94)), (.some (93, .false))⟩, ⟨(.some 96), (.len .none (.t 95)), (.some (93, .false))⟩, ⟨(.some 97), (.fadr 5 5 1 (.t 3)), (.some (93, .false))⟩, ⟨(.some 98), (.load .false 1 (.t 97)), (.some (93, .false))⟩, ⟨(.some 99), (.bin .gtr (.t 96) (.t 98)), (.some (93, .false))⟩, ⟨(.some 100), (.pick (.t 93) (.c (.sc (.bool .true))) (.t 99)), .none⟩, ⟨(.some 101), (.mv (.t 100)), .none⟩, ⟨(.some 102), (.fadr 9 83 1 (.t 5)), (.some (101, .false))⟩, ⟨(.some 103), (.load .false 1 (.t 102)), (.some (101, .false))⟩, ⟨(.some 104), (.len .none (.t 103)), (.some (101, .false))⟩, ⟨(.some 105), (.fadr 7 7 1 (.t 3)), (.some (101, .false))⟩, ⟨(.some 106), (.load .false 1 (.t 105)), (.some (101, .false))⟩, ⟨(.some 107), (.bin .gtr (.t 104) (.t 106)), (.some (101, .false))⟩, ⟨(.some 108), (.pick (.t 101) (.c (.sc (.bool .true))) (.t 107)), .none⟩, ⟨(.some 109), (.mv (.t 108)), .none⟩, ⟨(.some 110), (.fadr 10 84 1 (.t 5)), (.some (109, .false))⟩, ⟨(.some 111), (.load .false 1 (.t 110)), (.some (109, .false))⟩, ⟨(.some 112), (.len .none (.t 111)), (.some (109, .false))⟩, ⟨(.some 113), (.bin .gtr (.t 112) (.c (.sc (.int .i64 65536)))), (.some (109, .false))⟩, ⟨(.some 114), (.pick (.t 109) (.c (.sc (.bool .true))) (.t 113)), .none⟩]) (.cond (.t 114) (.seq (.ops [⟨(.some 6), (.mv (.c (.sc (.bool .false)))), .none⟩]) .ret) .skip)) (.seq (.seq (.ops [⟨(.some 7), (.mv (.c (.sc (.int .i64 0)))), .none⟩]) (.block 0 (.loop c_ref15_RightState_l1))) c_ref15_RightState_p2))))
theorem t_ref15_RightState : trF Try.prog qq 17 = some (250, [(.tmp 6)], c_ref15_RightState) := by kernel_rfl
def c_ref15_Copy : AC := (.seq (.ops [⟨(.some 1), (.box (.t 0)), .none⟩, ⟨(.some 2), (.box (.c (.agg 92 [(.sc (.int .i64 0)), (.agg 38 [(.arr 16 1 [(.sc (.int .u32 0)), (.sc (.int .u32 0)), (.sc (.int .u32 0)), (.sc (.int .u32 0)), (.sc (.int .u32 0)), (.sc (.int .u32 0)), (.sc (.int .u32 0)), (.sc (.int .u32 0)), (.sc (.int .u32 0)), (.sc (.int .u32 0)), (.sc (.int .u32 0)), (.sc (.int .u32 0)), (.sc (.int .u32 0)), (.sc (.int .u32 0)), (.sc (.int .u32 0)), (.sc (.int .u32 0))]), (.arr 16 1 [(.sc (.int .i64 0)), (.sc (.int .i64 0)), (.sc (.int .i64 0)), (.sc (.int .i64 0)), (.sc (.int .i64 0)), (.sc (.int .i64 0)), (.sc (.int .i64 0)), (.sc (.int .i64 0)), (.sc (.int .i64 0)), (.sc (.int .i64 0)), (.sc (.int .i64 0)), (.sc (.int .i64 0)), (.sc (.int .i64 0)), (.sc (.int .i64 0)), (.sc (.int .i64 0)), (.sc (.int .i64 0))]), (.agg 3 [(.sc (.int .i64 0)), (.sc (.int .i64 0)), (.sc (.int .i64 0))]), (.sc (.int .i64 0)), (.sc (.bool .false)), (.sc (.int .i64 0))]), (.agg 38 [(.arr 16 1 [(.sc (.int .u32 0)), (.sc (.int .u32 0)), (.sc (.int .u32 0)), (.sc (.int .u32 0)), (.sc (.int .u32 0)), (.sc (.int .u32 0)), (.sc (.int .u32 0)), (.sc (.int .u32 0)), (.sc (.int .u32 0)), (.sc (.int .u32 0)), (.sc (.int .u32 0)), (.sc (.int .u32 0)), (.sc (.int .u32 0)), (.sc (.int .u32 0)), (.sc (.int .u32 0)), (.sc (.int .u32 0))]), (.arr 16 1 [(.sc (.int .i64 0)), (.sc (.int .i64 0)), (.sc (.int .i64 0)), (.sc (.int .i64 0)), (.sc (.int .i64 0)), (.sc (.int .i64 0)), (.sc (.int .i64 0)), (.sc (.int .i64 0)), (.sc (.int .i64 0)), (.sc (.int .i64 0)), (.sc (.int .i64 0)), (.sc (.int .i64 0)), (.sc (.int .i64 0)), (.sc (.int .i64 0)), (.sc (.int .i64 0)), (.sc (.int .i64 0))]), (.agg 3 [(.sc (.int .i64 0)), (.sc (.int .i64 0)), (.sc (.int .i64 0))]), (.sc (.int .i64 0)), (.sc (.bool .false)), (.sc (.int .i64 0))]), (.fro .true 0 []), (.fro .true 0 []), (.fro .true 0 []), (.fro .true 0 []), (.fro .true 0 []), (.fro .true 0 []), (.fro .true 0 []), (.fro .true 0 []), (.fro .true 0 []), (.agg 3 [(.sc (.int .i64 0)), (.sc (.int .i64 0)), (.sc (.int .i64 0))]), (.sc (.int .i64 0)), (.sc (.int .i64 0)), (.sc (.int .i64 0))]))), .none⟩]) (.seq (.ops [⟨(.some 3), (.fadr 3 77 1 (.t 1)), .none⟩, ⟨(.some 4), (.load .false 1 (.t 3)), .none⟩, ⟨(.some 5), (.call 49 [(.t 4)]), .none⟩, ⟨(.some 6), (.fadr 3 77 1 (.t 1)), .none⟩, ⟨.none, (.store 1 (.t 6) (.t 5)), .none⟩]) (.seq (.ops [⟨(.some 7), (.fadr 4 78 1 (.t 1)), .none⟩, ⟨(.some 8), (.load .false 1 (.t 7)), .none⟩, ⟨(.some 9), (.app 1 4 (.c (.fro .true 0 [])) (.t 8)), .none⟩, ⟨(.some 10), (.fadr 4 78 1 (.t 1)), .none⟩, ⟨.none, (.store 1 (.t 10) (.t 9)), .none⟩]) (.seq (.ops [⟨(.some 11), (.fadr 5 79 1 (.t 1)), .none⟩, ⟨(.some 12), (.load .false 1 (.t 11)), .none⟩, ⟨(.some 13), (.app 1 4 (.c (.fro .true 0 [])) (.t 12)), .none⟩, ⟨(.some 14), (.fadr 5 79 1 (.t 1)), .none⟩, ⟨.none, (.store 1 (.t 14) (.t 13)), .none⟩]) (.seq (.ops [⟨(.some 15), (.fadr 6 80 1 (.t 1)), .none⟩, ⟨(.some 16), (.load .false 1 (.t 15)), .none⟩, ⟨(.some 17), (.app 1 1 (.c (.fro .true 0 [])) (.t 16)), .none⟩, ⟨(.some 18), (.fadr 6 80 1 (.t 1)), .none⟩, ⟨.none, (.store 1 (.t 18) (.t 17)), .none⟩]) (.seq (.ops [⟨(.some 19), (.fadr 7 81 1 (.t 1)), .none⟩, ⟨(.some 20), (.load .false 1 (.t 19)), .none⟩, ⟨(.some 21), (.app 1 1 (.c (.fro .true 0 [])) (.t 20)), .none⟩, ⟨(.some 22), (.fadr 7 81 1 (.t 1)), .none⟩, ⟨.none, (.store 1 (.t 22) (.t 21)), .none⟩]) (.seq (.ops [⟨(.some 23), (.fadr 8 82 1 (.t 1)), .none⟩, ⟨(.some 24), (.load .false 1 (.t 23)), .none⟩, ⟨(.some 25), (.app 5 32 (.c (.fro .true 0 [])) (.t 24)), .none⟩, ⟨(.some 26), (.fadr 8 82 1 (.t 1)), .none⟩, ⟨.none, (.store 1 (.t 26) (.t 25)), .none⟩]) (.seq (.ops [⟨(.some 27), (.fadr 9 83 1 (.t 1)), .none⟩, ⟨(.some 28), (.load .false 1 (.t 27)), .none⟩, ⟨(.some 29), (.app 8 64 (.c (.fro .true 0 [])) (.t 28)), .none⟩, ⟨(.some 30), (.fadr 9 83 1 (.t 1)), .none⟩, ⟨.none, (.store 1 (.t 30) (.t 29)), .none⟩]) (.seq (.ops [⟨(.some 31), (.fadr 10 84 1 (.t 1)), .none⟩, ⟨(.some 32), (.load .false 1 (.t 31)), .none⟩, ⟨(.some 33), (.app 1 1 (.c (.fro .true 0 [])) (.t 32)), .none⟩, ⟨(.some 34), (.fadr 10 84 1 (.t 1)), .none⟩, ⟨.none, (.store 1 (.t 34) (.t 33)), .none⟩]) (.seq (.ops [⟨(.some 35), (.fadr 11 85 1 (.t 1)), .none⟩, ⟨(.some 36), (.load .false 1 (.t 35)), .none⟩, ⟨(.some 37), (.app 3 24 (.c (.fro .true 0 [])) (.t 36)), .none⟩, ⟨(.some 38), (.fadr 11 85 1 (.t 1)), .none⟩, ⟨.none, (.store 1 (.t 38) (.t 37)), .none⟩]) (.seq (.ops [⟨(.some 39), (.load .true 92 (.t 1)), .none⟩, ⟨.none, (.store 92 (.t 2) (.t 39)), .none⟩]) .ret)))))))))))
theorem t_ref15_Copy : trF Try.prog qq 22 = some (40, [(.cell 2 .true 92)], c_ref15_Copy) := by kernel_rfl
def c_ref15_within : AC := (.seq (.ops [⟨(.some 4), (.mv (.c (.sc (.bool .false)))), .none⟩]) (.seq (.ops [⟨(.some 5), (.mv (.t 0)), .none⟩, ⟨(.some 6), (.bin .geq (.t 5) (.c (.sc (.int .i64 1)))), .none⟩, ⟨(.some 7), (.mv (.t 6)), .none⟩, ⟨(.some 8), (.mv (.t 0)), (.some (7, .true))⟩, ⟨(.some 9), (.mv (.t 1)), (.some (7, .true))⟩, ⟨(.some 10), (.bin .leq (.t 8) (.t 9)), (.some (7, .true))⟩, ⟨(.some 11), (.pick (.t 7) (.t 10) (.c (.sc (.bool .false)))), .none⟩, ⟨(.some 4), (.mv (.t 11)), .none⟩]) .ret))
theorem t_ref15_within : trF Try.prog qq 24 = some (12, [(.tmp 4)], c_ref15_within) := by kernel_rfl
def c_ref15_SameWords_l1 : AC := (.seq (.seq (.ops [⟨(.some 11), (.mv (.t 5)), .none⟩, ⟨(.some 12), (.mv (.t 0)), .none⟩, ⟨(.some 13), (.len .none (.t 12)), .none⟩, ⟨(.some 14), (.bin .lss (.t 11) (.t 13)), .none⟩]) (.cond (.t 14) .skip (.exit 0))) (.seq (.block 1 (.seq (.ops [⟨(.some 17), (.mv (.t 0)), .none⟩, ⟨(.some 18), (.mv (.t 5)), .none⟩, ⟨(.some 19), (.iadr .none 1 (.t 17) (.t 18)), .none⟩, ⟨(.some 20), (.load .false 1 (.t 19)), .none⟩, ⟨(.some 21), (.mv (.t 1)), .none⟩, ⟨(.some 22), (.mv (.t 5)), .none⟩, ⟨(.some 23), (.iadr .none 1 (.t 21) (.t 22)), .none⟩, ⟨(.some 24), (.load .false 1 (.t 23)), .none⟩, ⟨(.some 25), (.bin .neq (.t 20) (.t 24)), .none⟩]) (.cond (.t 25) (.seq (.ops [⟨(.some 4), (.mv (.c (.sc (.bool .false)))), .none⟩]) .ret) .skip))) (.ops [⟨(.some 15), (.mv (.t 5)), .none⟩, ⟨(.some 16), (.bin .add (.t 15) (.c (.sc (.int .i64 1)))), .none⟩, ⟨(.some 5), (.mv (.t 16)), .none⟩])))
def c_ref15_SameWords_p1 : AC := (.seq (.ops [⟨(.some 4), (.mv (.c (.sc (.bool .true)))), .none⟩]) .ret)
def c_ref15_SameWords : AC := (.seq (.ops [⟨(.some 4), (.mv (.c (.sc (.bool .false)))), .none⟩]) (.seq (.seq (.ops [⟨(.some 6), (.mv (.t 0)), .none⟩, ⟨(.some 7), (.len .none (.t 6)), .none⟩, ⟨(.some 8), (.mv (.t 1)), .none⟩, ⟨(.some 9), (.len .none (.t 8)), .none⟩, ⟨(.some 10), (.bin .neq (.t 7) (.t 9)), .none⟩]) (.cond (.t 10) (.seq (.ops [⟨(.some 4), (.mv (.c (.sc (.bool .false)))), .none⟩]) .ret) .skip)) (.seq (.seq (.ops [⟨(.some 5), (.mv (.c (.sc (.int .i64 0)))), .none⟩]) (.block 0 (.loop c_ref15_SameWords_l1))) c_ref15_SameWords_p1)))
theorem t_ref15_SameWords : trF Try.prog qq 25 = some (26, [(.tmp 4)], c_ref15_SameWords) := by kernel_rfl
def c_ref15_SameBools_l1 : AC := (.seq (.seq (.ops [⟨(.some 11), (.mv (.t 5)), .none⟩, ⟨(.some 12), (.mv (.t 0)), .none⟩, ⟨(.some 13), (.len .none (.t 12)), .none⟩, ⟨(.some 14), (.bin .lss (.t 11) (.t 13)), .none⟩]) (.cond (.t 14) .skip (.exit 0))) (.seq (.block 1 (.seq (.ops [⟨(.some 17), (.mv (.t 0)), .none⟩, ⟨(.some 18), (.mv (.t 5)), .none⟩, ⟨(.some 19), (.iadr .none 1 (.t 17) (.t 18)), .none⟩, ⟨(.some 20), (.load .false 1 (.t 19)), .none⟩, ⟨(.some 21), (.mv (.t 1)), .none⟩, ⟨(.some 22), (.mv (.t 5)), .none⟩, ⟨(.some 23), (.iadr .none 1 (.t 21) (.t 22)), .none⟩, ⟨(.some 24), (.load .false 1 (.t 23)), .none⟩, ⟨(.some 25), (.eqs .true .bool (.t 20) (.t 24)), .none⟩]) (.cond (.t 25) (.seq (.ops [⟨(.some 4), (.mv (.c (.sc (.bool .false)))), .none⟩]) .ret) .skip))) (.ops [⟨(.some 15), (.mv (.t 5)), .none⟩, ⟨(.some 16), (.bin .add (.t 15) (.c (.sc (.int .i64 1)))), .none⟩, ⟨(.some 5), (.mv (.t 16)), .none⟩])))
def c_ref15_SameBools_p1 : AC := (.seq (.ops [⟨(.some 4), (.mv (.c (.sc (.bool .true)))), .none⟩]) .ret)
def c_ref15_SameBools : AC := (.seq (.ops [⟨(.some 4), (.mv (.c (.sc (.bool .false)))), .none⟩]) (.seq (.seq (.ops [⟨(.some 6), (.mv (.t 0)), .none⟩, ⟨(.some 7), (.len .none (.t 6)), .none⟩, ⟨(.some 8), (.mv (.t 1)), .none⟩, ⟨(.some 9), (.len .none (.t 8)), .none⟩, ⟨(.some 10), (.bin .neq (.t 7) (.t 9)), .none⟩]) (.cond (.t 10) (.seq (.ops [⟨(.some 4), (.mv (.c (.sc (.bool .false)))), .none⟩]) .ret) .skip)) (.seq (.seq (.ops [⟨(.some 5), (.mv (.c (.sc (.int .i64 0)))), .none⟩]) (.block 0 (.loop c_ref15_SameBools_l1))) c_ref15_SameBools_p1)))
theorem t_ref15_SameBools : trF Try.prog qq 26 = some (26, [(.tmp 4)], c_ref15_SameBools) := by kernel_rfl
def c_ref15_rightSide_l1 : AC := (.seq (.seq (.ops [⟨(.some 59), (.mv (.t 7)), .none⟩, ⟨(.some 60), (.bin .lss (.t 59) (.c (.sc (.int .i64 16)))), .none⟩]) (.cond (.t 60) .skip (.exit 0))) (.seq (.block 1 (.seq (.ops [⟨(.some 63), (.mv (.t 7)), .none⟩, ⟨(.some 64), (.fadr 1 16 16 (.t 5)), .none⟩, ⟨(.some 65), (.iadr (.some 16) 1 (.t 64) (.t 63)), .none⟩, ⟨(.some 66), (.load .false 1 (.t 65)), .none⟩, ⟨(.some 67), (.bin .neq (.t 66) (.c (.sc (.int .i64 (-1))))), .none⟩, ⟨(.some 68), (.mv (.t 67)), .none⟩, ⟨(.some 69), (.mv (.t 7)), (.some (68, .true))⟩, ⟨(.some 70), (.fadr 1 16 16 (.t 5)), (.some (68, .true))⟩, ⟨(.some 71), (.iadr (.some 16) 1 (.t 70) (.t 69)), (.some (68, .true))⟩, ⟨(.some 72), (.load .false 1 (.t 71)), (.some (68, .true))⟩, ⟨(.some 73), (.call 37 [(.t 72)]), (.some (68, .true))⟩, ⟨(.some 74), (.un .not (.t 73)), (.some (68, .true))⟩, ⟨(.some 75), (.pick (.t 68) (.t 74) (.c (.sc (.bool .false)))), .none⟩]) (.cond (.t 75) (.seq (.ops [⟨(.some 6), (.mv (.c (.sc (.bool .false)))), .none⟩]) .ret) .skip))) (.ops [⟨(.some 61), (.mv (.t 7)), .none⟩, ⟨(.some 62), (.bin .add (.t 61) (.c (.sc (.int .i64 1)))), .none⟩, ⟨(.some 7), (.mv (.t 62)), .none⟩])))
def c_ref15_rightSide_p1 : AC := (.seq (.ops [⟨(.some 6), (.mv (.c (.sc (.bool .true)))), .none⟩]) .ret)
def c_ref15_rightSide : AC := (.seq (.ops [⟨(.some 3), (.box (.t 0)), .none⟩, ⟨(.some 5), (.box (.t 2)), .none⟩, ⟨(.some 6), (.mv (.c (.sc (.bool .false)))), .none⟩]) (.seq (.seq (.ops [⟨(.some 8), (.fadr 3 35 1 (.t 5)), .none⟩, ⟨(.some 9), (.load .false 1 (.t 8)), .none⟩, ⟨(.some 10), (.call 37 [(.t 9)]), .none⟩, ⟨(.some 11), (.un .not (.t 10)), .none⟩, ⟨(.some 12), (.mv (.t 11)), .none⟩, ⟨(.some 13), (.fadr 5 37 1 (.t 5)), (.some (12, .false))⟩, ⟨(.some 14), (.load .false 1 (.t 13)), (.some (12, .false))⟩, ⟨(.some 15), (.call 37 [(.t 14)]), (.some (12, .false))⟩, ⟨(.some 16), (.un .not (.t 15)), (.some (12, .false))⟩, ⟨(.some 17), (.pick (.t 12) (.c (.sc (.bool .true))) (.t 16)), .none⟩, ⟨(.some 18), (.mv (.t 17)), .none⟩, ⟨(.some 19), (.fadr 2 32 3 (.t 5)), (.some (18, .false))⟩, ⟨(.some 20), (.fadr 2 2 1 (.t 19)), (.some (18, .false))⟩, ⟨(.some 21), (.load .false 1 (.t 20)), (.some (18, .false))⟩, ⟨(.some 22), (.call 37 [(.t 21)]), (.some (18, .false))⟩, ⟨(.some 23), (.un .not (.t 22)), (.some (18, .false))⟩, ⟨(.some 24), (.pick (.t 18) (.c (.sc (.bool .true))) (.t 23)), .none⟩, ⟨(.some 25), (.mv (.t 24)), .none⟩, ⟨(.some 26), (.fadr 2 32 3 (.t 5)), (.some (25, .false))⟩, ⟨(.some 27), (.fadr 0 0 1 (.t 26)), (.some (25, .false))⟩, ⟨(.some 28), (.load .false 1 (.t 27)), (.some (25, .false))⟩, ⟨(.some 29), (.bin .lss (.t 28) (.c (.sc (.int .i64 0)))), (.some (25, .false))⟩, ⟨(.some 30), (.pick (.t 25) (.c (.sc (.bool .true))) (.t 29)), .none⟩, ⟨(.some 31), (.mv (.t 30)), .none⟩, ⟨(.some 32), (.fadr 2 32 3 (.t 5)), (.some (31, .false))⟩, ⟨(.some 33), (.fadr 0 0 1 (.t 32)), (.some (31, .false))⟩, ⟨(.some 34), (.load .false 1 (.t 33)), (.some (31, .false))⟩, ⟨(.some 35), (.fadr 0 0 1 (.t 3)), (.some (31, .false))⟩, ⟨(.some 36), (.load .false 1 (.t 35)), (.some (31, .false))⟩, ⟨(.some 37), (.len .none (.t 36)), (.some (31, .false))⟩, ⟨(.some 38), (.bin .geq (.t 34) (.t 37)), (.some (31, .false))⟩, ⟨(.some 39), (.pick (.t 31) (.c (.sc (.bool .true))) (.t 38)), .none⟩, ⟨(.some 40), (.mv (.t 39)), .none⟩, ⟨(.some 41), (.fadr 2 32 3 (.t 5)), (.some (40, .false))⟩, ⟨(.some 42), (.fadr 1 1 1 (.t 41)), (.some (40, .false))⟩, ⟨(.some 43), (.load .false 1 (.t 42)), (.some (40, .false))⟩, ⟨(.some 44), (.bin .lss (.t 43) (.c (.sc (.int .i64 0)))), (.some (40, .false))⟩, ⟨(.some 45), (.pick (.t 40) (.c (.sc (.bool .true))) (.t 44)), .none⟩, ⟨(.some 46), (.mv (.t 45)), .none⟩, ⟨(.some 47), (.fadr 2 32 3 (.t 5)), (.some (46, .false))⟩, ⟨(.some 48), (.fadr 1 1 1 (.t 47)), (.some (46, .false))⟩, ⟨(.some 49), (.load .false 1 (.t 48)), (.some (46, .false))⟩, ⟨(.some 50), (.load .true 17 (.t 3)), (.some (46, .false))⟩, ⟨(.some 51), (.mv (.t 1)), (.some (46, .false))⟩, ⟨(.some 52), (.fadr 2 32 3 (.t 5)), (.some (46, .false))⟩, ⟨(.some 53), (.fadr 0 0 1 (.t 52)), (.some (46, .false))⟩, ⟨(.some 54), (.load .false 1 (.t 53)), (.some (46, .false))⟩, ⟨(.some 55), (.call 64 [(.t 50), (.t 51), (.t 54)]), (.some (46, .false))⟩, ⟨(.some 56), (.len .none (.t 55)), (.some (46, .false))⟩, ⟨(.some 57), (.bin .gtr (.t 49) (.t 56)), (.some (46, .false))⟩, ⟨(.some 58), (.pick (.t 46) (.c (.sc (.bool .true))) (.t 57)), .none⟩]) (.cond (.t 58) (.seq (.ops [⟨(.some 6), (.mv (.c (.sc (.bool .false)))), .none⟩]) .ret) .skip)) (.seq (.seq (.ops [⟨(.some 7), (.mv (.c (.sc (.int .i64 0)))), .none⟩]) (.block 0 (.loop c_ref15_rightSide_l1))) c_ref15_rightSide_p1)))
theorem t_ref15_rightSide : trF Try.prog qq 36 = some (76, [(.tmp 6)], c_ref15_rightSide) := by kernel_rfl
def c_ref15_big : AC := (.seq (.ops [⟨(.some 2), (.mv (.c (.sc (.bool .false)))), .none⟩]) (.seq (.ops [⟨(.some 3), (.mv (.t 0)), .none⟩, ⟨(.some 4), (.bin .geq (.t 3) (.c (.sc (.int .i64 0)))), .none⟩, ⟨(.some 5), (.mv (.t 4)), .none⟩, ⟨(.some 6), (.mv (.t 0)), (.some (5, .true))⟩, ⟨(.some 7), (.bin .leq (.t 6) (.c (.sc (.int .i64 1099511627776)))), (.some (5, .true))⟩, ⟨(.some 8), (.pick (.t 5) (.t 7) (.c (.sc (.bool .false)))), .none⟩, ⟨(.some 2), (.mv (.t 8)), .none⟩]) .ret))
theorem t_ref15_big : trF Try.prog qq 37 = some (9, [(.tmp 2)], c_ref15_big) := by kernel_rfl
def c_ref15_lies : AC := (.seq (.ops [⟨(.some 6), (.mv (.c (.sc (.bool .false)))), .none⟩]) (.seq (.ops [⟨(.some 7), (.mv (.t 1)), .none⟩, ⟨(.some 8), (.bin .eql (.t 7) (.c (.sc (.int .i64 1)))), .none⟩, ⟨(.some 9), (.mv (.t 8)), .none⟩, ⟨(.some 10), (.mv (.t 1)), (.some (9, .false))⟩, ⟨(.some 11), (.bin .eql (.t 10) (.c (.sc (.int .i64 2)))), (.some (9, .false))⟩, ⟨(.some 12), (.pick (.t 9) (.c (.sc (.bool .true))) (.t 11)), .none⟩, ⟨(.some 13), (.mv (.t 12)), .none⟩, ⟨(.some 14), (.mv (.t 1)), (.some (13, .false))⟩, ⟨(.some 15), (.bin .eql (.t 14) (.c (.sc (.int .i64 4)))), (.some (13, .false))⟩, ⟨(.some 16), (.pick (.t 13) (.c (.sc (.bool .true))) (.t 15)), .none⟩, ⟨(.some 17), (.mv (.t 16)), .none⟩, ⟨(.some 18), (.mv (.t 0)), (.some (17, .true))⟩, ⟨(.some 19), (.bin .geq (.t 18) (.c (.sc (.int .i64 0)))), (.some (17, .true))⟩, ⟨(.some 20), (.pick (.t 17) (.t 19) (.c (.sc (.bool .false)))), .none⟩, ⟨(.some 21), (.mv (.t 20)), .none⟩, ⟨(.some 22), (.mv (.t 0)), (.some (21, .true))⟩, ⟨(.some 23), (.mv (.t 2)), (.some (21, .true))⟩, ⟨(.some 24), (.bin .leq (.t 22) (.t 23)), (.some (21, .true))⟩, ⟨(.some 25), (.pick (.t 21) (.t 24) (.c (.sc (.bool .false)))), .none⟩, ⟨(.some 26), (.mv (.t 25)), .none⟩, ⟨(.some 27), (.mv (.t 2)), (.some (26, .true))⟩, ⟨(.some 28), (.mv (.t 0)), (.some (26, .true))⟩, ⟨(.some 29), (.bin .sub (.t 27) (.t 28)), (.some (26, .true))⟩, ⟨(.some 30), (.mv (.t 1)), (.some (26, .true))⟩, ⟨(.some 31), (.bin .geq (.t 29) (.t 30)), (.some (26, .true))⟩, ⟨(.some 32), (.pick (.t 26) (.t 31) (.c (.sc (.bool .false)))), .none⟩, ⟨(.some 33), (.mv (.t 32)), .none⟩, ⟨(.some 34), (.mv (.t 0)), (.some (33, .true))⟩, ⟨(.some 35), (.mv (.t 1)), (.some (33, .true))⟩, ⟨(.some 36), (.bin .rem (.t 34) (.t 35)), (.some (33, .true))⟩, ⟨(.some 37), (.bin .eql (.t 36) (.c (.sc (.int .i64 0)))), (.some (33, .true))⟩, ⟨(.some 38), (.pick (.t 33) (.t 37) (.c (.sc (.bool .false)))), .none⟩, ⟨(.some 6), (.mv (.t 38)), .none⟩]) .ret))
theorem t_ref15_lies : trF Try.prog qq 38 = some (39, [(.tmp 6)], c_ref15_lies) := by kernel_rfl
def c_ref15_rightRequest : AC := (.seq (.ops [⟨(.some 2), (.box (.t 0)), .none⟩, ⟨(.some 4), (.mv (.c (.sc (.bool .false)))), .none⟩]) (.seq (.ops [⟨(.some 6), (.fadr 1 1 1 (.t 2)), .none⟩, ⟨(.some 7), (.load .false 1 (.t 6)), .none⟩, ⟨(.some 8), (.call 65 [(.t 7)]), .none⟩, ⟨(.some 5), (.mv (.t 8)), .none⟩]) (.seq (.ops [⟨(.some 9), (.fadr 3 3 1 (.t 2)), .none⟩, ⟨(.some 10), (.load .false 1 (.t 9)), .none⟩, ⟨(.some 11), (.fadr 1 1 1 (.t 2)), .none⟩, ⟨(.some 12), (.load .false 1 (.t 11)), .none⟩, ⟨(.some 13), (.call 66 [(.t 12)]), .none⟩, ⟨(.some 14), (.bin .eql (.t 10) (.t 13)), .none⟩, ⟨(.some 15), (.mv (.t 14)), .none⟩, ⟨(.some 16), (.fadr 2 2 1 (.t 2)), (.some (15, .true))⟩, ⟨(.some 17), (.load .false 1 (.t 16)), (.some (15, .true))⟩, ⟨(.some 18), (.fadr 3 3 1 (.t 2)), (.some (15, .true))⟩, ⟨(.some 19), (.load .false 1 (.t 18)), (.some (15, .true))⟩, ⟨(.some 20), (.mv (.t 1)), (.some (15, .true))⟩, ⟨(.some 21), (.call 38 [(.t 17), (.t 19), (.t 20)]), (.some (15, .true))⟩, ⟨(.some 22), (.pick (.t 15) (.t 21) (.c (.sc (.bool .false)))), .none⟩, ⟨(.some 23), (.mv (.t 22)), .none⟩, ⟨(.some 24), (.fadr 0 0 1 (.t 2)), (.some (23, .true))⟩, ⟨(.some 25), (.load .false 1 (.t 24)), (.some (23, .true))⟩, ⟨(.some 26), (.mv (.t 25)), (.some (23, .true))⟩, ⟨(.some 27), (.mv (.t 5)), (.some (26, .true))⟩, ⟨(.some 28), (.bin .eql (.t 27) (.c (.sc (.int .i64 5)))), (.some (26, .true))⟩, ⟨(.some 29), (.pick (.t 26) (.t 28) (.c (.sc (.bool .false)))), (.some (23, .true))⟩, ⟨(.some 30), (.mv (.t 29)), (.some (23, .true))⟩, ⟨(.some 31), (.fadr 0 0 1 (.t 2)), (.some (30, .false))⟩, ⟨(.some 32), (.load .false 1 (.t 31)), (.some (30, .false))⟩, ⟨(.some 33), (.un .not (.t 32)), (.some (30, .false))⟩, ⟨(.some 34), (.mv (.t 33)), (.some (30, .false))⟩, ⟨(.some 35), (.mv (.t 5)), (.some (34, .true))⟩, ⟨(.some 36), (.bin .eql (.t 35) (.c (.sc (.int .i64 4)))), (.some (34, .true))⟩, ⟨(.some 37), (.pick (.t 34) (.t 36) (.c (.sc (.bool .false)))), (.some (30, .false))⟩, ⟨(.some 38), (.pick (.t 30) (.c (.sc (.bool .true))) (.t 37)), (.some (23, .true))⟩, ⟨(.some 39), (.pick (.t 23) (.t 38) (.c (.sc (.bool .false)))), .none⟩, ⟨(.some 40), (.mv (.t 39)), .none⟩, ⟨(.some 41), (.fadr 5 5 1 (.t 2)), (.some (40, .true))⟩, ⟨(.some 42), (.load .false 1 (.t 41)), (.some (40, .true))⟩, ⟨(.some 43), (.bin .geq (.t 42) (.c (.sc (.int .i64 0)))), (.some (40, .true))⟩, ⟨(.some 44), (.pick (.t 40) (.t 43) (.c (.sc (.bool .false)))), .none⟩, ⟨(.some 45), (.mv (.t 44)), .none⟩, ⟨(.some 46), (.fadr 5 5 1 (.t 2)), (.some (45, .true))⟩, ⟨(.some 47), (.load .false 1 (.t 46)), (.some (45, .true))⟩, ⟨(.some 48), (.bin .leq (.t 47) (.c (.sc (.int .i64 1000)))), (.some (45, .true))⟩, ⟨(.some 49), (.pick (.t 45) (.t 48) (.c (.sc (.bool .false)))), .none⟩, ⟨(.some 50), (.mv (.t 49)), .none⟩, ⟨(.some 51), (.fadr 6 6 1 (.t 2)), (.some (50, .true))⟩, ⟨(.some 52), (.load .false 1 (.t 51)), (.some (50, .true))⟩, ⟨(.some 53), (.bin .geq (.t 52) (.c (.sc (.int .i64 (-1))))), (.some (50, .true))⟩, ⟨(.some 54), (.pick (.t 50) (.t 53) (.c (.sc (.bool .false)))), .none⟩, ⟨(.some 55), (.mv (.t 54)), .none⟩, ⟨(.some 56), (.fadr 6 6 1 (.t 2)), (.some (55, .true))⟩, ⟨(.some 57), (.load .false 1 (.t 56)), (.some (55, .true))⟩, ⟨(.some 58), (.bin .leq (.t 57) (.c (.sc (.int .i64 15)))), (.some (55, .true))⟩, ⟨(.some 59), (.pick (.t 55) (.t 58) (.c (.sc (.bool .false)))), .none⟩, ⟨(.some 4), (.mv (.t 59)), .none⟩]) .ret)))
theorem t_ref15_rightRequest : trF Try.prog qq 39 = some (60, [(.tmp 4)], c_ref15_rightRequest) := by kernel_rfl
def c_ref15_slots : AC := copyC 3 16
theorem t_ref15_slots : trF Try.prog qq 49 = some (5, [(.tmp 2)], c_ref15_slots) := by kernel_rfl
def c_ref15_Cells : AC := (.seq (.ops [⟨(.some 3), (.box (.t 0)), .none⟩, ⟨(.some 6), (.mv (.c (.fro .true 0 []))), .none⟩]) (.seq (.seq (.ops [⟨(.some 7), (.mv (.t 2)), .none⟩, ⟨(.some 8), (.bin .lss (.t 7) (.c (.sc (.int .i64 0)))), .none⟩, ⟨(.some 9), (.mv (.t 8)), .none⟩, ⟨(.some 10), (.mv (.t 2)), (.some (9, .false))⟩, ⟨(.some 11), (.fadr 0 0 1 (.t 3)), (.some (9, .false))⟩, ⟨(.some 12), (.load .false 1 (.t 11)), (.some (9, .false))⟩, ⟨(.some 13), (.len .none (.t 12)), (.some (9, .false))⟩, ⟨(.some 14), (.bin .geq (.t 10) (.t 13)), (.some (9, .false))⟩, ⟨(.some 15), (.pick (.t 9) (.c (.sc (.bool .true))) (.t 14)), .none⟩]) (.cond (.t 15) (.seq (.ops [⟨(.some 6), (.mv (.c (.fro .true 0 []))), .none⟩]) .ret) .skip)) (.seq (.seq (.ops [⟨(.some 16), (.mv (.t 1)), .none⟩]) (.cond (.t 16) (.seq (.ops [⟨(.some 17), (.fadr 0 0 1 (.t 3)), .none⟩, ⟨(.some 18), (.load .false 1 (.t 17)), .none⟩, ⟨(.some 19), (.mv (.t 2)), .none⟩, ⟨(.some 20), (.iadr .none 6 (.t 18) (.t 19)), .none⟩, ⟨(.some 21), (.fadr 5 5 1 (.t 20)), .none⟩, ⟨(.some 22), (.load .false 1 (.t 21)), .none⟩, ⟨(.some 6), (.mv (.t 22)), .none⟩]) .ret) .skip)) (.seq (.ops [⟨(.some 23), (.fadr 0 0 1 (.t 3)), .none⟩, ⟨(.some 24), (.load .false 1 (.t 23)), .none⟩, ⟨(.some 25), (.mv (.t 2)), .none⟩, ⟨(.some 26), (.iadr .none 6 (.t 24) (.t 25)), .none⟩, ⟨(.some 27), (.fadr 4 4 1 (.t 26)), .none⟩, ⟨(.some 28), (.load .false 1 (.t 27)), .none⟩, ⟨(.some 6), (.mv (.t 28)), .none⟩]) .ret))))
theorem t_ref15_Cells : trF Try.prog qq 64 = some (29, [(.tmp 6)], c_ref15_Cells) := by kernel_rfl
/-- The functions of ref15. -/
def cl_ref15 : CodeL := [(12, 52, [(.tmp 2)], c_ref15_RightConfig), (13, 199, [(.tmp 4)], c_ref15_SameState), (15, 10, [(.cell 2 .true 92)], c_ref15_First), (17, 250, [(.tmp 6)], c_ref15_RightState), (22, 40, [(.cell 2 .true 92)], c_ref15_Copy), (24, 12, [(.tmp 4)], c_ref15_within), (25, 26, [(.tmp 4)], c_ref15_SameWords), (26, 26, [(.tmp 4)], c_ref15_SameBools), (36, 76, [(.tmp 6)], c_ref15_rightSide), (37, 9, [(.tmp 2)], c_ref15_big), (38, 39, [(.tmp 6)], c_ref15_lies), (39, 60, [(.tmp 4)], c_ref15_rightRequest), (49, 5, [(.tmp 2)], c_ref15_slots), (64, 29, [(.tmp 6)], c_ref15_Cells)]
theorem clok_ref15 : AllL (fun p => trF Try.prog qq p.1 = some p.2) cl_ref15 := ⟨t_ref15_RightConfig, t_ref15_SameState, t_ref15_First, t_ref15_RightState, t_ref15_Copy, t_ref15_within, t_ref15_SameWords, t_ref15_SameBools, t_ref15_rightSide, t_ref15_big, t_ref15_lies, t_ref15_rightRequest, t_ref15_slots, t_ref15_Cells, trivial⟩
end Go.Proofs.Ythmlnmkbeohojaa

/- Numbers within bounds; which configs may be. -/
namespace Go.Proofs.Ythmlnmkbeohojaa
open Go.Ra
set_option linter.unusedVariables false
set_option linter.unusedSimpArgs false
def TA0 : Tab := mkT2 qq (cl_state ++ cl_slices) [] [] [] []
def outB (lo hi n : Int) : Bool := decide (n < lo) || decide (n > hi)
def idwS : List XV → Option ((XV → Prop) → Prop) := skOf (fun q : List Int × Int × Int => [e_row 1 e_i64 q.1, .clo 51 [.fptr (.int .i64 q.2.1), .fptr (.int .i64 q.2.2)]]) (fun q => q.1.length ≤ 1000000) (fun q => idxF (outB q.2.1 q.2.2) q.1) (fun y => .int .i64 y)
def TA1 : Tab := mkT2 qq (cl_state ++ cl_slices) [] [] [(71, idwS)] []
/-- Are numbers within bounds? -/
def withinF (lo hi : Int) (l : List Int) : Bool := l.all fun n => decide (lo ≤ n ∧ n ≤ hi)
def wnS : List XV → Option ((XV → Prop) → Prop) := skOf (fun q : Int × Int × List Int => [.int .i64 q.1, .int .i64 q.2.1, e_row 1 e_i64 q.2.2]) (fun q => q.2.2.length ≤ 1000000) (fun q => withinF q.1 q.2.1 q.2.2) (fun y => .bool y)
def TA2 : Tab := mkT2 qq (cl_state ++ cl_slices) [] [] [(23, wnS)] []
/-- May a config be? -/
def rightCfg (c : Cfg) : Bool := withinF 1 64 [c.ldq, c.sdq, c.aeq, c.abq, c.ebq, c.saq, c.flight, c.slip] && (withinF 1 16 [c.banks] && (withinF 1 1000 [c.lat] && withinF 1 50 [c.mul, c.div]))
def cfgS : List XV → Option ((XV → Prop) → Prop) := skOf (fun c : Cfg => [e_Cfg c]) (fun c => True) (fun c => rightCfg c) (fun y => .bool y)
theorem TA0ok : TabOk Try.prog TA0 := mkT2_ok (clok_state.app clok_slices) trivial trivial trivial trivial
theorem r_wi1 (l : List Int) (lo hi : Int) (r : XV) : (goQ Try.prog TA0 [(.tmp 4)] r (.run c_slices_IndexFunc_int_int) [] ⟨envX 0 [e_row 1 e_i64 l, .clo 51 [.fptr (.int .i64 lo), .fptr (.int .i64 hi)]], [], 0⟩) = (LoopAt (Ok Try.prog (Tab.q TA0)) c_slices_IndexFunc_int_int_l1 (XSt.mk [(8, .int .i64 0), (7, .int .i64 (↑(List.length l) : Int)), (4, .int .i64 0), (0, e_row
 1 e_i64 l), (1, .clo 51 [.fptr (.int .i64 lo), .fptr (.int .i64 hi)])] [] 0) [Frm.blk 0, Frm.seq c_slices_IndexFunc_int_int_p1] (finQR [AR.tmp 4] r)) := by kernel_rfl 

theorem r_wi2 (l : List Int) (lo hi : Int) (i : Nat) (r : XV) (A : XSt → Prop) : (goQ Try.prog TA0 [(.tmp 4)] r (.run c_slices_IndexFunc_int_int_l1) [.lp c_slices_IndexFunc_int_int_l1 A, .blk 0, .seq c_slices_IndexFunc_int_int_p1] ⟨[(0, e_row 1 e_i64 l), (1, .clo 51 [.fptr (.int .i64 lo), .fptr (.int .i64 hi)]), (8, .int .i64 i), (7, .int .i64 l.length)], [], 0⟩) = (bif decide ((↑i : Int) < (↑(List.length l) : Int)) then bif decide ((↑i : Int) < (↑(List.length l) : Int)) then bif bif decide (ix l i < lo) then true else !decide
 (ix l i < lo) then bif bif decide (ix l i < lo) then true else decide (ix l i > hi) then ResLe (.int .i64 (↑i : Int)) r else A (XSt.mk [(8, .int .i64 (IntKind.wrap
 .i64 ((↑i : Int) + (1 : Int)))), (0, e_row 1 e_i64 l), (1, .clo 51 [.fptr (.int .i64 lo), .fptr (.int .i64 hi)]), (7, .int .i64 (↑(List.length l) : Int))] [] 0)
 else False else False
else ResLe (.int .i64 (-1 : Int)) r) := by kernel_rfl
theorem sk_idw : SkOk Try.prog (71, idwS) := skOf_ok fun ⟨l, lo, hi⟩ h => by
  have hl : l.length ≤ 1000000 := h
  refine pureQ mix TA0ok t_slices_IndexFunc_int_int (Nat.le_of_ble_eq_true rfl) ?_
  refine Eq.mpr (r_wi1 l lo hi _) ?_
  refine loopQ mix TA0ok (fun i : Nat => ⟨[(0, e_row 1 e_i64 l), (1, .clo 51 [.fptr (.int .i64 lo), .fptr (.int .i64 hi)]), (8, .int .i64 i), (7, .int .i64 l.length)], [], 0⟩) (fun i => i ≤ l.length ∧ ∀ j, j < i → outB lo hi (ix l j) = false) (fun i => l.length - i) 0 ⟨Nat.zero_le _, fun j hj => by omega⟩ (.of (weakX ⟨rfl, rfl, rfl, rfl, trivial⟩ trivial (Nat.le_refl _))) ?_
  rintro i ⟨hi1, hp⟩
  refine Eq.mpr (r_wi2 l lo hi i _ _) ?_
  by_cases hlt : i < l.length
  · have h1 : (i : Int) < (l.length : Int) := by omega
    have w1 : IntKind.i64.wrap ((i : Int) + 1) = ((i + 1 : Nat) : Int) := wrap_i64 (by omega) (by omega)
    simp only [g1, g2, g3, g4, g5, g6, g7, allN_true, cond_true, Nat.le_refl, decide_true, pl_eq, h1, w1]
    rw [bor]
    refine cnd2 (fun h => ?_) (fun h => ?_)
    · have e : idxF (outB lo hi) l = i := idxF_some hlt h hp
      show ResLe _ (.int .i64 (idxF (outB lo hi) l))
      rw [e]; exact .rfl
    · refine ⟨i + 1, ⟨hlt, fun j hj => ?_⟩, .of (weakX ⟨rfl, rfl, rfl, rfl, trivial⟩ trivial (Nat.le_refl _)), by omega⟩
      by_cases hji : j = i
      · subst hji; exact h
      · exact hp j (by omega)
  · have h1 : ¬ (i : Int) < (l.length : Int) := by omega
    simp only [h1, decide_false, cond_false]
    have e : idxF (outB lo hi) l = -1 := idxF_none fun j hj => hp j (by omega)
    show ResLe _ (.int .i64 (idxF (outB lo hi) l))
    rw [e]; exact .rfl
theorem TA1ok : TabOk Try.prog TA1 := mkT2_ok (clok_state.app clok_slices) trivial trivial ⟨sk_idw, trivial⟩ trivial
theorem r_wn (l : List Int) (lo hi : Int) (r : XV) : (quietGo TA1 80 (callI TA1 80 20) 23 [.int .i64 lo, .int .i64 hi, e_row 1 e_i64 l] (fun v => ResLe v r)) = (∃ (s : List Int × Int × Int), ArgsLe [e_row 1 e_i64 l, .clo 51 [.fptr (.int .i64 lo), .fptr (.int .i64 hi)]] [e_row 1 e_i64 (Prod.fst s), .clo 51 [.fptr (.int
 .i64 (Prod.fst (Prod.snd s))), .fptr (.int .i64 (Prod.snd (Prod.snd s)))]] ∧ PreIs (List.length (Prod.fst s) ≤ 1000000) ∧ ∀ (y : Int), y = idxF (outB (Prod.fst (Prod.snd
 s)) (Prod.snd (Prod.snd s))) (Prod.fst s) → ResLe (.bool !decide (y ≥ 0)) r) := by kernel_rfl
theorem within_any {lo hi : Int} {l : List Int} : withinF lo hi l = !l.any (outB lo hi) := by
  unfold withinF
  rw [List.not_any_eq_all_not]
  congr 1
  funext n
  unfold outB
  rw [Bool.eq_iff_iff]
  simp
theorem sk_wn : SkOk Try.prog (23, wnS) := skOf_ok fun ⟨lo, hi, l⟩ h => by
  have hl : l.length ≤ 1000000 := h
  show Pure _ _ (cons [.int .i64 lo, .int .i64 hi, e_row 1 e_i64 l]) (con (.bool (withinF lo hi l)))
  refine pureR (u := 80) (k := 20) mix TA1ok ?_
  refine Eq.mpr (r_wn l lo hi _) ?_
  refine ⟨(l, lo, hi), .rfl, ⟨hl⟩, ?_⟩
  intro y hy
  replace hy : y = idxF (outB lo hi) l := hy
  subst hy
  rw [within_any, ← idxF_ge]
  exact .rfl
theorem TA2ok : TabOk Try.prog TA2 := mkT2_ok (clok_state.app clok_slices) trivial trivial ⟨sk_wn, trivial⟩ trivial
theorem r_cfg (c : Cfg) (r : XV) : (quietGo TA2 80 (callI TA2 80 20) 11 [e_Cfg c] (fun v => ResLe v r)) = (∃ (s : Int × Int × List Int), ArgsLe [.int .i64 1, .int .i64 64, .row true 1 8 fun a => .int .i64 (bif Nat.beq a 0 then Cfg.ldq c else bif Nat.beq (a - 1) 0
 then Cfg.sdq c else bif Nat.beq (a - 1 - 1) 0 then Cfg.aeq c else bif Nat.beq (a - 1 - 1 - 1) 0 then Cfg.abq c else bif Nat.beq (a - 1 - 1 - 1 - 1) 0 then Cfg.ebq
 c else bif Nat.beq (a - 1 - 1 - 1 - 1 - 1) 0 then Cfg.saq c else bif Nat.beq (a - 1 - 1 - 1 - 1 - 1 - 1) 0 then Cfg.flight c else Cfg.slip c)] [.int .i64 (Prod.fst
 s), .int .i64 (Prod.fst (Prod.snd s)), e_row 1 e_i64 (Prod.snd (Prod.snd s))] ∧ PreIs (List.length (Prod.snd (Prod.snd s)) ≤ 1000000) ∧ ∀ (y : Bool), y = withinF
 (Prod.fst s) (Prod.fst (Prod.snd s)) (Prod.snd (Prod.snd s)) → bif y then ∃ (s : Int × Int × List Int), ArgsLe [.int .i64 1, .int .i64 16, .row true 1 1 fun a =>
 .int .i64 (Cfg.banks c)] [.int .i64 (Prod.fst s), .int .i64 (Prod.fst (Prod.snd s)), e_row 1 e_i64 (Prod.snd (Prod.snd s))] ∧ PreIs (List.length (Prod.snd (Prod.snd
 s)) ≤ 1000000) ∧ ∀ (y_1 : Bool), y_1 = withinF (Prod.fst s) (Prod.fst (Prod.snd s)) (Prod.snd (Prod.snd s)) → bif bif y then y_1 else false then ∃ (s : Int × Int
 × List Int), ArgsLe [.int .i64 1, .int .i64 1000, .row true 1 1 fun a => .int .i64 (Cfg.lat c)] [.int .i64 (Prod.fst s), .int .i64 (Prod.fst (Prod.snd s)), e_row
 1 e_i64 (Prod.snd (Prod.snd s))] ∧ PreIs (List.length (Prod.snd (Prod.snd s)) ≤ 1000000) ∧ ∀ (y_2 : Bool), y_2 = withinF (Prod.fst s) (Prod.fst (Prod.snd s)) (Prod.snd
 (Prod.snd s)) → bif bif bif y then y_1 else false then y_2 else false then ∃ (s : Int × Int × List Int), ArgsLe [.int .i64 1, .int .i64 50, .row true 1 2 fun a =>
 .int .i64 (bif Nat.beq a 0 then Cfg.mul c else Cfg.div c)] [.int .i64 (Prod.fst s), .int .i64 (Prod.fst (Prod.snd s)), e_row 1 e_i64 (Prod.snd (Prod.snd s))] ∧ PreIs
 (List.length (Prod.snd (Prod.snd s)) ≤ 1000000) ∧ ∀ (y_3 : Bool), y_3 = withinF (Prod.fst s) (Prod.fst (Prod.snd s)) (Prod.snd (Prod.snd s)) → ResLe (.bool (bif
 bif bif y then y_1 else false then y_2 else false then y_3 else false)) r else bif !bif bif y then y_1 else false then y_2 else false then ResLe (.bool false) r
 else False else bif !bif y then y_1 else false then ResLe (.bool false) r else False else bif !y then ResLe (.bool false) r else False) := by kernel_rfl
theorem lq_lit {α : Type} [Inhabited α] {x : Bool} {es n : Nat} {f : Nat → XV} {en : α → XV} {l : List α} (hn : n = l.length) (h : allN (fun i => true) n = true → ∀ i, i < n → con (f i) = con (en (ix l i))) : leQ (con (.row x es n f)) (con (e_row es en l)) := lq_erow hn (.inl rfl) fun i hi => lq_con (h (allN_iff.2 fun _ _ => rfl) i hi)
theorem sk_cfg : SkOk Try.prog (11, cfgS) := skOf_ok fun c _ => by
  show Pure _ _ (cons [e_Cfg c]) (con (.bool (rightCfg c)))
  refine pureR (u := 80) (k := 20) mix TA2ok ?_
  refine Eq.mpr (r_cfg c _) ?_
  unfold rightCfg
  refine ⟨(1, 64, [c.ldq, c.sdq, c.aeq, c.abq, c.ebq, c.saq, c.flight, c.slip]), ⟨lqs_cons (.refl _) (lqs_cons (.refl _) (lqs_cons (lq_lit rfl fun _ i hi => ?_) lqs_nil))⟩, ⟨by show 8 ≤ 1000000; omega⟩, ?_⟩
  · match i, hi with
    | 0, _ => rfl
    | 1, _ => rfl
    | 2, _ => rfl
    | 3, _ => rfl
    | 4, _ => rfl
    | 5, _ => rfl
    | 6, _ => rfl
    | 7, _ => rfl
    | n + 8, h => omega
  intro y hy
  replace hy : y = withinF 1 64 [c.ldq, c.sdq, c.aeq, c.abq, c.ebq, c.saq, c.flight, c.slip] := hy
  rw [← hy]
  cases y with
  | false => exact .rfl
  | true =>
  refine ⟨(1, 16, [c.banks]), ⟨lqs_cons (.refl _) (lqs_cons (.refl _) (lqs_cons (lq_lit1 (.refl _)) lqs_nil))⟩, ⟨by show 1 ≤ 1000000; omega⟩, ?_⟩
  intro y hy
  replace hy : y = withinF 1 16 [c.banks] := hy
  rw [← hy]
  cases y with
  | false => exact .rfl
  | true =>
  refine ⟨(1, 1000, [c.lat]), ⟨lqs_cons (.refl _) (lqs_cons (.refl _) (lqs_cons (lq_lit1 (.refl _)) lqs_nil))⟩, ⟨by show 1 ≤ 1000000; omega⟩, ?_⟩
  intro y hy
  replace hy : y = withinF 1 1000 [c.lat] := hy
  rw [← hy]
  cases y with
  | false => exact .rfl
  | true =>
  refine ⟨(1, 50, [c.mul, c.div]), ⟨lqs_cons (.refl _) (lqs_cons (.refl _) (lqs_cons (lq_lit2 (.refl _) (.refl _)) lqs_nil))⟩, ⟨by show 2 ≤ 1000000; omega⟩, ?_⟩
  intro y hy
  replace hy : y = withinF 1 50 [c.mul, c.div] := hy
  subst hy
  exact .rfl
end Go.Proofs.Ythmlnmkbeohojaa

/- Abstract code of the functions of seq: printed by a program from what the given translation yields. -/
namespace Go.Proofs.Ythmlnmkbeohojaa
open Go.Ra
def c_seq_Memory : AC := (.seq (.ops [⟨(.some 1), (.box (.t 0)), .none⟩, ⟨(.some 2), (.mv (.c (.fro .true 0 []))), .none⟩]) (.seq (.ops [⟨(.some 4), (.fadr 1 1 1 (.t 1)), .none⟩, ⟨(.some 5), (.load .false 1 (.t 4)), .none⟩, ⟨(.some 6), (.mks 1 1 (.sc (.int .u8 0)) (.t 5)), .none⟩, ⟨(.some 3), (.mv (.t 6)), .none⟩]) (.seq (.ops [⟨(.some 7), (.mv (.t 3)), .none⟩, ⟨(.some 8), (.fadr 2 2 1 (.t 1)), .none⟩, ⟨(.some 9), (.load .false 1 (.t 8)), .none⟩, ⟨(.some 10), (.copy 1 (.t 7) (.t 9)), .none⟩]) (.seq (.ops [⟨(.some 11), (.mv (.t 3)), .none⟩, ⟨(.some 2), (.mv (.t 11)), .none⟩]) .ret))))
theorem t_seq_Memory : trF Try.prog qq 28 = some (12, [(.tmp 2)], c_seq_Memory) := by kernel_rfl
/-- The functions of seq. -/
def cl_seq : CodeL := [(28, 12, [(.tmp 2)], c_seq_Memory)]
theorem clok_seq : AllL (fun p => trF Try.prog qq p.1 = some p.2) cl_seq := ⟨t_seq_Memory, trivial⟩
end Go.Proofs.Ythmlnmkbeohojaa

/- Abstract code of the functions of image: printed by a program from what the given translation yields. -/
namespace Go.Proofs.Ythmlnmkbeohojaa
open Go.Ra
def c_image_Right : AC := (.seq (.ops [⟨(.some 1), (.box (.t 0)), .none⟩, ⟨(.some 2), (.mv (.c (.sc (.bool .false)))), .none⟩]) (.seq (.ops [⟨(.some 3), (.mv (.c (.clo 52 []))), .none⟩]) (.seq (.ops [⟨(.some 4), (.fadr 0 0 1 (.t 1)), .none⟩, ⟨(.some 5), (.load .false 1 (.t 4)), .none⟩, ⟨(.some 6), (.len .none (.t 5)), .none⟩, ⟨(.some 7), (.fadr 1 1 1 (.t 1)), .none⟩, ⟨(.some 8), (.load .false 1 (.t 7)), .none⟩, ⟨(.some 9), (.fadr 2 2 1 (.t 1)), .none⟩, ⟨(.some 10), (.load .false 1 (.t 9)), .none⟩, ⟨(.some 11), (.len .none (.t 10)), .none⟩, ⟨(.some 12), (.call 54 [(.t 6), (.t 8), (.t 11)]), .none⟩, ⟨(.some 13), (.mv (.t 12)), .none⟩, ⟨(.some 14), (.fadr 0 0 1 (.t 1)), (.some (13, .true))⟩, ⟨(.some 15), (.load .false 1 (.t 14)), (.some (13, .true))⟩, ⟨(.some 16), (.mv (.t 3)), (.some (13, .true))⟩, ⟨(.some 17), (.call 55 [(.t 15), (.t 16)]), (.some (13, .true))⟩, ⟨(.some 18), (.un .not (.t 17)), (.some (13, .true))⟩, ⟨(.some 19), (.pick (.t 13) (.t 18) (.c (.sc (.bool .false)))), .none⟩, ⟨(.some 20), (.mv (.t 19)), .none⟩, ⟨(.some 21), (.load .true 3 (.t 1)), (.some (20, .true))⟩, ⟨(.some 22), (.call 56 [(.t 21)]), (.some (20, .true))⟩, ⟨(.some 23), (.bin .eql (.t 22) (.c (.sc (.int .i64 0)))), (.some (20, .true))⟩, ⟨(.some 24), (.pick (.t 20) (.t 23) (.c (.sc (.bool .false)))), .none⟩, ⟨(.some 2), (.mv (.t 24)), .none⟩]) .ret)))
theorem t_image_Right : trF Try.prog qq 27 = some (25, [(.tmp 2)], c_image_Right) := by kernel_rfl
def c_image_Right_1 : AC := (.seq (.ops [⟨(.some 1), (.box (.t 0)), .none⟩, ⟨(.some 2), (.mv (.c (.sc (.bool .false)))), .none⟩]) (.seq (.ops [⟨(.some 3), (.load .true 5 (.t 1)), .none⟩, ⟨(.some 4), (.call 53 [(.t 3)]), .none⟩, ⟨(.some 5), (.un .not (.t 4)), .none⟩, ⟨(.some 2), (.mv (.t 5)), .none⟩]) .ret))
theorem t_image_Right_1 : trF Try.prog qq 52 = some (6, [(.tmp 2)], c_image_Right_1) := by kernel_rfl
def c_image_sizes : AC := (.seq (.ops [⟨(.some 6), (.mv (.c (.sc (.bool .false)))), .none⟩]) (.seq (.ops [⟨(.some 7), (.mv (.t 0)), .none⟩, ⟨(.some 8), (.bin .geq (.t 7) (.c (.sc (.int .i64 1)))), .none⟩, ⟨(.some 9), (.mv (.t 8)), .none⟩, ⟨(.some 10), (.mv (.t 0)), (.some (9, .true))⟩, ⟨(.some 11), (.bin .leq (.t 10) (.c (.sc (.int .i64 2000)))), (.some (9, .true))⟩, ⟨(.some 12), (.pick (.t 9) (.t 11) (.c (.sc (.bool .false)))), .none⟩, ⟨(.some 13), (.mv (.t 12)), .none⟩, ⟨(.some 14), (.mv (.t 1)), (.some (13, .true))⟩, ⟨(.some 15), (.bin .geq (.t 14) (.c (.sc (.int .i64 0)))), (.some (13, .true))⟩, ⟨(.some 16), (.pick (.t 13) (.t 15) (.c (.sc (.bool .false)))), .none⟩, ⟨(.some 17), (.mv (.t 16)), .none⟩, ⟨(.some 18), (.mv (.t 1)), (.some (17, .true))⟩, ⟨(.some 19), (.bin .leq (.t 18) (.c (.sc (.int .i64 65536)))), (.some (17, .true))⟩, ⟨(.some 20), (.pick (.t 17) (.t 19) (.c (.sc (.bool .false)))), .none⟩, ⟨(.some 21), (.mv (.t 20)), .none⟩, ⟨(.some 22), (.mv (.t 2)), (.some (21, .true))⟩, ⟨(.some 23), (.mv (.t 1)), (.some (21, .true))⟩, ⟨(.some 24), (.bin .leq (.t 22) (.t 23)), (.some (21, .true))⟩, ⟨(.some 25), (.pick (.t 21) (.t 24) (.c (.sc (.bool .false)))), .none⟩, ⟨(.some 6), (.mv (.t 25)), .none⟩]) .ret))
theorem t_image_sizes : trF Try.prog qq 54 = some (26, [(.tmp 6)], c_image_sizes) := by kernel_rfl
def c_image_Targets_l1 : AC := (.seq (.ops [⟨(.some 11), (.bin .lss (.t 10) (.t 9)), .none⟩]) (.seq (.cond (.t 11) .skip (.exit 0)) (.seq (.block 1 (.seq (.ops [⟨(.some 12), (.mv (.t 10)), .none⟩, ⟨(.some 13), (.iadr .none 5 (.t 8) (.t 10)), .none⟩, ⟨(.some 14), (.load .true 5 (.t 13)), .none⟩, ⟨(.some 4), (.box (.c (.agg 5 [(.sc (.int .i64 0)), (.sc (.int .i64 0)), (.sc (.int .i64 0)), (.sc (.int .i64 0)), (.sc (.int .i64 0))]))), .none⟩, ⟨(.some 3), (.mv (.t 12)), .none⟩, ⟨.none, (.store 5 (.t 4) (.t 14)), .none⟩]) (.seq (.ops [⟨(.some 16), (.load .true 3 (.t 1)), .none⟩, ⟨(.some 17), (.mv (.t 3)), .none⟩, ⟨(.some 18), (.call 79 [(.t 16), (.t 17)]), .none⟩, ⟨(.some 15), (.mv (.t 18)), .none⟩, ⟨(.some 19), (.ext (.t 15) 0), .none⟩, ⟨(.some 20), (.ext (.t 15) 1), .none⟩, ⟨(.some 5), (.mv (.t 19)), .none⟩, ⟨(.some 6), (.mv (.t 20)), .none⟩]) (.seq (.ops [⟨(.some 21), (.mv (.t 6)), .none⟩, ⟨(.some 22), (.mv (.t 21)), .none⟩, ⟨(.some 23), (.fadr 4 4 1 (.t 4)), (.some (22, .true))⟩, ⟨(.some 24), (.load .false 1 (.t 23)), (.some (22, .true))⟩, ⟨(.some 25), (.mv (.t 3)), (.some (22, .true))⟩, ⟨(.some 26), (.un .neg (.t 25)), (.some (22, .true))⟩, ⟨(.some 27), (.bin .lss (.t 24) (.t 26)), (.some (22, .true))⟩, ⟨(.some 28), (.mv (.t 27)), (.some (22, .true))⟩, ⟨(.some 29), (.fadr 4 4 1 (.t 4)), (.some (28, .false))⟩, ⟨(.some 30), (.load .false 1 (.t 29)), (.some (28, .false))⟩, ⟨(.some 31), (.fadr 0 0 1 (.t 1)), (.some (28, .false))⟩, ⟨(.some 32), (.load .false 1 (.t 31)), (.some (28, .false))⟩, ⟨(.some 33), (.len .none (.t 32)), (.some (28, .false))⟩, ⟨(.some 34), (.mv (.t 3)), (.some (28, .false))⟩, ⟨(.some 35), (.bin .sub (.t 33) (.t 34)), (.some (28, .false))⟩, ⟨(.some 36), (.bin .geq (.t 30) (.t 35)), (.some (28, .false))⟩, ⟨(.some 37), (.pick (.t 28) (.c (.sc (.bool .true))) (.t 36)), (.some (22, .true))⟩, ⟨(.some 38), (.pick (.t 22) (.t 37) (.c (.sc (.bool .false)))), .none⟩]) (.cond (.t 38) (.seq (.ops [⟨(.some 2), (.mv (.c (.sc (.int .i64 4)))), .none⟩]) .ret) .skip))))) (.ops [⟨(.some 39), (.bin .add (.t 10) (.c (.sc (.int .i64 1)))), .none⟩, ⟨(.some 10), (.mv (.t 39)), .none⟩]))))
def c_image_Targets_p1 : AC := (.seq (.ops [⟨(.some 2), (.mv (.c (.sc (.int .i64 0)))), .none⟩]) .ret)
def c_image_Targets : AC := (.seq (.ops [⟨(.some 1), (.box (.t 0)), .none⟩, ⟨(.some 2), (.mv (.c (.sc (.int .i64 0)))), .none⟩]) (.seq (.seq (.ops [⟨(.some 7), (.fadr 0 0 1 (.t 1)), .none⟩, ⟨(.some 8), (.load .false 1 (.t 7)), .none⟩, ⟨(.some 9), (.len .none (.t 8)), .none⟩, ⟨(.some 10), (.mv (.c (.sc (.int .i64 0)))), .none⟩]) (.block 0 (.loop c_image_Targets_l1))) c_image_Targets_p1))
theorem t_image_Targets : trF Try.prog qq 56 = some (40, [(.tmp 2)], c_image_Targets) := by kernel_rfl
def c_image_Target : AC := (.seq (.ops [⟨(.some 2), (.box (.t 0)), .none⟩, ⟨(.some 4), (.mv (.c (.sc (.int .i64 0)))), .none⟩, ⟨(.some 5), (.mv (.c (.sc (.bool .false)))), .none⟩]) (.seq (.ops [⟨(.some 7), (.fadr 0 0 1 (.t 2)), .none⟩, ⟨(.some 8), (.load .false 1 (.t 7)), .none⟩, ⟨(.some 9), (.mv (.t 1)), .none⟩, ⟨(.some 10), (.iadr .none 5 (.t 8) (.t 9)), .none⟩, ⟨(.some 11), (.fadr 0 0 1 (.t 10)), .none⟩, ⟨(.some 12), (.load .false 1 (.t 11)), .none⟩, ⟨(.some 13), (.call 72 [(.t 12)]), .none⟩, ⟨(.some 6), (.mv (.t 13)), .none⟩]) (.seq (.ops [⟨(.some 14), (.mv (.t 1)), .none⟩, ⟨(.some 15), (.fadr 0 0 1 (.t 2)), .none⟩, ⟨(.some 16), (.load .false 1 (.t 15)), .none⟩, ⟨(.some 17), (.mv (.t 1)), .none⟩, ⟨(.some 18), (.iadr .none 5 (.t 16) (.t 17)), .none⟩, ⟨(.some 19), (.fadr 4 4 1 (.t 18)), .none⟩, ⟨(.some 20), (.load .false 1 (.t 19)), .none⟩, ⟨(.some 21), (.bin .add (.t 14) (.t 20)), .none⟩, ⟨(.some 22), (.mv (.t 6)), .none⟩, ⟨(.some 23), (.bin .eql (.t 22) (.c (.sc (.int .i64 6)))), .none⟩, ⟨(.some 24), (.mv (.t 23)), .none⟩, ⟨(.some 25), (.mv (.t 6)), (.some (24, .false))⟩, ⟨(.some 26), (.bin .eql (.t 25) (.c (.sc (.int .i64 7)))), (.some (24, .false))⟩, ⟨(.some 27), (.pick (.t 24) (.c (.sc (.bool .true))) (.t 26)), .none⟩, ⟨(.some 4), (.mv (.t 21)), .none⟩, ⟨(.some 5), (.mv (.t 27)), .none⟩]) .ret)))
theorem t_image_Target : trF Try.prog qq 79 = some (28, [(.tmp 4), (.tmp 5)], c_image_Target) := by kernel_rfl
/-- The functions of image. -/
def cl_image : CodeL := [(27, 25, [(.tmp 2)], c_image_Right), (52, 6, [(.tmp 2)], c_image_Right_1), (54, 26, [(.tmp 6)], c_image_sizes), (56, 40, [(.tmp 2)], c_image_Targets), (79, 28, [(.tmp 4), (.tmp 5)], c_image_Target)]
theorem clok_image : AllL (fun p => trF Try.prog qq p.1 = some p.2) cl_image := ⟨t_image_Right, t_image_Right_1, t_image_sizes, t_image_Targets, t_image_Target, trivial⟩
end Go.Proofs.Ythmlnmkbeohojaa

/- Abstract code of the functions of isa: printed by a program from what the given translation yields. -/
namespace Go.Proofs.Ythmlnmkbeohojaa
open Go.Ra
def c_isa_Right : AC := (.seq (.ops [⟨(.some 1), (.box (.t 0)), .none⟩, ⟨(.some 2), (.mv (.c (.sc (.bool .false)))), .none⟩]) (.seq (.ops [⟨(.some 6), (.fadr 0 0 1 (.t 1)), .none⟩, ⟨(.some 7), (.load .false 1 (.t 6)), .none⟩, ⟨(.some 8), (.call 72 [(.t 7)]), .none⟩, ⟨(.some 3), (.mv (.t 8)), .none⟩]) (.seq (.ops [⟨(.some 4), (.mv (.c (.sc (.int .i64 (-8192))))), .none⟩, ⟨(.some 5), (.mv (.c (.sc (.int .i64 8191)))), .none⟩]) (.seq (.seq (.ops [⟨(.some 9), (.fadr 0 0 1 (.t 1)), .none⟩, ⟨(.some 10), (.load .false 1 (.t 9)), .none⟩, ⟨(.some 11), (.bin .eql (.t 10) (.c (.sc (.int .i64 22)))), .none⟩, ⟨(.some 12), (.mv (.t 11)), .none⟩, ⟨(.some 13), (.fadr 0 0 1 (.t 1)), (.some (12, .false))⟩, ⟨(.some 14), (.load .false 1 (.t 13)), (.some (12, .false))⟩, ⟨(.some 15), (.bin .eql (.t 14) (.c (.sc (.int .i64 23)))), (.some (12, .false))⟩, ⟨(.some 16), (.pick (.t 12) (.c (.sc (.bool .true))) (.t 15)), .none⟩, ⟨(.some 17), (.mv (.t 16)), .none⟩, ⟨(.some 18), (.fadr 0 0 1 (.t 1)), (.some (17, .false))⟩, ⟨(.some 19), (.load .false 1 (.t 18)), (.some (17, .false))⟩, ⟨(.some 20), (.bin .eql (.t 19) (.c (.sc (.int .i64 24)))), (.some (17, .false))⟩, ⟨(.some 21), (.pick (.t 17) (.c (.sc (.bool .true))) (.t 20)), .none⟩]) (.cond (.t 21) (.ops [⟨(.some 4), (.mv (.c (.sc (.int .i64 0)))), .none⟩, ⟨(.some 5), (.mv (.c (.sc (.int .i64 31)))), .none⟩]) .skip)) (.seq (.ops [⟨(.some 22), (.mv (.t 3)), .none⟩, ⟨(.some 23), (.bin .gtr (.t 22) (.c (.sc (.int .i64 0)))), .none⟩, ⟨(.some 24), (.mv (.t 23)), .none⟩, ⟨(.some 25), (.fadr 1 1 1 (.t 1)), (.some (24, .true))⟩, ⟨(.some 26), (.load .false 1 (.t 25)), (.some (24, .true))⟩, ⟨(.some 27), (.mv (.t 3)), (.some (24, .true))⟩, ⟨(.some 28), (.call 74 [(.t 27)]), (.some (24, .true))⟩, ⟨(.some 29), (.call 73 [(.t 26), (.t 28), (.c (.sc (.int .i64 0))), (.c (.sc (.int .i64 15)))]), (.some (24, .true))⟩, ⟨(.some 30), (.pick (.t 24) (.t 29) (.c (.sc (.bool .false)))), .none⟩, ⟨(.some 31), (.mv (.t 30)), .none⟩, ⟨(.some 32), (.fadr 2 2 1 (.t 1)), (.some (31, .true))⟩, ⟨(.some 33), (.load .false 1 (.t 32)), (.some (31, .true))⟩, ⟨(.some 34), (.mv (.t 3)), (.some (31, .true))⟩, ⟨(.some 35), (.call 75 [(.t 34)]), (.some (31, .true))⟩, ⟨(.some 36), (.call 73 [(.t 33), (.t 35), (.c (.sc (.int .i64 0))), (.c (.sc (.int .i64 15)))]), (.some (31, .true))⟩, ⟨(.some 37), (.pick (.t 31) (.t 36) (.c (.sc (.bool .false)))), .none⟩, ⟨(.some 38), (.mv (.t 37)), .none⟩, ⟨(.some 39), (.fadr 3 3 1 (.t 1)), (.some (38, .true))⟩, ⟨(.some 40), (.load .false 1 (.t 39)), (.some (38, .true))⟩, ⟨(.some 41), (.mv (.t 3)), (.some (38, .true))⟩, ⟨(.some 42), (.call 76 [(.t 41)]), (.some (38, .true))⟩, ⟨(.some 43), (.call 73 [(.t 40), (.t 42), (.c (.sc (.int .i64 0))), (.c (.sc (.int .i64 15)))]), (.some (38, .true))⟩, ⟨(.some 44), (.pick (.t 38) (.t 43) (.c (.sc (.bool .false)))), .none⟩, ⟨(.some 45), (.mv (.t 44)), .none⟩, ⟨(.some 46), (.fadr 4 4 1 (.t 1)), (.some (45, .true))⟩, ⟨(.some 47), (.load .false 1 (.t 46)), (.some (45, .true))⟩, ⟨(.some 48), (.mv (.t 3)), (.some (45, .true))⟩, ⟨(.some 49), (.call 77 [(.t 48)]), (.some (45, .true))⟩, ⟨(.some 50), (.mv (.t 4)), (.some (45, .true))⟩, ⟨(.some 51), (.mv (.t 5)), (.some (45, .true))⟩, ⟨(.some 52), (.call 73 [(.t 47), (.t 49), (.t 50), (.t 51)]), (.some (45, .true))⟩, ⟨(.some 53), (.pick (.t 45) (.t 52) (.c (.sc (.bool .false)))), .none⟩, ⟨(.some 2), (.mv (.t 53)), .none⟩]) .ret)))))
theorem t_isa_Right : trF Try.prog qq 53 = some (54, [(.tmp 2)], c_isa_Right) := by kernel_rfl
def c_isa_Form : AC := (.seq (.ops [⟨(.some 2), (.mv (.c (.sc (.int .i64 0)))), .none⟩]) (.seq (.block 0 (.seq (.ops [⟨(.some 4), (.mv (.t 0)), .none⟩, ⟨(.some 5), (.bin .lss (.t 4) (.c (.sc (.int .i64 1)))), .none⟩, ⟨(.some 6), (.mv (.t 5)), .none⟩, ⟨(.some 7), (.mv (.t 0)), (.some (6, .false))⟩, ⟨(.some 8), (.bin .gtr (.t 7) (.c (.sc (.int .i64 41)))), (.some (6, .false))⟩, ⟨(.some 9), (.pick (.t 6) (.c (.sc (.bool .true))) (.t 8)), .none⟩, ⟨(.some 3), (.mv (.t 9)), .none⟩]) (.cond (.t 3) (.seq (.ops [⟨(.some 2), (.mv (.c (.sc (.int .i64 0)))), .none⟩]) .ret) (.seq (.ops [⟨(.some 11), (.mv (.t 0)), .none⟩, ⟨(.some 12), (.bin .leq (.t 11) (.c (.sc (.int .i64 16)))), .none⟩, ⟨(.some 10), (.mv (.t 12)), .none⟩]) (.cond (.t 10) (.seq (.ops [⟨(.some 2), (.mv (.c (.sc (.int .i64 1)))), .none⟩]) .ret) (.seq (.ops [⟨(.some 14), (.mv (.t 0)), .none⟩, ⟨(.some 15), (.bin .leq (.t 14) (.c (.sc (.int .i64 24)))), .none⟩, ⟨(.some 13), (.mv (.t 15)), .none⟩]) (.cond (.t 13) (.seq (.ops [⟨(.some 2), (.mv (.c (.sc (.int .i64 2)))), .none⟩]) .ret) (.seq (.ops [⟨(.some 17), (.mv (.t 0)), .none⟩, ⟨(.some 18), (.bin .eql (.t 17) (.c (.sc (.int .i64 25)))), .none⟩, ⟨(.some 16), (.mv (.t 18)), .none⟩]) (.cond (.t 16) (.seq (.ops [⟨(.some 2), (.mv (.c (.sc (.int .i64 3)))), .none⟩]) .ret) (.seq (.ops [⟨(.some 20), (.mv (.t 0)), .none⟩, ⟨(.some 21), (.bin .leq (.t 20) (.c (.sc (.int .i64 30)))), .none⟩, ⟨(.some 19), (.mv (.t 21)), .none⟩]) (.cond (.t 19) (.seq (.ops [⟨(.some 2), (.mv (.c (.sc (.int .i64 4)))), .none⟩]) .ret) (.seq (.ops [⟨(.some 23), (.mv (.t 0)), .none⟩, ⟨(.some 24), (.bin .leq (.t 23) (.c (.sc (.int .i64 33)))), .none⟩, ⟨(.some 22), (.mv (.t 24)), .none⟩]) (.cond (.t 22) (.seq (.ops [⟨(.some 2), (.mv (.c (.sc (.int .i64 5)))), .none⟩]) .ret) (.seq (.ops [⟨(.some 26), (.mv (.t 0)), .none⟩, ⟨(.some 27), (.bin .leq (.t 26) (.c (.sc (.int .i64 39)))), .none⟩, ⟨(.some 25), (.mv (.t 27)), .none⟩]) (.cond (.t 25) (.seq (.ops [⟨(.some 2), (.mv (.c (.sc (.int .i64 6)))), .none⟩]) .ret) (.seq (.ops [⟨(.some 29), (.mv (.t 0)), .none⟩, ⟨(.some 30), (.bin .eql (.t 29) (.c (.sc (.int .i64 40)))), .none⟩, ⟨(.some 28), (.mv (.t 30)), .none⟩]) (.cond (.t 28) (.seq (.ops [⟨(.some 2), (.mv (.c (.sc (.int .i64 7)))), .none⟩]) .ret) .skip))))))))))))))))) (.seq (.ops [⟨(.some 2), (.mv (.c (.sc (.int .i64 8)))), .none⟩]) .ret)))
theorem t_isa_Form : trF Try.prog qq 72 = some (31, [(.tmp 2)], c_isa_Form) := by kernel_rfl
def c_isa_within : AC := (.seq (.ops [⟨(.some 8), (.mv (.c (.sc (.bool .false)))), .none⟩]) (.seq (.seq (.ops [⟨(.some 9), (.mv (.t 1)), .none⟩, ⟨(.some 10), (.un .not (.t 9)), .none⟩]) (.cond (.t 10) (.seq (.ops [⟨(.some 11), (.mv (.t 0)), .none⟩, ⟨(.some 12), (.bin .eql (.t 11) (.c (.sc (.int .i64 0)))), .none⟩, ⟨(.some 8), (.mv (.t 12)), .none⟩]) .ret) .skip)) (.seq (.ops [⟨(.some 13), (.mv (.t 0)), .none⟩, ⟨(.some 14), (.mv (.t 2)), .none⟩, ⟨(.some 15), (.bin .geq (.t 13) (.t 14)), .none⟩, ⟨(.some 16), (.mv (.t 15)), .none⟩, ⟨(.some 17), (.mv (.t 0)), (.some (16, .true))⟩, ⟨(.some 18), (.mv (.t 3)), (.some (16, .true))⟩, ⟨(.some 19), (.bin .leq (.t 17) (.t 18)), (.some (16, .true))⟩, ⟨(.some 20), (.pick (.t 16) (.t 19) (.c (.sc (.bool .false)))), .none⟩, ⟨(.some 8), (.mv (.t 20)), .none⟩]) .ret)))
theorem t_isa_within : trF Try.prog qq 73 = some (21, [(.tmp 8)], c_isa_within) := by kernel_rfl
def c_isa_HasD : AC := (.seq (.ops [⟨(.some 2), (.mv (.c (.sc (.bool .false)))), .none⟩]) (.seq (.ops [⟨(.some 3), (.mv (.t 0)), .none⟩, ⟨(.some 4), (.bin .geq (.t 3) (.c (.sc (.int .i64 1)))), .none⟩, ⟨(.some 5), (.mv (.t 4)), .none⟩, ⟨(.some 6), (.mv (.t 0)), (.some (5, .true))⟩, ⟨(.some 7), (.bin .leq (.t 6) (.c (.sc (.int .i64 4)))), (.some (5, .true))⟩, ⟨(.some 8), (.pick (.t 5) (.t 7) (.c (.sc (.bool .false)))), .none⟩, ⟨(.some 2), (.mv (.t 8)), .none⟩]) .ret))
theorem t_isa_HasD : trF Try.prog qq 74 = some (9, [(.tmp 2)], c_isa_HasD) := by kernel_rfl
def c_isa_HasA : AC := (.seq (.ops [⟨(.some 2), (.mv (.c (.sc (.bool .false)))), .none⟩]) (.seq (.ops [⟨(.some 3), (.mv (.t 0)), .none⟩, ⟨(.some 4), (.bin .eql (.t 3) (.c (.sc (.int .i64 1)))), .none⟩, ⟨(.some 5), (.mv (.t 4)), .none⟩, ⟨(.some 6), (.mv (.t 0)), (.some (5, .false))⟩, ⟨(.some 7), (.bin .eql (.t 6) (.c (.sc (.int .i64 2)))), (.some (5, .false))⟩, ⟨(.some 8), (.pick (.t 5) (.c (.sc (.bool .true))) (.t 7)), .none⟩, ⟨(.some 9), (.mv (.t 8)), .none⟩, ⟨(.some 10), (.mv (.t 0)), (.some (9, .false))⟩, ⟨(.some 11), (.bin .eql (.t 10) (.c (.sc (.int .i64 4)))), (.some (9, .false))⟩, ⟨(.some 12), (.pick (.t 9) (.c (.sc (.bool .true))) (.t 11)), .none⟩, ⟨(.some 13), (.mv (.t 12)), .none⟩, ⟨(.some 14), (.mv (.t 0)), (.some (13, .false))⟩, ⟨(.some 15), (.bin .eql (.t 14) (.c (.sc (.int .i64 5)))), (.some (13, .false))⟩, ⟨(.some 16), (.pick (.t 13) (.c (.sc (.bool .true))) (.t 15)), .none⟩, ⟨(.some 17), (.mv (.t 16)), .none⟩, ⟨(.some 18), (.mv (.t 0)), (.some (17, .false))⟩, ⟨(.some 19), (.bin .eql (.t 18) (.c (.sc (.int .i64 6)))), (.some (17, .false))⟩, ⟨(.some 20), (.pick (.t 17) (.c (.sc (.bool .true))) (.t 19)), .none⟩, ⟨(.some 2), (.mv (.t 20)), .none⟩]) .ret))
theorem t_isa_HasA : trF Try.prog qq 75 = some (21, [(.tmp 2)], c_isa_HasA) := by kernel_rfl
def c_isa_HasB : AC := (.seq (.ops [⟨(.some 2), (.mv (.c (.sc (.bool .false)))), .none⟩]) (.seq (.ops [⟨(.some 3), (.mv (.t 0)), .none⟩, ⟨(.some 4), (.bin .eql (.t 3) (.c (.sc (.int .i64 1)))), .none⟩, ⟨(.some 5), (.mv (.t 4)), .none⟩, ⟨(.some 6), (.mv (.t 0)), (.some (5, .false))⟩, ⟨(.some 7), (.bin .eql (.t 6) (.c (.sc (.int .i64 5)))), (.some (5, .false))⟩, ⟨(.some 8), (.pick (.t 5) (.c (.sc (.bool .true))) (.t 7)), .none⟩, ⟨(.some 9), (.mv (.t 8)), .none⟩, ⟨(.some 10), (.mv (.t 0)), (.some (9, .false))⟩, ⟨(.some 11), (.bin .eql (.t 10) (.c (.sc (.int .i64 6)))), (.some (9, .false))⟩, ⟨(.some 12), (.pick (.t 9) (.c (.sc (.bool .true))) (.t 11)), .none⟩, ⟨(.some 2), (.mv (.t 12)), .none⟩]) .ret))
theorem t_isa_HasB : trF Try.prog qq 76 = some (13, [(.tmp 2)], c_isa_HasB) := by kernel_rfl
def c_isa_HasImm : AC := (.seq (.ops [⟨(.some 2), (.mv (.c (.sc (.bool .false)))), .none⟩]) (.seq (.ops [⟨(.some 3), (.mv (.t 0)), .none⟩, ⟨(.some 4), (.bin .geq (.t 3) (.c (.sc (.int .i64 2)))), .none⟩, ⟨(.some 5), (.mv (.t 4)), .none⟩, ⟨(.some 6), (.mv (.t 0)), (.some (5, .true))⟩, ⟨(.some 7), (.bin .leq (.t 6) (.c (.sc (.int .i64 7)))), (.some (5, .true))⟩, ⟨(.some 8), (.pick (.t 5) (.t 7) (.c (.sc (.bool .false)))), .none⟩, ⟨(.some 2), (.mv (.t 8)), .none⟩]) .ret))
theorem t_isa_HasImm : trF Try.prog qq 77 = some (9, [(.tmp 2)], c_isa_HasImm) := by kernel_rfl
/-- The functions of isa. -/
def cl_isa : CodeL := [(53, 54, [(.tmp 2)], c_isa_Right), (72, 31, [(.tmp 2)], c_isa_Form), (73, 21, [(.tmp 8)], c_isa_within), (74, 9, [(.tmp 2)], c_isa_HasD), (75, 21, [(.tmp 2)], c_isa_HasA), (76, 13, [(.tmp 2)], c_isa_HasB), (77, 9, [(.tmp 2)], c_isa_HasImm)]
theorem clok_isa : AllL (fun p => trF Try.prog qq p.1 = some p.2) cl_isa := ⟨t_isa_Right, t_isa_Form, t_isa_within, t_isa_HasD, t_isa_HasA, t_isa_HasB, t_isa_HasImm, trivial⟩
end Go.Proofs.Ythmlnmkbeohojaa

/- Which programs may be, as package image tells. -/
namespace Go.Proofs.Ythmlnmkbeohojaa
open Go.Ra
set_option linter.unusedVariables false
set_option linter.unusedSimpArgs false
def TI0 : Tab := mkT2 qq cl_isa [] [] [] []
def h1Sp (f : Int → Bool) : List XV → Option (List Bool × XV)
  | [.int .i64 a] => some ([], .bool (f a))
  | _ => none
def inW (n : Int) (t : Bool) (lo hi : Int) : Bool := bif t then decide (lo ≤ n ∧ n ≤ hi) else decide (n = 0)
def inwSp : List XV → Option (List Bool × XV)
  | [.int .i64 n, .bool t, .int .i64 lo, .int .i64 hi] => some ([], .bool (inW n t lo hi))
  | _ => none
def TI1 : Tab := mkT2 qq cl_isa [(72, formSp), (74, h1Sp hasD), (75, h1Sp hasA), (76, h1Sp hasB), (77, h1Sp hasI), (73, inwSp)] [] [] []
def TI2 : Tab := mkT2 qq (cl_image ++ cl_slices) [(53, rtSp), (72, formSp)] [] [] []
def wrgF (i : Ins) : Bool := !rightIns i
def idiS : List XV → Option ((XV → Prop) → Prop) := skOf (fun l : List Ins => [e_row 5 e_Ins l, .clo 52 []]) (fun l => l.length ≤ 1000000000) (fun l => idxF wrgF l) (fun y => .int .i64 y)
/-- Does an instruction lead into the code, if it leads anywhere? -/
def jmpOk (p : Prog) (i : Nat) : Bool := !((decide (formI (ix p.code i).op = 6) || decide (formI (ix p.code i).op = 7)) && (decide ((ix p.code i).imm < -(i : Int)) || decide ((ix p.code i).imm ≥ (p.code.length : Int) - i)))
def jmpsF (p : Prog) : Bool := allN (jmpOk p) p.code.length
def imtS : List XV → Option ((XV → Prop) → Prop) := skOf (fun p : Prog => [e_Prog p]) (fun p => p.wf) (fun p => (if jmpsF p then 0 else 4 : Int)) (fun y => .int .i64 y)
def TI3 : Tab := mkT2 qq (cl_image ++ cl_slices) [] [] [(78, idiS), (56, imtS)] []
theorem TI0ok : TabOk Try.prog TI0 := mkT2_ok clok_isa trivial trivial trivial trivial
theorem r_iform (a : Int) (K : XV → Prop) : (quietGo TI0 80 (callI TI0 80 20) 72 [.int .i64 a] K) = (bif bif decide (a < 1) then true else !decide (a < 1) then bif bif decide (a < 1) then true else decide (a > 41) then K (.int .i64 0) else bif decide (a ≤ 16)
 then K (.int .i64 1) else bif decide (a ≤ 24) then K (.int .i64 2) else bif decide (a = 25) then K (.int .i64 3) else bif decide (a ≤ 30) then K (.int .i64 4) else
 bif decide (a ≤ 33) then K (.int .i64 5) else bif decide (a ≤ 39) then K (.int .i64 6) else bif decide (a = 40) then K (.int .i64 7) else K (.int .i64 8)
else False)
 := by kernel_rfl
theorem r_ihd (a : Int) (K : XV → Prop) : (quietGo TI0 80 (callI TI0 80 20) 74 [.int .i64 a] K) = (bif bif decide (a ≥ 1) then decide (a ≥ 1) else true then K (.bool (bif decide (a ≥ 1) then decide (a ≤ 4) else false)) else False) := by kernel_rfl
theorem r_iha (a : Int) (K : XV → Prop) : (quietGo TI0 80 (callI TI0 80 20) 75 [.int .i64 a] K) = (bif bif decide (a = 1) then true else !decide (a = 1) then bif bif bif decide (a = 1) then true else decide (a = 2) then true else !bif decide (a = 1) then true
 else decide (a = 2) then bif bif bif bif decide (a = 1) then true else decide (a = 2) then true else decide (a = 4) then true else !bif bif decide (a = 1) then true
 else decide (a = 2) then true else decide (a = 4) then bif bif bif bif bif decide (a = 1) then true else decide (a = 2) then true else decide (a = 4) then true else
 decide (a = 5) then true else !bif bif bif decide (a = 1) then true else decide (a = 2) then true else decide (a = 4) then true else decide (a = 5) then K (.bool
 (bif bif bif bif decide (a = 1) then true else decide (a = 2) then true else decide (a = 4) then true else decide (a = 5) then true else decide (a = 6))) else False
 else False else False
else False) := by kernel_rfl
theorem r_ihb (a : Int) (K : XV → Prop) : (quietGo TI0 80 (callI TI0 80 20) 76 [.int .i64 a] K) = (bif bif decide (a = 1) then true else !decide (a = 1) then bif bif bif decide (a = 1) then true else decide (a = 5) then true else !bif decide (a = 1) then true
 else decide (a = 5) then K (.bool (bif bif decide (a = 1) then true else decide (a = 5) then true else decide (a = 6))) else False
else False) := by kernel_rfl
theorem r_ihi (a : Int) (K : XV → Prop) : (quietGo TI0 80 (callI TI0 80 20) 77 [.int .i64 a] K) = (bif bif decide (a ≥ 2) then decide (a ≥ 2) else true then K (.bool (bif decide (a ≥ 2) then decide (a ≤ 7) else false)) else False) := by kernel_rfl
theorem r_iwi (n : Int) (t : Bool) (lo hi : Int) (K : XV → Prop) : (quietGo TI0 80 (callI TI0 80 20) 73 [.int .i64 n, .bool t, .int .i64 lo, .int .i64 hi] K) = (bif !t then K (.bool (decide (n = 0))) else bif bif decide (n ≥ lo) then decide (n ≥ lo) else true then K (.bool (bif decide (n ≥ lo) then decide (n ≤ hi) else
 false)) else False) := by kernel_rfl
theorem r_irt (i : Ins) (K : XV → Prop) : (quietGo TI1 80 (callI TI1 80 20) 53 [e_Ins i] K) = (bif bif decide (Ins.op i = 22) then true else !decide (Ins.op i = 22) then bif bif bif decide (Ins.op i = 22) then true else decide (Ins.op i = 23) then true
 else !bif decide (Ins.op i = 22) then true else decide (Ins.op i = 23) then bif bif bif decide (Ins.op i = 22) then true else decide (Ins.op i = 23) then true else
 decide (Ins.op i = 24) then bif bif decide (formI (Ins.op i) > 0) then decide (formI (Ins.op i) > 0) else true then bif bif bif decide (formI (Ins.op i) > 0) then
 inW (Ins.d i) (hasD (formI (Ins.op i))) (0 : Int) (15 : Int) else false then bif decide (formI (Ins.op i) > 0) then inW (Ins.d i) (hasD (formI (Ins.op i))) (0 :
 Int) (15 : Int) else false else true then bif bif bif bif decide (formI (Ins.op i) > 0) then inW (Ins.d i) (hasD (formI (Ins.op i))) (0 : Int) (15 : Int) else false
 then inW (Ins.a i) (hasA (formI (Ins.op i))) (0 : Int) (15 : Int) else false then bif bif decide (formI (Ins.op i) > 0) then inW (Ins.d i) (hasD (formI (Ins.op i)))
 (0 : Int) (15 : Int) else false then inW (Ins.a i) (hasA (formI (Ins.op i))) (0 : Int) (15 : Int) else false else true then bif bif bif bif bif decide (formI (Ins.op
 i) > 0) then inW (Ins.d i) (hasD (formI (Ins.op i))) (0 : Int) (15 : Int) else false then inW (Ins.a i) (hasA (formI (Ins.op i))) (0 : Int) (15 : Int) else false
 then inW (Ins.b i) (hasB (formI (Ins.op i))) (0 : Int) (15 : Int) else false then bif bif bif decide (formI (Ins.op i) > 0) then inW (Ins.d i) (hasD (formI (Ins.op
 i))) (0 : Int) (15 : Int) else false then inW (Ins.a i) (hasA (formI (Ins.op i))) (0 : Int) (15 : Int) else false then inW (Ins.b i) (hasB (formI (Ins.op i))) (0
 : Int) (15 : Int) else false else true then K (.bool (bif bif bif bif decide (formI (Ins.op i) > 0) then inW (Ins.d i) (hasD (formI (Ins.op i))) (0 : Int) (15 :
 Int) else false then inW (Ins.a i) (hasA (formI (Ins.op i))) (0 : Int) (15 : Int) else false then inW (Ins.b i) (hasB (formI (Ins.op i))) (0 : Int) (15 : Int) else
 false then inW (Ins.imm i) (hasI (formI (Ins.op i))) (0 : Int) (31 : Int) else false)) else False else False else False else False else bif bif decide (formI (Ins.op
 i) > 0) then decide (formI (Ins.op i) > 0) else true then bif bif bif decide (formI (Ins.op i) > 0) then inW (Ins.d i) (hasD (formI (Ins.op i))) (0 : Int) (15 :
 Int) else false then bif decide (formI (Ins.op i) > 0) then inW (Ins.d i) (hasD (formI (Ins.op i))) (0 : Int) (15 : Int) else false else true then bif bif bif bif
 decide (formI (Ins.op i) > 0) then inW (Ins.d i) (hasD (formI (Ins.op i))) (0 : Int) (15 : Int) else false then inW (Ins.a i) (hasA (formI (Ins.op i))) (0 : Int)
 (15 : Int) else false then bif bif decide (formI (Ins.op i) > 0) then inW (Ins.d i) (hasD (formI (Ins.op i))) (0 : Int) (15 : Int) else false then inW (Ins.a i)
 (hasA (formI (Ins.op i))) (0 : Int) (15 : Int) else false else true then bif bif bif bif bif decide (formI (Ins.op i) > 0) then inW (Ins.d i) (hasD (formI (Ins.op
 i))) (0 : Int) (15 : Int) else false then inW (Ins.a i) (hasA (formI (Ins.op i))) (0 : Int) (15 : Int) else false then inW (Ins.b i) (hasB (formI (Ins.op i))) (0
 : Int) (15 : Int) else false then bif bif bif decide (formI (Ins.op i) > 0) then inW (Ins.d i) (hasD (formI (Ins.op i))) (0 : Int) (15 : Int) else false then inW
 (Ins.a i) (hasA (formI (Ins.op i))) (0 : Int) (15 : Int) else false then inW (Ins.b i) (hasB (formI (Ins.op i))) (0 : Int) (15 : Int) else false else true then K
 (.bool (bif bif bif bif decide (formI (Ins.op i) > 0) then inW (Ins.d i) (hasD (formI (Ins.op i))) (0 : Int) (15 : Int) else false then inW (Ins.a i) (hasA (formI
 (Ins.op i))) (0 : Int) (15 : Int) else false then inW (Ins.b i) (hasB (formI (Ins.op i))) (0 : Int) (15 : Int) else false then inW (Ins.imm i) (hasI (formI (Ins.op
 i))) (-8192 : Int) (8191 : Int) else false)) else False else False else False else False else False
else False) := by kernel_rfl
theorem h1_ok {f : Int → Bool} {n : Nat} (h : ∀ a, Pure Try.prog n (cons [.int .i64 a]) (con (.bool (f a)))) : SpOk Try.prog (n, h1Sp f) := by
  intro args nd v ha hn
  simp only [h1Sp] at ha
  split at ha <;> simp only [Option.some.injEq, Prod.mk.injEq, reduceCtorEq] at ha
  obtain ⟨hnd, rfl⟩ := ha
  exact h _
theorem sp_iform : SpOk Try.prog (72, formSp) := by
  intro args nd v ha hn
  simp only [formSp] at ha
  split at ha <;> simp only [Option.some.injEq, Prod.mk.injEq, reduceCtorEq] at ha
  obtain ⟨hnd, rfl⟩ := ha
  clear hnd hn
  rename_i a
  refine pureX (u := 80) (k := 20) mix TI0ok ?_
  rw [r_iform]
  unfold formI
  simp only [g1, g2, g3, g4, g5, g6, g7, allN_true, cond_true, Nat.le_refl, decide_true, pl_eq]
  by_cases h0 : a < 1 ∨ a > 41
  · rw [if_pos h0]
    rcases h0 with h | h <;> simp [h]
  · rw [if_neg h0]
    have h1 : ¬ a < 1 := fun h => h0 (.inl h)
    have h2 : ¬ a > 41 := fun h => h0 (.inr h)
    simp only [h1, h2, decide_false, cond_false]
    by_cases h3 : a ≤ 16
    · simp [h3]
    by_cases h4 : a ≤ 24
    · simp [h3, h4]
    by_cases h5 : a = 25
    · simp [h5]
    by_cases h6 : a ≤ 30
    · simp [h3, h4, h5, h6]
    by_cases h7 : a ≤ 33
    · simp [h3, h4, h5, h6, h7]
    by_cases h8 : a ≤ 39
    · simp [h3, h4, h5, h6, h7, h8]
    by_cases h9 : a = 40
    · simp [h9]
    simp [h3, h4, h5, h6, h7, h8, h9]
theorem sp_ihd : SpOk Try.prog (74, h1Sp hasD) := h1_ok fun a => by
  refine pureX (u := 80) (k := 20) mix TI0ok ?_
  rw [r_ihd]
  simp only [g1, g2, g3, g4, g5, g6, g7, allN_true, cond_true, Nat.le_refl, decide_true, pl_eq, bor, band]
  refine conB ?_
  unfold hasD
  rw [Bool.eq_iff_iff]
  simp
  omega
theorem sp_iha : SpOk Try.prog (75, h1Sp hasA) := h1_ok fun a => by
  refine pureX (u := 80) (k := 20) mix TI0ok ?_
  rw [r_iha]
  simp only [g1, g2, g3, g4, g5, g6, g7, allN_true, cond_true, Nat.le_refl, decide_true, pl_eq]
  simp only [bor, band]
  refine conB ?_
  unfold hasA
  rw [Bool.eq_iff_iff]
  simp
  omega
theorem sp_ihb : SpOk Try.prog (76, h1Sp hasB) := h1_ok fun a => by
  refine pureX (u := 80) (k := 20) mix TI0ok ?_
  rw [r_ihb]
  simp only [g1, g2, g3, g4, g5, g6, g7, allN_true, cond_true, Nat.le_refl, decide_true, pl_eq]
  simp only [bor, band]
  refine conB ?_
  unfold hasB
  rw [Bool.eq_iff_iff]
  simp
  omega
theorem sp_ihi : SpOk Try.prog (77, h1Sp hasI) := h1_ok fun a => by
  refine pureX (u := 80) (k := 20) mix TI0ok ?_
  rw [r_ihi]
  simp only [g1, g2, g3, g4, g5, g6, g7, allN_true, cond_true, Nat.le_refl, decide_true, pl_eq]
  simp only [bor, band]
  refine conB ?_
  unfold hasI
  rw [Bool.eq_iff_iff]
  simp
  omega
theorem sp_iwi : SpOk Try.prog (73, inwSp) := by
  intro args nd v ha hn
  simp only [inwSp] at ha
  split at ha <;> simp only [Option.some.injEq, Prod.mk.injEq, reduceCtorEq] at ha
  obtain ⟨hnd, rfl⟩ := ha
  clear hnd hn
  rename_i n t lo hi
  refine pureX (u := 80) (k := 20) mix TI0ok ?_
  rw [r_iwi]
  cases t with
  | false => exact conB (by rfl)
  | true =>
    simp only [g1, g2, g3, g4, g5, g6, g7, allN_true, cond_true, Nat.le_refl, decide_true, pl_eq, Bool.not_true]
    simp only [bor, band]
    refine conB ?_
    unfold inW
    rw [Bool.eq_iff_iff]
    simp
theorem reg_in {n : Int} {t : Bool} : regB n t = inW n t 0 15 := by
  unfold regB inW
  rw [Bool.eq_iff_iff]
  cases t <;> simp
  omega
theorem TI1ok : TabOk Try.prog TI1 := mkT2_ok clok_isa ⟨sp_iform, sp_ihd, sp_iha, sp_ihb, sp_ihi, sp_iwi, trivial⟩ trivial trivial trivial
theorem form_ge {a : Int} : 0 ≤ formI a := by
  unfold formI
  repeat' split
  all_goals omega
theorem sp_irt : SpOk Try.prog (53, rtSp) := by
  intro args nd v ha hn
  simp only [rtSp] at ha
  split at ha <;> simp only [Option.some.injEq, Prod.mk.injEq, reduceCtorEq] at ha
  obtain ⟨hnd, rfl⟩ := ha
  clear hnd hn
  rename_i op d a b m
  refine pureX (u := 80) (k := 20) mix TI1ok ?_
  refine Eq.mpr (r_irt ⟨op, d, a, b, m⟩ _) ?_
  simp only [g1, g2, g3, g4, g5, g6, g7, allN_true, cond_true, Nat.le_refl, decide_true, pl_eq]
  simp only [bor, band]
  unfold rightIns
  dsimp only
  have fg := form_ge (a := op)
  generalize formI op = f at *
  simp only [reg_in]
  refine cnd2 (fun h => conB ?_) (fun h => conB ?_) <;> simp only [Bool.or_eq_true, Bool.or_eq_false_iff, decide_eq_true_eq, decide_eq_false_iff_not] at h
  · have h' : op = 22 ∨ op = 23 ∨ op = 24 := by omega
    rw [if_pos h']
    have e0 : decide (f > 0) = decide (¬ f = 0) := decide_eq_decide.2 (by omega)
    have e1 : inW m (hasI f) 0 31 = ((hasI f || decide (m = 0)) && decide (0 ≤ m ∧ m ≤ 31)) := by
      unfold inW
      rw [Bool.eq_iff_iff]
      cases hasI f <;> simp
      omega
    rw [e0, e1]
    simp only [Bool.and_assoc]
  · have h' : ¬ (op = 22 ∨ op = 23 ∨ op = 24) := by omega
    rw [if_neg h']
    have e0 : decide (f > 0) = decide (¬ f = 0) := decide_eq_decide.2 (by omega)
    have e1 : inW m (hasI f) (-8192) 8191 = ((hasI f || decide (m = 0)) && decide (-8192 ≤ m ∧ m ≤ 8191)) := by
      unfold inW
      rw [Bool.eq_iff_iff]
      cases hasI f <;> simp
      omega
    rw [e0, e1]
    simp only [Bool.and_assoc]
theorem r_im0 (l : List Ins) (r : XV) : (goQ Try.prog TI2 [(.tmp 4)] r (.run c_slices_IndexFunc_Ins_Ins) [] ⟨envX 0 [e_row 5 e_Ins l, .clo 52 []], [], 0⟩) = (LoopAt (Ok Try.prog (Tab.q TI2)) c_slices_IndexFunc_Ins_Ins_l1 (XSt.mk [(8, .int .i64 0), (7, .int .i64 (↑(List.length l) : Int)), (4, .int .i64 0), (0, e_row
 5 e_Ins l), (1, .clo 52 [])] [] 0) [Frm.blk 0, Frm.seq c_slices_IndexFunc_Ins_Ins_p1] (finQR [AR.tmp 4] r)) := by kernel_rfl
theorem r_im1 (l : List Ins) (i : Nat) (r : XV) (A : XSt → Prop) : (goQ Try.prog TI2 [(.tmp 4)] r (.run c_slices_IndexFunc_Ins_Ins_l1) [.lp c_slices_IndexFunc_Ins_Ins_l1 A, .blk 0, .seq c_slices_IndexFunc_Ins_Ins_p1] ⟨[(0, e_row 5 e_Ins l), (1, .clo 52 []), (8, .int .i64 i), (7, .int .i64 l.length)], [], 0⟩) = (bif decide ((↑i : Int) < (↑(List.length l) : Int)) then bif decide ((↑i : Int) < (↑(List.length l) : Int)) then bif !rightIns (ix l i) then ResLe (.int .i64
 (↑i : Int)) r else A (XSt.mk [(8, .int .i64 (IntKind.wrap .i64 ((↑i : Int) + (1 : Int)))), (0, e_row 5 e_Ins l), (1, .clo 52 []), (7, .int .i64 (↑(List.length l)
 : Int))] [] 0) else False
else ResLe (.int .i64 (-1 : Int)) r) := by kernel_rfl
theorem r_it0 (p : Prog) (r : XV) : (goQ Try.prog TI2 [(.tmp 2)] r (.run c_image_Targets) [] ⟨envX 0 [e_Prog p], [], 0⟩) = (LoopAt (Ok Try.prog (Tab.q TI2)) c_image_Targets_l1 (XSt.mk [(10, .int .i64 0), (9, .int .i64 (↑(List.length (Prog.code p)) : Int)), (8, e_row 5 e_Ins (Prog.code
 p)), (2, .int .i64 0), (1, .ptr 0 [] 0)] [(0, some (e_Prog p))] 1) [Frm.blk 0, Frm.seq c_image_Targets_p1] (finQR [AR.tmp 2] r)) := by kernel_rfl
theorem r_it1 (p : Prog) (i : Nat) (r : XV) (A : XSt → Prop) : (goQ Try.prog TI2 [(.tmp 2)] r (.run c_image_Targets_l1) [.lp c_image_Targets_l1 A, .blk 0, .seq c_image_Targets_p1] ⟨[(10, .int .i64 i), (9, .int .i64 p.code.length), (8, e_row 5 e_Ins p.code), (1, .ptr 0 [] 0)], [(0, some (e_Prog p))], 1⟩) = (bif decide ((↑i : Int) < (↑(List.length (Prog.code p)) : Int)) then bif decide ((↑i : Int) < (↑(List.length (Prog.code p)) : Int)) then bif decide ((↑i : Int)
 < (↑(List.length (Prog.code p)) : Int)) then bif decide ((↑i : Int) < (↑(List.length (Prog.code p)) : Int)) then bif bif decide (formI (Ins.op (ix (Prog.code p)
 i)) = 6) then true else !decide (formI (Ins.op (ix (Prog.code p) i)) = 6) then bif bif bif decide (formI (Ins.op (ix (Prog.code p) i)) = 6) then true else decide
 (formI (Ins.op (ix (Prog.code p) i)) = 7) then true else !bif decide (formI (Ins.op (ix (Prog.code p) i)) = 6) then true else decide (formI (Ins.op (ix (Prog.code
 p) i)) = 7) then bif bif bif decide (Ins.imm (ix (Prog.code p) i) < IntKind.wrap .i64 ((0 : Int) - (↑i : Int))) then true else bif bif decide (formI (Ins.op (ix
 (Prog.code p) i)) = 6) then true else decide (formI (Ins.op (ix (Prog.code p) i)) = 7) then !decide (Ins.imm (ix (Prog.code p) i) < IntKind.wrap .i64 ((0 : Int)
 - (↑i : Int))) else false then true else !bif decide (formI (Ins.op (ix (Prog.code p) i)) = 6) then true else decide (formI (Ins.op (ix (Prog.code p) i)) = 7) then
 bif bif bif decide (formI (Ins.op (ix (Prog.code p) i)) = 6) then true else decide (formI (Ins.op (ix (Prog.code p) i)) = 7) then bif decide (formI (Ins.op (ix (Prog.code
 p) i)) = 6) then true else decide (formI (Ins.op (ix (Prog.code p) i)) = 7) else true then bif bif bif decide (formI (Ins.op (ix (Prog.code p) i)) = 6) then true
 else decide (formI (Ins.op (ix (Prog.code p) i)) = 7) then bif decide (Ins.imm (ix (Prog.code p) i) < IntKind.wrap .i64 ((0 : Int) - (↑i : Int))) then true else
 decide (Ins.imm (ix (Prog.code p) i) ≥ IntKind.wrap .i64 ((↑(List.length (Prog.code p)) : Int) - (↑i : Int))) else false then ResLe (.int .i64 4) r else A (XSt.mk
 [(10, .int .i64 (IntKind.wrap .i64 ((↑i : Int) + (1 : Int)))), (9, .int .i64 (↑(List.length (Prog.code p)) : Int)), (8, e_row 5 e_Ins (Prog.code p)), (1, .ptr 0
 [] 0)] [(1, some (e_Ins (ix (Prog.code p) i))), (0, some (e_Prog p))] 2) else False else False else False else False else False else False else False
else ResLe
 (.int .i64 0) r) := by kernel_rfl
theorem TI2ok : TabOk Try.prog TI2 := mkT2_ok (clok_image.app clok_slices) ⟨sp_irt, sp_iform, trivial⟩ trivial trivial trivial
theorem sk_idi : SkOk Try.prog (78, idiS) := skOf_ok fun l h => by
  have hl : l.length ≤ 1000000000 := h
  show Pure _ _ (cons [e_row 5 e_Ins l, .clo 52 []]) (con (.int .i64 (idxF wrgF l)))
  refine pureQ mix TI2ok t_slices_IndexFunc_Ins_Ins (Nat.le_of_ble_eq_true rfl) ?_
  refine Eq.mpr (r_im0 l _) ?_
  refine loopQ mix TI2ok (fun i : Nat => ⟨[(0, e_row 5 e_Ins l), (1, .clo 52 []), (8, .int .i64 i), (7, .int .i64 l.length)], [], 0⟩) (fun i => i ≤ l.length ∧ ∀ j, j < i → wrgF (ix l j) = false) (fun i => l.length - i) 0 ⟨Nat.zero_le _, fun j hj => by omega⟩ (.of (weakX ⟨rfl, rfl, rfl, rfl, trivial⟩ trivial (Nat.le_refl _))) ?_
  rintro i ⟨hi1, hp⟩
  refine Eq.mpr (r_im1 l i _ _) ?_
  by_cases hlt : i < l.length
  · have h1 : (i : Int) < (l.length : Int) := by omega
    have w1 : IntKind.i64.wrap ((i : Int) + 1) = ((i + 1 : Nat) : Int) := wrap_i64 (by omega) (by omega)
    simp only [g1, g2, g3, g4, g5, g6, g7, allN_true, cond_true, Nat.le_refl, decide_true, pl_eq, h1, w1]
    refine cnd2 (fun h => ?_) (fun h => ?_)
    · have e : idxF wrgF l = i := idxF_some hlt h hp
      rw [e]; exact .rfl
    · refine ⟨i + 1, ⟨hlt, fun j hj => ?_⟩, .of (weakX ⟨rfl, rfl, rfl, rfl, trivial⟩ trivial (Nat.le_refl _)), by omega⟩
      by_cases hji : j = i
      · subst hji; exact h
      · exact hp j (by omega)
  · have h1 : ¬ (i : Int) < (l.length : Int) := by omega
    simp only [h1, decide_false, cond_false]
    have e : idxF wrgF l = -1 := idxF_none fun j hj => hp j (by omega)
    rw [e]; exact .rfl
theorem tgt_eq {p : Prog} {i : Nat} (h : i < p.code.length) (hr : rightIns (ix p.code i) = true) : tgtOk p i = jmpOk p i := by
  have him : decide (formI (ix p.code i).op = 6) || decide (formI (ix p.code i).op = 7) = true → -8192 ≤ (ix p.code i).imm ∧ (ix p.code i).imm ≤ 8191 := fun hc => by
    simp only [rightIns, Bool.and_eq_true] at hr
    obtain ⟨_, _, _, _, _, h5⟩ := hr
    split at h5 <;> simp at h5 <;> omega
  unfold tgtOk targetF jmpOk
  rw [Bool.eq_iff_iff]
  cases hc : (decide (formI (ix p.code i).op = 6) || decide (formI (ix p.code i).op = 7)) with
  | false => simp
  | true =>
    have := him (by simpa using hc)
    split <;> simp at * <;> omega
theorem tgs_eq {p : Prog} (h : allN (fun n => rightIns (ix p.code n)) p.code.length = true) : tgsOk p = jmpsF p := by
  unfold tgsOk jmpsF
  rw [Bool.eq_iff_iff, allN_iff, allN_iff]
  have h := allN_iff.1 h
  exact ⟨fun g i hi => by rw [← tgt_eq hi (h i hi)]; exact g i hi, fun g i hi => by rw [tgt_eq hi (h i hi)]; exact g i hi⟩
theorem g8 (a b : Bool) : (a || b && !a || !b) = true := by cases a <;> cases b <;> rfl
theorem sk_imt : SkOk Try.prog (56, imtS) := skOf_ok fun p hw => by
  have hw : p.wf := hw
  have hl := hw.1.2
  refine pureQ mix TI2ok t_image_Targets (Nat.le_of_ble_eq_true rfl) ?_
  refine Eq.mpr (r_it0 p _) ?_
  refine loopQ mix TI2ok (fun i : Nat => ⟨[(10, .int .i64 i), (9, .int .i64 p.code.length), (8, e_row 5 e_Ins p.code), (1, .ptr 0 [] 0)], [(0, some (e_Prog p))], 1⟩) (fun i => i ≤ p.code.length ∧ ∀ j, j < i → jmpOk p j = true) (fun i => p.code.length - i) 0 ⟨Nat.zero_le _, fun j hj => by omega⟩ (.of (weakX ⟨rfl, rfl, rfl, rfl, trivial⟩ ⟨rfl, trivial⟩ (Nat.le_refl _))) ?_
  rintro i ⟨hi, hp⟩
  refine Eq.mpr (r_it1 p i _ _) ?_
  by_cases hlt : i < p.code.length
  · have h1 : (i : Int) < (p.code.length : Int) := by omega
    have w1 : IntKind.i64.wrap ((i : Int) + 1) = ((i + 1 : Nat) : Int) := wrap_i64 (by omega) (by omega)
    have w2 : IntKind.i64.wrap (0 - (i : Int)) = -(i : Int) := by rw [wrap_i64 (by omega) (by omega)]; omega
    have w3 : IntKind.i64.wrap ((p.code.length : Int) - i) = (p.code.length : Int) - i := wrap_i64 (by omega) (by omega)
    have te : jmpOk p i = !((decide (formI (ix p.code i).op = 6) || decide (formI (ix p.code i).op = 7)) && (decide ((ix p.code i).imm < -(i : Int)) || decide ((ix p.code i).imm ≥ (p.code.length : Int) - i))) := rfl
    simp only [g1, g2, g3, g4, g5, g6, g7, allN_true, cond_true, Nat.le_refl, decide_true, pl_eq, h1, w1, w2, w3]
    simp only [bor, band]
    simp only [g8, cond_true]
    cases hc : (decide (formI (ix p.code i).op = 6) || decide (formI (ix p.code i).op = 7)) && (decide ((ix p.code i).imm < -(i : Int)) || decide ((ix p.code i).imm ≥ (p.code.length : Int) - i)) with
    | true =>
      rw [hc] at te
      have : jmpsF p = false := allN_false hlt te
      rw [this]
      exact .rfl
    | false =>
      rw [hc] at te
      refine ⟨i + 1, ⟨hlt, fun j hj => ?_⟩, .ofL (weakT ⟨le_is rfl, le_is rfl, le_is rfl, le_is rfl, trivial⟩ ⟨rfl, trivial⟩ (Nat.le_refl _) rfl), by omega⟩
      by_cases hji : j = i
      · subst hji; exact te
      · exact hp j (by omega)
  · have h1 : ¬ (i : Int) < (p.code.length : Int) := by omega
    simp only [h1, decide_false, cond_false]
    have : jmpsF p = true := allN_iff.2 fun j hj => hp j (by omega)
    rw [this]
    exact .rfl
theorem TI3ok : TabOk Try.prog TI3 := mkT2_ok (clok_image.app clok_slices) trivial trivial ⟨sk_idi, sk_imt, trivial⟩ trivial
theorem r_ir (p : Prog) (r : XV) : (quietGo TI3 80 (callI TI3 80 20) 27 [e_Prog p] (fun v => ResLe v r)) = (bif bif decide ((↑(List.length (Prog.code p)) : Int) ≥ 1) then decide ((↑(List.length (Prog.code p)) : Int) ≥ 1) else true then bif bif bif decide ((↑(List.length
 (Prog.code p)) : Int) ≥ 1) then decide ((↑(List.length (Prog.code p)) : Int) ≤ 2000) else false then bif decide ((↑(List.length (Prog.code p)) : Int) ≥ 1) then decide
 ((↑(List.length (Prog.code p)) : Int) ≤ 2000) else false else true then bif bif bif bif decide ((↑(List.length (Prog.code p)) : Int) ≥ 1) then decide ((↑(List.length
 (Prog.code p)) : Int) ≤ 2000) else false then decide (Prog.size p ≥ 0) else false then bif bif decide ((↑(List.length (Prog.code p)) : Int) ≥ 1) then decide ((↑(List.length
 (Prog.code p)) : Int) ≤ 2000) else false then decide (Prog.size p ≥ 0) else false else true then bif bif bif bif bif decide ((↑(List.length (Prog.code p)) : Int)
 ≥ 1) then decide ((↑(List.length (Prog.code p)) : Int) ≤ 2000) else false then decide (Prog.size p ≥ 0) else false then decide (Prog.size p ≤ 65536) else false then
 bif bif bif decide ((↑(List.length (Prog.code p)) : Int) ≥ 1) then decide ((↑(List.length (Prog.code p)) : Int) ≤ 2000) else false then decide (Prog.size p ≥ 0)
 else false then decide (Prog.size p ≤ 65536) else false else true then bif bif bif bif bif decide ((↑(List.length (Prog.code p)) : Int) ≥ 1) then decide ((↑(List.length
 (Prog.code p)) : Int) ≤ 2000) else false then decide (Prog.size p ≥ 0) else false then decide (Prog.size p ≤ 65536) else false then decide ((↑(List.length (Prog.data
 p)) : Int) ≤ Prog.size p) else false then ∃ (s : List Ins), ArgsLe [e_row 5 e_Ins (Prog.code p), .clo 52 []] [e_row 5 e_Ins s, .clo 52 []] ∧ PreIs (List.length s
 ≤ 1000000000) ∧ ∀ (y : Int), y = idxF wrgF s → bif bif bif bif bif bif decide ((↑(List.length (Prog.code p)) : Int) ≥ 1) then decide ((↑(List.length (Prog.code p))
 : Int) ≤ 2000) else false then decide (Prog.size p ≥ 0) else false then decide (Prog.size p ≤ 65536) else false then decide ((↑(List.length (Prog.data p)) : Int)
 ≤ Prog.size p) else false then !decide (y ≥ 0) else false then ∃ (s : Prog), ArgsLe [e_Prog p] [e_Prog s] ∧ PreIs (Prog.wf s) ∧ ∀ (y_1 : Int), (y_1 = if jmpsF s
 = true then (0 : Int) else (4 : Int)) → ResLe (.bool (bif bif bif bif bif bif decide ((↑(List.length (Prog.code p)) : Int) ≥ 1) then decide ((↑(List.length (Prog.code
 p)) : Int) ≤ 2000) else false then decide (Prog.size p ≥ 0) else false then decide (Prog.size p ≤ 65536) else false then decide ((↑(List.length (Prog.data p)) :
 Int) ≤ Prog.size p) else false then !decide (y ≥ 0) else false then decide (y_1 = 0) else false)) r else bif !bif bif bif bif bif decide ((↑(List.length (Prog.code
 p)) : Int) ≥ 1) then decide ((↑(List.length (Prog.code p)) : Int) ≤ 2000) else false then decide (Prog.size p ≥ 0) else false then decide (Prog.size p ≤ 65536) else
 false then decide ((↑(List.length (Prog.data p)) : Int) ≤ Prog.size p) else false then !decide (y ≥ 0) else false then ResLe (.bool false) r else False else bif
 !bif bif bif bif decide ((↑(List.length (Prog.code p)) : Int) ≥ 1) then decide ((↑(List.length (Prog.code p)) : Int) ≤ 2000) else false then decide (Prog.size p
 ≥ 0) else false then decide (Prog.size p ≤ 65536) else false then decide ((↑(List.length (Prog.data p)) : Int) ≤ Prog.size p) else false then ResLe (.bool false)
 r else False else False else False else False
else False) := by kernel_rfl
theorem sk_imr : SkOk Try.prog (27, rprS) := skOf_ok fun p hw => by
  have hw : p.wf := hw
  have hl := hw.1.2
  show Pure _ _ (cons [e_Prog p]) (con (.bool (rightProg p)))
  refine pureR (u := 80) (k := 20) mix TI3ok ?_
  refine Eq.mpr (r_ir p _) ?_
  simp only [g1, g2, g3, g4, g5, g6, g7, allN_true, cond_true, Nat.le_refl, decide_true, pl_eq]
  simp only [bor, band]
  have e : (decide ((p.code.length : Int) ≥ 1) && decide ((p.code.length : Int) ≤ 2000) && decide (p.size ≥ 0) && decide (p.size ≤ 65536) && decide ((p.data.length : Int) ≤ p.size)) = decide (1 ≤ p.code.length ∧ p.code.length ≤ 2000 ∧ 0 ≤ p.size ∧ p.size ≤ 65536 ∧ (p.data.length : Int) ≤ p.size) := by
    rw [Bool.eq_iff_iff]
    simp only [Bool.and_eq_true, decide_eq_true_eq]
    omega
  rw [e]
  unfold rightProg
  cases hsz : decide (1 ≤ p.code.length ∧ p.code.length ≤ 2000 ∧ 0 ≤ p.size ∧ p.size ≤ 65536 ∧ (p.data.length : Int) ≤ p.size) with
  | false => exact .rfl
  | true =>
  have hsz := of_decide_eq_true hsz
  refine ⟨p.code, .rfl, ⟨by show p.code.length ≤ 1000000000; omega⟩, ?_⟩
  intro y hy
  replace hy : y = idxF wrgF p.code := hy
  subst hy
  simp only [idxF_ge, Bool.true_and]
  have e2 : p.code.any wrgF = !allN (fun n => rightIns (ix p.code n)) p.code.length := by
    rw [Bool.eq_iff_iff, List.any_eq_true, Bool.not_eq_true', ← Bool.not_eq_true, allN_iff]
    constructor
    · rintro ⟨x, hx, h⟩ h2
      obtain ⟨j, hj, rfl⟩ := List.mem_iff_getElem.1 hx
      have := h2 j hj
      rw [ix_lt hj] at this
      simp [wrgF, this] at h
    · intro h
      apply Classical.byContradiction
      intro h2
      refine h fun i hi => ?_
      apply Classical.byContradiction
      intro h3
      exact h2 ⟨_, ix_mem hi, by simp [wrgF, h3]⟩
  rw [e2]
  cases hr : allN (fun n => rightIns (ix p.code n)) p.code.length with
  | false => exact .rfl
  | true =>
  refine ⟨p, .rfl, ⟨hw⟩, ?_⟩
  intro y hy
  replace hy : y = if jmpsF p then 0 else 4 := hy
  subst hy
  rw [tgs_eq hr]
  cases jmpsF p <;> exact .rfl
end Go.Proofs.Ythmlnmkbeohojaa

/- How a program begins. -/
namespace Go.Proofs.Ythmlnmkbeohojaa
open Go.Ra
set_option linter.unusedVariables false
set_option linter.unusedSimpArgs false
def TJ0 : Tab := mkT2 qq (cl_state ++ cl_seq ++ cl_ref15 ++ cl_ref1) [] [] [(27, rprS), (29, rprS)] []
def zSide : Side := ⟨fun _ => 0, fun _ => 0, ⟨0, 0, 0⟩, 0, false, 0⟩
def zStt : Stt := ⟨0, zSide, zSide, [], [], [], [], [], [], [], [], [], ⟨0, 0, 0⟩, 0, 0, 0⟩
/-- The memory that a program begins with. -/
def memF (p : Prog) : List Int := tabL p.size.toNat fun i => bif decide (i < p.data.length) then ix p.data i else 0
def startF (p : Prog) : Stt := { zStt with mem := memF p }
/-- How a program begins. -/
def firstF (p : Prog) : Stt := if rightProg p then startF p else zStt
def fstS : List XV → Option ((XV → Prop) → Prop) := skOf (fun p : Prog => [e_Prog p]) (fun p => p.wf) (fun p => firstF p) (fun y => e_Stt y)
theorem TJ0ok : TabOk Try.prog TJ0 := mkT2_ok (((clok_state.app clok_seq).app clok_ref15).app clok_ref1) trivial trivial ⟨sk_imr, sk_rpr, trivial⟩ trivial
theorem r_f1 (p : Prog) (r : XV) : (quietGo TJ0 80 (callI TJ0 80 20) 14 [e_Prog p] (fun v => ResLe v r)) = (∃ (s : Prog), ArgsLe [e_Prog p] [e_Prog s] ∧ PreIs (Prog.wf s) ∧ ∀ (y : Bool), y = rightProg s → bif !y then ResLe (.agg 92 [.int .i64 0, .agg 38 [.tab 16 1
 fun x => .int .u32 0, .tab 16 1 fun x => .int .i64 0, .agg 3 [.int .i64 0, .int .i64 0, .int .i64 0], .int .i64 0, .bool false, .int .i64 0], .agg 38 [.tab 16 1
 fun x => .int .u32 0, .tab 16 1 fun x => .int .i64 0, .agg 3 [.int .i64 0, .int .i64 0, .int .i64 0], .int .i64 0, .bool false, .int .i64 0], .row true 0 0 fun x
 => .unk, .row true 0 0 fun x => .unk, .row true 0 0 fun x => .unk, .row true 0 0 fun x => .unk, .row true 0 0 fun x => .unk, .row true 0 0 fun x => .unk, .row true
 0 0 fun x => .unk, .row true 0 0 fun x => .unk, .row true 0 0 fun x => .unk, .agg 3 [.int .i64 0, .int .i64 0, .int .i64 0], .int .i64 0, .int .i64 0, .int .i64
 0]) r else bif decide (0 ≤ Prog.size p) then bif decide (Int.toNat (Prog.size p) * 1 ≤ 140737488355328) then bif Nat.beq (Int.toNat (Prog.size p)) (Int.toNat (Prog.size
 p)) then bif decide (Int.toNat (Prog.size p) ≤ Int.toNat (Prog.size p)) then ResLe (.agg 92 [.int .i64 0, .agg 38 [.tab 16 1 fun x => .int .u32 0, .tab 16 1 fun
 x => .int .i64 0, .agg 3 [.int .i64 0, .int .i64 0, .int .i64 0], .int .i64 0, .bool false, .int .i64 0], .agg 38 [.tab 16 1 fun x => .int .u32 0, .tab 16 1 fun
 x => .int .i64 0, .agg 3 [.int .i64 0, .int .i64 0, .int .i64 0], .int .i64 0, .bool false, .int .i64 0], .row true 0 0 fun x => .unk, .row true 0 0 fun x => .unk,
 .row true 0 0 fun x => .unk, .row true 0 0 fun x => .unk, .row true 0 0 fun x => .unk, .row true 0 0 fun x => .unk, .row true 0 0 fun x => .unk, .row false 1 (Int.toNat
 (Prog.size p)) fun i => .int .u8 (bif decide (i < List.length (Prog.data p)) then ix (Prog.data p) i else (0 : Int)), .row true 0 0 fun x => .unk, .agg 3 [.int .i64
 0, .int .i64 0, .int .i64 0], .int .i64 0, .int .i64 0, .int .i64 0]) r else False else False else False else False) := by kernel_rfl
theorem lq_z {α : Type} [Inhabited α] {es : Nat} {en : α → XV} : leQ (con (.row true 0 0 fun x => .unk)) (con (e_row es en [])) := lq_lit0
theorem z_lq : leQ (con (.agg 92 [.int .i64 0, .agg 38 [.tab 16 1 fun x => .int .u32 0, .tab 16 1 fun x => .int .i64 0, .agg 3 [.int .i64 0, .int .i64 0, .int .i64 0], .int .i64 0, .bool false, .int .i64 0], .agg 38 [.tab 16 1 fun x => .int .u32 0, .tab 16 1 fun x => .int .i64 0, .agg 3 [.int .i64 0, .int .i64 0, .int .i64 0], .int .i64 0, .bool false, .int .i64 0], .row true 0 0 fun x => .unk, .row true 0 0 fun x => .unk, .row true 0 0 fun x => .unk, .row true 0 0 fun x => .unk, .row true 0 0 fun x => .unk, .row true 0 0 fun x => .unk, .row true 0 0 fun x => .unk, .row true 0 0 fun x => .unk, .row true 0 0 fun x => .unk, .agg 3 [.int .i64 0, .int .i64 0, .int .i64 0], .int .i64 0, .int .i64 0, .int .i64 0])) (con (e_Stt zStt)) :=
  lq_agg (lqs_cons (.refl _) (lqs_cons (.refl _) (lqs_cons (.refl _) (lqs_cons lq_z (lqs_cons lq_z (lqs_cons lq_z (lqs_cons lq_z (lqs_cons lq_z (lqs_cons lq_z (lqs_cons lq_z (lqs_cons lq_z (lqs_cons lq_z (lqs_cons (.refl _) (lqs_cons (.refl _) (lqs_cons (.refl _) (lqs_cons (.refl _) lqs_nil))))))))))))))))
theorem mem_len {p : Prog} : (memF p).length = p.size.toNat := tabL_len
theorem m_lq {p : Prog} : leQ (con (.agg 92 [.int .i64 0, .agg 38 [.tab 16 1 fun x => .int .u32 0, .tab 16 1 fun x => .int .i64 0, .agg 3 [.int .i64 0, .int .i64 0, .int .i64 0], .int .i64 0, .bool false, .int .i64 0], .agg 38 [.tab 16 1 fun x => .int .u32 0, .tab 16 1 fun x => .int .i64 0, .agg 3 [.int .i64 0, .int .i64 0, .int .i64 0], .int .i64 0, .bool false, .int .i64 0], .row true 0 0 fun x => .unk, .row true 0 0 fun x => .unk, .row true 0 0 fun x => .unk, .row true 0 0 fun x => .unk, .row true 0 0 fun x => .unk, .row true 0 0 fun x => .unk, .row true 0 0 fun x => .unk, .row false 1 p.size.toNat fun i => .int .u8 (bif decide (i < p.data.length) then ix p.data i else 0), .row true 0 0 fun x => .unk, .agg 3 [.int .i64 0, .int .i64 0, .int .i64 0], .int .i64 0, .int .i64 0, .int .i64 0])) (con (e_Stt (startF p))) :=
  lq_agg (lqs_cons (.refl _) (lqs_cons (.refl _) (lqs_cons (.refl _) (lqs_cons lq_z (lqs_cons lq_z (lqs_cons lq_z (lqs_cons lq_z (lqs_cons lq_z (lqs_cons lq_z (lqs_cons lq_z (lqs_cons (lq_erow mem_len.symm (.inl rfl) fun i hi => by
    show leQ _ (con (e_u8 (ix (memF p) i)))
    unfold memF
    rw [ix_tabL hi]
    exact .refl _) (lqs_cons lq_z (lqs_cons (.refl _) (lqs_cons (.refl _) (lqs_cons (.refl _) (lqs_cons (.refl _) lqs_nil))))))))))))))))
theorem sk_first : SkOk Try.prog (14, fstS) := skOf_ok fun p hw => by
  have hw : p.wf := hw
  show Pure _ _ (cons [e_Prog p]) (con (e_Stt (firstF p)))
  refine pureR (u := 80) (k := 20) mix TJ0ok ?_
  refine Eq.mpr (r_f1 p _) ?_
  refine ⟨p, .rfl, ⟨hw⟩, ?_⟩
  intro y hy
  replace hy : y = rightProg p := hy
  subst hy
  unfold firstF
  cases hr : rightProg p with
  | false => exact ⟨z_lq⟩
  | true =>
    have hr' := hr
    simp only [rightProg, Bool.and_eq_true, decide_eq_true_eq] at hr'
    have h1 : (0 : Int) ≤ p.size := by omega
    have h2 : p.size.toNat * 1 ≤ 140737488355328 := by omega
    simp only [g1, g2, g3, g4, g5, g6, g7, allN_true, cond_true, Nat.le_refl, decide_true, pl_eq, h1, h2, Nat.beq_refl, Bool.not_true]
    exact ⟨m_lq⟩
end Go.Proofs.Ythmlnmkbeohojaa

/- When two states are one. -/
namespace Go.Proofs.Ythmlnmkbeohojaa
open Go.Ra
set_option linter.unusedVariables false
set_option linter.unusedSimpArgs false
def sideB (x y : Side) : Bool := allN (fun i => decide (x.regs i = y.regs i)) 16 && (allN (fun i => decide (x.ready i = y.ready i)) 16 && ((decide (x.pos.block = y.pos.block) && (decide (x.pos.index = y.pos.index) && (decide (x.pos.base = y.pos.base) && true))) && (decide (x.wait = y.wait) && ((x.halted == y.halted) && (decide (x.done = y.done) && true)))))
def trpB (x y : Trp) : Bool := decide (x.kind = y.kind) && (decide (x.step = y.step) && (decide (x.pc = y.pc) && true))
def hdB (a b : Stt) : Bool := decide (a.cycle = b.cycle) && (sideB a.a b.a && (sideB a.e b.e && (trpB a.trap b.trap && (decide (a.lats = b.lats) && (decide (a.picks = b.picks) && (decide (a.tags = b.tags) && (decide (a.mem = b.mem) && (decide ((a.ldq.length : Int) = b.ldq.length) && (decide ((a.saq.length : Int) = b.saq.length) && (decide ((a.table.length : Int) = b.table.length) && decide ((a.writes.length : Int) = b.writes.length)))))))))))
/-- Are two states one? -/
def sameF (a b : Stt) : Bool := hdB a b && (decide (a.ldq = b.ldq) && (decide (a.saq = b.saq) && (decide (a.table = b.table) && (decide (a.writes = b.writes) && (decide (a.sdq = b.sdq) && (decide (a.aeq = b.aeq) && (decide (a.abq = b.abq) && decide (a.ebq = b.ebq))))))))
def samS : List XV → Option ((XV → Prop) → Prop) := skOf (fun p : Stt × Stt => [e_Stt p.1, e_Stt p.2]) (fun p => p.1.ok ∧ p.2.ok) (fun p => sameF p.1 p.2) (fun y => .bool y)
theorem sideB_fold (x y : Side) : (allN (fun i => decide (x.regs i = y.regs i)) 16 && (allN (fun i => decide (x.ready i = y.ready i)) 16 && ((decide (x.pos.block = y.pos.block) && (decide (x.pos.index = y.pos.index) && (decide (x.pos.base = y.pos.base) && true))) && (decide (x.wait = y.wait) && ((x.halted == y.halted) && (decide (x.done = y.done) && true)))))) = sideB x y := rfl
theorem trpB_fold (x y : Trp) : (decide (x.kind = y.kind) && (decide (x.step = y.step) && (decide (x.pc = y.pc) && true))) = trpB x y := rfl
theorem slotB (x y : Slot) : (decide (x.tag = y.tag) && ((x.full == y.full) && (decide (x.val = y.val) && true))) = decide (x = y) := by
  obtain ⟨a, b, c⟩ := x
  obtain ⟨a', b', c'⟩ := y
  rw [Bool.eq_iff_iff]; simp
theorem entB (x y : Entry) : (decide (x.addr = y.addr) && (decide (x.size = y.size) && (decide (x.step = y.step) && ((x.known == y.known) && (decide (x.val = y.val) && true))))) = decide (x = y) := by
  obtain ⟨a, b, c, d, e⟩ := x
  obtain ⟨a', b', c', d', e'⟩ := y
  rw [Bool.eq_iff_iff]; simp
theorem reqB (x y : Req) : ((x.store == y.store) && (decide (x.op = y.op) && (decide (x.addr = y.addr) && (decide (x.size = y.size) && (decide (x.val = y.val) && (decide (x.left = y.left) && (decide (x.reg = y.reg) && (decide (x.tag = y.tag) && true)))))))) = decide (x = y) := by
  obtain ⟨a, b, c, d, e, f, g, h⟩ := x
  obtain ⟨a', b', c', d', e', f', g', h'⟩ := y
  rw [Bool.eq_iff_iff]; simp
theorem wrB (x y : Wr) : (decide (x.addr = y.addr) && (decide (x.size = y.size) && (decide (x.val = y.val) && true))) = decide (x = y) := by
  obtain ⟨a, b, c⟩ := x
  obtain ⟨a', b', c'⟩ := y
  rw [Bool.eq_iff_iff]; simp
theorem sameF_iff {a b : Stt} : sameF a b = true ↔ hdB a b = true ∧ a.ldq = b.ldq ∧ a.saq = b.saq ∧ a.table = b.table ∧ a.writes = b.writes ∧ a.sdq = b.sdq ∧ a.aeq = b.aeq ∧ a.abq = b.abq ∧ a.ebq = b.ebq := by
  simp only [sameF, Bool.and_eq_true, decide_eq_true_eq]
theorem sideB_self (x : Side) : sideB x x = true := by simp [sideB, allN_true]
theorem trpB_self (x : Trp) : trpB x x = true := by simp [trpB]
theorem sameF_self (a : Stt) : sameF a a = true := by
  rw [sameF_iff]
  refine ⟨?_, rfl, rfl, rfl, rfl, rfl, rfl, rfl, rfl⟩
  simp [hdB, sideB_self, trpB_self]
end Go.Proofs.Ythmlnmkbeohojaa

/- Same, as package state tells: rows that are one. -/
namespace Go.Proofs.Ythmlnmkbeohojaa
open Go.Ra
set_option linter.unusedVariables false
set_option linter.unusedSimpArgs false
def TE0 : Tab := mkT2 qq cl_slices [] [] [] []
def eqSlotS : List XV → Option ((XV → Prop) → Prop) := skOf (fun p : List Slot × List Slot => [e_row 3 e_Slot p.1, e_row 3 e_Slot p.2]) (fun p => p.1.length ≤ 1000000) (fun p => decide (p.1 = p.2)) (fun y => .bool y)
def eqSlotSt (l m : List Slot) (i : Nat) : XSt := ⟨[(0, e_row 3 e_Slot l), (1, e_row 3 e_Slot m), (13, .int .i64 i), (12, .int .i64 l.length)], [], 0⟩
def eqWS : List XV → Option ((XV → Prop) → Prop) := skOf (fun p : List Int × List Int => [e_row 1 e_u32 p.1, e_row 1 e_u32 p.2]) (fun p => p.1.length ≤ 1000000) (fun p => decide (p.1 = p.2)) (fun y => .bool y)
def eqWSt (l m : List Int) (i : Nat) : XSt := ⟨[(0, e_row 1 e_u32 l), (1, e_row 1 e_u32 m), (13, .int .i64 i), (12, .int .i64 l.length)], [], 0⟩
def eqBS : List XV → Option ((XV → Prop) → Prop) := skOf (fun p : List Bool × List Bool => [e_row 1 e_bool p.1, e_row 1 e_bool p.2]) (fun p => p.1.length ≤ 1000000) (fun p => decide (p.1 = p.2)) (fun y => .bool y)
def eqBSt (l m : List Bool) (i : Nat) : XSt := ⟨[(0, e_row 1 e_bool l), (1, e_row 1 e_bool m), (13, .int .i64 i), (12, .int .i64 l.length)], [], 0⟩
def eqEntryS : List XV → Option ((XV → Prop) → Prop) := skOf (fun p : List Entry × List Entry => [e_row 5 e_Entry p.1, e_row 5 e_Entry p.2]) (fun p => p.1.length ≤ 1000000) (fun p => decide (p.1 = p.2)) (fun y => .bool y)
def eqEntrySt (l m : List Entry) (i : Nat) : XSt := ⟨[(0, e_row 5 e_Entry l), (1, e_row 5 e_Entry m), (13, .int .i64 i), (12, .int .i64 l.length)], [], 0⟩
def eqReqS : List XV → Option ((XV → Prop) → Prop) := skOf (fun p : List Req × List Req => [e_row 8 e_Req p.1, e_row 8 e_Req p.2]) (fun p => p.1.length ≤ 1000000) (fun p => decide (p.1 = p.2)) (fun y => .bool y)
def eqReqSt (l m : List Req) (i : Nat) : XSt := ⟨[(0, e_row 8 e_Req l), (1, e_row 8 e_Req m), (13, .int .i64 i), (12, .int .i64 l.length)], [], 0⟩
def eqYS : List XV → Option ((XV → Prop) → Prop) := skOf (fun p : List Int × List Int => [e_row 1 e_u8 p.1, e_row 1 e_u8 p.2]) (fun p => p.1.length ≤ 1000000) (fun p => decide (p.1 = p.2)) (fun y => .bool y)
def eqYSt (l m : List Int) (i : Nat) : XSt := ⟨[(0, e_row 1 e_u8 l), (1, e_row 1 e_u8 m), (13, .int .i64 i), (12, .int .i64 l.length)], [], 0⟩
def eqWrS : List XV → Option ((XV → Prop) → Prop) := skOf (fun p : List Wr × List Wr => [e_row 3 e_Wr p.1, e_row 3 e_Wr p.2]) (fun p => p.1.length ≤ 1000000) (fun p => decide (p.1 = p.2)) (fun y => .bool y)
def eqWrSt (l m : List Wr) (i : Nat) : XSt := ⟨[(0, e_row 3 e_Wr l), (1, e_row 3 e_Wr m), (13, .int .i64 i), (12, .int .i64 l.length)], [], 0⟩
def TE1 : Tab := mkT2 qq cl_state [] [] [(40, eqSlotS), (41, eqWS), (42, eqBS), (43, eqEntryS), (44, eqReqS), (45, eqYS), (46, eqWrS)] []
theorem TE0ok : TabOk Try.prog TE0 := mkT2_ok clok_slices trivial trivial trivial trivial
theorem r_eqSlot0 (l m : List Slot) (r : XV) : (goQ Try.prog TE0 [(.tmp 4)] r (.run c_slices_Equal_Slot_Slot) [] ⟨envX 0 [e_row 3 e_Slot l, e_row 3 e_Slot m], [], 0⟩) = (bif decide ¬(↑(List.length l) : Int) = (↑(List.length m) : Int) then ResLe (.bool false) r
else LoopAt (Ok Try.prog (Tab.q TE0)) c_slices_Equal_Slot_Slot_l1
 (XSt.mk [(13, .int .i64 0), (12, .int .i64 (↑(List.length l) : Int)), (4, .bool false), (0, e_row 3 e_Slot l), (1, e_row 3 e_Slot m)] [] 0) [Frm.blk 0, Frm.seq c_slices_Equal_Slot_Slot_p1]
 (finQR [AR.tmp 4] r)) := by kernel_rfl
theorem r_eqSlot1 (l m : List Slot) (i : Nat) (r : XV) (A : XSt → Prop) : (goQ Try.prog TE0 [(.tmp 4)] r (.run c_slices_Equal_Slot_Slot_l1) [.lp c_slices_Equal_Slot_Slot_l1 A, .blk 0, .seq c_slices_Equal_Slot_Slot_p1] (eqSlotSt l m i)) = (bif decide ((↑i : Int) < (↑(List.length l) : Int)) then bif decide ((↑i : Int) < (↑(List.length l) : Int)) then bif decide ((↑i : Int) < (↑(List.length m) :
 Int)) then bif !(decide (Slot.tag (ix l i) = Slot.tag (ix m i)) && (Slot.full (ix l i) == Slot.full (ix m i) && (decide (Slot.val (ix l i) = Slot.val (ix m i)) &&
 true))) then ResLe (.bool false) r else A (XSt.mk [(13, .int .i64 (IntKind.wrap .i64 ((↑i : Int) + (1 : Int)))), (0, e_row 3 e_Slot l), (1, e_row 3 e_Slot m), (12,
 .int .i64 (↑(List.length l) : Int))] [] 0) else False else False
else ResLe (.bool true) r) := by kernel_rfl
theorem sk_eqSlot : SkOk Try.prog (40, eqSlotS) := skOf_ok fun ⟨l, m⟩ h => by
  have hl : l.length ≤ 1000000 := h
  show Pure _ _ (cons [e_row 3 e_Slot l, e_row 3 e_Slot m]) (con (.bool (decide (l = m))))
  refine pureQ mix TE0ok t_slices_Equal_Slot_Slot (Nat.le_of_ble_eq_true rfl) ?_
  refine Eq.mpr (r_eqSlot0 l m _) ?_
  by_cases hn : l.length = m.length
  · have hn' : ¬ ¬ (l.length : Int) = (m.length : Int) := by omega
    simp only [hn', decide_false, cond_false]
    refine loopQ mix TE0ok (fun i : Nat => eqSlotSt l m i) (fun i => i ≤ l.length ∧ ∀ j, j < i → ix l j = ix m j) (fun i => l.length - i) 0 ⟨Nat.zero_le _, fun j hj => by omega⟩ (.of (weakX ⟨rfl, rfl, rfl, rfl, trivial⟩ trivial (Nat.le_refl _))) ?_
    rintro i ⟨hi, hp⟩
    refine Eq.mpr (r_eqSlot1 l m i _ _) ?_
    by_cases hlt : i < l.length
    · have h1 : (i : Int) < (l.length : Int) := by omega
      have h2 : (i : Int) < (m.length : Int) := by omega
      have w1 : IntKind.i64.wrap ((i : Int) + 1) = ((i + 1 : Nat) : Int) := wrap_i64 (by omega) (by omega)
      simp only [g1, g2, g3, g4, g5, g6, g7, allN_true, cond_true, Nat.le_refl, decide_true, pl_eq, h1, h2, w1]
      · skip
        simp only [slotB]
        refine cnd2 (fun h => ?_) (fun h => ?_) <;> simp only [Bool.not_eq_true', Bool.not_eq_false', decide_eq_false_iff_not, decide_eq_true_eq] at h
        · rw [decide_eq_false fun e => h (by rw [e])]
          exact .rfl
        · refine ⟨i + 1, ⟨hlt, fun j hj => ?_⟩, .of (weakX ⟨rfl, rfl, rfl, rfl, trivial⟩ trivial (Nat.le_refl _)), by omega⟩
          by_cases hji : j = i
          · subst hji; exact h
          · exact hp j (by omega)
    · have h1 : ¬ (i : Int) < (l.length : Int) := by omega
      simp only [h1, decide_false, cond_false]
      rw [decide_eq_true (ix_ext hn fun j hj => hp j (by omega))]
      exact .rfl
  · have hn' : ¬ (l.length : Int) = (m.length : Int) := by omega
    simp only [hn', not_false_eq_true, decide_true, cond_true]
    rw [decide_eq_false fun e => hn (by rw [e])]
    exact .rfl
theorem r_eqW0 (l m : List Int) (r : XV) : (goQ Try.prog TE0 [(.tmp 4)] r (.run c_slices_Equal_uint32_uint32) [] ⟨envX 0 [e_row 1 e_u32 l, e_row 1 e_u32 m], [], 0⟩) = (bif decide ¬(↑(List.length l) : Int) = (↑(List.length m) : Int) then ResLe (.bool false) r
else LoopAt (Ok Try.prog (Tab.q TE0)) c_slices_Equal_uint32_uint32_l1
 (XSt.mk [(13, .int .i64 0), (12, .int .i64 (↑(List.length l) : Int)), (4, .bool false), (0, e_row 1 e_u32 l), (1, e_row 1 e_u32 m)] [] 0) [Frm.blk 0, Frm.seq c_slices_Equal_uint32_uint32_p1]
 (finQR [AR.tmp 4] r)) := by kernel_rfl
theorem r_eqW1 (l m : List Int) (i : Nat) (r : XV) (A : XSt → Prop) : (goQ Try.prog TE0 [(.tmp 4)] r (.run c_slices_Equal_uint32_uint32_l1) [.lp c_slices_Equal_uint32_uint32_l1 A, .blk 0, .seq c_slices_Equal_uint32_uint32_p1] (eqWSt l m i)) = (bif decide ((↑i : Int) < (↑(List.length l) : Int)) then bif decide ((↑i : Int) < (↑(List.length l) : Int)) then bif decide ((↑i : Int) < (↑(List.length m) :
 Int)) then bif decide ¬ix l i = ix m i then ResLe (.bool false) r else A (XSt.mk [(13, .int .i64 (IntKind.wrap .i64 ((↑i : Int) + (1 : Int)))), (0, e_row 1 e_u32
 l), (1, e_row 1 e_u32 m), (12, .int .i64 (↑(List.length l) : Int))] [] 0) else False else False
else ResLe (.bool true) r) := by kernel_rfl
theorem sk_eqW : SkOk Try.prog (41, eqWS) := skOf_ok fun ⟨l, m⟩ h => by
  have hl : l.length ≤ 1000000 := h
  show Pure _ _ (cons [e_row 1 e_u32 l, e_row 1 e_u32 m]) (con (.bool (decide (l = m))))
  refine pureQ mix TE0ok t_slices_Equal_uint32_uint32 (Nat.le_of_ble_eq_true rfl) ?_
  refine Eq.mpr (r_eqW0 l m _) ?_
  by_cases hn : l.length = m.length
  · have hn' : ¬ ¬ (l.length : Int) = (m.length : Int) := by omega
    simp only [hn', decide_false, cond_false]
    refine loopQ mix TE0ok (fun i : Nat => eqWSt l m i) (fun i => i ≤ l.length ∧ ∀ j, j < i → ix l j = ix m j) (fun i => l.length - i) 0 ⟨Nat.zero_le _, fun j hj => by omega⟩ (.of (weakX ⟨rfl, rfl, rfl, rfl, trivial⟩ trivial (Nat.le_refl _))) ?_
    rintro i ⟨hi, hp⟩
    refine Eq.mpr (r_eqW1 l m i _ _) ?_
    by_cases hlt : i < l.length
    · have h1 : (i : Int) < (l.length : Int) := by omega
      have h2 : (i : Int) < (m.length : Int) := by omega
      have w1 : IntKind.i64.wrap ((i : Int) + 1) = ((i + 1 : Nat) : Int) := wrap_i64 (by omega) (by omega)
      simp only [g1, g2, g3, g4, g5, g6, g7, allN_true, cond_true, Nat.le_refl, decide_true, pl_eq, h1, h2, w1]
      · skip
        refine cnd2 (fun h => ?_) (fun h => ?_) <;> simp only [decide_eq_true_eq, decide_eq_false_iff_not, Classical.not_not] at h
        · rw [decide_eq_false fun e => h (by rw [e])]
          exact .rfl
        · refine ⟨i + 1, ⟨hlt, fun j hj => ?_⟩, .of (weakX ⟨rfl, rfl, rfl, rfl, trivial⟩ trivial (Nat.le_refl _)), by omega⟩
          by_cases hji : j = i
          · subst hji; exact h
          · exact hp j (by omega)
    · have h1 : ¬ (i : Int) < (l.length : Int) := by omega
      simp only [h1, decide_false, cond_false]
      rw [decide_eq_true (ix_ext hn fun j hj => hp j (by omega))]
      exact .rfl
  · have hn' : ¬ (l.length : Int) = (m.length : Int) := by omega
    simp only [hn', not_false_eq_true, decide_true, cond_true]
    rw [decide_eq_false fun e => hn (by rw [e])]
    exact .rfl
theorem r_eqB0 (l m : List Bool) (r : XV) : (goQ Try.prog TE0 [(.tmp 4)] r (.run c_slices_Equal_bool_bool) [] ⟨envX 0 [e_row 1 e_bool l, e_row 1 e_bool m], [], 0⟩) = (bif decide ¬(↑(List.length l) : Int) = (↑(List.length m) : Int) then ResLe (.bool false) r
else LoopAt (Ok Try.prog (Tab.q TE0)) c_slices_Equal_bool_bool_l1
 (XSt.mk [(13, .int .i64 0), (12, .int .i64 (↑(List.length l) : Int)), (4, .bool false), (0, e_row 1 e_bool l), (1, e_row 1 e_bool m)] [] 0) [Frm.blk 0, Frm.seq c_slices_Equal_bool_bool_p1]
 (finQR [AR.tmp 4] r)) := by kernel_rfl
theorem r_eqB1 (l m : List Bool) (i : Nat) (r : XV) (A : XSt → Prop) : (goQ Try.prog TE0 [(.tmp 4)] r (.run c_slices_Equal_bool_bool_l1) [.lp c_slices_Equal_bool_bool_l1 A, .blk 0, .seq c_slices_Equal_bool_bool_p1] (eqBSt l m i)) = (bif decide ((↑i : Int) < (↑(List.length l) : Int)) then bif decide ((↑i : Int) < (↑(List.length l) : Int)) then bif decide ((↑i : Int) < (↑(List.length m) :
 Int)) then bif !ix l i == ix m i then ResLe (.bool false) r else A (XSt.mk [(13, .int .i64 (IntKind.wrap .i64 ((↑i : Int) + (1 : Int)))), (0, e_row 1 e_bool l),
 (1, e_row 1 e_bool m), (12, .int .i64 (↑(List.length l) : Int))] [] 0) else False else False
else ResLe (.bool true) r) := by kernel_rfl
theorem sk_eqB : SkOk Try.prog (42, eqBS) := skOf_ok fun ⟨l, m⟩ h => by
  have hl : l.length ≤ 1000000 := h
  show Pure _ _ (cons [e_row 1 e_bool l, e_row 1 e_bool m]) (con (.bool (decide (l = m))))
  refine pureQ mix TE0ok t_slices_Equal_bool_bool (Nat.le_of_ble_eq_true rfl) ?_
  refine Eq.mpr (r_eqB0 l m _) ?_
  by_cases hn : l.length = m.length
  · have hn' : ¬ ¬ (l.length : Int) = (m.length : Int) := by omega
    simp only [hn', decide_false, cond_false]
    refine loopQ mix TE0ok (fun i : Nat => eqBSt l m i) (fun i => i ≤ l.length ∧ ∀ j, j < i → ix l j = ix m j) (fun i => l.length - i) 0 ⟨Nat.zero_le _, fun j hj => by omega⟩ (.of (weakX ⟨rfl, rfl, rfl, rfl, trivial⟩ trivial (Nat.le_refl _))) ?_
    rintro i ⟨hi, hp⟩
    refine Eq.mpr (r_eqB1 l m i _ _) ?_
    by_cases hlt : i < l.length
    · have h1 : (i : Int) < (l.length : Int) := by omega
      have h2 : (i : Int) < (m.length : Int) := by omega
      have w1 : IntKind.i64.wrap ((i : Int) + 1) = ((i + 1 : Nat) : Int) := wrap_i64 (by omega) (by omega)
      simp only [g1, g2, g3, g4, g5, g6, g7, allN_true, cond_true, Nat.le_refl, decide_true, pl_eq, h1, h2, w1]
      · skip
        refine cnd2 (fun h => ?_) (fun h => ?_) <;> simp only [Bool.not_eq_true', Bool.not_eq_false', beq_eq_false_iff_ne, beq_iff_eq, ne_eq] at h
        · rw [decide_eq_false fun e => h (by rw [e])]
          exact .rfl
        · refine ⟨i + 1, ⟨hlt, fun j hj => ?_⟩, .of (weakX ⟨rfl, rfl, rfl, rfl, trivial⟩ trivial (Nat.le_refl _)), by omega⟩
          by_cases hji : j = i
          · subst hji; exact h
          · exact hp j (by omega)
    · have h1 : ¬ (i : Int) < (l.length : Int) := by omega
      simp only [h1, decide_false, cond_false]
      rw [decide_eq_true (ix_ext hn fun j hj => hp j (by omega))]
      exact .rfl
  · have hn' : ¬ (l.length : Int) = (m.length : Int) := by omega
    simp only [hn', not_false_eq_true, decide_true, cond_true]
    rw [decide_eq_false fun e => hn (by rw [e])]
    exact .rfl
theorem r_eqEntry0 (l m : List Entry) (r : XV) : (goQ Try.prog TE0 [(.tmp 4)] r (.run c_slices_Equal_Entry_Entry) [] ⟨envX 0 [e_row 5 e_Entry l, e_row 5 e_Entry m], [], 0⟩) = (bif decide ¬(↑(List.length l) : Int) = (↑(List.length m) : Int) then ResLe (.bool false) r
else LoopAt (Ok Try.prog (Tab.q TE0)) c_slices_Equal_Entry_Entry_l1
 (XSt.mk [(13, .int .i64 0), (12, .int .i64 (↑(List.length l) : Int)), (4, .bool false), (0, e_row 5 e_Entry l), (1, e_row 5 e_Entry m)] [] 0) [Frm.blk 0, Frm.seq
 c_slices_Equal_Entry_Entry_p1] (finQR [AR.tmp 4] r)) := by kernel_rfl
theorem r_eqEntry1 (l m : List Entry) (i : Nat) (r : XV) (A : XSt → Prop) : (goQ Try.prog TE0 [(.tmp 4)] r (.run c_slices_Equal_Entry_Entry_l1) [.lp c_slices_Equal_Entry_Entry_l1 A, .blk 0, .seq c_slices_Equal_Entry_Entry_p1] (eqEntrySt l m i)) = (bif decide ((↑i : Int) < (↑(List.length l) : Int)) then bif decide ((↑i : Int) < (↑(List.length l) : Int)) then bif decide ((↑i : Int) < (↑(List.length m) :
 Int)) then bif !(decide (Entry.addr (ix l i) = Entry.addr (ix m i)) && (decide (Entry.size (ix l i) = Entry.size (ix m i)) && (decide (Entry.step (ix l i) = Entry.step
 (ix m i)) && (Entry.known (ix l i) == Entry.known (ix m i) && (decide (Entry.val (ix l i) = Entry.val (ix m i)) && true))))) then ResLe (.bool false) r else A (XSt.mk
 [(13, .int .i64 (IntKind.wrap .i64 ((↑i : Int) + (1 : Int)))), (0, e_row 5 e_Entry l), (1, e_row 5 e_Entry m), (12, .int .i64 (↑(List.length l) : Int))] [] 0) else
 False else False
else ResLe (.bool true) r) := by kernel_rfl
theorem sk_eqEntry : SkOk Try.prog (43, eqEntryS) := skOf_ok fun ⟨l, m⟩ h => by
  have hl : l.length ≤ 1000000 := h
  show Pure _ _ (cons [e_row 5 e_Entry l, e_row 5 e_Entry m]) (con (.bool (decide (l = m))))
  refine pureQ mix TE0ok t_slices_Equal_Entry_Entry (Nat.le_of_ble_eq_true rfl) ?_
  refine Eq.mpr (r_eqEntry0 l m _) ?_
  by_cases hn : l.length = m.length
  · have hn' : ¬ ¬ (l.length : Int) = (m.length : Int) := by omega
    simp only [hn', decide_false, cond_false]
    refine loopQ mix TE0ok (fun i : Nat => eqEntrySt l m i) (fun i => i ≤ l.length ∧ ∀ j, j < i → ix l j = ix m j) (fun i => l.length - i) 0 ⟨Nat.zero_le _, fun j hj => by omega⟩ (.of (weakX ⟨rfl, rfl, rfl, rfl, trivial⟩ trivial (Nat.le_refl _))) ?_
    rintro i ⟨hi, hp⟩
    refine Eq.mpr (r_eqEntry1 l m i _ _) ?_
    by_cases hlt : i < l.length
    · have h1 : (i : Int) < (l.length : Int) := by omega
      have h2 : (i : Int) < (m.length : Int) := by omega
      have w1 : IntKind.i64.wrap ((i : Int) + 1) = ((i + 1 : Nat) : Int) := wrap_i64 (by omega) (by omega)
      simp only [g1, g2, g3, g4, g5, g6, g7, allN_true, cond_true, Nat.le_refl, decide_true, pl_eq, h1, h2, w1]
      · skip
        simp only [entB]
        refine cnd2 (fun h => ?_) (fun h => ?_) <;> simp only [Bool.not_eq_true', Bool.not_eq_false', decide_eq_false_iff_not, decide_eq_true_eq] at h
        · rw [decide_eq_false fun e => h (by rw [e])]
          exact .rfl
        · refine ⟨i + 1, ⟨hlt, fun j hj => ?_⟩, .of (weakX ⟨rfl, rfl, rfl, rfl, trivial⟩ trivial (Nat.le_refl _)), by omega⟩
          by_cases hji : j = i
          · subst hji; exact h
          · exact hp j (by omega)
    · have h1 : ¬ (i : Int) < (l.length : Int) := by omega
      simp only [h1, decide_false, cond_false]
      rw [decide_eq_true (ix_ext hn fun j hj => hp j (by omega))]
      exact .rfl
  · have hn' : ¬ (l.length : Int) = (m.length : Int) := by omega
    simp only [hn', not_false_eq_true, decide_true, cond_true]
    rw [decide_eq_false fun e => hn (by rw [e])]
    exact .rfl
theorem r_eqReq0 (l m : List Req) (r : XV) : (goQ Try.prog TE0 [(.tmp 4)] r (.run c_slices_Equal_Request_Request) [] ⟨envX 0 [e_row 8 e_Req l, e_row 8 e_Req m], [], 0⟩) = (bif decide ¬(↑(List.length l) : Int) = (↑(List.length m) : Int) then ResLe (.bool false) r
else LoopAt (Ok Try.prog (Tab.q TE0)) c_slices_Equal_Request_Request_l1
 (XSt.mk [(13, .int .i64 0), (12, .int .i64 (↑(List.length l) : Int)), (4, .bool false), (0, e_row 8 e_Req l), (1, e_row 8 e_Req m)] [] 0) [Frm.blk 0, Frm.seq c_slices_Equal_Request_Request_p1]
 (finQR [AR.tmp 4] r)) := by kernel_rfl
theorem r_eqReq1 (l m : List Req) (i : Nat) (r : XV) (A : XSt → Prop) : (goQ Try.prog TE0 [(.tmp 4)] r (.run c_slices_Equal_Request_Request_l1) [.lp c_slices_Equal_Request_Request_l1 A, .blk 0, .seq c_slices_Equal_Request_Request_p1] (eqReqSt l m i)) = (bif decide ((↑i : Int) < (↑(List.length l) : Int)) then bif decide ((↑i : Int) < (↑(List.length l) : Int)) then bif decide ((↑i : Int) < (↑(List.length m) :
 Int)) then bif !(Req.store (ix l i) == Req.store (ix m i) && (decide (Req.op (ix l i) = Req.op (ix m i)) && (decide (Req.addr (ix l i) = Req.addr (ix m i)) && (decide
 (Req.size (ix l i) = Req.size (ix m i)) && (decide (Req.val (ix l i) = Req.val (ix m i)) && (decide (Req.left (ix l i) = Req.left (ix m i)) && (decide (Req.reg (ix
 l i) = Req.reg (ix m i)) && (decide (Req.tag (ix l i) = Req.tag (ix m i)) && true)))))))) then ResLe (.bool false) r else A (XSt.mk [(13, .int .i64 (IntKind.wrap
 .i64 ((↑i : Int) + (1 : Int)))), (0, e_row 8 e_Req l), (1, e_row 8 e_Req m), (12, .int .i64 (↑(List.length l) : Int))] [] 0) else False else False
else ResLe (.bool
 true) r) := by kernel_rfl
theorem sk_eqReq : SkOk Try.prog (44, eqReqS) := skOf_ok fun ⟨l, m⟩ h => by
  have hl : l.length ≤ 1000000 := h
  show Pure _ _ (cons [e_row 8 e_Req l, e_row 8 e_Req m]) (con (.bool (decide (l = m))))
  refine pureQ mix TE0ok t_slices_Equal_Request_Request (Nat.le_of_ble_eq_true rfl) ?_
  refine Eq.mpr (r_eqReq0 l m _) ?_
  by_cases hn : l.length = m.length
  · have hn' : ¬ ¬ (l.length : Int) = (m.length : Int) := by omega
    simp only [hn', decide_false, cond_false]
    refine loopQ mix TE0ok (fun i : Nat => eqReqSt l m i) (fun i => i ≤ l.length ∧ ∀ j, j < i → ix l j = ix m j) (fun i => l.length - i) 0 ⟨Nat.zero_le _, fun j hj => by omega⟩ (.of (weakX ⟨rfl, rfl, rfl, rfl, trivial⟩ trivial (Nat.le_refl _))) ?_
    rintro i ⟨hi, hp⟩
    refine Eq.mpr (r_eqReq1 l m i _ _) ?_
    by_cases hlt : i < l.length
    · have h1 : (i : Int) < (l.length : Int) := by omega
      have h2 : (i : Int) < (m.length : Int) := by omega
      have w1 : IntKind.i64.wrap ((i : Int) + 1) = ((i + 1 : Nat) : Int) := wrap_i64 (by omega) (by omega)
      simp only [g1, g2, g3, g4, g5, g6, g7, allN_true, cond_true, Nat.le_refl, decide_true, pl_eq, h1, h2, w1]
      · skip
        simp only [reqB]
        refine cnd2 (fun h => ?_) (fun h => ?_) <;> simp only [Bool.not_eq_true', Bool.not_eq_false', decide_eq_false_iff_not, decide_eq_true_eq] at h
        · rw [decide_eq_false fun e => h (by rw [e])]
          exact .rfl
        · refine ⟨i + 1, ⟨hlt, fun j hj => ?_⟩, .of (weakX ⟨rfl, rfl, rfl, rfl, trivial⟩ trivial (Nat.le_refl _)), by omega⟩
          by_cases hji : j = i
          · subst hji; exact h
          · exact hp j (by omega)
    · have h1 : ¬ (i : Int) < (l.length : Int) := by omega
      simp only [h1, decide_false, cond_false]
      rw [decide_eq_true (ix_ext hn fun j hj => hp j (by omega))]
      exact .rfl
  · have hn' : ¬ (l.length : Int) = (m.length : Int) := by omega
    simp only [hn', not_false_eq_true, decide_true, cond_true]
    rw [decide_eq_false fun e => hn (by rw [e])]
    exact .rfl
theorem r_eqY0 (l m : List Int) (r : XV) : (goQ Try.prog TE0 [(.tmp 4)] r (.run c_slices_Equal_byte_byte) [] ⟨envX 0 [e_row 1 e_u8 l, e_row 1 e_u8 m], [], 0⟩) = (bif decide ¬(↑(List.length l) : Int) = (↑(List.length m) : Int) then ResLe (.bool false) r
else LoopAt (Ok Try.prog (Tab.q TE0)) c_slices_Equal_byte_byte_l1
 (XSt.mk [(13, .int .i64 0), (12, .int .i64 (↑(List.length l) : Int)), (4, .bool false), (0, e_row 1 e_u8 l), (1, e_row 1 e_u8 m)] [] 0) [Frm.blk 0, Frm.seq c_slices_Equal_byte_byte_p1]
 (finQR [AR.tmp 4] r)) := by kernel_rfl
theorem r_eqY1 (l m : List Int) (i : Nat) (r : XV) (A : XSt → Prop) : (goQ Try.prog TE0 [(.tmp 4)] r (.run c_slices_Equal_byte_byte_l1) [.lp c_slices_Equal_byte_byte_l1 A, .blk 0, .seq c_slices_Equal_byte_byte_p1] (eqYSt l m i)) = (bif decide ((↑i : Int) < (↑(List.length l) : Int)) then bif decide ((↑i : Int) < (↑(List.length l) : Int)) then bif decide ((↑i : Int) < (↑(List.length m) :
 Int)) then bif decide ¬ix l i = ix m i then ResLe (.bool false) r else A (XSt.mk [(13, .int .i64 (IntKind.wrap .i64 ((↑i : Int) + (1 : Int)))), (0, e_row 1 e_u8
 l), (1, e_row 1 e_u8 m), (12, .int .i64 (↑(List.length l) : Int))] [] 0) else False else False
else ResLe (.bool true) r) := by kernel_rfl
theorem sk_eqY : SkOk Try.prog (45, eqYS) := skOf_ok fun ⟨l, m⟩ h => by
  have hl : l.length ≤ 1000000 := h
  show Pure _ _ (cons [e_row 1 e_u8 l, e_row 1 e_u8 m]) (con (.bool (decide (l = m))))
  refine pureQ mix TE0ok t_slices_Equal_byte_byte (Nat.le_of_ble_eq_true rfl) ?_
  refine Eq.mpr (r_eqY0 l m _) ?_
  by_cases hn : l.length = m.length
  · have hn' : ¬ ¬ (l.length : Int) = (m.length : Int) := by omega
    simp only [hn', decide_false, cond_false]
    refine loopQ mix TE0ok (fun i : Nat => eqYSt l m i) (fun i => i ≤ l.length ∧ ∀ j, j < i → ix l j = ix m j) (fun i => l.length - i) 0 ⟨Nat.zero_le _, fun j hj => by omega⟩ (.of (weakX ⟨rfl, rfl, rfl, rfl, trivial⟩ trivial (Nat.le_refl _))) ?_
    rintro i ⟨hi, hp⟩
    refine Eq.mpr (r_eqY1 l m i _ _) ?_
    by_cases hlt : i < l.length
    · have h1 : (i : Int) < (l.length : Int) := by omega
      have h2 : (i : Int) < (m.length : Int) := by omega
      have w1 : IntKind.i64.wrap ((i : Int) + 1) = ((i + 1 : Nat) : Int) := wrap_i64 (by omega) (by omega)
      simp only [g1, g2, g3, g4, g5, g6, g7, allN_true, cond_true, Nat.le_refl, decide_true, pl_eq, h1, h2, w1]
      · skip
        refine cnd2 (fun h => ?_) (fun h => ?_) <;> simp only [decide_eq_true_eq, decide_eq_false_iff_not, Classical.not_not] at h
        · rw [decide_eq_false fun e => h (by rw [e])]
          exact .rfl
        · refine ⟨i + 1, ⟨hlt, fun j hj => ?_⟩, .of (weakX ⟨rfl, rfl, rfl, rfl, trivial⟩ trivial (Nat.le_refl _)), by omega⟩
          by_cases hji : j = i
          · subst hji; exact h
          · exact hp j (by omega)
    · have h1 : ¬ (i : Int) < (l.length : Int) := by omega
      simp only [h1, decide_false, cond_false]
      rw [decide_eq_true (ix_ext hn fun j hj => hp j (by omega))]
      exact .rfl
  · have hn' : ¬ (l.length : Int) = (m.length : Int) := by omega
    simp only [hn', not_false_eq_true, decide_true, cond_true]
    rw [decide_eq_false fun e => hn (by rw [e])]
    exact .rfl
theorem r_eqWr0 (l m : List Wr) (r : XV) : (goQ Try.prog TE0 [(.tmp 4)] r (.run c_slices_Equal_Write_Write) [] ⟨envX 0 [e_row 3 e_Wr l, e_row 3 e_Wr m], [], 0⟩) = (bif decide ¬(↑(List.length l) : Int) = (↑(List.length m) : Int) then ResLe (.bool false) r
else LoopAt (Ok Try.prog (Tab.q TE0)) c_slices_Equal_Write_Write_l1
 (XSt.mk [(13, .int .i64 0), (12, .int .i64 (↑(List.length l) : Int)), (4, .bool false), (0, e_row 3 e_Wr l), (1, e_row 3 e_Wr m)] [] 0) [Frm.blk 0, Frm.seq c_slices_Equal_Write_Write_p1]
 (finQR [AR.tmp 4] r)) := by kernel_rfl
theorem r_eqWr1 (l m : List Wr) (i : Nat) (r : XV) (A : XSt → Prop) : (goQ Try.prog TE0 [(.tmp 4)] r (.run c_slices_Equal_Write_Write_l1) [.lp c_slices_Equal_Write_Write_l1 A, .blk 0, .seq c_slices_Equal_Write_Write_p1] (eqWrSt l m i)) = (bif decide ((↑i : Int) < (↑(List.length l) : Int)) then bif decide ((↑i : Int) < (↑(List.length l) : Int)) then bif decide ((↑i : Int) < (↑(List.length m) :
 Int)) then bif !(decide (Wr.addr (ix l i) = Wr.addr (ix m i)) && (decide (Wr.size (ix l i) = Wr.size (ix m i)) && (decide (Wr.val (ix l i) = Wr.val (ix m i)) &&
 true))) then ResLe (.bool false) r else A (XSt.mk [(13, .int .i64 (IntKind.wrap .i64 ((↑i : Int) + (1 : Int)))), (0, e_row 3 e_Wr l), (1, e_row 3 e_Wr m), (12, .int
 .i64 (↑(List.length l) : Int))] [] 0) else False else False
else ResLe (.bool true) r) := by kernel_rfl
theorem sk_eqWr : SkOk Try.prog (46, eqWrS) := skOf_ok fun ⟨l, m⟩ h => by
  have hl : l.length ≤ 1000000 := h
  show Pure _ _ (cons [e_row 3 e_Wr l, e_row 3 e_Wr m]) (con (.bool (decide (l = m))))
  refine pureQ mix TE0ok t_slices_Equal_Write_Write (Nat.le_of_ble_eq_true rfl) ?_
  refine Eq.mpr (r_eqWr0 l m _) ?_
  by_cases hn : l.length = m.length
  · have hn' : ¬ ¬ (l.length : Int) = (m.length : Int) := by omega
    simp only [hn', decide_false, cond_false]
    refine loopQ mix TE0ok (fun i : Nat => eqWrSt l m i) (fun i => i ≤ l.length ∧ ∀ j, j < i → ix l j = ix m j) (fun i => l.length - i) 0 ⟨Nat.zero_le _, fun j hj => by omega⟩ (.of (weakX ⟨rfl, rfl, rfl, rfl, trivial⟩ trivial (Nat.le_refl _))) ?_
    rintro i ⟨hi, hp⟩
    refine Eq.mpr (r_eqWr1 l m i _ _) ?_
    by_cases hlt : i < l.length
    · have h1 : (i : Int) < (l.length : Int) := by omega
      have h2 : (i : Int) < (m.length : Int) := by omega
      have w1 : IntKind.i64.wrap ((i : Int) + 1) = ((i + 1 : Nat) : Int) := wrap_i64 (by omega) (by omega)
      simp only [g1, g2, g3, g4, g5, g6, g7, allN_true, cond_true, Nat.le_refl, decide_true, pl_eq, h1, h2, w1]
      · skip
        simp only [wrB]
        refine cnd2 (fun h => ?_) (fun h => ?_) <;> simp only [Bool.not_eq_true', Bool.not_eq_false', decide_eq_false_iff_not, decide_eq_true_eq] at h
        · rw [decide_eq_false fun e => h (by rw [e])]
          exact .rfl
        · refine ⟨i + 1, ⟨hlt, fun j hj => ?_⟩, .of (weakX ⟨rfl, rfl, rfl, rfl, trivial⟩ trivial (Nat.le_refl _)), by omega⟩
          by_cases hji : j = i
          · subst hji; exact h
          · exact hp j (by omega)
    · have h1 : ¬ (i : Int) < (l.length : Int) := by omega
      simp only [h1, decide_false, cond_false]
      rw [decide_eq_true (ix_ext hn fun j hj => hp j (by omega))]
      exact .rfl
  · have hn' : ¬ (l.length : Int) = (m.length : Int) := by omega
    simp only [hn', not_false_eq_true, decide_true, cond_true]
    rw [decide_eq_false fun e => hn (by rw [e])]
    exact .rfl
theorem TE1ok : TabOk Try.prog TE1 := mkT2_ok clok_state trivial trivial ⟨sk_eqSlot, sk_eqW, sk_eqB, sk_eqEntry, sk_eqReq, sk_eqY, sk_eqWr, trivial⟩ trivial
theorem r_sm (a b : Stt) (r : XV) : (quietGo TE1 80 (callI TE1 80 20) 18 [e_Stt a, e_Stt b] (fun v => ResLe v r)) = (bif bif decide (Stt.cycle a = Stt.cycle b) then decide (Stt.cycle a = Stt.cycle b) else true then bif bif bif decide (Stt.cycle a = Stt.cycle b) then allN (fun
 i => decide (Side.regs (Stt.a a) i = Side.regs (Stt.a b) i)) 16 && (allN (fun i => decide (Side.ready (Stt.a a) i = Side.ready (Stt.a b) i)) 16 && (decide (Pos.block
 (Side.pos (Stt.a a)) = Pos.block (Side.pos (Stt.a b))) && (decide (Pos.index (Side.pos (Stt.a a)) = Pos.index (Side.pos (Stt.a b))) && (decide (Pos.base (Side.pos
 (Stt.a a)) = Pos.base (Side.pos (Stt.a b))) && true)) && (decide (Side.wait (Stt.a a) = Side.wait (Stt.a b)) && (Side.halted (Stt.a a) == Side.halted (Stt.a b) &&
 (decide (Side.done (Stt.a a) = Side.done (Stt.a b)) && true))))) else false then bif decide (Stt.cycle a = Stt.cycle b) then allN (fun i => decide (Side.regs (Stt.a
 a) i = Side.regs (Stt.a b) i)) 16 && (allN (fun i => decide (Side.ready (Stt.a a) i = Side.ready (Stt.a b) i)) 16 && (decide (Pos.block (Side.pos (Stt.a a)) = Pos.block
 (Side.pos (Stt.a b))) && (decide (Pos.index (Side.pos (Stt.a a)) = Pos.index (Side.pos (Stt.a b))) && (decide (Pos.base (Side.pos (Stt.a a)) = Pos.base (Side.pos
 (Stt.a b))) && true)) && (decide (Side.wait (Stt.a a) = Side.wait (Stt.a b)) && (Side.halted (Stt.a a) == Side.halted (Stt.a b) && (decide (Side.done (Stt.a a) =
 Side.done (Stt.a b)) && true))))) else false else true then bif bif bif bif decide (Stt.cycle a = Stt.cycle b) then allN (fun i => decide (Side.regs (Stt.a a) i
 = Side.regs (Stt.a b) i)) 16 && (allN (fun i => decide (Side.ready (Stt.a a) i = Side.ready (Stt.a b) i)) 16 && (decide (Pos.block (Side.pos (Stt.a a)) = Pos.block
 (Side.pos (Stt.a b))) && (decide (Pos.index (Side.pos (Stt.a a)) = Pos.index (Side.pos (Stt.a b))) && (decide (Pos.base (Side.pos (Stt.a a)) = Pos.base (Side.pos
 (Stt.a b))) && true)) && (decide (Side.wait (Stt.a a) = Side.wait (Stt.a b)) && (Side.halted (Stt.a a) == Side.halted (Stt.a b) && (decide (Side.done (Stt.a a) =
 Side.done (Stt.a b)) && true))))) else false then allN (fun i => decide (Side.regs (Stt.e a) i = Side.regs (Stt.e b) i)) 16 && (allN (fun i => decide (Side.ready
 (Stt.e a) i = Side.ready (Stt.e b) i)) 16 && (decide (Pos.block (Side.pos (Stt.e a)) = Pos.block (Side.pos (Stt.e b))) && (decide (Pos.index (Side.pos (Stt.e a))
 = Pos.index (Side.pos (Stt.e b))) && (decide (Pos.base (Side.pos (Stt.e a)) = Pos.base (Side.pos (Stt.e b))) && true)) && (decide (Side.wait (Stt.e a) = Side.wait
 (Stt.e b)) && (Side.halted (Stt.e a) == Side.halted (Stt.e b) && (decide (Side.done (Stt.e a) = Side.done (Stt.e b)) && true))))) else false then bif bif decide
 (Stt.cycle a = Stt.cycle b) then allN (fun i => decide (Side.regs (Stt.a a) i = Side.regs (Stt.a b) i)) 16 && (allN (fun i => decide (Side.ready (Stt.a a) i = Side.ready
 (Stt.a b) i)) 16 && (decide (Pos.block (Side.pos (Stt.a a)) = Pos.block (Side.pos (Stt.a b))) && (decide (Pos.index (Side.pos (Stt.a a)) = Pos.index (Side.pos (Stt.a
 b))) && (decide (Pos.base (Side.pos (Stt.a a)) = Pos.base (Side.pos (Stt.a b))) && true)) && (decide (Side.wait (Stt.a a) = Side.wait (Stt.a b)) && (Side.halted
 (Stt.a a) == Side.halted (Stt.a b) && (decide (Side.done (Stt.a a) = Side.done (Stt.a b)) && true))))) else false then allN (fun i => decide (Side.regs (Stt.e a)
 i = Side.regs (Stt.e b) i)) 16 && (allN (fun i => decide (Side.ready (Stt.e a) i = Side.ready (Stt.e b) i)) 16 && (decide (Pos.block (Side.pos (Stt.e a)) = Pos.block
 (Side.pos (Stt.e b))) && (decide (Pos.index (Side.pos (Stt.e a)) = Pos.index (Side.pos (Stt.e b))) && (decide (Pos.base (Side.pos (Stt.e a)) = Pos.base (Side.pos
 (Stt.e b))) && true)) && (decide (Side.wait (Stt.e a) = Side.wait (Stt.e b)) && (Side.halted (Stt.e a) == Side.halted (Stt.e b) && (decide (Side.done (Stt.e a) =
 Side.done (Stt.e b)) && true))))) else false else true then bif bif bif bif bif decide (Stt.cycle a = Stt.cycle b) then allN (fun i => decide (Side.regs (Stt.a a)
 i = Side.regs (Stt.a b) i)) 16 && (allN (fun i => decide (Side.ready (Stt.a a) i = Side.ready (Stt.a b) i)) 16 && (decide (Pos.block (Side.pos (Stt.a a)) = Pos.block
 (Side.pos (Stt.a b))) && (decide (Pos.index (Side.pos (Stt.a a)) = Pos.index (Side.pos (Stt.a b))) && (decide (Pos.base (Side.pos (Stt.a a)) = Pos.base (Side.pos
 (Stt.a b))) && true)) && (decide (Side.wait (Stt.a a) = Side.wait (Stt.a b)) && (Side.halted (Stt.a a) == Side.halted (Stt.a b) && (decide (Side.done (Stt.a a) =
 Side.done (Stt.a b)) && true))))) else false then allN (fun i => decide (Side.regs (Stt.e a) i = Side.regs (Stt.e b) i)) 16 && (allN (fun i => decide (Side.ready
 (Stt.e a) i = Side.ready (Stt.e b) i)) 16 && (decide (Pos.block (Side.pos (Stt.e a)) = Pos.block (Side.pos (Stt.e b))) && (decide (Pos.index (Side.pos (Stt.e a))
 = Pos.index (Side.pos (Stt.e b))) && (decide (Pos.base (Side.pos (Stt.e a)) = Pos.base (Side.pos (Stt.e b))) && true)) && (decide (Side.wait (Stt.e a) = Side.wait
 (Stt.e b)) && (Side.halted (Stt.e a) == Side.halted (Stt.e b) && (decide (Side.done (Stt.e a) = Side.done (Stt.e b)) && true))))) else false then decide (Trp.kind
 (Stt.trap a) = Trp.kind (Stt.trap b)) && (decide (Trp.step (Stt.trap a) = Trp.step (Stt.trap b)) && (decide (Trp.pc (Stt.trap a) = Trp.pc (Stt.trap b)) && true))
 else false then bif bif bif decide (Stt.cycle a = Stt.cycle b) then allN (fun i => decide (Side.regs (Stt.a a) i = Side.regs (Stt.a b) i)) 16 && (allN (fun i =>
 decide (Side.ready (Stt.a a) i = Side.ready (Stt.a b) i)) 16 && (decide (Pos.block (Side.pos (Stt.a a)) = Pos.block (Side.pos (Stt.a b))) && (decide (Pos.index (Side.pos
 (Stt.a a)) = Pos.index (Side.pos (Stt.a b))) && (decide (Pos.base (Side.pos (Stt.a a)) = Pos.base (Side.pos (Stt.a b))) && true)) && (decide (Side.wait (Stt.a a)
 = Side.wait (Stt.a b)) && (Side.halted (Stt.a a) == Side.halted (Stt.a b) && (decide (Side.done (Stt.a a) = Side.done (Stt.a b)) && true))))) else false then allN
 (fun i => decide (Side.regs (Stt.e a) i = Side.regs (Stt.e b) i)) 16 && (allN (fun i => decide (Side.ready (Stt.e a) i = Side.ready (Stt.e b) i)) 16 && (decide (Pos.block
 (Side.pos (Stt.e a)) = Pos.block (Side.pos (Stt.e b))) && (decide (Pos.index (Side.pos (Stt.e a)) = Pos.index (Side.pos (Stt.e b))) && (decide (Pos.base (Side.pos
 (Stt.e a)) = Pos.base (Side.pos (Stt.e b))) && true)) && (decide (Side.wait (Stt.e a) = Side.wait (Stt.e b)) && (Side.halted (Stt.e a) == Side.halted (Stt.e b) &&
 (decide (Side.done (Stt.e a) = Side.done (Stt.e b)) && true))))) else false then decide (Trp.kind (Stt.trap a) = Trp.kind (Stt.trap b)) && (decide (Trp.step (Stt.trap
 a) = Trp.step (Stt.trap b)) && (decide (Trp.pc (Stt.trap a) = Trp.pc (Stt.trap b)) && true)) else false else true then bif bif bif bif bif bif decide (Stt.cycle
 a = Stt.cycle b) then allN (fun i => decide (Side.regs (Stt.a a) i = Side.regs (Stt.a b) i)) 16 && (allN (fun i => decide (Side.ready (Stt.a a) i = Side.ready (Stt.a
 b) i)) 16 && (decide (Pos.block (Side.pos (Stt.a a)) = Pos.block (Side.pos (Stt.a b))) && (decide (Pos.index (Side.pos (Stt.a a)) = Pos.index (Side.pos (Stt.a b)))
 && (decide (Pos.base (Side.pos (Stt.a a)) = Pos.base (Side.pos (Stt.a b))) && true)) && (decide (Side.wait (Stt.a a) = Side.wait (Stt.a b)) && (Side.halted (Stt.a
 a) == Side.halted (Stt.a b) && (decide (Side.done (Stt.a a) = Side.done (Stt.a b)) && true))))) else false then allN (fun i => decide (Side.regs (Stt.e a) i = Side.regs
 (Stt.e b) i)) 16 && (allN (fun i => decide (Side.ready (Stt.e a) i = Side.ready (Stt.e b) i)) 16 && (decide (Pos.block (Side.pos (Stt.e a)) = Pos.block (Side.pos
 (Stt.e b))) && (decide (Pos.index (Side.pos (Stt.e a)) = Pos.index (Side.pos (Stt.e b))) && (decide (Pos.base (Side.pos (Stt.e a)) = Pos.base (Side.pos (Stt.e b)))
 && true)) && (decide (Side.wait (Stt.e a) = Side.wait (Stt.e b)) && (Side.halted (Stt.e a) == Side.halted (Stt.e b) && (decide (Side.done (Stt.e a) = Side.done (Stt.e
 b)) && true))))) else false then decide (Trp.kind (Stt.trap a) = Trp.kind (Stt.trap b)) && (decide (Trp.step (Stt.trap a) = Trp.step (Stt.trap b)) && (decide (Trp.pc
 (Stt.trap a) = Trp.pc (Stt.trap b)) && true)) else false then decide (Stt.lats a = Stt.lats b) else false then bif bif bif bif decide (Stt.cycle a = Stt.cycle b)
 then allN (fun i => decide (Side.regs (Stt.a a) i = Side.regs (Stt.a b) i)) 16 && (allN (fun i => decide (Side.ready (Stt.a a) i = Side.ready (Stt.a b) i)) 16 &&
 (decide (Pos.block (Side.pos (Stt.a a)) = Pos.block (Side.pos (Stt.a b))) && (decide (Pos.index (Side.pos (Stt.a a)) = Pos.index (Side.pos (Stt.a b))) && (decide
 (Pos.base (Side.pos (Stt.a a)) = Pos.base (Side.pos (Stt.a b))) && true)) && (decide (Side.wait (Stt.a a) = Side.wait (Stt.a b)) && (Side.halted (Stt.a a) == Side.halted
 (Stt.a b) && (decide (Side.done (Stt.a a) = Side.done (Stt.a b)) && true))))) else false then allN (fun i => decide (Side.regs (Stt.e a) i = Side.regs (Stt.e b)
 i)) 16 && (allN (fun i => decide (Side.ready (Stt.e a) i = Side.ready (Stt.e b) i)) 16 && (decide (Pos.block (Side.pos (Stt.e a)) = Pos.block (Side.pos (Stt.e b)))
 && (decide (Pos.index (Side.pos (Stt.e a)) = Pos.index (Side.pos (Stt.e b))) && (decide (Pos.base (Side.pos (Stt.e a)) = Pos.base (Side.pos (Stt.e b))) && true))
 && (decide (Side.wait (Stt.e a) = Side.wait (Stt.e b)) && (Side.halted (Stt.e a) == Side.halted (Stt.e b) && (decide (Side.done (Stt.e a) = Side.done (Stt.e b))
 && true))))) else false then decide (Trp.kind (Stt.trap a) = Trp.kind (Stt.trap b)) && (decide (Trp.step (Stt.trap a) = Trp.step (Stt.trap b)) && (decide (Trp.pc
 (Stt.trap a) = Trp.pc (Stt.trap b)) && true)) else false then decide (Stt.lats a = Stt.lats b) else false else true then bif bif bif bif bif bif bif decide (Stt.cycle
 a = Stt.cycle b) then allN (fun i => decide (Side.regs (Stt.a a) i = Side.regs (Stt.a b) i)) 16 && (allN (fun i => decide (Side.ready (Stt.a a) i = Side.ready (Stt.a
 b) i)) 16 && (decide (Pos.block (Side.pos (Stt.a a)) = Pos.block (Side.pos (Stt.a b))) && (decide (Pos.index (Side.pos (Stt.a a)) = Pos.index (Side.pos (Stt.a b)))
 && (decide (Pos.base (Side.pos (Stt.a a)) = Pos.base (Side.pos (Stt.a b))) && true)) && (decide (Side.wait (Stt.a a) = Side.wait (Stt.a b)) && (Side.halted (Stt.a
 a) == Side.halted (Stt.a b) && (decide (Side.done (Stt.a a) = Side.done (Stt.a b)) && true))))) else false then allN (fun i => decide (Side.regs (Stt.e a) i = Side.regs
 (Stt.e b) i)) 16 && (allN (fun i => decide (Side.ready (Stt.e a) i = Side.ready (Stt.e b) i)) 16 && (decide (Pos.block (Side.pos (Stt.e a)) = Pos.block (Side.pos
 (Stt.e b))) && (decide (Pos.index (Side.pos (Stt.e a)) = Pos.index (Side.pos (Stt.e b))) && (decide (Pos.base (Side.pos (Stt.e a)) = Pos.base (Side.pos (Stt.e b)))
 && true)) && (decide (Side.wait (Stt.e a) = Side.wait (Stt.e b)) && (Side.halted (Stt.e a) == Side.halted (Stt.e b) && (decide (Side.done (Stt.e a) = Side.done (Stt.e
 b)) && true))))) else false then decide (Trp.kind (Stt.trap a) = Trp.kind (Stt.trap b)) && (decide (Trp.step (Stt.trap a) = Trp.step (Stt.trap b)) && (decide (Trp.pc
 (Stt.trap a) = Trp.pc (Stt.trap b)) && true)) else false then decide (Stt.lats a = Stt.lats b) else false then decide (Stt.picks a = Stt.picks b) else false then
 bif bif bif bif bif decide (Stt.cycle a = Stt.cycle b) then allN (fun i => decide (Side.regs (Stt.a a) i = Side.regs (Stt.a b) i)) 16 && (allN (fun i => decide (Side.ready
 (Stt.a a) i = Side.ready (Stt.a b) i)) 16 && (decide (Pos.block (Side.pos (Stt.a a)) = Pos.block (Side.pos (Stt.a b))) && (decide (Pos.index (Side.pos (Stt.a a))
 = Pos.index (Side.pos (Stt.a b))) && (decide (Pos.base (Side.pos (Stt.a a)) = Pos.base (Side.pos (Stt.a b))) && true)) && (decide (Side.wait (Stt.a a) = Side.wait
 (Stt.a b)) && (Side.halted (Stt.a a) == Side.halted (Stt.a b) && (decide (Side.done (Stt.a a) = Side.done (Stt.a b)) && true))))) else false then allN (fun i =>
 decide (Side.regs (Stt.e a) i = Side.regs (Stt.e b) i)) 16 && (allN (fun i => decide (Side.ready (Stt.e a) i = Side.ready (Stt.e b) i)) 16 && (decide (Pos.block
 (Side.pos (Stt.e a)) = Pos.block (Side.pos (Stt.e b))) && (decide (Pos.index (Side.pos (Stt.e a)) = Pos.index (Side.pos (Stt.e b))) && (decide (Pos.base (Side.pos
 (Stt.e a)) = Pos.base (Side.pos (Stt.e b))) && true)) && (decide (Side.wait (Stt.e a) = Side.wait (Stt.e b)) && (Side.halted (Stt.e a) == Side.halted (Stt.e b) &&
 (decide (Side.done (Stt.e a) = Side.done (Stt.e b)) && true))))) else false then decide (Trp.kind (Stt.trap a) = Trp.kind (Stt.trap b)) && (decide (Trp.step (Stt.trap
 a) = Trp.step (Stt.trap b)) && (decide (Trp.pc (Stt.trap a) = Trp.pc (Stt.trap b)) && true)) else false then decide (Stt.lats a = Stt.lats b) else false then decide
 (Stt.picks a = Stt.picks b) else false else true then bif bif bif bif bif bif bif decide (Stt.cycle a = Stt.cycle b) then allN (fun i => decide (Side.regs (Stt.a
 a) i = Side.regs (Stt.a b) i)) 16 && (allN (fun i => decide (Side.ready (Stt.a a) i = Side.ready (Stt.a b) i)) 16 && (decide (Pos.block (Side.pos (Stt.a a)) = Pos.block
 (Side.pos (Stt.a b))) && (decide (Pos.index (Side.pos (Stt.a a)) = Pos.index (Side.pos (Stt.a b))) && (decide (Pos.base (Side.pos (Stt.a a)) = Pos.base (Side.pos
 (Stt.a b))) && true)) && (decide (Side.wait (Stt.a a) = Side.wait (Stt.a b)) && (Side.halted (Stt.a a) == Side.halted (Stt.a b) && (decide (Side.done (Stt.a a) =
 Side.done (Stt.a b)) && true))))) else false then allN (fun i => decide (Side.regs (Stt.e a) i = Side.regs (Stt.e b) i)) 16 && (allN (fun i => decide (Side.ready
 (Stt.e a) i = Side.ready (Stt.e b) i)) 16 && (decide (Pos.block (Side.pos (Stt.e a)) = Pos.block (Side.pos (Stt.e b))) && (decide (Pos.index (Side.pos (Stt.e a))
 = Pos.index (Side.pos (Stt.e b))) && (decide (Pos.base (Side.pos (Stt.e a)) = Pos.base (Side.pos (Stt.e b))) && true)) && (decide (Side.wait (Stt.e a) = Side.wait
 (Stt.e b)) && (Side.halted (Stt.e a) == Side.halted (Stt.e b) && (decide (Side.done (Stt.e a) = Side.done (Stt.e b)) && true))))) else false then decide (Trp.kind
 (Stt.trap a) = Trp.kind (Stt.trap b)) && (decide (Trp.step (Stt.trap a) = Trp.step (Stt.trap b)) && (decide (Trp.pc (Stt.trap a) = Trp.pc (Stt.trap b)) && true))
 else false then decide (Stt.lats a = Stt.lats b) else false then decide (Stt.picks a = Stt.picks b) else false then decide (Stt.tags a = Stt.tags b) else false then
 ∃ (s : List Slot × List Slot), ArgsLe [e_row 3 e_Slot (Stt.ldq a), e_row 3 e_Slot (Stt.ldq b)] [e_row 3 e_Slot (Prod.fst s), e_row 3 e_Slot (Prod.snd s)] ∧ PreIs
 (List.length (Prod.fst s) ≤ 1000000) ∧ ∀ (y : Bool), y = decide (Prod.fst s = Prod.snd s) → bif bif bif bif bif bif bif bif decide (Stt.cycle a = Stt.cycle b) then
 allN (fun i => decide (Side.regs (Stt.a a) i = Side.regs (Stt.a b) i)) 16 && (allN (fun i => decide (Side.ready (Stt.a a) i = Side.ready (Stt.a b) i)) 16 && (decide
 (Pos.block (Side.pos (Stt.a a)) = Pos.block (Side.pos (Stt.a b))) && (decide (Pos.index (Side.pos (Stt.a a)) = Pos.index (Side.pos (Stt.a b))) && (decide (Pos.base
 (Side.pos (Stt.a a)) = Pos.base (Side.pos (Stt.a b))) && true)) && (decide (Side.wait (Stt.a a) = Side.wait (Stt.a b)) && (Side.halted (Stt.a a) == Side.halted (Stt.a
 b) && (decide (Side.done (Stt.a a) = Side.done (Stt.a b)) && true))))) else false then allN (fun i => decide (Side.regs (Stt.e a) i = Side.regs (Stt.e b) i)) 16
 && (allN (fun i => decide (Side.ready (Stt.e a) i = Side.ready (Stt.e b) i)) 16 && (decide (Pos.block (Side.pos (Stt.e a)) = Pos.block (Side.pos (Stt.e b))) && (decide
 (Pos.index (Side.pos (Stt.e a)) = Pos.index (Side.pos (Stt.e b))) && (decide (Pos.base (Side.pos (Stt.e a)) = Pos.base (Side.pos (Stt.e b))) && true)) && (decide
 (Side.wait (Stt.e a) = Side.wait (Stt.e b)) && (Side.halted (Stt.e a) == Side.halted (Stt.e b) && (decide (Side.done (Stt.e a) = Side.done (Stt.e b)) && true)))))
 else false then decide (Trp.kind (Stt.trap a) = Trp.kind (Stt.trap b)) && (decide (Trp.step (Stt.trap a) = Trp.step (Stt.trap b)) && (decide (Trp.pc (Stt.trap a)
 = Trp.pc (Stt.trap b)) && true)) else false then decide (Stt.lats a = Stt.lats b) else false then decide (Stt.picks a = Stt.picks b) else false then decide (Stt.tags
 a = Stt.tags b) else false then y else false then ∃ (s : List Int × List Int), ArgsLe [e_row 1 e_u32 (Stt.sdq a), e_row 1 e_u32 (Stt.sdq b)] [e_row 1 e_u32 (Prod.fst
 s), e_row 1 e_u32 (Prod.snd s)] ∧ PreIs (List.length (Prod.fst s) ≤ 1000000) ∧ ∀ (y_1 : Bool), y_1 = decide (Prod.fst s = Prod.snd s) → bif bif bif bif bif bif bif
 bif bif decide (Stt.cycle a = Stt.cycle b) then allN (fun i => decide (Side.regs (Stt.a a) i = Side.regs (Stt.a b) i)) 16 && (allN (fun i => decide (Side.ready (Stt.a
 a) i = Side.ready (Stt.a b) i)) 16 && (decide (Pos.block (Side.pos (Stt.a a)) = Pos.block (Side.pos (Stt.a b))) && (decide (Pos.index (Side.pos (Stt.a a)) = Pos.index
 (Side.pos (Stt.a b))) && (decide (Pos.base (Side.pos (Stt.a a)) = Pos.base (Side.pos (Stt.a b))) && true)) && (decide (Side.wait (Stt.a a) = Side.wait (Stt.a b))
 && (Side.halted (Stt.a a) == Side.halted (Stt.a b) && (decide (Side.done (Stt.a a) = Side.done (Stt.a b)) && true))))) else false then allN (fun i => decide (Side.regs
 (Stt.e a) i = Side.regs (Stt.e b) i)) 16 && (allN (fun i => decide (Side.ready (Stt.e a) i = Side.ready (Stt.e b) i)) 16 && (decide (Pos.block (Side.pos (Stt.e a))
 = Pos.block (Side.pos (Stt.e b))) && (decide (Pos.index (Side.pos (Stt.e a)) = Pos.index (Side.pos (Stt.e b))) && (decide (Pos.base (Side.pos (Stt.e a)) = Pos.base
 (Side.pos (Stt.e b))) && true)) && (decide (Side.wait (Stt.e a) = Side.wait (Stt.e b)) && (Side.halted (Stt.e a) == Side.halted (Stt.e b) && (decide (Side.done (Stt.e
 a) = Side.done (Stt.e b)) && true))))) else false then decide (Trp.kind (Stt.trap a) = Trp.kind (Stt.trap b)) && (decide (Trp.step (Stt.trap a) = Trp.step (Stt.trap
 b)) && (decide (Trp.pc (Stt.trap a) = Trp.pc (Stt.trap b)) && true)) else false then decide (Stt.lats a = Stt.lats b) else false then decide (Stt.picks a = Stt.picks
 b) else false then decide (Stt.tags a = Stt.tags b) else false then y else false then y_1 else false then ∃ (s : List Int × List Int), ArgsLe [e_row 1 e_u32 (Stt.aeq
 a), e_row 1 e_u32 (Stt.aeq b)] [e_row 1 e_u32 (Prod.fst s), e_row 1 e_u32 (Prod.snd s)] ∧ PreIs (List.length (Prod.fst s) ≤ 1000000) ∧ ∀ (y_2 : Bool), y_2 = decide
 (Prod.fst s = Prod.snd s) → bif bif bif bif bif bif bif bif bif bif decide (Stt.cycle a = Stt.cycle b) then allN (fun i => decide (Side.regs (Stt.a a) i = Side.regs
 (Stt.a b) i)) 16 && (allN (fun i => decide (Side.ready (Stt.a a) i = Side.ready (Stt.a b) i)) 16 && (decide (Pos.block (Side.pos (Stt.a a)) = Pos.block (Side.pos
 (Stt.a b))) && (decide (Pos.index (Side.pos (Stt.a a)) = Pos.index (Side.pos (Stt.a b))) && (decide (Pos.base (Side.pos (Stt.a a)) = Pos.base (Side.pos (Stt.a b)))
 && true)) && (decide (Side.wait (Stt.a a) = Side.wait (Stt.a b)) && (Side.halted (Stt.a a) == Side.halted (Stt.a b) && (decide (Side.done (Stt.a a) = Side.done (Stt.a
 b)) && true))))) else false then allN (fun i => decide (Side.regs (Stt.e a) i = Side.regs (Stt.e b) i)) 16 && (allN (fun i => decide (Side.ready (Stt.e a) i = Side.ready
 (Stt.e b) i)) 16 && (decide (Pos.block (Side.pos (Stt.e a)) = Pos.block (Side.pos (Stt.e b))) && (decide (Pos.index (Side.pos (Stt.e a)) = Pos.index (Side.pos (Stt.e
 b))) && (decide (Pos.base (Side.pos (Stt.e a)) = Pos.base (Side.pos (Stt.e b))) && true)) && (decide (Side.wait (Stt.e a) = Side.wait (Stt.e b)) && (Side.halted
 (Stt.e a) == Side.halted (Stt.e b) && (decide (Side.done (Stt.e a) = Side.done (Stt.e b)) && true))))) else false then decide (Trp.kind (Stt.trap a) = Trp.kind (Stt.trap
 b)) && (decide (Trp.step (Stt.trap a) = Trp.step (Stt.trap b)) && (decide (Trp.pc (Stt.trap a) = Trp.pc (Stt.trap b)) && true)) else false then decide (Stt.lats
 a = Stt.lats b) else false then decide (Stt.picks a = Stt.picks b) else false then decide (Stt.tags a = Stt.tags b) else false then y else false then y_1 else false
 then y_2 else false then ∃ (s : List Bool × List Bool), ArgsLe [e_row 1 e_bool (Stt.abq a), e_row 1 e_bool (Stt.abq b)] [e_row 1 e_bool (Prod.fst s), e_row 1 e_bool
 (Prod.snd s)] ∧ PreIs (List.length (Prod.fst s) ≤ 1000000) ∧ ∀ (y_3 : Bool), y_3 = decide (Prod.fst s = Prod.snd s) → bif bif bif bif bif bif bif bif bif bif bif
 decide (Stt.cycle a = Stt.cycle b) then allN (fun i => decide (Side.regs (Stt.a a) i = Side.regs (Stt.a b) i)) 16 && (allN (fun i => decide (Side.ready (Stt.a a)
 i = Side.ready (Stt.a b) i)) 16 && (decide (Pos.block (Side.pos (Stt.a a)) = Pos.block (Side.pos (Stt.a b))) && (decide (Pos.index (Side.pos (Stt.a a)) = Pos.index
 (Side.pos (Stt.a b))) && (decide (Pos.base (Side.pos (Stt.a a)) = Pos.base (Side.pos (Stt.a b))) && true)) && (decide (Side.wait (Stt.a a) = Side.wait (Stt.a b))
 && (Side.halted (Stt.a a) == Side.halted (Stt.a b) && (decide (Side.done (Stt.a a) = Side.done (Stt.a b)) && true))))) else false then allN (fun i => decide (Side.regs
 (Stt.e a) i = Side.regs (Stt.e b) i)) 16 && (allN (fun i => decide (Side.ready (Stt.e a) i = Side.ready (Stt.e b) i)) 16 && (decide (Pos.block (Side.pos (Stt.e a))
 = Pos.block (Side.pos (Stt.e b))) && (decide (Pos.index (Side.pos (Stt.e a)) = Pos.index (Side.pos (Stt.e b))) && (decide (Pos.base (Side.pos (Stt.e a)) = Pos.base
 (Side.pos (Stt.e b))) && true)) && (decide (Side.wait (Stt.e a) = Side.wait (Stt.e b)) && (Side.halted (Stt.e a) == Side.halted (Stt.e b) && (decide (Side.done (Stt.e
 a) = Side.done (Stt.e b)) && true))))) else false then decide (Trp.kind (Stt.trap a) = Trp.kind (Stt.trap b)) && (decide (Trp.step (Stt.trap a) = Trp.step (Stt.trap
 b)) && (decide (Trp.pc (Stt.trap a) = Trp.pc (Stt.trap b)) && true)) else false then decide (Stt.lats a = Stt.lats b) else false then decide (Stt.picks a = Stt.picks
 b) else false then decide (Stt.tags a = Stt.tags b) else false then y else false then y_1 else false then y_2 else false then y_3 else false then ∃ (s : List Bool
 × List Bool), ArgsLe [e_row 1 e_bool (Stt.ebq a), e_row 1 e_bool (Stt.ebq b)] [e_row 1 e_bool (Prod.fst s), e_row 1 e_bool (Prod.snd s)] ∧ PreIs (List.length (Prod.fst
 s) ≤ 1000000) ∧ ∀ (y_4 : Bool), y_4 = decide (Prod.fst s = Prod.snd s) → bif bif bif bif bif bif bif bif bif bif bif bif decide (Stt.cycle a = Stt.cycle b) then
 allN (fun i => decide (Side.regs (Stt.a a) i = Side.regs (Stt.a b) i)) 16 && (allN (fun i => decide (Side.ready (Stt.a a) i = Side.ready (Stt.a b) i)) 16 && (decide
 (Pos.block (Side.pos (Stt.a a)) = Pos.block (Side.pos (Stt.a b))) && (decide (Pos.index (Side.pos (Stt.a a)) = Pos.index (Side.pos (Stt.a b))) && (decide (Pos.base
 (Side.pos (Stt.a a)) = Pos.base (Side.pos (Stt.a b))) && true)) && (decide (Side.wait (Stt.a a) = Side.wait (Stt.a b)) && (Side.halted (Stt.a a) == Side.halted (Stt.a
 b) && (decide (Side.done (Stt.a a) = Side.done (Stt.a b)) && true))))) else false then allN (fun i => decide (Side.regs (Stt.e a) i = Side.regs (Stt.e b) i)) 16
 && (allN (fun i => decide (Side.ready (Stt.e a) i = Side.ready (Stt.e b) i)) 16 && (decide (Pos.block (Side.pos (Stt.e a)) = Pos.block (Side.pos (Stt.e b))) && (decide
 (Pos.index (Side.pos (Stt.e a)) = Pos.index (Side.pos (Stt.e b))) && (decide (Pos.base (Side.pos (Stt.e a)) = Pos.base (Side.pos (Stt.e b))) && true)) && (decide
 (Side.wait (Stt.e a) = Side.wait (Stt.e b)) && (Side.halted (Stt.e a) == Side.halted (Stt.e b) && (decide (Side.done (Stt.e a) = Side.done (Stt.e b)) && true)))))
 else false then decide (Trp.kind (Stt.trap a) = Trp.kind (Stt.trap b)) && (decide (Trp.step (Stt.trap a) = Trp.step (Stt.trap b)) && (decide (Trp.pc (Stt.trap a)
 = Trp.pc (Stt.trap b)) && true)) else false then decide (Stt.lats a = Stt.lats b) else false then decide (Stt.picks a = Stt.picks b) else false then decide (Stt.tags
 a = Stt.tags b) else false then y else false then y_1 else false then y_2 else false then y_3 else false then y_4 else false then ∃ (s : List Entry × List Entry),
 ArgsLe [e_row 5 e_Entry (Stt.saq a), e_row 5 e_Entry (Stt.saq b)] [e_row 5 e_Entry (Prod.fst s), e_row 5 e_Entry (Prod.snd s)] ∧ PreIs (List.length (Prod.fst s)
 ≤ 1000000) ∧ ∀ (y_5 : Bool), y_5 = decide (Prod.fst s = Prod.snd s) → bif bif bif bif bif bif bif bif bif bif bif bif bif decide (Stt.cycle a = Stt.cycle b) then
 allN (fun i => decide (Side.regs (Stt.a a) i = Side.regs (Stt.a b) i)) 16 && (allN (fun i => decide (Side.ready (Stt.a a) i = Side.ready (Stt.a b) i)) 16 && (decide
 (Pos.block (Side.pos (Stt.a a)) = Pos.block (Side.pos (Stt.a b))) && (decide (Pos.index (Side.pos (Stt.a a)) = Pos.index (Side.pos (Stt.a b))) && (decide (Pos.base
 (Side.pos (Stt.a a)) = Pos.base (Side.pos (Stt.a b))) && true)) && (decide (Side.wait (Stt.a a) = Side.wait (Stt.a b)) && (Side.halted (Stt.a a) == Side.halted (Stt.a
 b) && (decide (Side.done (Stt.a a) = Side.done (Stt.a b)) && true))))) else false then allN (fun i => decide (Side.regs (Stt.e a) i = Side.regs (Stt.e b) i)) 16
 && (allN (fun i => decide (Side.ready (Stt.e a) i = Side.ready (Stt.e b) i)) 16 && (decide (Pos.block (Side.pos (Stt.e a)) = Pos.block (Side.pos (Stt.e b))) && (decide
 (Pos.index (Side.pos (Stt.e a)) = Pos.index (Side.pos (Stt.e b))) && (decide (Pos.base (Side.pos (Stt.e a)) = Pos.base (Side.pos (Stt.e b))) && true)) && (decide
 (Side.wait (Stt.e a) = Side.wait (Stt.e b)) && (Side.halted (Stt.e a) == Side.halted (Stt.e b) && (decide (Side.done (Stt.e a) = Side.done (Stt.e b)) && true)))))
 else false then decide (Trp.kind (Stt.trap a) = Trp.kind (Stt.trap b)) && (decide (Trp.step (Stt.trap a) = Trp.step (Stt.trap b)) && (decide (Trp.pc (Stt.trap a)
 = Trp.pc (Stt.trap b)) && true)) else false then decide (Stt.lats a = Stt.lats b) else false then decide (Stt.picks a = Stt.picks b) else false then decide (Stt.tags
 a = Stt.tags b) else false then y else false then y_1 else false then y_2 else false then y_3 else false then y_4 else false then y_5 else false then ∃ (s : List
 Req × List Req), ArgsLe [e_row 8 e_Req (Stt.table a), e_row 8 e_Req (Stt.table b)] [e_row 8 e_Req (Prod.fst s), e_row 8 e_Req (Prod.snd s)] ∧ PreIs (List.length
 (Prod.fst s) ≤ 1000000) ∧ ∀ (y_6 : Bool), y_6 = decide (Prod.fst s = Prod.snd s) → bif bif bif bif bif bif bif bif bif bif bif bif bif bif decide (Stt.cycle a =
 Stt.cycle b) then allN (fun i => decide (Side.regs (Stt.a a) i = Side.regs (Stt.a b) i)) 16 && (allN (fun i => decide (Side.ready (Stt.a a) i = Side.ready (Stt.a
 b) i)) 16 && (decide (Pos.block (Side.pos (Stt.a a)) = Pos.block (Side.pos (Stt.a b))) && (decide (Pos.index (Side.pos (Stt.a a)) = Pos.index (Side.pos (Stt.a b)))
 && (decide (Pos.base (Side.pos (Stt.a a)) = Pos.base (Side.pos (Stt.a b))) && true)) && (decide (Side.wait (Stt.a a) = Side.wait (Stt.a b)) && (Side.halted (Stt.a
 a) == Side.halted (Stt.a b) && (decide (Side.done (Stt.a a) = Side.done (Stt.a b)) && true))))) else false then allN (fun i => decide (Side.regs (Stt.e a) i = Side.regs
 (Stt.e b) i)) 16 && (allN (fun i => decide (Side.ready (Stt.e a) i = Side.ready (Stt.e b) i)) 16 && (decide (Pos.block (Side.pos (Stt.e a)) = Pos.block (Side.pos
 (Stt.e b))) && (decide (Pos.index (Side.pos (Stt.e a)) = Pos.index (Side.pos (Stt.e b))) && (decide (Pos.base (Side.pos (Stt.e a)) = Pos.base (Side.pos (Stt.e b)))
 && true)) && (decide (Side.wait (Stt.e a) = Side.wait (Stt.e b)) && (Side.halted (Stt.e a) == Side.halted (Stt.e b) && (decide (Side.done (Stt.e a) = Side.done (Stt.e
 b)) && true))))) else false then decide (Trp.kind (Stt.trap a) = Trp.kind (Stt.trap b)) && (decide (Trp.step (Stt.trap a) = Trp.step (Stt.trap b)) && (decide (Trp.pc
 (Stt.trap a) = Trp.pc (Stt.trap b)) && true)) else false then decide (Stt.lats a = Stt.lats b) else false then decide (Stt.picks a = Stt.picks b) else false then
 decide (Stt.tags a = Stt.tags b) else false then y else false then y_1 else false then y_2 else false then y_3 else false then y_4 else false then y_5 else false
 then y_6 else false then ∃ (s : List Int × List Int), ArgsLe [e_row 1 e_u8 (Stt.mem a), e_row 1 e_u8 (Stt.mem b)] [e_row 1 e_u8 (Prod.fst s), e_row 1 e_u8 (Prod.snd
 s)] ∧ PreIs (List.length (Prod.fst s) ≤ 1000000) ∧ ∀ (y_7 : Bool), y_7 = decide (Prod.fst s = Prod.snd s) → bif bif bif bif bif bif bif bif bif bif bif bif bif bif
 bif decide (Stt.cycle a = Stt.cycle b) then allN (fun i => decide (Side.regs (Stt.a a) i = Side.regs (Stt.a b) i)) 16 && (allN (fun i => decide (Side.ready (Stt.a
 a) i = Side.ready (Stt.a b) i)) 16 && (decide (Pos.block (Side.pos (Stt.a a)) = Pos.block (Side.pos (Stt.a b))) && (decide (Pos.index (Side.pos (Stt.a a)) = Pos.index
 (Side.pos (Stt.a b))) && (decide (Pos.base (Side.pos (Stt.a a)) = Pos.base (Side.pos (Stt.a b))) && true)) && (decide (Side.wait (Stt.a a) = Side.wait (Stt.a b))
 && (Side.halted (Stt.a a) == Side.halted (Stt.a b) && (decide (Side.done (Stt.a a) = Side.done (Stt.a b)) && true))))) else false then allN (fun i => decide (Side.regs
 (Stt.e a) i = Side.regs (Stt.e b) i)) 16 && (allN (fun i => decide (Side.ready (Stt.e a) i = Side.ready (Stt.e b) i)) 16 && (decide (Pos.block (Side.pos (Stt.e a))
 = Pos.block (Side.pos (Stt.e b))) && (decide (Pos.index (Side.pos (Stt.e a)) = Pos.index (Side.pos (Stt.e b))) && (decide (Pos.base (Side.pos (Stt.e a)) = Pos.base
 (Side.pos (Stt.e b))) && true)) && (decide (Side.wait (Stt.e a) = Side.wait (Stt.e b)) && (Side.halted (Stt.e a) == Side.halted (Stt.e b) && (decide (Side.done (Stt.e
 a) = Side.done (Stt.e b)) && true))))) else false then decide (Trp.kind (Stt.trap a) = Trp.kind (Stt.trap b)) && (decide (Trp.step (Stt.trap a) = Trp.step (Stt.trap
 b)) && (decide (Trp.pc (Stt.trap a) = Trp.pc (Stt.trap b)) && true)) else false then decide (Stt.lats a = Stt.lats b) else false then decide (Stt.picks a = Stt.picks
 b) else false then decide (Stt.tags a = Stt.tags b) else false then y else false then y_1 else false then y_2 else false then y_3 else false then y_4 else false
 then y_5 else false then y_6 else false then y_7 else false then ∃ (s : List Wr × List Wr), ArgsLe [e_row 3 e_Wr (Stt.writes a), e_row 3 e_Wr (Stt.writes b)] [e_row
 3 e_Wr (Prod.fst s), e_row 3 e_Wr (Prod.snd s)] ∧ PreIs (List.length (Prod.fst s) ≤ 1000000) ∧ ∀ (y_8 : Bool), y_8 = decide (Prod.fst s = Prod.snd s) → ResLe (.bool
 (bif bif bif bif bif bif bif bif bif bif bif bif bif bif bif decide (Stt.cycle a = Stt.cycle b) then allN (fun (i : Nat) => decide (Side.regs (Stt.a a) i = Side.regs
 (Stt.a b) i)) 16 && (allN (fun (i : Nat) => decide (Side.ready (Stt.a a) i = Side.ready (Stt.a b) i)) (16 : Nat) && (decide (Pos.block (Side.pos (Stt.a a)) = Pos.block
 (Side.pos (Stt.a b))) && (decide (Pos.index (Side.pos (Stt.a a)) = Pos.index (Side.pos (Stt.a b))) && (decide (Pos.base (Side.pos (Stt.a a)) = Pos.base (Side.pos
 (Stt.a b))) && true)) && (decide (Side.wait (Stt.a a) = Side.wait (Stt.a b)) && (Side.halted (Stt.a a) == Side.halted (Stt.a b) && (decide (Side.done (Stt.a a) =
 Side.done (Stt.a b)) && true))))) else false then allN (fun i => decide (Side.regs (Stt.e a) i = Side.regs (Stt.e b) i)) 16 && (allN (fun (i : Nat) => decide (Side.ready
 (Stt.e a) i = Side.ready (Stt.e b) i)) 16 && (decide (Pos.block (Side.pos (Stt.e a)) = Pos.block (Side.pos (Stt.e b))) && (decide (Pos.index (Side.pos (Stt.e a))
 = Pos.index (Side.pos (Stt.e b))) && (decide (Pos.base (Side.pos (Stt.e a)) = Pos.base (Side.pos (Stt.e b))) && true)) && (decide (Side.wait (Stt.e a) = Side.wait
 (Stt.e b)) && (Side.halted (Stt.e a) == Side.halted (Stt.e b) && (decide (Side.done (Stt.e a) = Side.done (Stt.e b)) && true))))) else false then decide (Trp.kind
 (Stt.trap a) = Trp.kind (Stt.trap b)) && (decide (Trp.step (Stt.trap a) = Trp.step (Stt.trap b)) && (decide (Trp.pc (Stt.trap a) = Trp.pc (Stt.trap b)) && true))
 else false then decide (Stt.lats a = Stt.lats b) else false then decide (Stt.picks a = Stt.picks b) else false then decide (Stt.tags a = Stt.tags b) else false then
 y else false then y_1 else false then y_2 else false then y_3 else false then y_4 else false then y_5 else false then y_6 else false then y_7 else false then y_8
 else false)) r else bif !bif bif bif bif bif bif bif bif bif bif bif bif bif bif decide (Stt.cycle a = Stt.cycle b) then allN (fun i => decide (Side.regs (Stt.a
 a) i = Side.regs (Stt.a b) i)) 16 && (allN (fun i => decide (Side.ready (Stt.a a) i = Side.ready (Stt.a b) i)) 16 && (decide (Pos.block (Side.pos (Stt.a a)) = Pos.block
 (Side.pos (Stt.a b))) && (decide (Pos.index (Side.pos (Stt.a a)) = Pos.index (Side.pos (Stt.a b))) && (decide (Pos.base (Side.pos (Stt.a a)) = Pos.base (Side.pos
 (Stt.a b))) && true)) && (decide (Side.wait (Stt.a a) = Side.wait (Stt.a b)) && (Side.halted (Stt.a a) == Side.halted (Stt.a b) && (decide (Side.done (Stt.a a) =
 Side.done (Stt.a b)) && true))))) else false then allN (fun i => decide (Side.regs (Stt.e a) i = Side.regs (Stt.e b) i)) 16 && (allN (fun i => decide (Side.ready
 (Stt.e a) i = Side.ready (Stt.e b) i)) 16 && (decide (Pos.block (Side.pos (Stt.e a)) = Pos.block (Side.pos (Stt.e b))) && (decide (Pos.index (Side.pos (Stt.e a))
 = Pos.index (Side.pos (Stt.e b))) && (decide (Pos.base (Side.pos (Stt.e a)) = Pos.base (Side.pos (Stt.e b))) && true)) && (decide (Side.wait (Stt.e a) = Side.wait
 (Stt.e b)) && (Side.halted (Stt.e a) == Side.halted (Stt.e b) && (decide (Side.done (Stt.e a) = Side.done (Stt.e b)) && true))))) else false then decide (Trp.kind
 (Stt.trap a) = Trp.kind (Stt.trap b)) && (decide (Trp.step (Stt.trap a) = Trp.step (Stt.trap b)) && (decide (Trp.pc (Stt.trap a) = Trp.pc (Stt.trap b)) && true))
 else false then decide (Stt.lats a = Stt.lats b) else false then decide (Stt.picks a = Stt.picks b) else false then decide (Stt.tags a = Stt.tags b) else false then
 y else false then y_1 else false then y_2 else false then y_3 else false then y_4 else false then y_5 else false then y_6 else false then y_7 else false then ResLe
 (.bool false) r else False else bif !bif bif bif bif bif bif bif bif bif bif bif bif bif decide (Stt.cycle a = Stt.cycle b) then allN (fun i => decide (Side.regs
 (Stt.a a) i = Side.regs (Stt.a b) i)) 16 && (allN (fun i => decide (Side.ready (Stt.a a) i = Side.ready (Stt.a b) i)) 16 && (decide (Pos.block (Side.pos (Stt.a a))
 = Pos.block (Side.pos (Stt.a b))) && (decide (Pos.index (Side.pos (Stt.a a)) = Pos.index (Side.pos (Stt.a b))) && (decide (Pos.base (Side.pos (Stt.a a)) = Pos.base
 (Side.pos (Stt.a b))) && true)) && (decide (Side.wait (Stt.a a) = Side.wait (Stt.a b)) && (Side.halted (Stt.a a) == Side.halted (Stt.a b) && (decide (Side.done (Stt.a
 a) = Side.done (Stt.a b)) && true))))) else false then allN (fun i => decide (Side.regs (Stt.e a) i = Side.regs (Stt.e b) i)) 16 && (allN (fun i => decide (Side.ready
 (Stt.e a) i = Side.ready (Stt.e b) i)) 16 && (decide (Pos.block (Side.pos (Stt.e a)) = Pos.block (Side.pos (Stt.e b))) && (decide (Pos.index (Side.pos (Stt.e a))
 = Pos.index (Side.pos (Stt.e b))) && (decide (Pos.base (Side.pos (Stt.e a)) = Pos.base (Side.pos (Stt.e b))) && true)) && (decide (Side.wait (Stt.e a) = Side.wait
 (Stt.e b)) && (Side.halted (Stt.e a) == Side.halted (Stt.e b) && (decide (Side.done (Stt.e a) = Side.done (Stt.e b)) && true))))) else false then decide (Trp.kind
 (Stt.trap a) = Trp.kind (Stt.trap b)) && (decide (Trp.step (Stt.trap a) = Trp.step (Stt.trap b)) && (decide (Trp.pc (Stt.trap a) = Trp.pc (Stt.trap b)) && true))
 else false then decide (Stt.lats a = Stt.lats b) else false then decide (Stt.picks a = Stt.picks b) else false then decide (Stt.tags a = Stt.tags b) else false then
 y else false then y_1 else false then y_2 else false then y_3 else false then y_4 else false then y_5 else false then y_6 else false then ResLe (.bool false) r else
 False else bif !bif bif bif bif bif bif bif bif bif bif bif bif decide (Stt.cycle a = Stt.cycle b) then allN (fun i => decide (Side.regs (Stt.a a) i = Side.regs
 (Stt.a b) i)) 16 && (allN (fun i => decide (Side.ready (Stt.a a) i = Side.ready (Stt.a b) i)) 16 && (decide (Pos.block (Side.pos (Stt.a a)) = Pos.block (Side.pos
 (Stt.a b))) && (decide (Pos.index (Side.pos (Stt.a a)) = Pos.index (Side.pos (Stt.a b))) && (decide (Pos.base (Side.pos (Stt.a a)) = Pos.base (Side.pos (Stt.a b)))
 && true)) && (decide (Side.wait (Stt.a a) = Side.wait (Stt.a b)) && (Side.halted (Stt.a a) == Side.halted (Stt.a b) && (decide (Side.done (Stt.a a) = Side.done (Stt.a
 b)) && true))))) else false then allN (fun i => decide (Side.regs (Stt.e a) i = Side.regs (Stt.e b) i)) 16 && (allN (fun i => decide (Side.ready (Stt.e a) i = Side.ready
 (Stt.e b) i)) 16 && (decide (Pos.block (Side.pos (Stt.e a)) = Pos.block (Side.pos (Stt.e b))) && (decide (Pos.index (Side.pos (Stt.e a)) = Pos.index (Side.pos (Stt.e
 b))) && (decide (Pos.base (Side.pos (Stt.e a)) = Pos.base (Side.pos (Stt.e b))) && true)) && (decide (Side.wait (Stt.e a) = Side.wait (Stt.e b)) && (Side.halted
 (Stt.e a) == Side.halted (Stt.e b) && (decide (Side.done (Stt.e a) = Side.done (Stt.e b)) && true))))) else false then decide (Trp.kind (Stt.trap a) = Trp.kind (Stt.trap
 b)) && (decide (Trp.step (Stt.trap a) = Trp.step (Stt.trap b)) && (decide (Trp.pc (Stt.trap a) = Trp.pc (Stt.trap b)) && true)) else false then decide (Stt.lats
 a = Stt.lats b) else false then decide (Stt.picks a = Stt.picks b) else false then decide (Stt.tags a = Stt.tags b) else false then y else false then y_1 else false
 then y_2 else false then y_3 else false then y_4 else false then y_5 else false then ResLe (.bool false) r else False else bif !bif bif bif bif bif bif bif bif bif
 bif bif decide (Stt.cycle a = Stt.cycle b) then allN (fun i => decide (Side.regs (Stt.a a) i = Side.regs (Stt.a b) i)) 16 && (allN (fun i => decide (Side.ready (Stt.a
 a) i = Side.ready (Stt.a b) i)) 16 && (decide (Pos.block (Side.pos (Stt.a a)) = Pos.block (Side.pos (Stt.a b))) && (decide (Pos.index (Side.pos (Stt.a a)) = Pos.index
 (Side.pos (Stt.a b))) && (decide (Pos.base (Side.pos (Stt.a a)) = Pos.base (Side.pos (Stt.a b))) && true)) && (decide (Side.wait (Stt.a a) = Side.wait (Stt.a b))
 && (Side.halted (Stt.a a) == Side.halted (Stt.a b) && (decide (Side.done (Stt.a a) = Side.done (Stt.a b)) && true))))) else false then allN (fun i => decide (Side.regs
 (Stt.e a) i = Side.regs (Stt.e b) i)) 16 && (allN (fun i => decide (Side.ready (Stt.e a) i = Side.ready (Stt.e b) i)) 16 && (decide (Pos.block (Side.pos (Stt.e a))
 = Pos.block (Side.pos (Stt.e b))) && (decide (Pos.index (Side.pos (Stt.e a)) = Pos.index (Side.pos (Stt.e b))) && (decide (Pos.base (Side.pos (Stt.e a)) = Pos.base
 (Side.pos (Stt.e b))) && true)) && (decide (Side.wait (Stt.e a) = Side.wait (Stt.e b)) && (Side.halted (Stt.e a) == Side.halted (Stt.e b) && (decide (Side.done (Stt.e
 a) = Side.done (Stt.e b)) && true))))) else false then decide (Trp.kind (Stt.trap a) = Trp.kind (Stt.trap b)) && (decide (Trp.step (Stt.trap a) = Trp.step (Stt.trap
 b)) && (decide (Trp.pc (Stt.trap a) = Trp.pc (Stt.trap b)) && true)) else false then decide (Stt.lats a = Stt.lats b) else false then decide (Stt.picks a = Stt.picks
 b) else false then decide (Stt.tags a = Stt.tags b) else false then y else false then y_1 else false then y_2 else false then y_3 else false then y_4 else false
 then ResLe (.bool false) r else False else bif !bif bif bif bif bif bif bif bif bif bif decide (Stt.cycle a = Stt.cycle b) then allN (fun i => decide (Side.regs
 (Stt.a a) i = Side.regs (Stt.a b) i)) 16 && (allN (fun i => decide (Side.ready (Stt.a a) i = Side.ready (Stt.a b) i)) 16 && (decide (Pos.block (Side.pos (Stt.a a))
 = Pos.block (Side.pos (Stt.a b))) && (decide (Pos.index (Side.pos (Stt.a a)) = Pos.index (Side.pos (Stt.a b))) && (decide (Pos.base (Side.pos (Stt.a a)) = Pos.base
 (Side.pos (Stt.a b))) && true)) && (decide (Side.wait (Stt.a a) = Side.wait (Stt.a b)) && (Side.halted (Stt.a a) == Side.halted (Stt.a b) && (decide (Side.done (Stt.a
 a) = Side.done (Stt.a b)) && true))))) else false then allN (fun i => decide (Side.regs (Stt.e a) i = Side.regs (Stt.e b) i)) 16 && (allN (fun i => decide (Side.ready
 (Stt.e a) i = Side.ready (Stt.e b) i)) 16 && (decide (Pos.block (Side.pos (Stt.e a)) = Pos.block (Side.pos (Stt.e b))) && (decide (Pos.index (Side.pos (Stt.e a))
 = Pos.index (Side.pos (Stt.e b))) && (decide (Pos.base (Side.pos (Stt.e a)) = Pos.base (Side.pos (Stt.e b))) && true)) && (decide (Side.wait (Stt.e a) = Side.wait
 (Stt.e b)) && (Side.halted (Stt.e a) == Side.halted (Stt.e b) && (decide (Side.done (Stt.e a) = Side.done (Stt.e b)) && true))))) else false then decide (Trp.kind
 (Stt.trap a) = Trp.kind (Stt.trap b)) && (decide (Trp.step (Stt.trap a) = Trp.step (Stt.trap b)) && (decide (Trp.pc (Stt.trap a) = Trp.pc (Stt.trap b)) && true))
 else false then decide (Stt.lats a = Stt.lats b) else false then decide (Stt.picks a = Stt.picks b) else false then decide (Stt.tags a = Stt.tags b) else false then
 y else false then y_1 else false then y_2 else false then y_3 else false then ResLe (.bool false) r else False else bif !bif bif bif bif bif bif bif bif bif decide
 (Stt.cycle a = Stt.cycle b) then allN (fun i => decide (Side.regs (Stt.a a) i = Side.regs (Stt.a b) i)) 16 && (allN (fun i => decide (Side.ready (Stt.a a) i = Side.ready
 (Stt.a b) i)) 16 && (decide (Pos.block (Side.pos (Stt.a a)) = Pos.block (Side.pos (Stt.a b))) && (decide (Pos.index (Side.pos (Stt.a a)) = Pos.index (Side.pos (Stt.a
 b))) && (decide (Pos.base (Side.pos (Stt.a a)) = Pos.base (Side.pos (Stt.a b))) && true)) && (decide (Side.wait (Stt.a a) = Side.wait (Stt.a b)) && (Side.halted
 (Stt.a a) == Side.halted (Stt.a b) && (decide (Side.done (Stt.a a) = Side.done (Stt.a b)) && true))))) else false then allN (fun i => decide (Side.regs (Stt.e a)
 i = Side.regs (Stt.e b) i)) 16 && (allN (fun i => decide (Side.ready (Stt.e a) i = Side.ready (Stt.e b) i)) 16 && (decide (Pos.block (Side.pos (Stt.e a)) = Pos.block
 (Side.pos (Stt.e b))) && (decide (Pos.index (Side.pos (Stt.e a)) = Pos.index (Side.pos (Stt.e b))) && (decide (Pos.base (Side.pos (Stt.e a)) = Pos.base (Side.pos
 (Stt.e b))) && true)) && (decide (Side.wait (Stt.e a) = Side.wait (Stt.e b)) && (Side.halted (Stt.e a) == Side.halted (Stt.e b) && (decide (Side.done (Stt.e a) =
 Side.done (Stt.e b)) && true))))) else false then decide (Trp.kind (Stt.trap a) = Trp.kind (Stt.trap b)) && (decide (Trp.step (Stt.trap a) = Trp.step (Stt.trap b))
 && (decide (Trp.pc (Stt.trap a) = Trp.pc (Stt.trap b)) && true)) else false then decide (Stt.lats a = Stt.lats b) else false then decide (Stt.picks a = Stt.picks
 b) else false then decide (Stt.tags a = Stt.tags b) else false then y else false then y_1 else false then y_2 else false then ResLe (.bool false) r else False else
 bif !bif bif bif bif bif bif bif bif decide (Stt.cycle a = Stt.cycle b) then allN (fun i => decide (Side.regs (Stt.a a) i = Side.regs (Stt.a b) i)) 16 && (allN (fun
 i => decide (Side.ready (Stt.a a) i = Side.ready (Stt.a b) i)) 16 && (decide (Pos.block (Side.pos (Stt.a a)) = Pos.block (Side.pos (Stt.a b))) && (decide (Pos.index
 (Side.pos (Stt.a a)) = Pos.index (Side.pos (Stt.a b))) && (decide (Pos.base (Side.pos (Stt.a a)) = Pos.base (Side.pos (Stt.a b))) && true)) && (decide (Side.wait
 (Stt.a a) = Side.wait (Stt.a b)) && (Side.halted (Stt.a a) == Side.halted (Stt.a b) && (decide (Side.done (Stt.a a) = Side.done (Stt.a b)) && true))))) else false
 then allN (fun i => decide (Side.regs (Stt.e a) i = Side.regs (Stt.e b) i)) 16 && (allN (fun i => decide (Side.ready (Stt.e a) i = Side.ready (Stt.e b) i)) 16 &&
 (decide (Pos.block (Side.pos (Stt.e a)) = Pos.block (Side.pos (Stt.e b))) && (decide (Pos.index (Side.pos (Stt.e a)) = Pos.index (Side.pos (Stt.e b))) && (decide
 (Pos.base (Side.pos (Stt.e a)) = Pos.base (Side.pos (Stt.e b))) && true)) && (decide (Side.wait (Stt.e a) = Side.wait (Stt.e b)) && (Side.halted (Stt.e a) == Side.halted
 (Stt.e b) && (decide (Side.done (Stt.e a) = Side.done (Stt.e b)) && true))))) else false then decide (Trp.kind (Stt.trap a) = Trp.kind (Stt.trap b)) && (decide (Trp.step
 (Stt.trap a) = Trp.step (Stt.trap b)) && (decide (Trp.pc (Stt.trap a) = Trp.pc (Stt.trap b)) && true)) else false then decide (Stt.lats a = Stt.lats b) else false
 then decide (Stt.picks a = Stt.picks b) else false then decide (Stt.tags a = Stt.tags b) else false then y else false then y_1 else false then ResLe (.bool false)
 r else False else bif !bif bif bif bif bif bif bif decide (Stt.cycle a = Stt.cycle b) then allN (fun i => decide (Side.regs (Stt.a a) i = Side.regs (Stt.a b) i))
 16 && (allN (fun i => decide (Side.ready (Stt.a a) i = Side.ready (Stt.a b) i)) 16 && (decide (Pos.block (Side.pos (Stt.a a)) = Pos.block (Side.pos (Stt.a b))) &&
 (decide (Pos.index (Side.pos (Stt.a a)) = Pos.index (Side.pos (Stt.a b))) && (decide (Pos.base (Side.pos (Stt.a a)) = Pos.base (Side.pos (Stt.a b))) && true)) &&
 (decide (Side.wait (Stt.a a) = Side.wait (Stt.a b)) && (Side.halted (Stt.a a) == Side.halted (Stt.a b) && (decide (Side.done (Stt.a a) = Side.done (Stt.a b)) &&
 true))))) else false then allN (fun i => decide (Side.regs (Stt.e a) i = Side.regs (Stt.e b) i)) 16 && (allN (fun i => decide (Side.ready (Stt.e a) i = Side.ready
 (Stt.e b) i)) 16 && (decide (Pos.block (Side.pos (Stt.e a)) = Pos.block (Side.pos (Stt.e b))) && (decide (Pos.index (Side.pos (Stt.e a)) = Pos.index (Side.pos (Stt.e
 b))) && (decide (Pos.base (Side.pos (Stt.e a)) = Pos.base (Side.pos (Stt.e b))) && true)) && (decide (Side.wait (Stt.e a) = Side.wait (Stt.e b)) && (Side.halted
 (Stt.e a) == Side.halted (Stt.e b) && (decide (Side.done (Stt.e a) = Side.done (Stt.e b)) && true))))) else false then decide (Trp.kind (Stt.trap a) = Trp.kind (Stt.trap
 b)) && (decide (Trp.step (Stt.trap a) = Trp.step (Stt.trap b)) && (decide (Trp.pc (Stt.trap a) = Trp.pc (Stt.trap b)) && true)) else false then decide (Stt.lats
 a = Stt.lats b) else false then decide (Stt.picks a = Stt.picks b) else false then decide (Stt.tags a = Stt.tags b) else false then y else false then ResLe (.bool
 false) r else False else bif !bif bif bif bif bif bif decide (Stt.cycle a = Stt.cycle b) then allN (fun i => decide (Side.regs (Stt.a a) i = Side.regs (Stt.a b)
 i)) 16 && (allN (fun i => decide (Side.ready (Stt.a a) i = Side.ready (Stt.a b) i)) 16 && (decide (Pos.block (Side.pos (Stt.a a)) = Pos.block (Side.pos (Stt.a b)))
 && (decide (Pos.index (Side.pos (Stt.a a)) = Pos.index (Side.pos (Stt.a b))) && (decide (Pos.base (Side.pos (Stt.a a)) = Pos.base (Side.pos (Stt.a b))) && true))
 && (decide (Side.wait (Stt.a a) = Side.wait (Stt.a b)) && (Side.halted (Stt.a a) == Side.halted (Stt.a b) && (decide (Side.done (Stt.a a) = Side.done (Stt.a b))
 && true))))) else false then allN (fun i => decide (Side.regs (Stt.e a) i = Side.regs (Stt.e b) i)) 16 && (allN (fun i => decide (Side.ready (Stt.e a) i = Side.ready
 (Stt.e b) i)) 16 && (decide (Pos.block (Side.pos (Stt.e a)) = Pos.block (Side.pos (Stt.e b))) && (decide (Pos.index (Side.pos (Stt.e a)) = Pos.index (Side.pos (Stt.e
 b))) && (decide (Pos.base (Side.pos (Stt.e a)) = Pos.base (Side.pos (Stt.e b))) && true)) && (decide (Side.wait (Stt.e a) = Side.wait (Stt.e b)) && (Side.halted
 (Stt.e a) == Side.halted (Stt.e b) && (decide (Side.done (Stt.e a) = Side.done (Stt.e b)) && true))))) else false then decide (Trp.kind (Stt.trap a) = Trp.kind (Stt.trap
 b)) && (decide (Trp.step (Stt.trap a) = Trp.step (Stt.trap b)) && (decide (Trp.pc (Stt.trap a) = Trp.pc (Stt.trap b)) && true)) else false then decide (Stt.lats
 a = Stt.lats b) else false then decide (Stt.picks a = Stt.picks b) else false then decide (Stt.tags a = Stt.tags b) else false then ResLe (.bool false) r else False
 else False else False else False else False else False
else False) := by kernel_rfl
theorem same_eq {a b : Stt} : sameF a b = (decide (a.cycle = b.cycle) && (sideB a.a b.a && (sideB a.e b.e && (trpB a.trap b.trap && (decide (a.lats = b.lats) && (decide (a.picks = b.picks) && (decide (a.tags = b.tags) && (decide (a.ldq = b.ldq) && (decide (a.sdq = b.sdq) && (decide (a.aeq = b.aeq) && (decide (a.abq = b.abq) && (decide (a.ebq = b.ebq) && (decide (a.saq = b.saq) && (decide (a.table = b.table) && (decide (a.mem = b.mem) && decide (a.writes = b.writes)))))))))))))))) := by
  rw [Bool.eq_iff_iff, sameF_iff]
  simp only [hdB, Bool.and_eq_true, decide_eq_true_eq]
  constructor
  · rintro ⟨⟨h1, h2, h3, h4, h5, h6, h7, h8, _⟩, h9, h10, h11, h12, h13, h14, h15, h16⟩
    exact ⟨h1, h2, h3, h4, h5, h6, h7, h9, h13, h14, h15, h16, h10, h11, h8, h12⟩
  · rintro ⟨h1, h2, h3, h4, h5, h6, h7, h9, h13, h14, h15, h16, h10, h11, h8, h12⟩
    exact ⟨⟨h1, h2, h3, h4, h5, h6, h7, h8, by rw [h9], by rw [h10], by rw [h11], by rw [h12]⟩, h9, h10, h11, h12, h13, h14, h15, h16⟩
theorem sk_sm : SkOk Try.prog (18, samS) := skOf_ok fun ⟨a, b⟩ h => by
  obtain ⟨ha, hb⟩ : a.ok ∧ b.ok := h
  show Pure _ _ (cons [e_Stt a, e_Stt b]) (con (.bool (sameF a b)))
  refine pureR (u := 80) (k := 20) mix TE1ok ?_
  refine Eq.mpr (r_sm a b _) ?_
  obtain ⟨_, o1, o2, o3, o4, o5, o6, o7, o8, o9⟩ := ha
  simp only [sideB_fold, trpB_fold]
  rw [same_eq]
  generalize decide (a.cycle = b.cycle) = c0
  generalize sideB a.a b.a = c1
  generalize sideB a.e b.e = c2
  generalize trpB a.trap b.trap = c3
  generalize decide (a.lats = b.lats) = c4
  generalize decide (a.picks = b.picks) = c5
  generalize decide (a.tags = b.tags) = c6
  cases c0 with
  | false => exact .rfl
  | true =>
  cases c1 with
  | false => exact .rfl
  | true =>
  cases c2 with
  | false => exact .rfl
  | true =>
  cases c3 with
  | false => exact .rfl
  | true =>
  cases c4 with
  | false => exact .rfl
  | true =>
  cases c5 with
  | false => exact .rfl
  | true =>
  cases c6 with
  | false => exact .rfl
  | true =>
  refine ⟨(a.ldq, b.ldq), .rfl, ⟨o1⟩, ?_⟩
  intro y hy
  replace hy : y = decide (a.ldq = b.ldq) := hy
  rw [← hy]
  clear hy
  cases y with
  | false => exact .rfl
  | true =>
  refine ⟨(a.sdq, b.sdq), .rfl, ⟨o2⟩, ?_⟩
  intro y hy
  replace hy : y = decide (a.sdq = b.sdq) := hy
  rw [← hy]
  clear hy
  cases y with
  | false => exact .rfl
  | true =>
  refine ⟨(a.aeq, b.aeq), .rfl, ⟨o3⟩, ?_⟩
  intro y hy
  replace hy : y = decide (a.aeq = b.aeq) := hy
  rw [← hy]
  clear hy
  cases y with
  | false => exact .rfl
  | true =>
  refine ⟨(a.abq, b.abq), .rfl, ⟨o4⟩, ?_⟩
  intro y hy
  replace hy : y = decide (a.abq = b.abq) := hy
  rw [← hy]
  clear hy
  cases y with
  | false => exact .rfl
  | true =>
  refine ⟨(a.ebq, b.ebq), .rfl, ⟨o5⟩, ?_⟩
  intro y hy
  replace hy : y = decide (a.ebq = b.ebq) := hy
  rw [← hy]
  clear hy
  cases y with
  | false => exact .rfl
  | true =>
  refine ⟨(a.saq, b.saq), .rfl, ⟨o6⟩, ?_⟩
  intro y hy
  replace hy : y = decide (a.saq = b.saq) := hy
  rw [← hy]
  clear hy
  cases y with
  | false => exact .rfl
  | true =>
  refine ⟨(a.table, b.table), .rfl, ⟨o7⟩, ?_⟩
  intro y hy
  replace hy : y = decide (a.table = b.table) := hy
  rw [← hy]
  clear hy
  cases y with
  | false => exact .rfl
  | true =>
  refine ⟨(a.mem, b.mem), .rfl, ⟨o8⟩, ?_⟩
  intro y hy
  replace hy : y = decide (a.mem = b.mem) := hy
  rw [← hy]
  clear hy
  cases y with
  | false => exact .rfl
  | true =>
  refine ⟨(a.writes, b.writes), .rfl, ⟨o9⟩, ?_⟩
  intro y hy
  replace hy : y = decide (a.writes = b.writes) := hy
  rw [← hy]
  clear hy
  cases y <;> exact .rfl
end Go.Proofs.Ythmlnmkbeohojaa

/- Which requests may be. -/
namespace Go.Proofs.Ythmlnmkbeohojaa
open Go.Ra
set_option linter.unusedVariables false
set_option linter.unusedSimpArgs false
def TB1 : Tab := mkT2 qq (cl_bytes ++ cl_ref1) [] [] [] []
/-- How many bytes an operation has. -/
def szI (op : Int) : Int := if op = 26 ∨ op = 31 then 4 else if op = 27 ∨ op = 28 ∨ op = 32 then 2 else if op = 29 ∨ op = 30 ∨ op = 33 then 1 else 0
def szSp : List XV → Option (List Bool × XV)
  | [.int .i64 op] => some ([], .int .i64 (szI op))
  | _ => none
/-- What is wrong with so many bytes at an address. -/
def chkI (s a n : Int) : Int := if s ≥ 1 ∧ ¬ (IntKind.i64.wrap a).tmod s = 0 then 1 else if (s > 0 ∧ (s > n ∨ IntKind.i64.wrap a > IntKind.i64.wrap (n - s))) ∨ (s ≤ 0 ∧ IntKind.i64.wrap (IntKind.i64.wrap a + s) > n) then 2 else 0
def chkSp : List XV → Option (List Bool × XV)
  | [.int .i64 s, .int .u32 a, .int .i64 n] => some ([], .int .i64 (chkI s a n))
  | _ => none
/-- Do so many bytes lie in memory, at a multiple of that? -/
def liesB (addr size n : Int) : Bool := decide (size = 1 ∨ size = 2 ∨ size = 4) && (decide (addr ≥ 0) && (decide (addr ≤ n) && (decide (n - addr ≥ size) && decide (addr % size = 0))))
def plS : List XV → Option ((XV → Prop) → Prop) := skOf (fun q : List Int × Int × Int => [e_row 1 e_u8 q.1, .int .i64 q.2.1, .int .i64 q.2.2]) (fun q => q.1.length ≤ 1000000) (fun q => liesB q.2.1 q.2.2 q.1.length) (fun y => .bool y)
def lieS : List XV → Option ((XV → Prop) → Prop) := skOf (fun q : Int × Int × Int => [.int .i64 q.1, .int .i64 q.2.1, .int .i64 q.2.2]) (fun q => 0 ≤ q.2.2 ∧ q.2.2 ≤ 1000000) (fun q => liesB q.1 q.2.1 q.2.2) (fun y => .bool y)
def TK0 : Tab := mkT2 qq (cl_state ++ cl_ref15) [(83, chkSp)] [] [] []
def bigB (n : Int) : Bool := decide (0 ≤ n ∧ n ≤ 1099511627776)
/-- May a request be? -/
def reqOk (q : Req) (n : Int) : Bool := decide (q.size = szI q.op) && (liesB q.addr q.size n && ((if q.store then decide (formI q.op = 5) else decide (formI q.op = 4)) && (decide (0 ≤ q.left ∧ q.left ≤ 1000) && decide (-1 ≤ q.reg ∧ q.reg ≤ 15))))
def reqS : List XV → Option ((XV → Prop) → Prop) := skOf (fun q : List Int × Req => [e_row 1 e_u8 q.1, e_Req q.2]) (fun q => q.1.length ≤ 1000000) (fun q => reqOk q.2 q.1.length) (fun y => .bool y)
def trapOk (t : Trp) : Bool := if t.kind = 0 then decide (t.step = 0) && decide (t.pc = 0) else decide (1 ≤ t.kind ∧ t.kind ≤ 4) && (bigB t.step && bigB t.pc)
def trpS : List XV → Option ((XV → Prop) → Prop) := skOf (fun t : Trp => [e_Trp t]) (fun t => True) (fun t => trapOk t) (fun y => .bool y)
def TK1 : Tab := mkT2 qq (cl_state ++ cl_ref15) [(85, szSp), (66, szSp), (65, formSp)] [] [(23, wnS), (59, plS), (38, lieS)] []
theorem TB1ok : TabOk Try.prog TB1 := mkT2_ok (clok_bytes.app clok_ref1) trivial trivial trivial trivial
theorem r_size1 (op : Int) (K : XV → Prop) : (quietGo TB1 80 (callI TB1 80 20) 85 [.int .i64 op] K) = (bif decide (op = 26) then bif decide (op = 26) then K (.int .i64 4) else bif decide (op = 27) then bif decide (op = 27) then K (.int .i64 2) else bif decide
 (op = 29) then bif decide (op = 29) then K (.int .i64 1) else K (.int .i64 0) else bif decide (op = 30) then bif decide (op = 30) then K (.int .i64 1) else K (.int
 .i64 0) else bif decide (op = 33) then K (.int .i64 1) else K (.int .i64 0) else bif decide (op = 28) then bif decide (op = 28) then K (.int .i64 2) else bif decide
 (op = 29) then bif decide (op = 29) then K (.int .i64 1) else K (.int .i64 0) else bif decide (op = 30) then bif decide (op = 30) then K (.int .i64 1) else K (.int
 .i64 0) else bif decide (op = 33) then K (.int .i64 1) else K (.int .i64 0) else bif decide (op = 32) then K (.int .i64 2) else bif decide (op = 29) then bif decide
 (op = 29) then K (.int .i64 1) else K (.int .i64 0) else bif decide (op = 30) then bif decide (op = 30) then K (.int .i64 1) else K (.int .i64 0) else bif decide
 (op = 33) then K (.int .i64 1) else K (.int .i64 0)
else bif decide (op = 31) then K (.int .i64 4) else bif decide (op = 27) then bif decide (op = 27) then K (.int
 .i64 2) else bif decide (op = 29) then bif decide (op = 29) then K (.int .i64 1) else K (.int .i64 0) else bif decide (op = 30) then bif decide (op = 30) then K
 (.int .i64 1) else K (.int .i64 0) else bif decide (op = 33) then K (.int .i64 1) else K (.int .i64 0) else bif decide (op = 28) then bif decide (op = 28) then K
 (.int .i64 2) else bif decide (op = 29) then bif decide (op = 29) then K (.int .i64 1) else K (.int .i64 0) else bif decide (op = 30) then bif decide (op = 30) then
 K (.int .i64 1) else K (.int .i64 0) else bif decide (op = 33) then K (.int .i64 1) else K (.int .i64 0) else bif decide (op = 32) then K (.int .i64 2) else bif
 decide (op = 29) then bif decide (op = 29) then K (.int .i64 1) else K (.int .i64 0) else bif decide (op = 30) then bif decide (op = 30) then K (.int .i64 1) else
 K (.int .i64 0) else bif decide (op = 33) then K (.int .i64 1) else K (.int .i64 0)) := by kernel_rfl
theorem r_size2 (op : Int) (K : XV → Prop) : (quietGo TB1 80 (callI TB1 80 20) 66 [.int .i64 op] K) = (bif decide (op = 26) then bif decide (op = 26) then K (.int .i64 4) else bif decide (op = 27) then bif decide (op = 27) then K (.int .i64 2) else bif decide
 (op = 29) then bif decide (op = 29) then K (.int .i64 1) else K (.int .i64 0) else bif decide (op = 30) then bif decide (op = 30) then K (.int .i64 1) else K (.int
 .i64 0) else bif decide (op = 33) then K (.int .i64 1) else K (.int .i64 0) else bif decide (op = 28) then bif decide (op = 28) then K (.int .i64 2) else bif decide
 (op = 29) then bif decide (op = 29) then K (.int .i64 1) else K (.int .i64 0) else bif decide (op = 30) then bif decide (op = 30) then K (.int .i64 1) else K (.int
 .i64 0) else bif decide (op = 33) then K (.int .i64 1) else K (.int .i64 0) else bif decide (op = 32) then K (.int .i64 2) else bif decide (op = 29) then bif decide
 (op = 29) then K (.int .i64 1) else K (.int .i64 0) else bif decide (op = 30) then bif decide (op = 30) then K (.int .i64 1) else K (.int .i64 0) else bif decide
 (op = 33) then K (.int .i64 1) else K (.int .i64 0)
else bif decide (op = 31) then K (.int .i64 4) else bif decide (op = 27) then bif decide (op = 27) then K (.int
 .i64 2) else bif decide (op = 29) then bif decide (op = 29) then K (.int .i64 1) else K (.int .i64 0) else bif decide (op = 30) then bif decide (op = 30) then K
 (.int .i64 1) else K (.int .i64 0) else bif decide (op = 33) then K (.int .i64 1) else K (.int .i64 0) else bif decide (op = 28) then bif decide (op = 28) then K
 (.int .i64 2) else bif decide (op = 29) then bif decide (op = 29) then K (.int .i64 1) else K (.int .i64 0) else bif decide (op = 30) then bif decide (op = 30) then
 K (.int .i64 1) else K (.int .i64 0) else bif decide (op = 33) then K (.int .i64 1) else K (.int .i64 0) else bif decide (op = 32) then K (.int .i64 2) else bif
 decide (op = 29) then bif decide (op = 29) then K (.int .i64 1) else K (.int .i64 0) else bif decide (op = 30) then bif decide (op = 30) then K (.int .i64 1) else
 K (.int .i64 0) else bif decide (op = 33) then K (.int .i64 1) else K (.int .i64 0)) := by kernel_rfl
theorem r_check1 (s a n : Int) (K : XV → Prop) : (quietGo TB1 80 (callI TB1 80 20) 83 [.int .i64 s, .int .u32 a, .int .i64 n] K) = (bif bif !decide (s = 0) then true else !decide (s ≥ 1) then bif bif decide (s ≥ 1) then decide (s ≥ 1) else true then bif bif decide (s ≥ 1) then decide ¬Int.tmod
 (IntKind.wrap .i64 a) s = 0 else false then K (.int .i64 1) else bif bif decide (s > 0) then true else !decide (s > 0) then bif bif bif decide (s > n) then true
 else bif decide (s > 0) then !decide (s > n) else false then true else !decide (s > 0) then bif bif decide (s > 0) then decide (s > 0) else true then bif bif !bif
 decide (s > 0) then bif decide (s > n) then true else decide (IntKind.wrap .i64 a > IntKind.wrap .i64 (n - s)) else false then true else !!bif decide (s > 0) then
 bif decide (s > n) then true else decide (IntKind.wrap .i64 a > IntKind.wrap .i64 (n - s)) else false then bif bif bif decide (s ≤ 0) then bif !bif decide (s > 0)
 then bif decide (s > n) then true else decide (IntKind.wrap .i64 a > IntKind.wrap .i64 (n - s)) else false then decide (s ≤ 0) else false else true then true else
 !!bif decide (s > 0) then bif decide (s > n) then true else decide (IntKind.wrap .i64 a > IntKind.wrap .i64 (n - s)) else false then bif bif bif decide (s > 0) then
 bif decide (s > n) then true else decide (IntKind.wrap .i64 a > IntKind.wrap .i64 (n - s)) else false then true else !bif decide (s > 0) then bif decide (s > n)
 then true else decide (IntKind.wrap .i64 a > IntKind.wrap .i64 (n - s)) else false then bif bif bif decide (s > 0) then bif decide (s > n) then true else decide
 (IntKind.wrap .i64 a > IntKind.wrap .i64 (n - s)) else false then true else bif decide (s ≤ 0) then decide (IntKind.wrap .i64 (IntKind.wrap .i64 a + s) > n) else
 false then K (.int .i64 2) else K (.int .i64 0) else False else False else False else False else False else False else False
else False) := by kernel_rfl
theorem size1 (op : Int) : Pure Try.prog 85 (cons [.int .i64 op]) (con (.int .i64 (szI op))) := by
  refine pureX (u := 80) (k := 20) mix TB1ok ?_
  rw [r_size1]
  unfold szI
  by_cases h1 : op = 26
  · subst h1; simp
  by_cases h2 : op = 27
  · subst h2; simp
  by_cases h3 : op = 28
  · subst h3; simp
  by_cases h4 : op = 29
  · subst h4; simp
  by_cases h5 : op = 30
  · subst h5; simp
  by_cases h6 : op = 31
  · subst h6; simp
  by_cases h7 : op = 32
  · subst h7; simp
  by_cases h8 : op = 33
  · subst h8; simp
  simp [h1, h2, h3, h4, h5, h6, h7, h8]
theorem sp_size1 : SpOk Try.prog (85, szSp) := by
  intro args nd v ha hn
  simp only [szSp] at ha
  split at ha <;> simp only [Option.some.injEq, Prod.mk.injEq, reduceCtorEq] at ha
  obtain ⟨hnd, rfl⟩ := ha
  clear hnd hn
  exact size1 _
theorem sp_size2 : SpOk Try.prog (66, szSp) := by
  intro args nd v ha hn
  simp only [szSp] at ha
  split at ha <;> simp only [Option.some.injEq, Prod.mk.injEq, reduceCtorEq] at ha
  obtain ⟨hnd, rfl⟩ := ha
  clear hnd hn
  rename_i op
  refine pureX (u := 80) (k := 20) mix TB1ok ?_
  rw [r_size2]
  unfold szI
  by_cases h1 : op = 26
  · subst h1; simp
  by_cases h2 : op = 27
  · subst h2; simp
  by_cases h3 : op = 28
  · subst h3; simp
  by_cases h4 : op = 29
  · subst h4; simp
  by_cases h5 : op = 30
  · subst h5; simp
  by_cases h6 : op = 31
  · subst h6; simp
  by_cases h7 : op = 32
  · subst h7; simp
  by_cases h8 : op = 33
  · subst h8; simp
  simp [h1, h2, h3, h4, h5, h6, h7, h8]
theorem check_res (s a n : Int) : quietGo TB1 80 (callI TB1 80 20) 83 [.int .i64 s, .int .u32 a, .int .i64 n] (fun v => con v = con (.int .i64 (chkI s a n))) := by
  rw [r_check1]
  unfold chkI
  by_cases h1 : s ≥ 1
  · have h0 : ¬ s = 0 := by omega
    have h2 : s > 0 := by omega
    have h3 : ¬ s ≤ 0 := by omega
    by_cases h4 : (IntKind.i64.wrap a).tmod s = 0
    · by_cases h5 : s > n
      · simp [h0, h1, h2, h3, h4, h5]
      · by_cases h6 : IntKind.i64.wrap a > IntKind.i64.wrap (n - s)
        · simp [h0, h1, h2, h3, h4, h5, h6]
        · simp [h0, h1, h2, h3, h4, h5, h6]
    · simp [h0, h1, h2, h3, h4]
  · have h2 : ¬ s > 0 := by omega
    have h3 : s ≤ 0 := by omega
    by_cases h6 : IntKind.i64.wrap (IntKind.i64.wrap a + s) > n
    · simp [h1, h2, h3, h6]
    · simp [h1, h2, h3, h6]
theorem sp_check1 : SpOk Try.prog (83, chkSp) := by
  intro args nd v ha hn
  simp only [chkSp] at ha
  split at ha <;> simp only [Option.some.injEq, Prod.mk.injEq, reduceCtorEq] at ha
  obtain ⟨hnd, rfl⟩ := ha
  clear hnd hn
  exact pureX mix TB1ok (check_res _ _ _)
theorem TK0ok : TabOk Try.prog TK0 := mkT2_ok (clok_state.app clok_ref15) ⟨sp_check1, trivial⟩ trivial trivial trivial
theorem r_pl (m : List Int) (addr size : Int) (r : XV) : (quietGo TK0 80 (callI TK0 80 20) 59 [e_row 1 e_u8 m, .int .i64 addr, .int .i64 size] (fun v => ResLe v r)) = (bif bif decide (size = 1) then true else !decide (size = 1) then bif bif bif decide (size = 1) then true else decide (size = 2) then true else !bif decide (size
 = 1) then true else decide (size = 2) then bif bif bif bif decide (size = 1) then true else decide (size = 2) then true else decide (size = 4) then bif bif decide
 (size = 1) then true else decide (size = 2) then true else decide (size = 4) else true then bif bif bif bif bif decide (size = 1) then true else decide (size = 2)
 then true else decide (size = 4) then decide (addr ≥ 0) else false then bif bif bif decide (size = 1) then true else decide (size = 2) then true else decide (size
 = 4) then decide (addr ≥ 0) else false else true then bif bif bif bif bif bif decide (size = 1) then true else decide (size = 2) then true else decide (size = 4)
 then decide (addr ≥ 0) else false then decide (addr ≤ (↑(List.length m) : Int)) else false then bif bif bif bif decide (size = 1) then true else decide (size = 2)
 then true else decide (size = 4) then decide (addr ≥ 0) else false then decide (addr ≤ (↑(List.length m) : Int)) else false else true then ResLe (.bool (bif bif
 bif bif bif decide (size = 1) then true else decide (size = 2) then true else decide (size = 4) then decide (addr ≥ 0) else false then decide (addr ≤ (↑(List.length
 m) : Int)) else false then decide (chkI size (IntKind.wrap .u32 addr) (↑(List.length m) : Int) = 0) else false)) r else False else False else False else False
else
 False) := by kernel_rfl
theorem r_li (addr size n : Int) (r : XV) : (quietGo TK0 80 (callI TK0 80 20) 38 [.int .i64 addr, .int .i64 size, .int .i64 n] (fun v => ResLe v r)) = (bif bif decide (size = 1) then true else !decide (size = 1) then bif bif bif decide (size = 1) then true else decide (size = 2) then true else !bif decide (size
 = 1) then true else decide (size = 2) then bif bif bif bif decide (size = 1) then true else decide (size = 2) then true else decide (size = 4) then bif bif decide
 (size = 1) then true else decide (size = 2) then true else decide (size = 4) else true then bif bif bif bif bif decide (size = 1) then true else decide (size = 2)
 then true else decide (size = 4) then decide (addr ≥ 0) else false then bif bif bif decide (size = 1) then true else decide (size = 2) then true else decide (size
 = 4) then decide (addr ≥ 0) else false else true then bif bif bif bif bif bif decide (size = 1) then true else decide (size = 2) then true else decide (size = 4)
 then decide (addr ≥ 0) else false then decide (addr ≤ n) else false then bif bif bif bif decide (size = 1) then true else decide (size = 2) then true else decide
 (size = 4) then decide (addr ≥ 0) else false then decide (addr ≤ n) else false else true then bif bif !decide (size = 0) then true else !bif bif bif bif bif decide
 (size = 1) then true else decide (size = 2) then true else decide (size = 4) then decide (addr ≥ 0) else false then decide (addr ≤ n) else false then decide (IntKind.wrap
 .i64 (n - addr) ≥ size) else false then bif bif bif bif bif bif bif decide (size = 1) then true else decide (size = 2) then true else decide (size = 4) then decide
 (addr ≥ 0) else false then decide (addr ≤ n) else false then decide (IntKind.wrap .i64 (n - addr) ≥ size) else false then bif bif bif bif bif decide (size = 1) then
 true else decide (size = 2) then true else decide (size = 4) then decide (addr ≥ 0) else false then decide (addr ≤ n) else false then decide (IntKind.wrap .i64 (n
 - addr) ≥ size) else false else true then ResLe (.bool (bif bif bif bif bif bif decide (size = 1) then true else decide (size = 2) then true else decide (size =
 4) then decide (addr ≥ 0) else false then decide (addr ≤ n) else false then decide (IntKind.wrap .i64 (n - addr) ≥ size) else false then decide (Int.tmod addr size
 = 0) else false)) r else False else False else False else False else False else False
else False) := by kernel_rfl
theorem r_rq (m : List Int) (q : Req) (r : XV) : (quietGo TK1 80 (callI TK1 80 20) 62 [e_row 1 e_u8 m, e_Req q] (fun v => ResLe v r)) = (bif Req.store q then bif decide (Req.size q = szI (Req.op q)) then ∃ (s : Int × Int × List Int), ArgsLe [.int .i64 31, .int .i64 33, .row true 1 1 fun a => .int
 .i64 (Req.op q)] [.int .i64 (Prod.fst s), .int .i64 (Prod.fst (Prod.snd s)), e_row 1 e_i64 (Prod.snd (Prod.snd s))] ∧ PreIs (List.length (Prod.snd (Prod.snd s))
 ≤ 1000000) ∧ ∀ (y : Bool), y = withinF (Prod.fst s) (Prod.fst (Prod.snd s)) (Prod.snd (Prod.snd s)) → bif bif decide (Req.size q = szI (Req.op q)) then y else false
 then ∃ (s : List Int × Int × Int), ArgsLe [e_row 1 e_u8 m, .int .i64 (Req.addr q), .int .i64 (Req.size q)] [e_row 1 e_u8 (Prod.fst s), .int .i64 (Prod.fst (Prod.snd
 s)), .int .i64 (Prod.snd (Prod.snd s))] ∧ PreIs (List.length (Prod.fst s) ≤ 1000000) ∧ ∀ (y_1 : Bool), y_1 = liesB (Prod.fst (Prod.snd s)) (Prod.snd (Prod.snd s))
 (↑(List.length (Prod.fst s)) : Int) → bif bif bif decide (Req.size q = szI (Req.op q)) then y else false then y_1 else false then ∃ (s : Int × Int × List Int), ArgsLe
 [.int .i64 0, .int .i64 1000, .row true 1 1 fun a => .int .i64 (Req.left q)] [.int .i64 (Prod.fst s), .int .i64 (Prod.fst (Prod.snd s)), e_row 1 e_i64 (Prod.snd
 (Prod.snd s))] ∧ PreIs (List.length (Prod.snd (Prod.snd s)) ≤ 1000000) ∧ ∀ (y_2 : Bool), y_2 = withinF (Prod.fst s) (Prod.fst (Prod.snd s)) (Prod.snd (Prod.snd s))
 → bif bif bif bif decide (Req.size q = szI (Req.op q)) then y else false then y_1 else false then y_2 else false then ∃ (s : Int × Int × List Int), ArgsLe [.int
 .i64 (-1 : Int), .int .i64 15, .row true 1 1 fun a => .int .i64 (Req.reg q)] [.int .i64 (Prod.fst s), .int .i64 (Prod.fst (Prod.snd s)), e_row 1 e_i64 (Prod.snd
 (Prod.snd s))] ∧ PreIs (List.length (Prod.snd (Prod.snd s)) ≤ 1000000) ∧ ∀ (y_3 : Bool), y_3 = withinF (Prod.fst s) (Prod.fst (Prod.snd s)) (Prod.snd (Prod.snd s))
 → ResLe (.bool (bif bif bif bif decide (Req.size q = szI (Req.op q)) then y else false then y_1 else false then y_2 else false then y_3 else false)) r else bif !bif
 bif bif decide (Req.size q = szI (Req.op q)) then y else false then y_1 else false then y_2 else false then ResLe (.bool false) r else False else bif !bif bif decide
 (Req.size q = szI (Req.op q)) then y else false then y_1 else false then ResLe (.bool false) r else False else bif !bif decide (Req.size q = szI (Req.op q)) then
 y else false then ResLe (.bool false) r else False else bif !decide (Req.size q = szI (Req.op q)) then ResLe (.bool false) r else False
else bif decide (Req.size
 q = szI (Req.op q)) then ∃ (s : Int × Int × List Int), ArgsLe [.int .i64 26, .int .i64 30, .row true 1 1 fun a => .int .i64 (Req.op q)] [.int .i64 (Prod.fst s),
 .int .i64 (Prod.fst (Prod.snd s)), e_row 1 e_i64 (Prod.snd (Prod.snd s))] ∧ PreIs (List.length (Prod.snd (Prod.snd s)) ≤ 1000000) ∧ ∀ (y : Bool), y = withinF (Prod.fst
 s) (Prod.fst (Prod.snd s)) (Prod.snd (Prod.snd s)) → bif bif decide (Req.size q = szI (Req.op q)) then y else false then ∃ (s : List Int × Int × Int), ArgsLe [e_row
 1 e_u8 m, .int .i64 (Req.addr q), .int .i64 (Req.size q)] [e_row 1 e_u8 (Prod.fst s), .int .i64 (Prod.fst (Prod.snd s)), .int .i64 (Prod.snd (Prod.snd s))] ∧ PreIs
 (List.length (Prod.fst s) ≤ 1000000) ∧ ∀ (y_1 : Bool), y_1 = liesB (Prod.fst (Prod.snd s)) (Prod.snd (Prod.snd s)) (↑(List.length (Prod.fst s)) : Int) → bif bif
 bif decide (Req.size q = szI (Req.op q)) then y else false then y_1 else false then ∃ (s : Int × Int × List Int), ArgsLe [.int .i64 0, .int .i64 1000, .row true
 1 1 fun a => .int .i64 (Req.left q)] [.int .i64 (Prod.fst s), .int .i64 (Prod.fst (Prod.snd s)), e_row 1 e_i64 (Prod.snd (Prod.snd s))] ∧ PreIs (List.length (Prod.snd
 (Prod.snd s)) ≤ 1000000) ∧ ∀ (y_2 : Bool), y_2 = withinF (Prod.fst s) (Prod.fst (Prod.snd s)) (Prod.snd (Prod.snd s)) → bif bif bif bif decide (Req.size q = szI
 (Req.op q)) then y else false then y_1 else false then y_2 else false then ∃ (s : Int × Int × List Int), ArgsLe [.int .i64 (-1 : Int), .int .i64 15, .row true 1
 1 fun a => .int .i64 (Req.reg q)] [.int .i64 (Prod.fst s), .int .i64 (Prod.fst (Prod.snd s)), e_row 1 e_i64 (Prod.snd (Prod.snd s))] ∧ PreIs (List.length (Prod.snd
 (Prod.snd s)) ≤ 1000000) ∧ ∀ (y_3 : Bool), y_3 = withinF (Prod.fst s) (Prod.fst (Prod.snd s)) (Prod.snd (Prod.snd s)) → ResLe (.bool (bif bif bif bif decide (Req.size
 q = szI (Req.op q)) then y else false then y_1 else false then y_2 else false then y_3 else false)) r else bif !bif bif bif decide (Req.size q = szI (Req.op q))
 then y else false then y_1 else false then y_2 else false then ResLe (.bool false) r else False else bif !bif bif decide (Req.size q = szI (Req.op q)) then y else
 false then y_1 else false then ResLe (.bool false) r else False else bif !bif decide (Req.size q = szI (Req.op q)) then y else false then ResLe (.bool false) r else
 False else bif !decide (Req.size q = szI (Req.op q)) then ResLe (.bool false) r else False) := by kernel_rfl
theorem r_tp (t : Trp) (r : XV) : (quietGo TK1 80 (callI TK1 80 20) 35 [e_Trp t] (fun v => ResLe v r)) = (bif decide (Trp.kind t = 0) then bif bif decide (Trp.step t = 0) then decide (Trp.step t = 0) else true then ResLe (.bool (bif decide (Trp.step t = 0) then decide
 (Trp.pc t = 0) else false)) r else False
else ∃ (s : Int × Int × List Int), ArgsLe [.int .i64 1, .int .i64 4, .row true 1 1 fun a => .int .i64 (Trp.kind t)] [.int
 .i64 (Prod.fst s), .int .i64 (Prod.fst (Prod.snd s)), e_row 1 e_i64 (Prod.snd (Prod.snd s))] ∧ PreIs (List.length (Prod.snd (Prod.snd s)) ≤ 1000000) ∧ ∀ (y : Bool),
 y = withinF (Prod.fst s) (Prod.fst (Prod.snd s)) (Prod.snd (Prod.snd s)) → bif y then ∃ (s : Int × Int × List Int), ArgsLe [.int .i64 0, .int .i64 1099511627776,
 .row true 1 2 fun a => .int .i64 (bif Nat.beq a 0 then Trp.step t else Trp.pc t)] [.int .i64 (Prod.fst s), .int .i64 (Prod.fst (Prod.snd s)), e_row 1 e_i64 (Prod.snd
 (Prod.snd s))] ∧ PreIs (List.length (Prod.snd (Prod.snd s)) ≤ 1000000) ∧ ∀ (y_1 : Bool), y_1 = withinF (Prod.fst s) (Prod.fst (Prod.snd s)) (Prod.snd (Prod.snd s))
 → ResLe (.bool (bif y then y_1 else false)) r else bif !y then ResLe (.bool false) r else False) := by kernel_rfl
theorem resB {x y : Bool} (h : x = y) : ResLe (.bool x) (.bool y) := by rw [h]; exact .rfl
theorem w1F {lo hi x : Int} : withinF lo hi [x] = decide (lo ≤ x ∧ x ≤ hi) := by simp [withinF]
theorem tmod_s {a s : Int} (ha : 0 ≤ a) : a.tmod s = a % s := Int.tmod_eq_emod_of_nonneg ha
theorem chk_lies {addr size n : Int} (hs : size = 1 ∨ size = 2 ∨ size = 4) (h0 : 0 ≤ addr) (h1 : addr ≤ n) (hn : n ≤ 1000000) : chkI size (IntKind.u32.wrap addr) n = 0 ↔ (n - addr ≥ size ∧ addr % size = 0) := by
  have w0 : IntKind.u32.wrap addr = addr := by rw [wU32]; omega
  have w1 : IntKind.i64.wrap addr = addr := wrap_i64 (by omega) (by omega)
  have w2 : IntKind.i64.wrap (n - size) = n - size := wrap_i64 (by omega) (by omega)
  unfold chkI
  rw [w0, w1, w2, tmod_s h0]
  rcases hs with rfl | rfl | rfl <;> (split <;> (try split) <;> simp at * <;> omega)
theorem sk_pl : SkOk Try.prog (59, plS) := skOf_ok fun ⟨m, addr, size⟩ h => by
  have hm : m.length ≤ 1000000 := h
  show Pure _ _ (cons [e_row 1 e_u8 m, .int .i64 addr, .int .i64 size]) (con (.bool (liesB addr size m.length)))
  refine pureR (u := 80) (k := 20) mix TK0ok ?_
  refine Eq.mpr (r_pl m addr size _) ?_
  simp only [g1, g2, g3, g4, g5, g6, g7, allN_true, cond_true, Nat.le_refl, decide_true, pl_eq]
  simp only [bor, band]
  refine resB ?_
  unfold liesB
  rw [Bool.eq_iff_iff]
  simp only [Bool.and_eq_true, Bool.or_eq_true, decide_eq_true_eq, or_assoc]
  constructor
  · rintro ⟨⟨⟨h1, h2⟩, h3⟩, h4⟩
    have := (chk_lies h1 h2 h3 (by omega)).1 h4
    exact ⟨h1, h2, h3, this.1, this.2⟩
  · rintro ⟨h1, h2, h3, h4, h5⟩
    exact ⟨⟨⟨h1, h2⟩, h3⟩, (chk_lies h1 h2 h3 (by omega)).2 ⟨h4, h5⟩⟩
theorem sk_lies : SkOk Try.prog (38, lieS) := skOf_ok fun ⟨addr, size, n⟩ h => by
  obtain ⟨hn0, hn⟩ : 0 ≤ n ∧ n ≤ 1000000 := h
  show Pure _ _ (cons [.int .i64 addr, .int .i64 size, .int .i64 n]) (con (.bool (liesB addr size n)))
  refine pureR (u := 80) (k := 20) mix TK0ok ?_
  refine Eq.mpr (r_li addr size n _) ?_
  simp only [g1, g2, g3, g4, g5, g6, g7, allN_true, cond_true, Nat.le_refl, decide_true, pl_eq]
  simp only [bor, band]
  by_cases hs : size = 1 ∨ size = 2 ∨ size = 4
  · by_cases ha : 0 ≤ addr ∧ addr ≤ n
    · obtain ⟨ha0, ha1⟩ := ha
      have w1 : IntKind.i64.wrap (n - addr) = n - addr := wrap_i64 (by omega) (by omega)
      have hs' : (decide (size = 1) || decide (size = 2) || decide (size = 4)) = true := by simpa [or_assoc] using hs
      have z : ¬ size = 0 := by omega
      simp only [hs', w1, tmod_s ha0, z, g1, g2, g3, g4, g5, g6, g7, allN_true, cond_true, Nat.le_refl, decide_true, pl_eq]
      refine resB ?_
      unfold liesB
      rw [Bool.eq_iff_iff]
      simp only [Bool.and_eq_true, Bool.or_eq_true, decide_eq_true_eq, or_assoc]
      constructor
      · rintro ⟨⟨⟨⟨_, h2⟩, h3⟩, h4⟩, h5⟩
        exact ⟨hs, h2, h3, h4, h5⟩
      · rintro ⟨_, h2, h3, h4, h5⟩
        exact ⟨⟨⟨⟨trivial, h2⟩, h3⟩, h4⟩, h5⟩
    · have hs' : (decide (size = 1) || decide (size = 2) || decide (size = 4)) = true := by simpa [or_assoc] using hs
      have z : ¬ size = 0 := by omega
      have ha' : (decide (addr ≥ 0) && decide (addr ≤ n)) = false := by
        rw [← Bool.not_eq_true, Bool.and_eq_true, decide_eq_true_eq, decide_eq_true_eq]
        exact ha
      have e : liesB addr size n = false := by
        rw [← Bool.not_eq_true]
        unfold liesB
        simp only [Bool.and_eq_true, decide_eq_true_eq]
        rintro ⟨_, h2, h3, _⟩
        exact ha ⟨h2, h3⟩
      rw [e]
      simp only [hs', z, ha', Bool.true_and, Bool.false_and, decide_false, Bool.not_false, Bool.true_or, cond_true, cond_false]
      first | exact .rfl | (cases decide (addr ≥ 0) <;> cases decide (addr ≤ n) <;> first | exact .rfl | simp at ha')
  · have hs' : (decide (size = 1) || decide (size = 2) || decide (size = 4)) = false := by simpa [not_or, and_assoc] using hs
    simp only [hs', Bool.false_and, cond_false, Bool.not_false, g1, g2, g3, g4, g5, g6, g7, allN_true, cond_true, Nat.le_refl, decide_true, pl_eq]
    have e : liesB addr size n = false := by
      unfold liesB
      rw [decide_eq_false hs]
      rfl
    rw [e, Bool.or_true]
    exact .rfl
theorem TK1ok : TabOk Try.prog TK1 := mkT2_ok (clok_state.app clok_ref15) ⟨sp_size1, sp_size2, sp_form, trivial⟩ trivial ⟨sk_wn, sk_pl, sk_lies, trivial⟩ trivial
theorem form_st {a : Int} : decide (formI a = 5) = withinF 31 33 [a] := by
  rw [w1F]
  refine decide_eq_decide.2 ?_
  unfold formI
  repeat' split
  all_goals omega
theorem form_ld {a : Int} : decide (formI a = 4) = withinF 26 30 [a] := by
  rw [w1F]
  refine decide_eq_decide.2 ?_
  unfold formI
  repeat' split
  all_goals omega
theorem sk_req : SkOk Try.prog (62, reqS) := skOf_ok fun ⟨m, q⟩ h => by
  have hm : m.length ≤ 1000000 := h
  show Pure _ _ (cons [e_row 1 e_u8 m, e_Req q]) (con (.bool (reqOk q m.length)))
  refine pureR (u := 80) (k := 20) mix TK1ok ?_
  refine Eq.mpr (r_rq m q _) ?_
  have go : ∀ (f lo hi : Int), decide (formI q.op = f) = withinF lo hi [q.op] → (decide (q.size = szI q.op) && (liesB q.addr q.size m.length && (decide (formI q.op = f) && (decide (0 ≤ q.left ∧ q.left ≤ 1000) && decide (-1 ≤ q.reg ∧ q.reg ≤ 15))))) = (decide (q.size = szI q.op) && (withinF lo hi [q.op] && (liesB q.addr q.size m.length && (withinF 0 1000 [q.left] && withinF (-1) 15 [q.reg])))) := fun f lo hi e => by
    rw [e, w1F (lo := 0), w1F (lo := -1)]
    cases liesB q.addr q.size m.length <;> cases withinF lo hi [q.op] <;> simp
  have key : reqOk q m.length = (decide (q.size = szI q.op) && ((if q.store then withinF 31 33 [q.op] else withinF 26 30 [q.op]) && (liesB q.addr q.size m.length && (withinF 0 1000 [q.left] && withinF (-1) 15 [q.reg])))) := by
    unfold reqOk
    cases q.store with
    | true => exact go 5 31 33 form_st
    | false => exact go 4 26 30 form_ld
  rw [key]
  generalize decide (q.size = szI q.op) = c
  cases hst : q.store with
  | true =>
    simp only [cond_true, if_true]
    cases c with
    | false => exact .rfl
    | true =>
    refine ⟨(31, 33, [q.op]), ⟨lqs_cons (.refl _) (lqs_cons (.refl _) (lqs_cons (lq_lit1 (.refl _)) lqs_nil))⟩, ⟨by show 1 ≤ 1000000; omega⟩, ?_⟩
    intro y hy
    replace hy : y = withinF 31 33 [q.op] := hy
    rw [← hy]
    clear hy
    cases y with
    | false => exact .rfl
    | true =>
    refine ⟨(m, q.addr, q.size), .rfl, ⟨hm⟩, ?_⟩
    intro y hy
    replace hy : y = liesB q.addr q.size m.length := hy
    rw [← hy]
    clear hy
    cases y with
    | false => exact .rfl
    | true =>
    refine ⟨(0, 1000, [q.left]), ⟨lqs_cons (.refl _) (lqs_cons (.refl _) (lqs_cons (lq_lit1 (.refl _)) lqs_nil))⟩, ⟨by show 1 ≤ 1000000; omega⟩, ?_⟩
    intro y hy
    replace hy : y = withinF 0 1000 [q.left] := hy
    rw [← hy]
    clear hy
    cases y with
    | false => exact .rfl
    | true =>
    refine ⟨(-1, 15, [q.reg]), ⟨lqs_cons (.refl _) (lqs_cons (.refl _) (lqs_cons (lq_lit1 (.refl _)) lqs_nil))⟩, ⟨by show 1 ≤ 1000000; omega⟩, ?_⟩
    intro y hy
    replace hy : y = withinF (-1) 15 [q.reg] := hy
    rw [← hy]
    clear hy
    cases y <;> exact .rfl
  | false =>
    simp only [cond_false, Bool.false_eq_true, if_false]
    cases c with
    | false => exact .rfl
    | true =>
    refine ⟨(26, 30, [q.op]), ⟨lqs_cons (.refl _) (lqs_cons (.refl _) (lqs_cons (lq_lit1 (.refl _)) lqs_nil))⟩, ⟨by show 1 ≤ 1000000; omega⟩, ?_⟩
    intro y hy
    replace hy : y = withinF 26 30 [q.op] := hy
    rw [← hy]
    clear hy
    cases y with
    | false => exact .rfl
    | true =>
    refine ⟨(m, q.addr, q.size), .rfl, ⟨hm⟩, ?_⟩
    intro y hy
    replace hy : y = liesB q.addr q.size m.length := hy
    rw [← hy]
    clear hy
    cases y with
    | false => exact .rfl
    | true =>
    refine ⟨(0, 1000, [q.left]), ⟨lqs_cons (.refl _) (lqs_cons (.refl _) (lqs_cons (lq_lit1 (.refl _)) lqs_nil))⟩, ⟨by show 1 ≤ 1000000; omega⟩, ?_⟩
    intro y hy
    replace hy : y = withinF 0 1000 [q.left] := hy
    rw [← hy]
    clear hy
    cases y with
    | false => exact .rfl
    | true =>
    refine ⟨(-1, 15, [q.reg]), ⟨lqs_cons (.refl _) (lqs_cons (.refl _) (lqs_cons (lq_lit1 (.refl _)) lqs_nil))⟩, ⟨by show 1 ≤ 1000000; omega⟩, ?_⟩
    intro y hy
    replace hy : y = withinF (-1) 15 [q.reg] := hy
    rw [← hy]
    clear hy
    cases y <;> exact .rfl
end Go.Proofs.Ythmlnmkbeohojaa

