/- Banks: what shows that the layers are there. -/
import Derived.Test.YtbemlndjdbopeaaKlaw18
import Derived.Test.YtbemlndjdbopeaaKlaw23
import Derived.Test.YtbemlndjdbopeaaKbanks
import Derived.Test.YtbemlndjdbopeaaKbytes
import Derived.Test.YtbemlndjdbopeaaKcommit
import Derived.Test.YtbemlndjdbopeaaKref1
import Derived.Test.YtbemlndjdbopeaaKref15
import Derived.Test.YtbemlndjdbopeaaKref21
import Derived.Test.YtbemlndjdbopeaaKsaq
import Derived.Test.YtbemlndjdbopeaaKslices
import Derived.Test.YtbemlndjdbopeaaKslots
import Derived.Test.YtbemlndjdbopeaaKstate
import Derived.Test.YtbemlndjdbopeaaRaZg
namespace Go.Proofs.Ytbemlndjdbopeaa
open Go.Ra
set_option linter.unusedVariables false
set_option linter.unusedSimpArgs false
def TK0 : Tab := mkT qq (cl_law18 ++ cl_law23 ++ cl_banks ++ cl_bytes ++ cl_commit ++ cl_ref1 ++ cl_ref15 ++ cl_ref21 ++ cl_saq ++ cl_slices ++ cl_slots ++ cl_state) [] (gl_slices ++ gl_ref15)
def alvSp : List XV → Option (List Bool × XV)
  | [] => some ([], .bool true)
  | _ => none
def TK : Tab := mkT qq (cl_law18 ++ cl_law23 ++ cl_banks ++ cl_bytes ++ cl_commit ++ cl_ref1 ++ cl_ref15 ++ cl_ref21 ++ cl_saq ++ cl_slices ++ cl_slots ++ cl_state) [(21, alvSp), (12, alvSp)] (gl_slices ++ gl_ref15)
theorem TK0ok : TabOk Try.prog TK0 := mkT_ok (((((((((((clok_law18.app clok_law23).app clok_banks).app clok_bytes).app clok_commit).app clok_ref1).app clok_ref15).app clok_ref21).app clok_saq).app clok_slices).app clok_slots).app clok_state) trivial (glok_slices.app glok_ref15)
theorem r_alv18 (K : XV → Prop) : (quietGo TK0 80 (callI TK0 80 20) 21 [] K) =
    (K (XV.bool true)) := by kernel_rfl
theorem r_alv23 (K : XV → Prop) : (quietGo TK0 80 (callI TK0 80 20) 12 [] K) =
    (K (XV.bool true)) := by kernel_rfl
theorem alv18 : Pure Try.prog 21 (cons []) (con (.bool true)) := by
  refine pureX (u := 80) (k := 20) mix TK0ok ?_
  rw [r_alv18]
theorem sp_alv18 : SpOk Try.prog (21, alvSp) := fun args nd v h hn => by
  simp only [alvSp] at h
  split at h
  · simp only [Option.some.injEq, Prod.mk.injEq] at h
    obtain ⟨rfl, rfl⟩ := h
    exact alv18
  · cases h
theorem alv23 : Pure Try.prog 12 (cons []) (con (.bool true)) := by
  refine pureX (u := 80) (k := 20) mix TK0ok ?_
  rw [r_alv23]
theorem sp_alv23 : SpOk Try.prog (12, alvSp) := fun args nd v h hn => by
  simp only [alvSp] at h
  split at h
  · simp only [Option.some.injEq, Prod.mk.injEq] at h
    obtain ⟨rfl, rfl⟩ := h
    exact alv23
  · cases h
theorem TKok : TabOk Try.prog TK := mkT_ok (((((((((((clok_law18.app clok_law23).app clok_banks).app clok_bytes).app clok_commit).app clok_ref1).app clok_ref15).app clok_ref21).app clok_saq).app clok_slices).app clok_slots).app clok_state) ⟨sp_alv18, sp_alv23, trivial⟩ (glok_slices.app glok_ref15)
theorem pk3 (p z : Bool) : (bif (bif p then (bif !z then p else false) else true) then true else !!z) = true := by cases p <;> cases z <;> rfl
theorem pk4 (z : Bool) : (bif (bif !z then true else false) then true else !!z) = true := by cases z <;> rfl
end Go.Proofs.Ytbemlndjdbopeaa
