/- Abstract code of the functions of slices: printed by a program from what the given translation yields. -/
import Derived.Test.YtihhfmdihhmbdaaKq
namespace Go.Proofs.Ytihhfmdihhmbdaa
open Go.Ra
def c_slices_Clone_Entry_Entry : AC := cloneC 5 32
theorem t_slices_Clone_Entry_Entry : trF Try.prog qq 37 = some (8, [(.tmp 2)], c_slices_Clone_Entry_Entry) := by kernel_rfl
def c_slices_Clone_byte_byte : AC := cloneC 1 1
theorem t_slices_Clone_byte_byte : trF Try.prog qq 39 = some (8, [(.tmp 2)], c_slices_Clone_byte_byte) := by kernel_rfl
/-- The functions of slices. -/
def cl_slices : CodeL := [(37, 8, [(.tmp 2)], c_slices_Clone_Entry_Entry), (39, 8, [(.tmp 2)], c_slices_Clone_byte_byte)]
theorem clok_slices : AllL (fun p => trF Try.prog qq p.1 = some p.2) cl_slices := ⟨t_slices_Clone_Entry_Entry, t_slices_Clone_byte_byte, trivial⟩
/-- What is told of those that only make memory. -/
def gl_slices : SgL := [(37, makeS 5 32), (39, makeS 1 1)]
theorem glok_slices : AllL (SgOk Try.prog qq) gl_slices := ⟨makeS_ok fun x es0 ts h1 h2 h3 => makes_clone mix t_slices_Clone_Entry_Entry (by decide) x es0 ts h1 h2 h3, makeS_ok fun x es0 ts h1 h2 h3 => makes_clone mix t_slices_Clone_byte_byte (by decide) x es0 ts h1 h2 h3, trivial⟩
end Go.Proofs.Ytihhfmdihhmbdaa
