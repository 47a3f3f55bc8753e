/- Abstract code of the functions of word: printed by a program from what the given translation yields. -/
import Derived.Test.YtghmogkapedmfaaKq
namespace Go.Proofs.Ytghmogkapedmfaa
open Go.Ra
def c_word_Of : AC := (.seq (.ops [⟨(.some 2), (.mv (.c (.sc (.int .u32 0)))), .none⟩]) (.seq (.ops [⟨(.some 3), (.mv (.t 0)), .none⟩, ⟨(.some 4), (.conv .u32 (.t 3)), .none⟩, ⟨(.some 2), (.mv (.t 4)), .none⟩]) .ret))
theorem t_word_Of : trF Try.prog qq 26 = some (5, [(.tmp 2)], c_word_Of) := by kernel_rfl
/-- The functions of word. -/
def cl_word : CodeL := [(26, 5, [(.tmp 2)], c_word_Of)]
theorem clok_word : AllL (fun p => trF Try.prog qq p.1 = some p.2) cl_word := ⟨t_word_Of, trivial⟩
end Go.Proofs.Ytghmogkapedmfaa
