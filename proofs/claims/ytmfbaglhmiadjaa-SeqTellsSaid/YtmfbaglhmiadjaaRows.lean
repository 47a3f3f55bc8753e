/-
  No cell of these rows narrows 'for every input' (looked for: loops, veiled, ifaces, maps, wideKeys, modest, calm, conditions, laid).
  DERIVED. THE GIVEN ROWS OF THIS SEAT. 7 by the template 'for every input the law returns true; each argument reads behind the call as it read before'; 0 by the template 'total and deterministic' (their statements: YtmfbaglhmiadjaaTotals.lean).
  GIVEN WITH THE SEED: the statements are not yours to turn. If you find one false, say at which input.
  Laid BY PROGRAM, IN A SANDBOX (cutbox-rows.mjs): the forced cells as the released guide's own fill.sh prints them over the translation a9faa1d6c572da18… (all of the seat's roots in one cut). By AI agents, Wed Nov 11 2026. No macro, syntax, notation, axiom, sorry.
-/
import Derived.Test.YtmfbaglhmiadjaaChecked
import GoSem.Claim
import GoSem.ClaimJoined
import GoSem.ClaimMapViews
import Derived.JoinedTies
import Derived.KernelRfl
namespace Go.Proofs.Ytmfbaglhmiadjaa
/- THE CELL 'sum', in the pinned program and in every row, IS THE sha256 OF THE DUMP (.gsa) THAT YtmfbaglhmiadjaaProg.lean LOADS. Nothing in Lean hashes anything: it is a label: what it is worth is what the hold of that sum in a sandbox is worth. -/
noncomputable def Try.pinned : Pinned := { name := "ytmfbaglhmiadjaa", sum := "a9faa1d6c572da183a30ef44886beea493d8ad754e5597826d15a2d8882eac89", checked := Try.checked }
namespace Rows
def none {H : Type} : Left H := { results := [], args := [] }

/-- 'forerunnerlaw6.SeqWrites': WHATEVER THE INPUT: true; the input reads as it did. -/
def seqWritesSpec : ChangeSpec := { name := "seqWrites", fn := fun _ => fun
  | [d1, d2] => { results := [.lit (.bool true)], args := [d1, d2] }
  | _ => none }
def seqWritesRow : OpenClaim := { program := "ytmfbaglhmiadjaa", sum := "a9faa1d6c572da183a30ef44886beea493d8ad754e5597826d15a2d8882eac89", func := "forerunner/forerunnerlaw6.SeqWrites", spec := "seqWrites", unfollowed := true, recurses := true, named := ["math/bits.overflowError"], apart := false }
def SeqWritesSaid : Prop := seqWritesRow.holds Try.pinned (OpenSpec.ofChange seqWritesSpec)

/-- ITS FALSE NEIGHBOUR: 'it returns false'. Refute it at one input. -/
def seqWritesWrong : ChangeSpec := { name := "seqWrites", fn := fun _ => fun
  | [d1, d2] => { results := [.lit (.bool false)], args := [d1, d2] }
  | _ => none }
def SeqWritesWrongFalsely : Prop := seqWritesRow.holds Try.pinned (OpenSpec.ofChange seqWritesWrong)

/-- 'forerunnerlaw6.SeqTraps': WHATEVER THE INPUT: true; the input reads as it did. -/
def seqTrapsSpec : ChangeSpec := { name := "seqTraps", fn := fun _ => fun
  | [d] => { results := [.lit (.bool true)], args := [d] }
  | _ => none }
def seqTrapsRow : OpenClaim := { program := "ytmfbaglhmiadjaa", sum := "a9faa1d6c572da183a30ef44886beea493d8ad754e5597826d15a2d8882eac89", func := "forerunner/forerunnerlaw6.SeqTraps", spec := "seqTraps", unfollowed := true, recurses := true, named := ["math/bits.overflowError"], apart := false }
def SeqTrapsSaid : Prop := seqTrapsRow.holds Try.pinned (OpenSpec.ofChange seqTrapsSpec)

/-- ITS FALSE NEIGHBOUR: 'it returns false'. Refute it at one input. -/
def seqTrapsWrong : ChangeSpec := { name := "seqTraps", fn := fun _ => fun
  | [d] => { results := [.lit (.bool false)], args := [d] }
  | _ => none }
def SeqTrapsWrongFalsely : Prop := seqTrapsRow.holds Try.pinned (OpenSpec.ofChange seqTrapsWrong)

/-- 'forerunnerlaw6.SeqSums': WHATEVER THE INPUT: true; the input reads as it did. -/
def seqSumsSpec : ChangeSpec := { name := "seqSums", fn := fun _ => fun
  | [d1, d2] => { results := [.lit (.bool true)], args := [d1, d2] }
  | _ => none }
def seqSumsRow : OpenClaim := { program := "ytmfbaglhmiadjaa", sum := "a9faa1d6c572da183a30ef44886beea493d8ad754e5597826d15a2d8882eac89", func := "forerunner/forerunnerlaw6.SeqSums", spec := "seqSums", unfollowed := true, recurses := true, named := ["math/bits.overflowError"], apart := false }
def SeqSumsSaid : Prop := seqSumsRow.holds Try.pinned (OpenSpec.ofChange seqSumsSpec)

/-- ITS FALSE NEIGHBOUR: 'it returns false'. Refute it at one input. -/
def seqSumsWrong : ChangeSpec := { name := "seqSums", fn := fun _ => fun
  | [d1, d2] => { results := [.lit (.bool false)], args := [d1, d2] }
  | _ => none }
def SeqSumsWrongFalsely : Prop := seqSumsRow.holds Try.pinned (OpenSpec.ofChange seqSumsWrong)

/-- 'forerunnerlaw6.SeqCopies': WHATEVER THE INPUT: true; the input reads as it did. -/
def seqCopiesSpec : ChangeSpec := { name := "seqCopies", fn := fun _ => fun
  | [d] => { results := [.lit (.bool true)], args := [d] }
  | _ => none }
def seqCopiesRow : OpenClaim := { program := "ytmfbaglhmiadjaa", sum := "a9faa1d6c572da183a30ef44886beea493d8ad754e5597826d15a2d8882eac89", func := "forerunner/forerunnerlaw6.SeqCopies", spec := "seqCopies", unfollowed := true, recurses := true, named := ["math/bits.overflowError"], apart := false }
def SeqCopiesSaid : Prop := seqCopiesRow.holds Try.pinned (OpenSpec.ofChange seqCopiesSpec)

/-- ITS FALSE NEIGHBOUR: 'it returns false'. Refute it at one input. -/
def seqCopiesWrong : ChangeSpec := { name := "seqCopies", fn := fun _ => fun
  | [d] => { results := [.lit (.bool false)], args := [d] }
  | _ => none }
def SeqCopiesWrongFalsely : Prop := seqCopiesRow.holds Try.pinned (OpenSpec.ofChange seqCopiesWrong)

/-- 'forerunnerlaw6.SeqTells': WHATEVER THE INPUT: true; the input reads as it did. -/
def seqTellsSpec : ChangeSpec := { name := "seqTells", fn := fun _ => fun
  | [d1, d2, d3, d4] => { results := [.lit (.bool true)], args := [d1, d2, d3, d4] }
  | _ => none }
def seqTellsRow : OpenClaim := { program := "ytmfbaglhmiadjaa", sum := "a9faa1d6c572da183a30ef44886beea493d8ad754e5597826d15a2d8882eac89", func := "forerunner/forerunnerlaw6.SeqTells", spec := "seqTells", unfollowed := true, recurses := true, named := ["math/bits.overflowError"], apart := false }
def SeqTellsSaid : Prop := seqTellsRow.holds Try.pinned (OpenSpec.ofChange seqTellsSpec)

/-- ITS FALSE NEIGHBOUR: 'it returns false'. Refute it at one input. -/
def seqTellsWrong : ChangeSpec := { name := "seqTells", fn := fun _ => fun
  | [d1, d2, d3, d4] => { results := [.lit (.bool false)], args := [d1, d2, d3, d4] }
  | _ => none }
def SeqTellsWrongFalsely : Prop := seqTellsRow.holds Try.pinned (OpenSpec.ofChange seqTellsWrong)

/-- 'forerunnerlaw6.SeqSteps': WHATEVER THE INPUT: true; the input reads as it did. -/
def seqStepsSpec : ChangeSpec := { name := "seqSteps", fn := fun _ => fun
  | [d1, d2, d3] => { results := [.lit (.bool true)], args := [d1, d2, d3] }
  | _ => none }
def seqStepsRow : OpenClaim := { program := "ytmfbaglhmiadjaa", sum := "a9faa1d6c572da183a30ef44886beea493d8ad754e5597826d15a2d8882eac89", func := "forerunner/forerunnerlaw6.SeqSteps", spec := "seqSteps", unfollowed := true, recurses := true, named := ["math/bits.overflowError"], apart := false }
def SeqStepsSaid : Prop := seqStepsRow.holds Try.pinned (OpenSpec.ofChange seqStepsSpec)

/-- ITS FALSE NEIGHBOUR: 'it returns false'. Refute it at one input. -/
def seqStepsWrong : ChangeSpec := { name := "seqSteps", fn := fun _ => fun
  | [d1, d2, d3] => { results := [.lit (.bool false)], args := [d1, d2, d3] }
  | _ => none }
def SeqStepsWrongFalsely : Prop := seqStepsRow.holds Try.pinned (OpenSpec.ofChange seqStepsWrong)

/-- 'forerunnerlaw6.SeqNought': WHATEVER THE INPUT: true; the input reads as it did. -/
def seqNoughtSpec : ChangeSpec := { name := "seqNought", fn := fun _ => fun
  | [d1, d2, d3] => { results := [.lit (.bool true)], args := [d1, d2, d3] }
  | _ => none }
def seqNoughtRow : OpenClaim := { program := "ytmfbaglhmiadjaa", sum := "a9faa1d6c572da183a30ef44886beea493d8ad754e5597826d15a2d8882eac89", func := "forerunner/forerunnerlaw6.SeqNought", spec := "seqNought", unfollowed := true, recurses := true, named := ["math/bits.overflowError"], apart := false }
def SeqNoughtSaid : Prop := seqNoughtRow.holds Try.pinned (OpenSpec.ofChange seqNoughtSpec)

/-- ITS FALSE NEIGHBOUR: 'it returns false'. Refute it at one input. -/
def seqNoughtWrong : ChangeSpec := { name := "seqNought", fn := fun _ => fun
  | [d1, d2, d3] => { results := [.lit (.bool false)], args := [d1, d2, d3] }
  | _ => none }
def SeqNoughtWrongFalsely : Prop := seqNoughtRow.holds Try.pinned (OpenSpec.ofChange seqNoughtWrong)

/- THE SECOND FORM. 'bulk': how many values and letters a reading holds, each counted each time it is reached (what is shared counts as often as it is met; a slice's spare places count too). A statement '..UptoSaid' is the law's where the arguments, and the package variables that the reading takes, are together of bulk at most 1048576: NARROWER than '..Said'. Prove '..Said' where nothing that the law and all that it calls make is longer than what came in: it says more and counts as full. Else prove '..UptoSaid'. A law counts once. -/
mutual
def uptoBulk {H : Type} : DataW H → Nat
  | .lit (.string bytes) => bytes.length + 1
  | .lit _ => 1
  | .nil => 1
  | .ptr d => uptoBulk d + 1
  | .slice elems spare => uptoBulkAll elems + uptoBulkAll spare + 1
  | .agg parts => uptoBulkAll parts + 1
  | .iface _ d => uptoBulk d + 1
  | .map entries => uptoBulkEntries entries + 1
  | .held _ => 1
def uptoBulkAll {H : Type} : List (DataW H) → Nat
  | [] => 0
  | d :: r => uptoBulk d + uptoBulkAll r
def uptoBulkEntries {H : Type} : List (Lit × DataW H) → Nat
  | [] => 0
  | x :: r => uptoBulkEntry x + uptoBulkEntries r
def uptoBulkEntry {H : Type} : Lit × DataW H → Nat
  | (.string bytes, d) => bytes.length + uptoBulk d + 1
  | (_, d) => uptoBulk d + 1
 end
def uptoSmall : (H : Type) → List (DataW H) → Bool := fun _ ds => decide (uptoBulkAll ds ≤ 1048576)
def OpenSpec.upto (s : _root_.Go.ChangeSpec) : _root_.Go.OpenSpec := { _root_.Go.OpenSpec.ofChange s with cond := some uptoSmall }

/-- 'forerunnerlaw6.SeqWrites', WHERE WHAT IT READS IS OF BULK AT MOST 1048576: true; the input reads as it did. -/
def seqWritesUptoRow : OpenClaim := { program := "ytmfbaglhmiadjaa", sum := "a9faa1d6c572da183a30ef44886beea493d8ad754e5597826d15a2d8882eac89", func := "forerunner/forerunnerlaw6.SeqWrites", spec := "seqWrites", unfollowed := true, recurses := true, named := ["math/bits.overflowError"], apart := false, narrowed := true }
def SeqWritesUptoSaid : Prop := seqWritesUptoRow.holds Try.pinned (OpenSpec.upto seqWritesSpec)

/-- 'forerunnerlaw6.SeqTraps', WHERE WHAT IT READS IS OF BULK AT MOST 1048576: true; the input reads as it did. -/
def seqTrapsUptoRow : OpenClaim := { program := "ytmfbaglhmiadjaa", sum := "a9faa1d6c572da183a30ef44886beea493d8ad754e5597826d15a2d8882eac89", func := "forerunner/forerunnerlaw6.SeqTraps", spec := "seqTraps", unfollowed := true, recurses := true, named := ["math/bits.overflowError"], apart := false, narrowed := true }
def SeqTrapsUptoSaid : Prop := seqTrapsUptoRow.holds Try.pinned (OpenSpec.upto seqTrapsSpec)

/-- 'forerunnerlaw6.SeqSums', WHERE WHAT IT READS IS OF BULK AT MOST 1048576: true; the input reads as it did. -/
def seqSumsUptoRow : OpenClaim := { program := "ytmfbaglhmiadjaa", sum := "a9faa1d6c572da183a30ef44886beea493d8ad754e5597826d15a2d8882eac89", func := "forerunner/forerunnerlaw6.SeqSums", spec := "seqSums", unfollowed := true, recurses := true, named := ["math/bits.overflowError"], apart := false, narrowed := true }
def SeqSumsUptoSaid : Prop := seqSumsUptoRow.holds Try.pinned (OpenSpec.upto seqSumsSpec)

/-- 'forerunnerlaw6.SeqCopies', WHERE WHAT IT READS IS OF BULK AT MOST 1048576: true; the input reads as it did. -/
def seqCopiesUptoRow : OpenClaim := { program := "ytmfbaglhmiadjaa", sum := "a9faa1d6c572da183a30ef44886beea493d8ad754e5597826d15a2d8882eac89", func := "forerunner/forerunnerlaw6.SeqCopies", spec := "seqCopies", unfollowed := true, recurses := true, named := ["math/bits.overflowError"], apart := false, narrowed := true }
def SeqCopiesUptoSaid : Prop := seqCopiesUptoRow.holds Try.pinned (OpenSpec.upto seqCopiesSpec)

/-- 'forerunnerlaw6.SeqTells', WHERE WHAT IT READS IS OF BULK AT MOST 1048576: true; the input reads as it did. -/
def seqTellsUptoRow : OpenClaim := { program := "ytmfbaglhmiadjaa", sum := "a9faa1d6c572da183a30ef44886beea493d8ad754e5597826d15a2d8882eac89", func := "forerunner/forerunnerlaw6.SeqTells", spec := "seqTells", unfollowed := true, recurses := true, named := ["math/bits.overflowError"], apart := false, narrowed := true }
def SeqTellsUptoSaid : Prop := seqTellsUptoRow.holds Try.pinned (OpenSpec.upto seqTellsSpec)

/-- 'forerunnerlaw6.SeqSteps', WHERE WHAT IT READS IS OF BULK AT MOST 1048576: true; the input reads as it did. -/
def seqStepsUptoRow : OpenClaim := { program := "ytmfbaglhmiadjaa", sum := "a9faa1d6c572da183a30ef44886beea493d8ad754e5597826d15a2d8882eac89", func := "forerunner/forerunnerlaw6.SeqSteps", spec := "seqSteps", unfollowed := true, recurses := true, named := ["math/bits.overflowError"], apart := false, narrowed := true }
def SeqStepsUptoSaid : Prop := seqStepsUptoRow.holds Try.pinned (OpenSpec.upto seqStepsSpec)

/-- 'forerunnerlaw6.SeqNought', WHERE WHAT IT READS IS OF BULK AT MOST 1048576: true; the input reads as it did. -/
def seqNoughtUptoRow : OpenClaim := { program := "ytmfbaglhmiadjaa", sum := "a9faa1d6c572da183a30ef44886beea493d8ad754e5597826d15a2d8882eac89", func := "forerunner/forerunnerlaw6.SeqNought", spec := "seqNought", unfollowed := true, recurses := true, named := ["math/bits.overflowError"], apart := false, narrowed := true }
def SeqNoughtUptoSaid : Prop := seqNoughtUptoRow.holds Try.pinned (OpenSpec.upto seqNoughtSpec)

end Rows
end Go.Proofs.Ytmfbaglhmiadjaa
