/-
  No cell of these rows narrows 'for every input' (looked for: loops, veiled, ifaces, maps, wideKeys, modest, calm, conditions, laid).
  DERIVED. THE GIVEN ROWS OF THIS SEAT. 4 by the template 'for every input the law returns true; each argument reads behind the call as it read before'; 0 by the template 'total and deterministic' (their statements: YthmlnmkbeohojaaTotals.lean).
  GIVEN WITH THE SEED: the statements are not yours to turn. If you find one false, say at which input.
  Laid BY PROGRAM, IN A SANDBOX (cutbox-rows.mjs): the forced cells as the released guide's own fill.sh prints them over the translation 8ad508641224da2b… (all of the seat's roots in one cut). By AI agents, Wed Nov 11 2026. No macro, syntax, notation, axiom, sorry.
-/
import Derived.Test.YthmlnmkbeohojaaChecked
import GoSem.Claim
import GoSem.ClaimJoined
import GoSem.ClaimMapViews
import Derived.JoinedTies
import Derived.KernelRfl
namespace Go.Proofs.Ythmlnmkbeohojaa
/- THE CELL 'sum', in the pinned program and in every row, IS THE sha256 OF THE DUMP (.gsa) THAT YthmlnmkbeohojaaProg.lean LOADS. Nothing in Lean hashes anything: it is a label: what it is worth is what the hold of that sum in a sandbox is worth. -/
noncomputable def Try.pinned : Pinned := { name := "ythmlnmkbeohojaa", sum := "8ad508641224da2bac2a21c60531f19e9b4e4dc5446ce6286198842f21f7d3d0", checked := Try.checked }
namespace Rows
def none {H : Type} : Left H := { results := [], args := [] }

/-- 'forerunnerlaw19.StateTells': WHATEVER THE INPUT: true; the input reads as it did. -/
def stateTellsSpec : ChangeSpec := { name := "stateTells", fn := fun _ => fun
  | [d1, d2, d3, d4, d5] => { results := [.lit (.bool true)], args := [d1, d2, d3, d4, d5] }
  | _ => none }
def stateTellsRow : OpenClaim := { program := "ythmlnmkbeohojaa", sum := "8ad508641224da2bac2a21c60531f19e9b4e4dc5446ce6286198842f21f7d3d0", func := "forerunner/forerunnerlaw19.StateTells", spec := "stateTells", unfollowed := true, recurses := true, apart := false }
def StateTellsSaid : Prop := stateTellsRow.holds Try.pinned (OpenSpec.ofChange stateTellsSpec)

/-- ITS FALSE NEIGHBOUR: 'it returns false'. Refute it at one input. -/
def stateTellsWrong : ChangeSpec := { name := "stateTells", fn := fun _ => fun
  | [d1, d2, d3, d4, d5] => { results := [.lit (.bool false)], args := [d1, d2, d3, d4, d5] }
  | _ => none }
def StateTellsWrongFalsely : Prop := stateTellsRow.holds Try.pinned (OpenSpec.ofChange stateTellsWrong)

/-- 'forerunnerlaw19.StateFirst': WHATEVER THE INPUT: true; the input reads as it did. -/
def stateFirstSpec : ChangeSpec := { name := "stateFirst", fn := fun _ => fun
  | [d1, d2] => { results := [.lit (.bool true)], args := [d1, d2] }
  | _ => none }
def stateFirstRow : OpenClaim := { program := "ythmlnmkbeohojaa", sum := "8ad508641224da2bac2a21c60531f19e9b4e4dc5446ce6286198842f21f7d3d0", func := "forerunner/forerunnerlaw19.StateFirst", spec := "stateFirst", unfollowed := true, recurses := true, apart := false }
def StateFirstSaid : Prop := stateFirstRow.holds Try.pinned (OpenSpec.ofChange stateFirstSpec)

/-- ITS FALSE NEIGHBOUR: 'it returns false'. Refute it at one input. -/
def stateFirstWrong : ChangeSpec := { name := "stateFirst", fn := fun _ => fun
  | [d1, d2] => { results := [.lit (.bool false)], args := [d1, d2] }
  | _ => none }
def StateFirstWrongFalsely : Prop := stateFirstRow.holds Try.pinned (OpenSpec.ofChange stateFirstWrong)

/-- 'forerunnerlaw19.StateLimits': WHATEVER THE INPUT: true; the input reads as it did. -/
def stateLimitsSpec : ChangeSpec := { name := "stateLimits", fn := fun _ => fun
  | [d1, d2] => { results := [.lit (.bool true)], args := [d1, d2] }
  | _ => none }
def stateLimitsRow : OpenClaim := { program := "ythmlnmkbeohojaa", sum := "8ad508641224da2bac2a21c60531f19e9b4e4dc5446ce6286198842f21f7d3d0", func := "forerunner/forerunnerlaw19.StateLimits", spec := "stateLimits", unfollowed := true, recurses := true, apart := false }
def StateLimitsSaid : Prop := stateLimitsRow.holds Try.pinned (OpenSpec.ofChange stateLimitsSpec)

/-- ITS FALSE NEIGHBOUR: 'it returns false'. Refute it at one input. -/
def stateLimitsWrong : ChangeSpec := { name := "stateLimits", fn := fun _ => fun
  | [d1, d2] => { results := [.lit (.bool false)], args := [d1, d2] }
  | _ => none }
def StateLimitsWrongFalsely : Prop := stateLimitsRow.holds Try.pinned (OpenSpec.ofChange stateLimitsWrong)

/-- 'forerunnerlaw19.StateParts': WHATEVER THE INPUT: true; the input reads as it did. -/
def statePartsSpec : ChangeSpec := { name := "stateParts", fn := fun _ => fun
  | [d1, d2] => { results := [.lit (.bool true)], args := [d1, d2] }
  | _ => none }
def statePartsRow : OpenClaim := { program := "ythmlnmkbeohojaa", sum := "8ad508641224da2bac2a21c60531f19e9b4e4dc5446ce6286198842f21f7d3d0", func := "forerunner/forerunnerlaw19.StateParts", spec := "stateParts", unfollowed := true, recurses := true, apart := false }
def StatePartsSaid : Prop := statePartsRow.holds Try.pinned (OpenSpec.ofChange statePartsSpec)

/-- ITS FALSE NEIGHBOUR: 'it returns false'. Refute it at one input. -/
def statePartsWrong : ChangeSpec := { name := "stateParts", fn := fun _ => fun
  | [d1, d2] => { results := [.lit (.bool false)], args := [d1, d2] }
  | _ => none }
def StatePartsWrongFalsely : Prop := statePartsRow.holds Try.pinned (OpenSpec.ofChange statePartsWrong)

/- THE SECOND FORM. 'bulk': how many values and letters a reading holds, each counted each time it is reached (what is shared counts as often as it is met; a slice's spare places count too). A statement '..UptoSaid' is the law's where the arguments, and the package variables that the reading takes, are together of bulk at most 1048576: NARROWER than '..Said'. Prove '..Said' where nothing that the law and all that it calls make is longer than what came in: it says more and counts as full. Else prove '..UptoSaid'. A law counts once. -/
mutual
def uptoBulk {H : Type} : DataW H → Nat
  | .lit (.string bytes) => bytes.length + 1
  | .lit _ => 1
  | .nil => 1
  | .ptr d => uptoBulk d + 1
  | .slice elems spare => uptoBulkAll elems + uptoBulkAll spare + 1
  | .agg parts => uptoBulkAll parts + 1
  | .iface _ d => uptoBulk d + 1
  | .map entries => uptoBulkEntries entries + 1
  | .held _ => 1
def uptoBulkAll {H : Type} : List (DataW H) → Nat
  | [] => 0
  | d :: r => uptoBulk d + uptoBulkAll r
def uptoBulkEntries {H : Type} : List (Lit × DataW H) → Nat
  | [] => 0
  | x :: r => uptoBulkEntry x + uptoBulkEntries r
def uptoBulkEntry {H : Type} : Lit × DataW H → Nat
  | (.string bytes, d) => bytes.length + uptoBulk d + 1
  | (_, d) => uptoBulk d + 1
 end
def uptoSmall : (H : Type) → List (DataW H) → Bool := fun _ ds => decide (uptoBulkAll ds ≤ 1048576)
def OpenSpec.upto (s : _root_.Go.ChangeSpec) : _root_.Go.OpenSpec := { _root_.Go.OpenSpec.ofChange s with cond := some uptoSmall }

/-- 'forerunnerlaw19.StateTells', WHERE WHAT IT READS IS OF BULK AT MOST 1048576: true; the input reads as it did. -/
def stateTellsUptoRow : OpenClaim := { program := "ythmlnmkbeohojaa", sum := "8ad508641224da2bac2a21c60531f19e9b4e4dc5446ce6286198842f21f7d3d0", func := "forerunner/forerunnerlaw19.StateTells", spec := "stateTells", unfollowed := true, recurses := true, apart := false, narrowed := true }
def StateTellsUptoSaid : Prop := stateTellsUptoRow.holds Try.pinned (OpenSpec.upto stateTellsSpec)

/-- 'forerunnerlaw19.StateFirst', WHERE WHAT IT READS IS OF BULK AT MOST 1048576: true; the input reads as it did. -/
def stateFirstUptoRow : OpenClaim := { program := "ythmlnmkbeohojaa", sum := "8ad508641224da2bac2a21c60531f19e9b4e4dc5446ce6286198842f21f7d3d0", func := "forerunner/forerunnerlaw19.StateFirst", spec := "stateFirst", unfollowed := true, recurses := true, apart := false, narrowed := true }
def StateFirstUptoSaid : Prop := stateFirstUptoRow.holds Try.pinned (OpenSpec.upto stateFirstSpec)

/-- 'forerunnerlaw19.StateLimits', WHERE WHAT IT READS IS OF BULK AT MOST 1048576: true; the input reads as it did. -/
def stateLimitsUptoRow : OpenClaim := { program := "ythmlnmkbeohojaa", sum := "8ad508641224da2bac2a21c60531f19e9b4e4dc5446ce6286198842f21f7d3d0", func := "forerunner/forerunnerlaw19.StateLimits", spec := "stateLimits", unfollowed := true, recurses := true, apart := false, narrowed := true }
def StateLimitsUptoSaid : Prop := stateLimitsUptoRow.holds Try.pinned (OpenSpec.upto stateLimitsSpec)

/-- 'forerunnerlaw19.StateParts', WHERE WHAT IT READS IS OF BULK AT MOST 1048576: true; the input reads as it did. -/
def statePartsUptoRow : OpenClaim := { program := "ythmlnmkbeohojaa", sum := "8ad508641224da2bac2a21c60531f19e9b4e4dc5446ce6286198842f21f7d3d0", func := "forerunner/forerunnerlaw19.StateParts", spec := "stateParts", unfollowed := true, recurses := true, apart := false, narrowed := true }
def StatePartsUptoSaid : Prop := statePartsUptoRow.holds Try.pinned (OpenSpec.upto statePartsSpec)

end Rows
end Go.Proofs.Ythmlnmkbeohojaa
