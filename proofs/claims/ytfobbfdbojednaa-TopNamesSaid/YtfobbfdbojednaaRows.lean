/-
  No cell of these rows narrows 'for every input' (looked for: loops, veiled, ifaces, maps, wideKeys, modest, calm, conditions, laid).
  DERIVED. THE GIVEN ROWS OF THIS SEAT. 7 by the template 'for every input the law returns true; each argument reads behind the call as it read before'; 0 by the template 'total and deterministic' (their statements: YtfobbfdbojednaaTotals.lean).
  GIVEN WITH THE SEED: the statements are not yours to turn. If you find one false, say at which input.
  Laid BY PROGRAM, IN A SANDBOX (cutbox-rows.mjs): the forced cells as the released guide's own fill.sh prints them over the translation 2a0f99183f46a9d2… (all of the seat's roots in one cut). By AI agents, Wed Nov 11 2026. No macro, syntax, notation, axiom, sorry.
-/
import Derived.Test.YtfobbfdbojednaaChecked
import GoSem.Claim
import GoSem.ClaimJoined
import GoSem.ClaimMapViews
import Derived.JoinedTies
import Derived.KernelRfl
namespace Go.Proofs.Ytfobbfdbojednaa
/- THE CELL 'sum', in the pinned program and in every row, IS THE sha256 OF THE DUMP (.gsa) THAT YtfobbfdbojednaaProg.lean LOADS. Nothing in Lean hashes anything: it is a label: what it is worth is what the hold of that sum in a sandbox is worth. -/
noncomputable def Try.pinned : Pinned := { name := "ytfobbfdbojednaa", sum := "2a0f99183f46a9d224e40e1c6a82283287ad95614c54db11d16ddcc92e8d9ced", checked := Try.checked }
namespace Rows
def none {H : Type} : Left H := { results := [], args := [] }

/-- 'forerunnerlaw5.BytesTell': WHATEVER THE INPUT: true; the input reads as it did. -/
def bytesTellSpec : ChangeSpec := { name := "bytesTell", fn := fun _ => fun
  | [d1, d2, d3, d4, d5, d6, d7, d8, d9, d10] => { results := [.lit (.bool true)], args := [d1, d2, d3, d4, d5, d6, d7, d8, d9, d10] }
  | _ => none }
def bytesTellRow : OpenClaim := { program := "ytfobbfdbojednaa", sum := "2a0f99183f46a9d224e40e1c6a82283287ad95614c54db11d16ddcc92e8d9ced", func := "forerunner/forerunnerlaw5.BytesTell", spec := "bytesTell", apart := false }
def BytesTellSaid : Prop := bytesTellRow.holds Try.pinned (OpenSpec.ofChange bytesTellSpec)

/-- ITS FALSE NEIGHBOUR: 'it returns false'. Refute it at one input. -/
def bytesTellWrong : ChangeSpec := { name := "bytesTell", fn := fun _ => fun
  | [d1, d2, d3, d4, d5, d6, d7, d8, d9, d10] => { results := [.lit (.bool false)], args := [d1, d2, d3, d4, d5, d6, d7, d8, d9, d10] }
  | _ => none }
def BytesTellWrongFalsely : Prop := bytesTellRow.holds Try.pinned (OpenSpec.ofChange bytesTellWrong)

/-- 'forerunnertop.TopNames': WHATEVER THE INPUT: true; the input reads as it did. -/
def topNamesSpec : ChangeSpec := { name := "topNames", fn := fun _ => fun
  | [] => { results := [.lit (.bool true)], args := [] }
  | _ => none }
def topNamesRow : OpenClaim := { program := "ytfobbfdbojednaa", sum := "2a0f99183f46a9d224e40e1c6a82283287ad95614c54db11d16ddcc92e8d9ced", func := "forerunner/forerunnertop.TopNames", spec := "topNames", apart := false }
def TopNamesSaid : Prop := topNamesRow.holds Try.pinned (OpenSpec.ofChange topNamesSpec)

/-- ITS FALSE NEIGHBOUR: 'it returns false'. Refute it at one input. -/
def topNamesWrong : ChangeSpec := { name := "topNames", fn := fun _ => fun
  | [] => { results := [.lit (.bool false)], args := [] }
  | _ => none }
def TopNamesWrongFalsely : Prop := topNamesRow.holds Try.pinned (OpenSpec.ofChange topNamesWrong)

/-- 'forerunnerlaw5.BytesBack': WHATEVER THE INPUT: true; the input reads as it did. -/
def bytesBackSpec : ChangeSpec := { name := "bytesBack", fn := fun _ => fun
  | [d1, d2, d3, d4] => { results := [.lit (.bool true)], args := [d1, d2, d3, d4] }
  | _ => none }
def bytesBackRow : OpenClaim := { program := "ytfobbfdbojednaa", sum := "2a0f99183f46a9d224e40e1c6a82283287ad95614c54db11d16ddcc92e8d9ced", func := "forerunner/forerunnerlaw5.BytesBack", spec := "bytesBack", apart := false }
def BytesBackSaid : Prop := bytesBackRow.holds Try.pinned (OpenSpec.ofChange bytesBackSpec)

/-- ITS FALSE NEIGHBOUR: 'it returns false'. Refute it at one input. -/
def bytesBackWrong : ChangeSpec := { name := "bytesBack", fn := fun _ => fun
  | [d1, d2, d3, d4] => { results := [.lit (.bool false)], args := [d1, d2, d3, d4] }
  | _ => none }
def BytesBackWrongFalsely : Prop := bytesBackRow.holds Try.pinned (OpenSpec.ofChange bytesBackWrong)

/-- 'forerunnerlaw5.BytesOverlap': WHATEVER THE INPUT: true; the input reads as it did. -/
def bytesOverlapSpec : ChangeSpec := { name := "bytesOverlap", fn := fun _ => fun
  | [d1, d2, d3, d4] => { results := [.lit (.bool true)], args := [d1, d2, d3, d4] }
  | _ => none }
def bytesOverlapRow : OpenClaim := { program := "ytfobbfdbojednaa", sum := "2a0f99183f46a9d224e40e1c6a82283287ad95614c54db11d16ddcc92e8d9ced", func := "forerunner/forerunnerlaw5.BytesOverlap", spec := "bytesOverlap", apart := false }
def BytesOverlapSaid : Prop := bytesOverlapRow.holds Try.pinned (OpenSpec.ofChange bytesOverlapSpec)

/-- ITS FALSE NEIGHBOUR: 'it returns false'. Refute it at one input. -/
def bytesOverlapWrong : ChangeSpec := { name := "bytesOverlap", fn := fun _ => fun
  | [d1, d2, d3, d4] => { results := [.lit (.bool false)], args := [d1, d2, d3, d4] }
  | _ => none }
def BytesOverlapWrongFalsely : Prop := bytesOverlapRow.holds Try.pinned (OpenSpec.ofChange bytesOverlapWrong)

/-- 'forerunnerlaw5.BytesApart': WHATEVER THE INPUT: true; the input reads as it did. -/
def bytesApartSpec : ChangeSpec := { name := "bytesApart", fn := fun _ => fun
  | [d1, d2, d3, d4] => { results := [.lit (.bool true)], args := [d1, d2, d3, d4] }
  | _ => none }
def bytesApartRow : OpenClaim := { program := "ytfobbfdbojednaa", sum := "2a0f99183f46a9d224e40e1c6a82283287ad95614c54db11d16ddcc92e8d9ced", func := "forerunner/forerunnerlaw5.BytesApart", spec := "bytesApart", apart := false }
def BytesApartSaid : Prop := bytesApartRow.holds Try.pinned (OpenSpec.ofChange bytesApartSpec)

/-- ITS FALSE NEIGHBOUR: 'it returns false'. Refute it at one input. -/
def bytesApartWrong : ChangeSpec := { name := "bytesApart", fn := fun _ => fun
  | [d1, d2, d3, d4] => { results := [.lit (.bool false)], args := [d1, d2, d3, d4] }
  | _ => none }
def BytesApartWrongFalsely : Prop := bytesApartRow.holds Try.pinned (OpenSpec.ofChange bytesApartWrong)

/-- 'forerunnerlaw5.BytesShares': WHATEVER THE INPUT: true; the input reads as it did. -/
def bytesSharesSpec : ChangeSpec := { name := "bytesShares", fn := fun _ => fun
  | [d1, d2] => { results := [.lit (.bool true)], args := [d1, d2] }
  | _ => none }
def bytesSharesRow : OpenClaim := { program := "ytfobbfdbojednaa", sum := "2a0f99183f46a9d224e40e1c6a82283287ad95614c54db11d16ddcc92e8d9ced", func := "forerunner/forerunnerlaw5.BytesShares", spec := "bytesShares", apart := false }
def BytesSharesSaid : Prop := bytesSharesRow.holds Try.pinned (OpenSpec.ofChange bytesSharesSpec)

/-- ITS FALSE NEIGHBOUR: 'it returns false'. Refute it at one input. -/
def bytesSharesWrong : ChangeSpec := { name := "bytesShares", fn := fun _ => fun
  | [d1, d2] => { results := [.lit (.bool false)], args := [d1, d2] }
  | _ => none }
def BytesSharesWrongFalsely : Prop := bytesSharesRow.holds Try.pinned (OpenSpec.ofChange bytesSharesWrong)

/-- 'forerunnerlaw5.BytesEdges': WHATEVER THE INPUT: true; the input reads as it did. -/
def bytesEdgesSpec : ChangeSpec := { name := "bytesEdges", fn := fun _ => fun
  | [d1, d2] => { results := [.lit (.bool true)], args := [d1, d2] }
  | _ => none }
def bytesEdgesRow : OpenClaim := { program := "ytfobbfdbojednaa", sum := "2a0f99183f46a9d224e40e1c6a82283287ad95614c54db11d16ddcc92e8d9ced", func := "forerunner/forerunnerlaw5.BytesEdges", spec := "bytesEdges", apart := false }
def BytesEdgesSaid : Prop := bytesEdgesRow.holds Try.pinned (OpenSpec.ofChange bytesEdgesSpec)

/-- ITS FALSE NEIGHBOUR: 'it returns false'. Refute it at one input. -/
def bytesEdgesWrong : ChangeSpec := { name := "bytesEdges", fn := fun _ => fun
  | [d1, d2] => { results := [.lit (.bool false)], args := [d1, d2] }
  | _ => none }
def BytesEdgesWrongFalsely : Prop := bytesEdgesRow.holds Try.pinned (OpenSpec.ofChange bytesEdgesWrong)

/- THE SECOND FORM. 'bulk': how many values and letters a reading holds, each counted each time it is reached (what is shared counts as often as it is met; a slice's spare places count too). A statement '..UptoSaid' is the law's where the arguments, and the package variables that the reading takes, are together of bulk at most 1048576: NARROWER than '..Said'. Prove '..Said' where nothing that the law and all that it calls make is longer than what came in: it says more and counts as full. Else prove '..UptoSaid'. A law counts once. -/
mutual
def uptoBulk {H : Type} : DataW H → Nat
  | .lit (.string bytes) => bytes.length + 1
  | .lit _ => 1
  | .nil => 1
  | .ptr d => uptoBulk d + 1
  | .slice elems spare => uptoBulkAll elems + uptoBulkAll spare + 1
  | .agg parts => uptoBulkAll parts + 1
  | .iface _ d => uptoBulk d + 1
  | .map entries => uptoBulkEntries entries + 1
  | .held _ => 1
def uptoBulkAll {H : Type} : List (DataW H) → Nat
  | [] => 0
  | d :: r => uptoBulk d + uptoBulkAll r
def uptoBulkEntries {H : Type} : List (Lit × DataW H) → Nat
  | [] => 0
  | x :: r => uptoBulkEntry x + uptoBulkEntries r
def uptoBulkEntry {H : Type} : Lit × DataW H → Nat
  | (.string bytes, d) => bytes.length + uptoBulk d + 1
  | (_, d) => uptoBulk d + 1
 end
def uptoSmall : (H : Type) → List (DataW H) → Bool := fun _ ds => decide (uptoBulkAll ds ≤ 1048576)
def OpenSpec.upto (s : _root_.Go.ChangeSpec) : _root_.Go.OpenSpec := { _root_.Go.OpenSpec.ofChange s with cond := some uptoSmall }

/-- 'forerunnerlaw5.BytesTell', WHERE WHAT IT READS IS OF BULK AT MOST 1048576: true; the input reads as it did. -/
def bytesTellUptoRow : OpenClaim := { program := "ytfobbfdbojednaa", sum := "2a0f99183f46a9d224e40e1c6a82283287ad95614c54db11d16ddcc92e8d9ced", func := "forerunner/forerunnerlaw5.BytesTell", spec := "bytesTell", apart := false, narrowed := true }
def BytesTellUptoSaid : Prop := bytesTellUptoRow.holds Try.pinned (OpenSpec.upto bytesTellSpec)

/-- 'forerunnertop.TopNames', WHERE WHAT IT READS IS OF BULK AT MOST 1048576: true; the input reads as it did. -/
def topNamesUptoRow : OpenClaim := { program := "ytfobbfdbojednaa", sum := "2a0f99183f46a9d224e40e1c6a82283287ad95614c54db11d16ddcc92e8d9ced", func := "forerunner/forerunnertop.TopNames", spec := "topNames", apart := false, narrowed := true }
def TopNamesUptoSaid : Prop := topNamesUptoRow.holds Try.pinned (OpenSpec.upto topNamesSpec)

/-- 'forerunnerlaw5.BytesBack', WHERE WHAT IT READS IS OF BULK AT MOST 1048576: true; the input reads as it did. -/
def bytesBackUptoRow : OpenClaim := { program := "ytfobbfdbojednaa", sum := "2a0f99183f46a9d224e40e1c6a82283287ad95614c54db11d16ddcc92e8d9ced", func := "forerunner/forerunnerlaw5.BytesBack", spec := "bytesBack", apart := false, narrowed := true }
def BytesBackUptoSaid : Prop := bytesBackUptoRow.holds Try.pinned (OpenSpec.upto bytesBackSpec)

/-- 'forerunnerlaw5.BytesOverlap', WHERE WHAT IT READS IS OF BULK AT MOST 1048576: true; the input reads as it did. -/
def bytesOverlapUptoRow : OpenClaim := { program := "ytfobbfdbojednaa", sum := "2a0f99183f46a9d224e40e1c6a82283287ad95614c54db11d16ddcc92e8d9ced", func := "forerunner/forerunnerlaw5.BytesOverlap", spec := "bytesOverlap", apart := false, narrowed := true }
def BytesOverlapUptoSaid : Prop := bytesOverlapUptoRow.holds Try.pinned (OpenSpec.upto bytesOverlapSpec)

/-- 'forerunnerlaw5.BytesApart', WHERE WHAT IT READS IS OF BULK AT MOST 1048576: true; the input reads as it did. -/
def bytesApartUptoRow : OpenClaim := { program := "ytfobbfdbojednaa", sum := "2a0f99183f46a9d224e40e1c6a82283287ad95614c54db11d16ddcc92e8d9ced", func := "forerunner/forerunnerlaw5.BytesApart", spec := "bytesApart", apart := false, narrowed := true }
def BytesApartUptoSaid : Prop := bytesApartUptoRow.holds Try.pinned (OpenSpec.upto bytesApartSpec)

/-- 'forerunnerlaw5.BytesShares', WHERE WHAT IT READS IS OF BULK AT MOST 1048576: true; the input reads as it did. -/
def bytesSharesUptoRow : OpenClaim := { program := "ytfobbfdbojednaa", sum := "2a0f99183f46a9d224e40e1c6a82283287ad95614c54db11d16ddcc92e8d9ced", func := "forerunner/forerunnerlaw5.BytesShares", spec := "bytesShares", apart := false, narrowed := true }
def BytesSharesUptoSaid : Prop := bytesSharesUptoRow.holds Try.pinned (OpenSpec.upto bytesSharesSpec)

/-- 'forerunnerlaw5.BytesEdges', WHERE WHAT IT READS IS OF BULK AT MOST 1048576: true; the input reads as it did. -/
def bytesEdgesUptoRow : OpenClaim := { program := "ytfobbfdbojednaa", sum := "2a0f99183f46a9d224e40e1c6a82283287ad95614c54db11d16ddcc92e8d9ced", func := "forerunner/forerunnerlaw5.BytesEdges", spec := "bytesEdges", apart := false, narrowed := true }
def BytesEdgesUptoSaid : Prop := bytesEdgesUptoRow.holds Try.pinned (OpenSpec.upto bytesEdgesSpec)

end Rows
end Go.Proofs.Ytfobbfdbojednaa
