/-
  No cell of these rows narrows 'for every input' (looked for: loops, veiled, ifaces, maps, wideKeys, modest, calm, conditions, laid).
  DERIVED. THE GIVEN ROWS OF THIS SEAT. 9 by the template 'for every input the law returns true; each argument reads behind the call as it read before'; 0 by the template 'total and deterministic' (their statements: YtmlnhecgcbohkaaTotals.lean).
  GIVEN WITH THE SEED: the statements are not yours to turn. If you find one false, say at which input.
  Laid BY PROGRAM, IN A SANDBOX (cutbox-rows.mjs): the forced cells as the released guide's own fill.sh prints them over the translation 4193dc730dfa3ab6… (all of the seat's roots in one cut). By AI agents, Wed Nov 11 2026. No macro, syntax, notation, axiom, sorry.
-/
import Derived.Test.YtmlnhecgcbohkaaChecked
import GoSem.Claim
import GoSem.ClaimJoined
import GoSem.ClaimMapViews
import Derived.JoinedTies
import Derived.KernelRfl
namespace Go.Proofs.Ytmlnhecgcbohkaa
/- THE CELL 'sum', in the pinned program and in every row, IS THE sha256 OF THE DUMP (.gsa) THAT YtmlnhecgcbohkaaProg.lean LOADS. Nothing in Lean hashes anything: it is a label: what it is worth is what the hold of that sum in a sandbox is worth. -/
noncomputable def Try.pinned : Pinned := { name := "ytmlnhecgcbohkaa", sum := "4193dc730dfa3ab6c85ed35806b182f716fbbdb0bd948bc509797f9789a3c778", checked := Try.checked }
namespace Rows
def none {H : Type} : Left H := { results := [], args := [] }

/-- 'forerunnerlaw26.BoundTells': WHATEVER THE INPUT: true; the input reads as it did. -/
def boundTellsSpec : ChangeSpec := { name := "boundTells", fn := fun _ => fun
  | [d1, d2] => { results := [.lit (.bool true)], args := [d1, d2] }
  | _ => none }
def boundTellsRow : OpenClaim := { program := "ytmlnhecgcbohkaa", sum := "4193dc730dfa3ab6c85ed35806b182f716fbbdb0bd948bc509797f9789a3c778", func := "forerunner/forerunnerlaw26.BoundTells", spec := "boundTells", unfollowed := true, recurses := true, apart := false }
def BoundTellsSaid : Prop := boundTellsRow.holds Try.pinned (OpenSpec.ofChange boundTellsSpec)

/-- ITS FALSE NEIGHBOUR: 'it returns false'. Refute it at one input. -/
def boundTellsWrong : ChangeSpec := { name := "boundTells", fn := fun _ => fun
  | [d1, d2] => { results := [.lit (.bool false)], args := [d1, d2] }
  | _ => none }
def BoundTellsWrongFalsely : Prop := boundTellsRow.holds Try.pinned (OpenSpec.ofChange boundTellsWrong)

/-- 'forerunnerlaw26.BoundGrows': WHATEVER THE INPUT: true; the input reads as it did. -/
def boundGrowsSpec : ChangeSpec := { name := "boundGrows", fn := fun _ => fun
  | [d1, d2, d3, d4] => { results := [.lit (.bool true)], args := [d1, d2, d3, d4] }
  | _ => none }
def boundGrowsRow : OpenClaim := { program := "ytmlnhecgcbohkaa", sum := "4193dc730dfa3ab6c85ed35806b182f716fbbdb0bd948bc509797f9789a3c778", func := "forerunner/forerunnerlaw26.BoundGrows", spec := "boundGrows", unfollowed := true, recurses := true, apart := false }
def BoundGrowsSaid : Prop := boundGrowsRow.holds Try.pinned (OpenSpec.ofChange boundGrowsSpec)

/-- ITS FALSE NEIGHBOUR: 'it returns false'. Refute it at one input. -/
def boundGrowsWrong : ChangeSpec := { name := "boundGrows", fn := fun _ => fun
  | [d1, d2, d3, d4] => { results := [.lit (.bool false)], args := [d1, d2, d3, d4] }
  | _ => none }
def BoundGrowsWrongFalsely : Prop := boundGrowsRow.holds Try.pinned (OpenSpec.ofChange boundGrowsWrong)

/-- 'forerunnerlaw16.SlotsTell': WHATEVER THE INPUT: true; the input reads as it did. -/
def slotsTellSpec : ChangeSpec := { name := "slotsTell", fn := fun _ => fun
  | [d1, d2, d3, d4] => { results := [.lit (.bool true)], args := [d1, d2, d3, d4] }
  | _ => none }
def slotsTellRow : OpenClaim := { program := "ytmlnhecgcbohkaa", sum := "4193dc730dfa3ab6c85ed35806b182f716fbbdb0bd948bc509797f9789a3c778", func := "forerunner/forerunnerlaw16.SlotsTell", spec := "slotsTell", unfollowed := true, recurses := true, apart := false }
def SlotsTellSaid : Prop := slotsTellRow.holds Try.pinned (OpenSpec.ofChange slotsTellSpec)

/-- ITS FALSE NEIGHBOUR: 'it returns false'. Refute it at one input. -/
def slotsTellWrong : ChangeSpec := { name := "slotsTell", fn := fun _ => fun
  | [d1, d2, d3, d4] => { results := [.lit (.bool false)], args := [d1, d2, d3, d4] }
  | _ => none }
def SlotsTellWrongFalsely : Prop := slotsTellRow.holds Try.pinned (OpenSpec.ofChange slotsTellWrong)

/-- 'forerunnerlaw16.SlotsOrder': WHATEVER THE INPUT: true; the input reads as it did. -/
def slotsOrderSpec : ChangeSpec := { name := "slotsOrder", fn := fun _ => fun
  | [d1, d2] => { results := [.lit (.bool true)], args := [d1, d2] }
  | _ => none }
def slotsOrderRow : OpenClaim := { program := "ytmlnhecgcbohkaa", sum := "4193dc730dfa3ab6c85ed35806b182f716fbbdb0bd948bc509797f9789a3c778", func := "forerunner/forerunnerlaw16.SlotsOrder", spec := "slotsOrder", unfollowed := true, recurses := true, apart := false }
def SlotsOrderSaid : Prop := slotsOrderRow.holds Try.pinned (OpenSpec.ofChange slotsOrderSpec)

/-- ITS FALSE NEIGHBOUR: 'it returns false'. Refute it at one input. -/
def slotsOrderWrong : ChangeSpec := { name := "slotsOrder", fn := fun _ => fun
  | [d1, d2] => { results := [.lit (.bool false)], args := [d1, d2] }
  | _ => none }
def SlotsOrderWrongFalsely : Prop := slotsOrderRow.holds Try.pinned (OpenSpec.ofChange slotsOrderWrong)

/-- 'forerunnerlaw16.SlotsFirst': WHATEVER THE INPUT: true; the input reads as it did. -/
def slotsFirstSpec : ChangeSpec := { name := "slotsFirst", fn := fun _ => fun
  | [d1, d2, d3, d4] => { results := [.lit (.bool true)], args := [d1, d2, d3, d4] }
  | _ => none }
def slotsFirstRow : OpenClaim := { program := "ytmlnhecgcbohkaa", sum := "4193dc730dfa3ab6c85ed35806b182f716fbbdb0bd948bc509797f9789a3c778", func := "forerunner/forerunnerlaw16.SlotsFirst", spec := "slotsFirst", unfollowed := true, recurses := true, apart := false }
def SlotsFirstSaid : Prop := slotsFirstRow.holds Try.pinned (OpenSpec.ofChange slotsFirstSpec)

/-- ITS FALSE NEIGHBOUR: 'it returns false'. Refute it at one input. -/
def slotsFirstWrong : ChangeSpec := { name := "slotsFirst", fn := fun _ => fun
  | [d1, d2, d3, d4] => { results := [.lit (.bool false)], args := [d1, d2, d3, d4] }
  | _ => none }
def SlotsFirstWrongFalsely : Prop := slotsFirstRow.holds Try.pinned (OpenSpec.ofChange slotsFirstWrong)

/-- 'forerunnerlaw17.SaqLast': WHATEVER THE INPUT: true; the input reads as it did. -/
def saqLastSpec : ChangeSpec := { name := "saqLast", fn := fun _ => fun
  | [d1, d2, d3] => { results := [.lit (.bool true)], args := [d1, d2, d3] }
  | _ => none }
def saqLastRow : OpenClaim := { program := "ytmlnhecgcbohkaa", sum := "4193dc730dfa3ab6c85ed35806b182f716fbbdb0bd948bc509797f9789a3c778", func := "forerunner/forerunnerlaw17.SaqLast", spec := "saqLast", apart := false }
def SaqLastSaid : Prop := saqLastRow.holds Try.pinned (OpenSpec.ofChange saqLastSpec)

/-- ITS FALSE NEIGHBOUR: 'it returns false'. Refute it at one input. -/
def saqLastWrong : ChangeSpec := { name := "saqLast", fn := fun _ => fun
  | [d1, d2, d3] => { results := [.lit (.bool false)], args := [d1, d2, d3] }
  | _ => none }
def SaqLastWrongFalsely : Prop := saqLastRow.holds Try.pinned (OpenSpec.ofChange saqLastWrong)

/-- 'forerunnerlaw17.SaqReads': WHATEVER THE INPUT: true; the input reads as it did. -/
def saqReadsSpec : ChangeSpec := { name := "saqReads", fn := fun _ => fun
  | [d1, d2, d3] => { results := [.lit (.bool true)], args := [d1, d2, d3] }
  | _ => none }
def saqReadsRow : OpenClaim := { program := "ytmlnhecgcbohkaa", sum := "4193dc730dfa3ab6c85ed35806b182f716fbbdb0bd948bc509797f9789a3c778", func := "forerunner/forerunnerlaw17.SaqReads", spec := "saqReads", apart := false }
def SaqReadsSaid : Prop := saqReadsRow.holds Try.pinned (OpenSpec.ofChange saqReadsSpec)

/-- ITS FALSE NEIGHBOUR: 'it returns false'. Refute it at one input. -/
def saqReadsWrong : ChangeSpec := { name := "saqReads", fn := fun _ => fun
  | [d1, d2, d3] => { results := [.lit (.bool false)], args := [d1, d2, d3] }
  | _ => none }
def SaqReadsWrongFalsely : Prop := saqReadsRow.holds Try.pinned (OpenSpec.ofChange saqReadsWrong)

/-- 'forerunnerlaw17.SaqMasks': WHATEVER THE INPUT: true; the input reads as it did. -/
def saqMasksSpec : ChangeSpec := { name := "saqMasks", fn := fun _ => fun
  | [d1, d2, d3] => { results := [.lit (.bool true)], args := [d1, d2, d3] }
  | _ => none }
def saqMasksRow : OpenClaim := { program := "ytmlnhecgcbohkaa", sum := "4193dc730dfa3ab6c85ed35806b182f716fbbdb0bd948bc509797f9789a3c778", func := "forerunner/forerunnerlaw17.SaqMasks", spec := "saqMasks", apart := false }
def SaqMasksSaid : Prop := saqMasksRow.holds Try.pinned (OpenSpec.ofChange saqMasksSpec)

/-- ITS FALSE NEIGHBOUR: 'it returns false'. Refute it at one input. -/
def saqMasksWrong : ChangeSpec := { name := "saqMasks", fn := fun _ => fun
  | [d1, d2, d3] => { results := [.lit (.bool false)], args := [d1, d2, d3] }
  | _ => none }
def SaqMasksWrongFalsely : Prop := saqMasksRow.holds Try.pinned (OpenSpec.ofChange saqMasksWrong)

/-- 'forerunnerlaw17.SaqTells': WHATEVER THE INPUT: true; the input reads as it did. -/
def saqTellsSpec : ChangeSpec := { name := "saqTells", fn := fun _ => fun
  | [d1, d2, d3, d4, d5, d6, d7] => { results := [.lit (.bool true)], args := [d1, d2, d3, d4, d5, d6, d7] }
  | _ => none }
def saqTellsRow : OpenClaim := { program := "ytmlnhecgcbohkaa", sum := "4193dc730dfa3ab6c85ed35806b182f716fbbdb0bd948bc509797f9789a3c778", func := "forerunner/forerunnerlaw17.SaqTells", spec := "saqTells", apart := false }
def SaqTellsSaid : Prop := saqTellsRow.holds Try.pinned (OpenSpec.ofChange saqTellsSpec)

/-- ITS FALSE NEIGHBOUR: 'it returns false'. Refute it at one input. -/
def saqTellsWrong : ChangeSpec := { name := "saqTells", fn := fun _ => fun
  | [d1, d2, d3, d4, d5, d6, d7] => { results := [.lit (.bool false)], args := [d1, d2, d3, d4, d5, d6, d7] }
  | _ => none }
def SaqTellsWrongFalsely : Prop := saqTellsRow.holds Try.pinned (OpenSpec.ofChange saqTellsWrong)

/- THE SECOND FORM. 'bulk': how many values and letters a reading holds, each counted each time it is reached (what is shared counts as often as it is met; a slice's spare places count too). A statement '..UptoSaid' is the law's where the arguments, and the package variables that the reading takes, are together of bulk at most 1048576: NARROWER than '..Said'. Prove '..Said' where nothing that the law and all that it calls make is longer than what came in: it says more and counts as full. Else prove '..UptoSaid'. A law counts once. -/
mutual
def uptoBulk {H : Type} : DataW H → Nat
  | .lit (.string bytes) => bytes.length + 1
  | .lit _ => 1
  | .nil => 1
  | .ptr d => uptoBulk d + 1
  | .slice elems spare => uptoBulkAll elems + uptoBulkAll spare + 1
  | .agg parts => uptoBulkAll parts + 1
  | .iface _ d => uptoBulk d + 1
  | .map entries => uptoBulkEntries entries + 1
  | .held _ => 1
def uptoBulkAll {H : Type} : List (DataW H) → Nat
  | [] => 0
  | d :: r => uptoBulk d + uptoBulkAll r
def uptoBulkEntries {H : Type} : List (Lit × DataW H) → Nat
  | [] => 0
  | x :: r => uptoBulkEntry x + uptoBulkEntries r
def uptoBulkEntry {H : Type} : Lit × DataW H → Nat
  | (.string bytes, d) => bytes.length + uptoBulk d + 1
  | (_, d) => uptoBulk d + 1
 end
def uptoSmall : (H : Type) → List (DataW H) → Bool := fun _ ds => decide (uptoBulkAll ds ≤ 1048576)
def OpenSpec.upto (s : _root_.Go.ChangeSpec) : _root_.Go.OpenSpec := { _root_.Go.OpenSpec.ofChange s with cond := some uptoSmall }

/-- 'forerunnerlaw26.BoundTells', WHERE WHAT IT READS IS OF BULK AT MOST 1048576: true; the input reads as it did. -/
def boundTellsUptoRow : OpenClaim := { program := "ytmlnhecgcbohkaa", sum := "4193dc730dfa3ab6c85ed35806b182f716fbbdb0bd948bc509797f9789a3c778", func := "forerunner/forerunnerlaw26.BoundTells", spec := "boundTells", unfollowed := true, recurses := true, apart := false, narrowed := true }
def BoundTellsUptoSaid : Prop := boundTellsUptoRow.holds Try.pinned (OpenSpec.upto boundTellsSpec)

/-- 'forerunnerlaw26.BoundGrows', WHERE WHAT IT READS IS OF BULK AT MOST 1048576: true; the input reads as it did. -/
def boundGrowsUptoRow : OpenClaim := { program := "ytmlnhecgcbohkaa", sum := "4193dc730dfa3ab6c85ed35806b182f716fbbdb0bd948bc509797f9789a3c778", func := "forerunner/forerunnerlaw26.BoundGrows", spec := "boundGrows", unfollowed := true, recurses := true, apart := false, narrowed := true }
def BoundGrowsUptoSaid : Prop := boundGrowsUptoRow.holds Try.pinned (OpenSpec.upto boundGrowsSpec)

/-- 'forerunnerlaw16.SlotsTell', WHERE WHAT IT READS IS OF BULK AT MOST 1048576: true; the input reads as it did. -/
def slotsTellUptoRow : OpenClaim := { program := "ytmlnhecgcbohkaa", sum := "4193dc730dfa3ab6c85ed35806b182f716fbbdb0bd948bc509797f9789a3c778", func := "forerunner/forerunnerlaw16.SlotsTell", spec := "slotsTell", unfollowed := true, recurses := true, apart := false, narrowed := true }
def SlotsTellUptoSaid : Prop := slotsTellUptoRow.holds Try.pinned (OpenSpec.upto slotsTellSpec)

/-- 'forerunnerlaw16.SlotsOrder', WHERE WHAT IT READS IS OF BULK AT MOST 1048576: true; the input reads as it did. -/
def slotsOrderUptoRow : OpenClaim := { program := "ytmlnhecgcbohkaa", sum := "4193dc730dfa3ab6c85ed35806b182f716fbbdb0bd948bc509797f9789a3c778", func := "forerunner/forerunnerlaw16.SlotsOrder", spec := "slotsOrder", unfollowed := true, recurses := true, apart := false, narrowed := true }
def SlotsOrderUptoSaid : Prop := slotsOrderUptoRow.holds Try.pinned (OpenSpec.upto slotsOrderSpec)

/-- 'forerunnerlaw16.SlotsFirst', WHERE WHAT IT READS IS OF BULK AT MOST 1048576: true; the input reads as it did. -/
def slotsFirstUptoRow : OpenClaim := { program := "ytmlnhecgcbohkaa", sum := "4193dc730dfa3ab6c85ed35806b182f716fbbdb0bd948bc509797f9789a3c778", func := "forerunner/forerunnerlaw16.SlotsFirst", spec := "slotsFirst", unfollowed := true, recurses := true, apart := false, narrowed := true }
def SlotsFirstUptoSaid : Prop := slotsFirstUptoRow.holds Try.pinned (OpenSpec.upto slotsFirstSpec)

/-- 'forerunnerlaw17.SaqLast', WHERE WHAT IT READS IS OF BULK AT MOST 1048576: true; the input reads as it did. -/
def saqLastUptoRow : OpenClaim := { program := "ytmlnhecgcbohkaa", sum := "4193dc730dfa3ab6c85ed35806b182f716fbbdb0bd948bc509797f9789a3c778", func := "forerunner/forerunnerlaw17.SaqLast", spec := "saqLast", apart := false, narrowed := true }
def SaqLastUptoSaid : Prop := saqLastUptoRow.holds Try.pinned (OpenSpec.upto saqLastSpec)

/-- 'forerunnerlaw17.SaqReads', WHERE WHAT IT READS IS OF BULK AT MOST 1048576: true; the input reads as it did. -/
def saqReadsUptoRow : OpenClaim := { program := "ytmlnhecgcbohkaa", sum := "4193dc730dfa3ab6c85ed35806b182f716fbbdb0bd948bc509797f9789a3c778", func := "forerunner/forerunnerlaw17.SaqReads", spec := "saqReads", apart := false, narrowed := true }
def SaqReadsUptoSaid : Prop := saqReadsUptoRow.holds Try.pinned (OpenSpec.upto saqReadsSpec)

/-- 'forerunnerlaw17.SaqMasks', WHERE WHAT IT READS IS OF BULK AT MOST 1048576: true; the input reads as it did. -/
def saqMasksUptoRow : OpenClaim := { program := "ytmlnhecgcbohkaa", sum := "4193dc730dfa3ab6c85ed35806b182f716fbbdb0bd948bc509797f9789a3c778", func := "forerunner/forerunnerlaw17.SaqMasks", spec := "saqMasks", apart := false, narrowed := true }
def SaqMasksUptoSaid : Prop := saqMasksUptoRow.holds Try.pinned (OpenSpec.upto saqMasksSpec)

/-- 'forerunnerlaw17.SaqTells', WHERE WHAT IT READS IS OF BULK AT MOST 1048576: true; the input reads as it did. -/
def saqTellsUptoRow : OpenClaim := { program := "ytmlnhecgcbohkaa", sum := "4193dc730dfa3ab6c85ed35806b182f716fbbdb0bd948bc509797f9789a3c778", func := "forerunner/forerunnerlaw17.SaqTells", spec := "saqTells", apart := false, narrowed := true }
def SaqTellsUptoSaid : Prop := saqTellsUptoRow.holds Try.pinned (OpenSpec.upto saqTellsSpec)

end Rows
end Go.Proofs.Ytmlnhecgcbohkaa
