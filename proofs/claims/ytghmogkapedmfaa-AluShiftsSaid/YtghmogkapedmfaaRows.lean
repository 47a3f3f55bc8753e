/-
  No cell of these rows narrows 'for every input' (looked for: loops, veiled, ifaces, maps, wideKeys, modest, calm, conditions, laid).
  DERIVED. THE GIVEN ROWS OF THIS SEAT. 9 by the template 'for every input the law returns true; each argument reads behind the call as it read before'; 0 by the template 'total and deterministic' (their statements: YtghmogkapedmfaaTotals.lean).
  GIVEN WITH THE SEED: the statements are not yours to turn. If you find one false, say at which input.
  Laid BY PROGRAM, IN A SANDBOX (cutbox-rows.mjs): the forced cells as the released guide's own fill.sh prints them over the translation e92d621a5cc3188d… (all of the seat's roots in one cut). By AI agents, Wed Nov 11 2026. No macro, syntax, notation, axiom, sorry.
-/
import Derived.Test.YtghmogkapedmfaaChecked
import GoSem.Claim
import GoSem.ClaimJoined
import GoSem.ClaimMapViews
import Derived.JoinedTies
import Derived.KernelRfl
namespace Go.Proofs.Ytghmogkapedmfaa
/- THE CELL 'sum', in the pinned program and in every row, IS THE sha256 OF THE DUMP (.gsa) THAT YtghmogkapedmfaaProg.lean LOADS. Nothing in Lean hashes anything: it is a label: what it is worth is what the hold of that sum in a sandbox is worth. -/
noncomputable def Try.pinned : Pinned := { name := "ytghmogkapedmfaa", sum := "e92d621a5cc3188d72b28346bcee068b1330ccb163622ad590f296af359434c0", checked := Try.checked }
namespace Rows
def none {H : Type} : Left H := { results := [], args := [] }

/-- 'forerunnerlaw3.AluTells': WHATEVER THE INPUT: true; the input reads as it did. -/
def aluTellsSpec : ChangeSpec := { name := "aluTells", fn := fun _ => fun
  | [d1, d2, d3, d4, d5] => { results := [.lit (.bool true)], args := [d1, d2, d3, d4, d5] }
  | _ => none }
def aluTellsRow : OpenClaim := { program := "ytghmogkapedmfaa", sum := "e92d621a5cc3188d72b28346bcee068b1330ccb163622ad590f296af359434c0", func := "forerunner/forerunnerlaw3.AluTells", spec := "aluTells", named := ["math/bits.overflowError"], apart := false }
def AluTellsSaid : Prop := aluTellsRow.holds Try.pinned (OpenSpec.ofChange aluTellsSpec)

/-- ITS FALSE NEIGHBOUR: 'it returns false'. Refute it at one input. -/
def aluTellsWrong : ChangeSpec := { name := "aluTells", fn := fun _ => fun
  | [d1, d2, d3, d4, d5] => { results := [.lit (.bool false)], args := [d1, d2, d3, d4, d5] }
  | _ => none }
def AluTellsWrongFalsely : Prop := aluTellsRow.holds Try.pinned (OpenSpec.ofChange aluTellsWrong)

/-- 'forerunnerlaw3.AluLaws': WHATEVER THE INPUT: true; the input reads as it did. -/
def aluLawsSpec : ChangeSpec := { name := "aluLaws", fn := fun _ => fun
  | [d1, d2] => { results := [.lit (.bool true)], args := [d1, d2] }
  | _ => none }
def aluLawsRow : OpenClaim := { program := "ytghmogkapedmfaa", sum := "e92d621a5cc3188d72b28346bcee068b1330ccb163622ad590f296af359434c0", func := "forerunner/forerunnerlaw3.AluLaws", spec := "aluLaws", named := ["math/bits.overflowError"], apart := false }
def AluLawsSaid : Prop := aluLawsRow.holds Try.pinned (OpenSpec.ofChange aluLawsSpec)

/-- ITS FALSE NEIGHBOUR: 'it returns false'. Refute it at one input. -/
def aluLawsWrong : ChangeSpec := { name := "aluLaws", fn := fun _ => fun
  | [d1, d2] => { results := [.lit (.bool false)], args := [d1, d2] }
  | _ => none }
def AluLawsWrongFalsely : Prop := aluLawsRow.holds Try.pinned (OpenSpec.ofChange aluLawsWrong)

/-- 'forerunnerlaw3.AluDivides': WHATEVER THE INPUT: true; the input reads as it did. -/
def aluDividesSpec : ChangeSpec := { name := "aluDivides", fn := fun _ => fun
  | [d1, d2] => { results := [.lit (.bool true)], args := [d1, d2] }
  | _ => none }
def aluDividesRow : OpenClaim := { program := "ytghmogkapedmfaa", sum := "e92d621a5cc3188d72b28346bcee068b1330ccb163622ad590f296af359434c0", func := "forerunner/forerunnerlaw3.AluDivides", spec := "aluDivides", named := ["math/bits.overflowError"], apart := false }
def AluDividesSaid : Prop := aluDividesRow.holds Try.pinned (OpenSpec.ofChange aluDividesSpec)

/-- ITS FALSE NEIGHBOUR: 'it returns false'. Refute it at one input. -/
def aluDividesWrong : ChangeSpec := { name := "aluDivides", fn := fun _ => fun
  | [d1, d2] => { results := [.lit (.bool false)], args := [d1, d2] }
  | _ => none }
def AluDividesWrongFalsely : Prop := aluDividesRow.holds Try.pinned (OpenSpec.ofChange aluDividesWrong)

/-- 'forerunnerlaw3.AluShifts': WHATEVER THE INPUT: true; the input reads as it did. -/
def aluShiftsSpec : ChangeSpec := { name := "aluShifts", fn := fun _ => fun
  | [d1, d2] => { results := [.lit (.bool true)], args := [d1, d2] }
  | _ => none }
def aluShiftsRow : OpenClaim := { program := "ytghmogkapedmfaa", sum := "e92d621a5cc3188d72b28346bcee068b1330ccb163622ad590f296af359434c0", func := "forerunner/forerunnerlaw3.AluShifts", spec := "aluShifts", named := ["math/bits.overflowError"], apart := false }
def AluShiftsSaid : Prop := aluShiftsRow.holds Try.pinned (OpenSpec.ofChange aluShiftsSpec)

/-- ITS FALSE NEIGHBOUR: 'it returns false'. Refute it at one input. -/
def aluShiftsWrong : ChangeSpec := { name := "aluShifts", fn := fun _ => fun
  | [d1, d2] => { results := [.lit (.bool false)], args := [d1, d2] }
  | _ => none }
def AluShiftsWrongFalsely : Prop := aluShiftsRow.holds Try.pinned (OpenSpec.ofChange aluShiftsWrong)

/-- 'forerunnerlaw3.AluOrders': WHATEVER THE INPUT: true; the input reads as it did. -/
def aluOrdersSpec : ChangeSpec := { name := "aluOrders", fn := fun _ => fun
  | [d1, d2] => { results := [.lit (.bool true)], args := [d1, d2] }
  | _ => none }
def aluOrdersRow : OpenClaim := { program := "ytghmogkapedmfaa", sum := "e92d621a5cc3188d72b28346bcee068b1330ccb163622ad590f296af359434c0", func := "forerunner/forerunnerlaw3.AluOrders", spec := "aluOrders", named := ["math/bits.overflowError"], apart := false }
def AluOrdersSaid : Prop := aluOrdersRow.holds Try.pinned (OpenSpec.ofChange aluOrdersSpec)

/-- ITS FALSE NEIGHBOUR: 'it returns false'. Refute it at one input. -/
def aluOrdersWrong : ChangeSpec := { name := "aluOrders", fn := fun _ => fun
  | [d1, d2] => { results := [.lit (.bool false)], args := [d1, d2] }
  | _ => none }
def AluOrdersWrongFalsely : Prop := aluOrdersRow.holds Try.pinned (OpenSpec.ofChange aluOrdersWrong)

/-- 'forerunnerlaw3.AluNumbers': WHATEVER THE INPUT: true; the input reads as it did. -/
def aluNumbersSpec : ChangeSpec := { name := "aluNumbers", fn := fun _ => fun
  | [d1, d2, d3] => { results := [.lit (.bool true)], args := [d1, d2, d3] }
  | _ => none }
def aluNumbersRow : OpenClaim := { program := "ytghmogkapedmfaa", sum := "e92d621a5cc3188d72b28346bcee068b1330ccb163622ad590f296af359434c0", func := "forerunner/forerunnerlaw3.AluNumbers", spec := "aluNumbers", named := ["math/bits.overflowError"], apart := false }
def AluNumbersSaid : Prop := aluNumbersRow.holds Try.pinned (OpenSpec.ofChange aluNumbersSpec)

/-- ITS FALSE NEIGHBOUR: 'it returns false'. Refute it at one input. -/
def aluNumbersWrong : ChangeSpec := { name := "aluNumbers", fn := fun _ => fun
  | [d1, d2, d3] => { results := [.lit (.bool false)], args := [d1, d2, d3] }
  | _ => none }
def AluNumbersWrongFalsely : Prop := aluNumbersRow.holds Try.pinned (OpenSpec.ofChange aluNumbersWrong)

/-- 'forerunnerlaw3.AluWide': WHATEVER THE INPUT: true; the input reads as it did. -/
def aluWideSpec : ChangeSpec := { name := "aluWide", fn := fun _ => fun
  | [d1, d2] => { results := [.lit (.bool true)], args := [d1, d2] }
  | _ => none }
def aluWideRow : OpenClaim := { program := "ytghmogkapedmfaa", sum := "e92d621a5cc3188d72b28346bcee068b1330ccb163622ad590f296af359434c0", func := "forerunner/forerunnerlaw3.AluWide", spec := "aluWide", named := ["math/bits.overflowError"], apart := false }
def AluWideSaid : Prop := aluWideRow.holds Try.pinned (OpenSpec.ofChange aluWideSpec)

/-- ITS FALSE NEIGHBOUR: 'it returns false'. Refute it at one input. -/
def aluWideWrong : ChangeSpec := { name := "aluWide", fn := fun _ => fun
  | [d1, d2] => { results := [.lit (.bool false)], args := [d1, d2] }
  | _ => none }
def AluWideWrongFalsely : Prop := aluWideRow.holds Try.pinned (OpenSpec.ofChange aluWideWrong)

/-- 'forerunnerlaw3.AluLatencies': WHATEVER THE INPUT: true; the input reads as it did. -/
def aluLatenciesSpec : ChangeSpec := { name := "aluLatencies", fn := fun _ => fun
  | [d1, d2, d3] => { results := [.lit (.bool true)], args := [d1, d2, d3] }
  | _ => none }
def aluLatenciesRow : OpenClaim := { program := "ytghmogkapedmfaa", sum := "e92d621a5cc3188d72b28346bcee068b1330ccb163622ad590f296af359434c0", func := "forerunner/forerunnerlaw3.AluLatencies", spec := "aluLatencies", named := ["math/bits.overflowError"], apart := false }
def AluLatenciesSaid : Prop := aluLatenciesRow.holds Try.pinned (OpenSpec.ofChange aluLatenciesSpec)

/-- ITS FALSE NEIGHBOUR: 'it returns false'. Refute it at one input. -/
def aluLatenciesWrong : ChangeSpec := { name := "aluLatencies", fn := fun _ => fun
  | [d1, d2, d3] => { results := [.lit (.bool false)], args := [d1, d2, d3] }
  | _ => none }
def AluLatenciesWrongFalsely : Prop := aluLatenciesRow.holds Try.pinned (OpenSpec.ofChange aluLatenciesWrong)

/-- 'forerunnerlaw3.AluOthers': WHATEVER THE INPUT: true; the input reads as it did. -/
def aluOthersSpec : ChangeSpec := { name := "aluOthers", fn := fun _ => fun
  | [d1, d2, d3, d4] => { results := [.lit (.bool true)], args := [d1, d2, d3, d4] }
  | _ => none }
def aluOthersRow : OpenClaim := { program := "ytghmogkapedmfaa", sum := "e92d621a5cc3188d72b28346bcee068b1330ccb163622ad590f296af359434c0", func := "forerunner/forerunnerlaw3.AluOthers", spec := "aluOthers", named := ["math/bits.overflowError"], apart := false }
def AluOthersSaid : Prop := aluOthersRow.holds Try.pinned (OpenSpec.ofChange aluOthersSpec)

/-- ITS FALSE NEIGHBOUR: 'it returns false'. Refute it at one input. -/
def aluOthersWrong : ChangeSpec := { name := "aluOthers", fn := fun _ => fun
  | [d1, d2, d3, d4] => { results := [.lit (.bool false)], args := [d1, d2, d3, d4] }
  | _ => none }
def AluOthersWrongFalsely : Prop := aluOthersRow.holds Try.pinned (OpenSpec.ofChange aluOthersWrong)

/- THE SECOND FORM. 'bulk': how many values and letters a reading holds, each counted each time it is reached (what is shared counts as often as it is met; a slice's spare places count too). A statement '..UptoSaid' is the law's where the arguments, and the package variables that the reading takes, are together of bulk at most 1048576: NARROWER than '..Said'. Prove '..Said' where nothing that the law and all that it calls make is longer than what came in: it says more and counts as full. Else prove '..UptoSaid'. A law counts once. -/
mutual
def uptoBulk {H : Type} : DataW H → Nat
  | .lit (.string bytes) => bytes.length + 1
  | .lit _ => 1
  | .nil => 1
  | .ptr d => uptoBulk d + 1
  | .slice elems spare => uptoBulkAll elems + uptoBulkAll spare + 1
  | .agg parts => uptoBulkAll parts + 1
  | .iface _ d => uptoBulk d + 1
  | .map entries => uptoBulkEntries entries + 1
  | .held _ => 1
def uptoBulkAll {H : Type} : List (DataW H) → Nat
  | [] => 0
  | d :: r => uptoBulk d + uptoBulkAll r
def uptoBulkEntries {H : Type} : List (Lit × DataW H) → Nat
  | [] => 0
  | x :: r => uptoBulkEntry x + uptoBulkEntries r
def uptoBulkEntry {H : Type} : Lit × DataW H → Nat
  | (.string bytes, d) => bytes.length + uptoBulk d + 1
  | (_, d) => uptoBulk d + 1
 end
def uptoSmall : (H : Type) → List (DataW H) → Bool := fun _ ds => decide (uptoBulkAll ds ≤ 1048576)
def OpenSpec.upto (s : _root_.Go.ChangeSpec) : _root_.Go.OpenSpec := { _root_.Go.OpenSpec.ofChange s with cond := some uptoSmall }

/-- 'forerunnerlaw3.AluTells', WHERE WHAT IT READS IS OF BULK AT MOST 1048576: true; the input reads as it did. -/
def aluTellsUptoRow : OpenClaim := { program := "ytghmogkapedmfaa", sum := "e92d621a5cc3188d72b28346bcee068b1330ccb163622ad590f296af359434c0", func := "forerunner/forerunnerlaw3.AluTells", spec := "aluTells", named := ["math/bits.overflowError"], apart := false, narrowed := true }
def AluTellsUptoSaid : Prop := aluTellsUptoRow.holds Try.pinned (OpenSpec.upto aluTellsSpec)

/-- 'forerunnerlaw3.AluLaws', WHERE WHAT IT READS IS OF BULK AT MOST 1048576: true; the input reads as it did. -/
def aluLawsUptoRow : OpenClaim := { program := "ytghmogkapedmfaa", sum := "e92d621a5cc3188d72b28346bcee068b1330ccb163622ad590f296af359434c0", func := "forerunner/forerunnerlaw3.AluLaws", spec := "aluLaws", named := ["math/bits.overflowError"], apart := false, narrowed := true }
def AluLawsUptoSaid : Prop := aluLawsUptoRow.holds Try.pinned (OpenSpec.upto aluLawsSpec)

/-- 'forerunnerlaw3.AluDivides', WHERE WHAT IT READS IS OF BULK AT MOST 1048576: true; the input reads as it did. -/
def aluDividesUptoRow : OpenClaim := { program := "ytghmogkapedmfaa", sum := "e92d621a5cc3188d72b28346bcee068b1330ccb163622ad590f296af359434c0", func := "forerunner/forerunnerlaw3.AluDivides", spec := "aluDivides", named := ["math/bits.overflowError"], apart := false, narrowed := true }
def AluDividesUptoSaid : Prop := aluDividesUptoRow.holds Try.pinned (OpenSpec.upto aluDividesSpec)

/-- 'forerunnerlaw3.AluShifts', WHERE WHAT IT READS IS OF BULK AT MOST 1048576: true; the input reads as it did. -/
def aluShiftsUptoRow : OpenClaim := { program := "ytghmogkapedmfaa", sum := "e92d621a5cc3188d72b28346bcee068b1330ccb163622ad590f296af359434c0", func := "forerunner/forerunnerlaw3.AluShifts", spec := "aluShifts", named := ["math/bits.overflowError"], apart := false, narrowed := true }
def AluShiftsUptoSaid : Prop := aluShiftsUptoRow.holds Try.pinned (OpenSpec.upto aluShiftsSpec)

/-- 'forerunnerlaw3.AluOrders', WHERE WHAT IT READS IS OF BULK AT MOST 1048576: true; the input reads as it did. -/
def aluOrdersUptoRow : OpenClaim := { program := "ytghmogkapedmfaa", sum := "e92d621a5cc3188d72b28346bcee068b1330ccb163622ad590f296af359434c0", func := "forerunner/forerunnerlaw3.AluOrders", spec := "aluOrders", named := ["math/bits.overflowError"], apart := false, narrowed := true }
def AluOrdersUptoSaid : Prop := aluOrdersUptoRow.holds Try.pinned (OpenSpec.upto aluOrdersSpec)

/-- 'forerunnerlaw3.AluNumbers', WHERE WHAT IT READS IS OF BULK AT MOST 1048576: true; the input reads as it did. -/
def aluNumbersUptoRow : OpenClaim := { program := "ytghmogkapedmfaa", sum := "e92d621a5cc3188d72b28346bcee068b1330ccb163622ad590f296af359434c0", func := "forerunner/forerunnerlaw3.AluNumbers", spec := "aluNumbers", named := ["math/bits.overflowError"], apart := false, narrowed := true }
def AluNumbersUptoSaid : Prop := aluNumbersUptoRow.holds Try.pinned (OpenSpec.upto aluNumbersSpec)

/-- 'forerunnerlaw3.AluWide', WHERE WHAT IT READS IS OF BULK AT MOST 1048576: true; the input reads as it did. -/
def aluWideUptoRow : OpenClaim := { program := "ytghmogkapedmfaa", sum := "e92d621a5cc3188d72b28346bcee068b1330ccb163622ad590f296af359434c0", func := "forerunner/forerunnerlaw3.AluWide", spec := "aluWide", named := ["math/bits.overflowError"], apart := false, narrowed := true }
def AluWideUptoSaid : Prop := aluWideUptoRow.holds Try.pinned (OpenSpec.upto aluWideSpec)

/-- 'forerunnerlaw3.AluLatencies', WHERE WHAT IT READS IS OF BULK AT MOST 1048576: true; the input reads as it did. -/
def aluLatenciesUptoRow : OpenClaim := { program := "ytghmogkapedmfaa", sum := "e92d621a5cc3188d72b28346bcee068b1330ccb163622ad590f296af359434c0", func := "forerunner/forerunnerlaw3.AluLatencies", spec := "aluLatencies", named := ["math/bits.overflowError"], apart := false, narrowed := true }
def AluLatenciesUptoSaid : Prop := aluLatenciesUptoRow.holds Try.pinned (OpenSpec.upto aluLatenciesSpec)

/-- 'forerunnerlaw3.AluOthers', WHERE WHAT IT READS IS OF BULK AT MOST 1048576: true; the input reads as it did. -/
def aluOthersUptoRow : OpenClaim := { program := "ytghmogkapedmfaa", sum := "e92d621a5cc3188d72b28346bcee068b1330ccb163622ad590f296af359434c0", func := "forerunner/forerunnerlaw3.AluOthers", spec := "aluOthers", named := ["math/bits.overflowError"], apart := false, narrowed := true }
def AluOthersUptoSaid : Prop := aluOthersUptoRow.holds Try.pinned (OpenSpec.upto aluOthersSpec)

end Rows
end Go.Proofs.Ytghmogkapedmfaa
