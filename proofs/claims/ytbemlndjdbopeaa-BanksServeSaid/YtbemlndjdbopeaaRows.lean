/-
  No cell of these rows narrows 'for every input' (looked for: loops, veiled, ifaces, maps, wideKeys, modest, calm, conditions, laid).
  DERIVED. THE GIVEN ROWS OF THIS SEAT. 9 by the template 'for every input the law returns true; each argument reads behind the call as it read before'; 0 by the template 'total and deterministic' (their statements: YtbemlndjdbopeaaTotals.lean).
  GIVEN WITH THE SEED: the statements are not yours to turn. If you find one false, say at which input.
  Laid BY PROGRAM, IN A SANDBOX (cutbox-rows.mjs): the forced cells as the released guide's own fill.sh prints them over the translation 80e53f88f333c4e7… (all of the seat's roots in one cut). By AI agents, Wed Nov 11 2026. No macro, syntax, notation, axiom, sorry.
-/
import Derived.Test.YtbemlndjdbopeaaChecked
import GoSem.Claim
import GoSem.ClaimJoined
import GoSem.ClaimMapViews
import Derived.JoinedTies
import Derived.KernelRfl
namespace Go.Proofs.Ytbemlndjdbopeaa
/- THE CELL 'sum', in the pinned program and in every row, IS THE sha256 OF THE DUMP (.gsa) THAT YtbemlndjdbopeaaProg.lean LOADS. Nothing in Lean hashes anything: it is a label: what it is worth is what the hold of that sum in a sandbox is worth. -/
noncomputable def Try.pinned : Pinned := { name := "ytbemlndjdbopeaa", sum := "80e53f88f333c4e750ca23051e103c9d309dd5d462d976969b95f98b8c5133fb", checked := Try.checked }
namespace Rows
def none {H : Type} : Left H := { results := [], args := [] }

/-- 'forerunnerlaw23.CommitTells': WHATEVER THE INPUT: true; the input reads as it did. -/
def commitTellsSpec : ChangeSpec := { name := "commitTells", fn := fun _ => fun
  | [d1, d2] => { results := [.lit (.bool true)], args := [d1, d2] }
  | _ => none }
def commitTellsRow : OpenClaim := { program := "ytbemlndjdbopeaa", sum := "80e53f88f333c4e750ca23051e103c9d309dd5d462d976969b95f98b8c5133fb", func := "forerunner/forerunnerlaw23.CommitTells", spec := "commitTells", unfollowed := true, recurses := true, apart := false }
def CommitTellsSaid : Prop := commitTellsRow.holds Try.pinned (OpenSpec.ofChange commitTellsSpec)

/-- ITS FALSE NEIGHBOUR: 'it returns false'. Refute it at one input. -/
def commitTellsWrong : ChangeSpec := { name := "commitTells", fn := fun _ => fun
  | [d1, d2] => { results := [.lit (.bool false)], args := [d1, d2] }
  | _ => none }
def CommitTellsWrongFalsely : Prop := commitTellsRow.holds Try.pinned (OpenSpec.ofChange commitTellsWrong)

/-- 'forerunnerlaw23.CommitOne': WHATEVER THE INPUT: true; the input reads as it did. -/
def commitOneSpec : ChangeSpec := { name := "commitOne", fn := fun _ => fun
  | [d1, d2] => { results := [.lit (.bool true)], args := [d1, d2] }
  | _ => none }
def commitOneRow : OpenClaim := { program := "ytbemlndjdbopeaa", sum := "80e53f88f333c4e750ca23051e103c9d309dd5d462d976969b95f98b8c5133fb", func := "forerunner/forerunnerlaw23.CommitOne", spec := "commitOne", unfollowed := true, recurses := true, apart := false }
def CommitOneSaid : Prop := commitOneRow.holds Try.pinned (OpenSpec.ofChange commitOneSpec)

/-- ITS FALSE NEIGHBOUR: 'it returns false'. Refute it at one input. -/
def commitOneWrong : ChangeSpec := { name := "commitOne", fn := fun _ => fun
  | [d1, d2] => { results := [.lit (.bool false)], args := [d1, d2] }
  | _ => none }
def CommitOneWrongFalsely : Prop := commitOneRow.holds Try.pinned (OpenSpec.ofChange commitOneWrong)

/-- 'forerunnerlaw23.CommitTraps': WHATEVER THE INPUT: true; the input reads as it did. -/
def commitTrapsSpec : ChangeSpec := { name := "commitTraps", fn := fun _ => fun
  | [d1, d2, d3, d4, d5] => { results := [.lit (.bool true)], args := [d1, d2, d3, d4, d5] }
  | _ => none }
def commitTrapsRow : OpenClaim := { program := "ytbemlndjdbopeaa", sum := "80e53f88f333c4e750ca23051e103c9d309dd5d462d976969b95f98b8c5133fb", func := "forerunner/forerunnerlaw23.CommitTraps", spec := "commitTraps", unfollowed := true, recurses := true, apart := false }
def CommitTrapsSaid : Prop := commitTrapsRow.holds Try.pinned (OpenSpec.ofChange commitTrapsSpec)

/-- ITS FALSE NEIGHBOUR: 'it returns false'. Refute it at one input. -/
def commitTrapsWrong : ChangeSpec := { name := "commitTraps", fn := fun _ => fun
  | [d1, d2, d3, d4, d5] => { results := [.lit (.bool false)], args := [d1, d2, d3, d4, d5] }
  | _ => none }
def CommitTrapsWrongFalsely : Prop := commitTrapsRow.holds Try.pinned (OpenSpec.ofChange commitTrapsWrong)

/-- 'forerunnerlaw23.CommitSizes': WHATEVER THE INPUT: true; the input reads as it did. -/
def commitSizesSpec : ChangeSpec := { name := "commitSizes", fn := fun _ => fun
  | [d1, d2, d3, d4] => { results := [.lit (.bool true)], args := [d1, d2, d3, d4] }
  | _ => none }
def commitSizesRow : OpenClaim := { program := "ytbemlndjdbopeaa", sum := "80e53f88f333c4e750ca23051e103c9d309dd5d462d976969b95f98b8c5133fb", func := "forerunner/forerunnerlaw23.CommitSizes", spec := "commitSizes", unfollowed := true, recurses := true, apart := false }
def CommitSizesSaid : Prop := commitSizesRow.holds Try.pinned (OpenSpec.ofChange commitSizesSpec)

/-- ITS FALSE NEIGHBOUR: 'it returns false'. Refute it at one input. -/
def commitSizesWrong : ChangeSpec := { name := "commitSizes", fn := fun _ => fun
  | [d1, d2, d3, d4] => { results := [.lit (.bool false)], args := [d1, d2, d3, d4] }
  | _ => none }
def CommitSizesWrongFalsely : Prop := commitSizesRow.holds Try.pinned (OpenSpec.ofChange commitSizesWrong)

/-- 'forerunnerlaw18.BanksTell': WHATEVER THE INPUT: true; the input reads as it did. -/
def banksTellSpec : ChangeSpec := { name := "banksTell", fn := fun _ => fun
  | [d1, d2, d3, d4, d5, d6] => { results := [.lit (.bool true)], args := [d1, d2, d3, d4, d5, d6] }
  | _ => none }
def banksTellRow : OpenClaim := { program := "ytbemlndjdbopeaa", sum := "80e53f88f333c4e750ca23051e103c9d309dd5d462d976969b95f98b8c5133fb", func := "forerunner/forerunnerlaw18.BanksTell", spec := "banksTell", unfollowed := true, recurses := true, apart := false }
def BanksTellSaid : Prop := banksTellRow.holds Try.pinned (OpenSpec.ofChange banksTellSpec)

/-- ITS FALSE NEIGHBOUR: 'it returns false'. Refute it at one input. -/
def banksTellWrong : ChangeSpec := { name := "banksTell", fn := fun _ => fun
  | [d1, d2, d3, d4, d5, d6] => { results := [.lit (.bool false)], args := [d1, d2, d3, d4, d5, d6] }
  | _ => none }
def BanksTellWrongFalsely : Prop := banksTellRow.holds Try.pinned (OpenSpec.ofChange banksTellWrong)

/-- 'forerunnerlaw18.BanksServe': WHATEVER THE INPUT: true; the input reads as it did. -/
def banksServeSpec : ChangeSpec := { name := "banksServe", fn := fun _ => fun
  | [d1, d2, d3, d4] => { results := [.lit (.bool true)], args := [d1, d2, d3, d4] }
  | _ => none }
def banksServeRow : OpenClaim := { program := "ytbemlndjdbopeaa", sum := "80e53f88f333c4e750ca23051e103c9d309dd5d462d976969b95f98b8c5133fb", func := "forerunner/forerunnerlaw18.BanksServe", spec := "banksServe", unfollowed := true, recurses := true, apart := false }
def BanksServeSaid : Prop := banksServeRow.holds Try.pinned (OpenSpec.ofChange banksServeSpec)

/-- ITS FALSE NEIGHBOUR: 'it returns false'. Refute it at one input. -/
def banksServeWrong : ChangeSpec := { name := "banksServe", fn := fun _ => fun
  | [d1, d2, d3, d4] => { results := [.lit (.bool false)], args := [d1, d2, d3, d4] }
  | _ => none }
def BanksServeWrongFalsely : Prop := banksServeRow.holds Try.pinned (OpenSpec.ofChange banksServeWrong)

/-- 'forerunnerlaw18.BanksAnswer': WHATEVER THE INPUT: true; the input reads as it did. -/
def banksAnswerSpec : ChangeSpec := { name := "banksAnswer", fn := fun _ => fun
  | [d1, d2, d3, d4, d5, d6] => { results := [.lit (.bool true)], args := [d1, d2, d3, d4, d5, d6] }
  | _ => none }
def banksAnswerRow : OpenClaim := { program := "ytbemlndjdbopeaa", sum := "80e53f88f333c4e750ca23051e103c9d309dd5d462d976969b95f98b8c5133fb", func := "forerunner/forerunnerlaw18.BanksAnswer", spec := "banksAnswer", unfollowed := true, recurses := true, apart := false }
def BanksAnswerSaid : Prop := banksAnswerRow.holds Try.pinned (OpenSpec.ofChange banksAnswerSpec)

/-- ITS FALSE NEIGHBOUR: 'it returns false'. Refute it at one input. -/
def banksAnswerWrong : ChangeSpec := { name := "banksAnswer", fn := fun _ => fun
  | [d1, d2, d3, d4, d5, d6] => { results := [.lit (.bool false)], args := [d1, d2, d3, d4, d5, d6] }
  | _ => none }
def BanksAnswerWrongFalsely : Prop := banksAnswerRow.holds Try.pinned (OpenSpec.ofChange banksAnswerWrong)

/-- 'forerunnerlaw18.BanksScript': WHATEVER THE INPUT: true; the input reads as it did. -/
def banksScriptSpec : ChangeSpec := { name := "banksScript", fn := fun _ => fun
  | [d1, d2, d3, d4] => { results := [.lit (.bool true)], args := [d1, d2, d3, d4] }
  | _ => none }
def banksScriptRow : OpenClaim := { program := "ytbemlndjdbopeaa", sum := "80e53f88f333c4e750ca23051e103c9d309dd5d462d976969b95f98b8c5133fb", func := "forerunner/forerunnerlaw18.BanksScript", spec := "banksScript", unfollowed := true, recurses := true, apart := false }
def BanksScriptSaid : Prop := banksScriptRow.holds Try.pinned (OpenSpec.ofChange banksScriptSpec)

/-- ITS FALSE NEIGHBOUR: 'it returns false'. Refute it at one input. -/
def banksScriptWrong : ChangeSpec := { name := "banksScript", fn := fun _ => fun
  | [d1, d2, d3, d4] => { results := [.lit (.bool false)], args := [d1, d2, d3, d4] }
  | _ => none }
def BanksScriptWrongFalsely : Prop := banksScriptRow.holds Try.pinned (OpenSpec.ofChange banksScriptWrong)

/-- 'forerunnerlaw18.BanksApart': WHATEVER THE INPUT: true; the input reads as it did. -/
def banksApartSpec : ChangeSpec := { name := "banksApart", fn := fun _ => fun
  | [d1, d2] => { results := [.lit (.bool true)], args := [d1, d2] }
  | _ => none }
def banksApartRow : OpenClaim := { program := "ytbemlndjdbopeaa", sum := "80e53f88f333c4e750ca23051e103c9d309dd5d462d976969b95f98b8c5133fb", func := "forerunner/forerunnerlaw18.BanksApart", spec := "banksApart", unfollowed := true, recurses := true, apart := false }
def BanksApartSaid : Prop := banksApartRow.holds Try.pinned (OpenSpec.ofChange banksApartSpec)

/-- ITS FALSE NEIGHBOUR: 'it returns false'. Refute it at one input. -/
def banksApartWrong : ChangeSpec := { name := "banksApart", fn := fun _ => fun
  | [d1, d2] => { results := [.lit (.bool false)], args := [d1, d2] }
  | _ => none }
def BanksApartWrongFalsely : Prop := banksApartRow.holds Try.pinned (OpenSpec.ofChange banksApartWrong)

/- THE SECOND FORM. 'bulk': how many values and letters a reading holds, each counted each time it is reached (what is shared counts as often as it is met; a slice's spare places count too). A statement '..UptoSaid' is the law's where the arguments, and the package variables that the reading takes, are together of bulk at most 1048576: NARROWER than '..Said'. Prove '..Said' where nothing that the law and all that it calls make is longer than what came in: it says more and counts as full. Else prove '..UptoSaid'. A law counts once. -/
mutual
def uptoBulk {H : Type} : DataW H → Nat
  | .lit (.string bytes) => bytes.length + 1
  | .lit _ => 1
  | .nil => 1
  | .ptr d => uptoBulk d + 1
  | .slice elems spare => uptoBulkAll elems + uptoBulkAll spare + 1
  | .agg parts => uptoBulkAll parts + 1
  | .iface _ d => uptoBulk d + 1
  | .map entries => uptoBulkEntries entries + 1
  | .held _ => 1
def uptoBulkAll {H : Type} : List (DataW H) → Nat
  | [] => 0
  | d :: r => uptoBulk d + uptoBulkAll r
def uptoBulkEntries {H : Type} : List (Lit × DataW H) → Nat
  | [] => 0
  | x :: r => uptoBulkEntry x + uptoBulkEntries r
def uptoBulkEntry {H : Type} : Lit × DataW H → Nat
  | (.string bytes, d) => bytes.length + uptoBulk d + 1
  | (_, d) => uptoBulk d + 1
 end
def uptoSmall : (H : Type) → List (DataW H) → Bool := fun _ ds => decide (uptoBulkAll ds ≤ 1048576)
def OpenSpec.upto (s : _root_.Go.ChangeSpec) : _root_.Go.OpenSpec := { _root_.Go.OpenSpec.ofChange s with cond := some uptoSmall }

/-- 'forerunnerlaw23.CommitTells', WHERE WHAT IT READS IS OF BULK AT MOST 1048576: true; the input reads as it did. -/
def commitTellsUptoRow : OpenClaim := { program := "ytbemlndjdbopeaa", sum := "80e53f88f333c4e750ca23051e103c9d309dd5d462d976969b95f98b8c5133fb", func := "forerunner/forerunnerlaw23.CommitTells", spec := "commitTells", unfollowed := true, recurses := true, apart := false, narrowed := true }
def CommitTellsUptoSaid : Prop := commitTellsUptoRow.holds Try.pinned (OpenSpec.upto commitTellsSpec)

/-- 'forerunnerlaw23.CommitOne', WHERE WHAT IT READS IS OF BULK AT MOST 1048576: true; the input reads as it did. -/
def commitOneUptoRow : OpenClaim := { program := "ytbemlndjdbopeaa", sum := "80e53f88f333c4e750ca23051e103c9d309dd5d462d976969b95f98b8c5133fb", func := "forerunner/forerunnerlaw23.CommitOne", spec := "commitOne", unfollowed := true, recurses := true, apart := false, narrowed := true }
def CommitOneUptoSaid : Prop := commitOneUptoRow.holds Try.pinned (OpenSpec.upto commitOneSpec)

/-- 'forerunnerlaw23.CommitTraps', WHERE WHAT IT READS IS OF BULK AT MOST 1048576: true; the input reads as it did. -/
def commitTrapsUptoRow : OpenClaim := { program := "ytbemlndjdbopeaa", sum := "80e53f88f333c4e750ca23051e103c9d309dd5d462d976969b95f98b8c5133fb", func := "forerunner/forerunnerlaw23.CommitTraps", spec := "commitTraps", unfollowed := true, recurses := true, apart := false, narrowed := true }
def CommitTrapsUptoSaid : Prop := commitTrapsUptoRow.holds Try.pinned (OpenSpec.upto commitTrapsSpec)

/-- 'forerunnerlaw23.CommitSizes', WHERE WHAT IT READS IS OF BULK AT MOST 1048576: true; the input reads as it did. -/
def commitSizesUptoRow : OpenClaim := { program := "ytbemlndjdbopeaa", sum := "80e53f88f333c4e750ca23051e103c9d309dd5d462d976969b95f98b8c5133fb", func := "forerunner/forerunnerlaw23.CommitSizes", spec := "commitSizes", unfollowed := true, recurses := true, apart := false, narrowed := true }
def CommitSizesUptoSaid : Prop := commitSizesUptoRow.holds Try.pinned (OpenSpec.upto commitSizesSpec)

/-- 'forerunnerlaw18.BanksTell', WHERE WHAT IT READS IS OF BULK AT MOST 1048576: true; the input reads as it did. -/
def banksTellUptoRow : OpenClaim := { program := "ytbemlndjdbopeaa", sum := "80e53f88f333c4e750ca23051e103c9d309dd5d462d976969b95f98b8c5133fb", func := "forerunner/forerunnerlaw18.BanksTell", spec := "banksTell", unfollowed := true, recurses := true, apart := false, narrowed := true }
def BanksTellUptoSaid : Prop := banksTellUptoRow.holds Try.pinned (OpenSpec.upto banksTellSpec)

/-- 'forerunnerlaw18.BanksServe', WHERE WHAT IT READS IS OF BULK AT MOST 1048576: true; the input reads as it did. -/
def banksServeUptoRow : OpenClaim := { program := "ytbemlndjdbopeaa", sum := "80e53f88f333c4e750ca23051e103c9d309dd5d462d976969b95f98b8c5133fb", func := "forerunner/forerunnerlaw18.BanksServe", spec := "banksServe", unfollowed := true, recurses := true, apart := false, narrowed := true }
def BanksServeUptoSaid : Prop := banksServeUptoRow.holds Try.pinned (OpenSpec.upto banksServeSpec)

/-- 'forerunnerlaw18.BanksAnswer', WHERE WHAT IT READS IS OF BULK AT MOST 1048576: true; the input reads as it did. -/
def banksAnswerUptoRow : OpenClaim := { program := "ytbemlndjdbopeaa", sum := "80e53f88f333c4e750ca23051e103c9d309dd5d462d976969b95f98b8c5133fb", func := "forerunner/forerunnerlaw18.BanksAnswer", spec := "banksAnswer", unfollowed := true, recurses := true, apart := false, narrowed := true }
def BanksAnswerUptoSaid : Prop := banksAnswerUptoRow.holds Try.pinned (OpenSpec.upto banksAnswerSpec)

/-- 'forerunnerlaw18.BanksScript', WHERE WHAT IT READS IS OF BULK AT MOST 1048576: true; the input reads as it did. -/
def banksScriptUptoRow : OpenClaim := { program := "ytbemlndjdbopeaa", sum := "80e53f88f333c4e750ca23051e103c9d309dd5d462d976969b95f98b8c5133fb", func := "forerunner/forerunnerlaw18.BanksScript", spec := "banksScript", unfollowed := true, recurses := true, apart := false, narrowed := true }
def BanksScriptUptoSaid : Prop := banksScriptUptoRow.holds Try.pinned (OpenSpec.upto banksScriptSpec)

/-- 'forerunnerlaw18.BanksApart', WHERE WHAT IT READS IS OF BULK AT MOST 1048576: true; the input reads as it did. -/
def banksApartUptoRow : OpenClaim := { program := "ytbemlndjdbopeaa", sum := "80e53f88f333c4e750ca23051e103c9d309dd5d462d976969b95f98b8c5133fb", func := "forerunner/forerunnerlaw18.BanksApart", spec := "banksApart", unfollowed := true, recurses := true, apart := false, narrowed := true }
def BanksApartUptoSaid : Prop := banksApartUptoRow.holds Try.pinned (OpenSpec.upto banksApartSpec)

end Rows
end Go.Proofs.Ytbemlndjdbopeaa
