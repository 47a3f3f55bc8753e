/- The numbers of package api are what the document says. -/
import Derived.Test.YtfobbfdbojednaaRows
import Derived.Test.YtfobbfdbojednaaKtop
import Derived.Test.YtfobbfdbojednaaRaZg
import Derived.WalkKit
import Derived.ProofKit
import Derived.OpenShut
import Derived.ShutString
import Derived.ChangeOld
import Derived.Below
import Derived.SizedLaws
namespace Go.Proofs.Ytfobbfdbojednaa
open Go.Ra
set_option linter.unusedVariables false
set_option linter.unusedSimpArgs false
def TT : Tab := mkT qq cl_top [] []
theorem TTok : TabOk Try.prog TT := mkT_ok clok_top trivial trivial
theorem r_names (K : XV → Prop) : (quietGo TT 80 (callI TT 80 20) 4 [] K) =
    (K (XV.bool true)) := by kernel_rfl
theorem names_pure : Pure Try.prog 4 (cons []) (con (.bool true)) := by
  refine pureX (u := 80) (k := 20) mix TTok ?_
  rw [r_names]
end Go.Proofs.Ytfobbfdbojednaa
namespace Go.Proofs.Ytfobbfdbojednaa.topNames
open Go.Ra Go.ChangeShapes Go.WideShapes Go.ChangeAt Go.RowKit
open Go.ChangeMaps (open_string shut_string)
theorem own : ownKnob Try.prog.godebug = none := by kernel_rfl
def Ts : List Ty := []
theorem law (xs : List AV) (h : Ty.hasL Ts xs) : Pure Try.prog 4 xs (.sc (.bool true)) := by
  have h0 := h
  simp only [Ts, Ty.hasL] at h0
  subst h0
  exact lawX h names_pure
set_option maxRecDepth 100000 in
theorem lifted (os : Os) (started : os.Started) (H : Type) (enc : TypeId × Value → H) :
    ReturnsInHanded {} Try.checked os 4 .any (Rows.topNamesSpec.pre6 enc Try.prog Try.f4 Rows.topNamesRow.domain false) (Rows.topNamesSpec.post enc Try.prog Try.f4 false true false false) := by
  refine returnsInHanded_of_change_sized (C := Try.checked) own started (by kernel_rfl) Try.func4
    (ChangeSpec.witness6 (enc := enc) (C := Try.checked) false ⟨#[], #[], []⟩ 8 (by kernel_rfl) (by kernel_rfl) (by kernel_rfl) (by kernel_rfl)) ?_
  intro W base args ds gs before hval hW hcnd hsz _
  refine law_post (s := Rows.topNamesSpec) (n := 60) (Ts := Ts) (ts := []) (tb := 4) (by kernel_rfl) rfl rfl Try.underlying4 rfl (by kernel_rfl) (by kernel_rfl) (fun ds hds => ?_) law W base args ds gs before hval hW hsz
  match ds, hds with
  | [], _ => exact ⟨rfl, rfl, rfl⟩
theorem over : Rows.topNamesRow.holds Try.pinned (OpenSpec.ofChange Rows.topNamesSpec) :=
  OpenClaim.holds_of_wide 4 Try.f4 rfl rfl rfl rfl rfl rfl rfl ⟨rfl, rfl, rfl, rfl, rfl⟩ rfl rfl rfl rfl rfl (by kernel_rfl) Try.func4 (by kernel_rfl)
    (of_decide_eq_true (by kernel_rfl)) (by unfold Func.isWrapper; first | (rw [if_pos (by decide +kernel)]; kernel_rfl) | (rw [if_neg (by decide +kernel)]; exact ⟨rfl, rfl⟩))
    (fun os started H enc _ => lifted os started H enc)
theorem proved : Rows.TopNamesSaid := over
end Go.Proofs.Ytfobbfdbojednaa.topNames
namespace Go.Proofs.Ytfobbfdbojednaa
/-- The row, under a short name, for the claim. -/
theorem topNames_holds : Rows.TopNamesSaid := topNames.proved
end Go.Proofs.Ytfobbfdbojednaa
#print axioms Go.Proofs.Ytfobbfdbojednaa.topNames_holds
