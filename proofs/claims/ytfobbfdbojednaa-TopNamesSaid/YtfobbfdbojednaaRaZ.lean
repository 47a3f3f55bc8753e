/- Tables of functions. -/
import Derived.Test.YtfobbfdbojednaaRaY
import Derived.KernelRfl
namespace Go.Ra
set_option linter.unusedVariables false
def assoc {α : Type} : List (Nat × α) → Nat → Option α
  | [], _ => none
  | (k, v) :: l, i => bif Nat.beq i k then some v else assoc l i
def AllL {α : Type} (p : α → Prop) : List α → Prop
  | [] => True
  | x :: l => p x ∧ AllL p l
theorem assoc_all {α : Type} {p : Nat × α → Prop} : ∀ {l : List (Nat × α)} {i : Nat} {v : α}, AllL p l → assoc l i = some v → p (i, v)
  | [], i, v, h, ha => by cases ha
  | (k, u) :: l, i, v, h, ha => by
    simp only [assoc, beq_if] at ha
    split at ha
    · rename_i e
      subst e
      simp only [Option.some.injEq] at ha
      subst ha
      exact h.1
    · exact assoc_all h.2 ha
theorem AllL.app {α : Type} {p : α → Prop} : ∀ {l r : List α}, AllL p l → AllL p r → AllL p (l ++ r)
  | [], r, _, h => h
  | x :: l, r, h, h2 => ⟨h.1, AllL.app h.2 h2⟩

abbrev CodeL := List (Nat × (Nat × List AR × AC))
abbrev SpL := List (Nat × (List XV → Option (List Bool × XV)))
abbrev SgL := List (Nat × (List XV → XSt → Option (List Bool × XV × XSt)))
def mkT (q : Nat → Bool) (cl : CodeL) (sl : SpL) (gl : SgL) : Tab where
  codes := assoc cl
  q := q
  sp f args :=
    match assoc sl f with
    | some g => g args
    | none => none
  sg f args σ :=
    match assoc gl f with
    | some g => g args σ
    | none => none
def SpOk (P : Program) (p : Nat × (List XV → Option (List Bool × XV))) : Prop := ∀ args nd v, p.2 args = some (nd, v) → allT nd → Pure P p.1 (cons args) (con v)
def SgOk (P : Program) (q : Nat → Bool) (p : Nat × (List XV → XSt → Option (List Bool × XV × XSt))) : Prop := ∀ args σ nd v τ, p.2 args σ = some (nd, v, τ) → allT nd → q p.1 = false → Ok P q p.1 (cons args) σ.st (con v) τ.st
theorem mkT_ok {P : Program} {q : Nat → Bool} {cl : CodeL} {sl : SpL} {gl : SgL} (h1 : AllL (fun p => trF P q p.1 = some p.2) cl) (h2 : AllL (SpOk P) sl) (h3 : AllL (SgOk P q) gl) : TabOk P (mkT q cl sl gl) := by
  refine ⟨fun f r h => assoc_all h1 h, fun f args nd v h hn => ?_, fun f args σ nd v τ h hn hq => ?_⟩
  · simp only [mkT] at h
    split at h
    · rename_i g hg
      exact assoc_all h2 hg args nd v h hn
    · cases h
  · simp only [mkT] at h
    split at h
    · rename_i g hg
      exact assoc_all h3 hg args σ nd v τ h hn hq
    · cases h
end Go.Ra
