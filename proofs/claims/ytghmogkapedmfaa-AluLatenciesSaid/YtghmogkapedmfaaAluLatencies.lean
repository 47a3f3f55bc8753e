/- How long each operation takes, of what is told, and of what cannot be. -/
import Derived.Test.YtghmogkapedmfaaRows
import Derived.Test.YtghmogkapedmfaaAl3
import Derived.WalkKit
import Derived.ProofKit
import Derived.OpenShut
import Derived.ShutString
import Derived.ChangeOld
import Derived.Below
import Derived.SizedLaws
namespace Go.Proofs.Ytghmogkapedmfaa
open Go.Ra
set_option linter.unusedVariables false
set_option linter.unusedSimpArgs false
theorem r_lat (op m d : Int) (K : XV → Prop) : (quietGo TA3 80 (callI TA3 80 20) 10 [.int .i64 op, .int .i64 m, .int .i64 d] K) =
    (bif bif decide (op < (1 : Int)) then true else !decide (op < (1 : Int)) then
  bif bif decide (op < (1 : Int)) then true else decide (op > (41 : Int)) then K (XV.bool true)
  else
    bif bif decide (op = (11 : Int)) then true else !decide (op = (11 : Int)) then
      bif bif decide (op = (11 : Int)) then true else decide (op = (12 : Int)) then
        bif bif decide (m ≥ (1 : Int)) then decide (m ≥ (1 : Int)) else true then
          bif bif decide (m ≥ (1 : Int)) then decide (m ≤ (50 : Int)) else false then K (XV.bool (decide (ltI m d op = m))) else K (XV.bool (decide (ltI m d op = (1 : Int))))
        else False
      else
        bif bif decide (op = (13 : Int)) then true else !decide (op = (13 : Int)) then
          bif bif bif decide (op = (13 : Int)) then true else decide (op = (14 : Int)) then true else !bif decide (op = (13 : Int)) then true else decide (op = (14 : Int)) then
            bif
                bif bif bif decide (op = (13 : Int)) then true else decide (op = (14 : Int)) then true else decide (op = (15 : Int)) then true
                else !bif bif decide (op = (13 : Int)) then true else decide (op = (14 : Int)) then true else decide (op = (15 : Int)) then
              bif bif bif bif decide (op = (13 : Int)) then true else decide (op = (14 : Int)) then true else decide (op = (15 : Int)) then true else decide (op = (16 : Int)) then
                bif bif decide (d ≥ (1 : Int)) then decide (d ≥ (1 : Int)) else true then
                  bif bif decide (d ≥ (1 : Int)) then decide (d ≤ (50 : Int)) else false then K (XV.bool (decide (ltI m d op = d))) else K (XV.bool (decide (ltI m d op = (1 : Int))))
                else False
              else K (XV.bool (decide (ltI m d op = (1 : Int))))
            else False
          else False
        else False
    else False
else False) := by kernel_rfl
theorem lat_pure (op m d : Int) : Pure Try.prog 10 (cons [.int .i64 op, .int .i64 m, .int .i64 d]) (con (.bool true)) := by
  refine pureX (u := 80) (k := 20) mix TA3ok ?_
  rw [r_lat]
  simp only [pk3, pk4, decide_true, cond_true, pk_and, pk_or]
  unfold ltI
  by_cases h1 : op < 1
  · simp [h1]
  by_cases h2 : op > 41
  · simp [h1, h2]
  by_cases h3 : op = 11 ∨ op = 12
  · by_cases hm : m < 1 <;> by_cases hm2 : 50 < m <;> rcases h3 with rfl | rfl <;> simp [← Int.not_lt, hm, hm2]
  · have n1 : ¬ op = 11 := by omega
    have n2 : ¬ op = 12 := by omega
    by_cases h4 : op = 13 ∨ op = 14 ∨ op = 15 ∨ op = 16
    · by_cases hm : d < 1 <;> by_cases hm2 : 50 < d <;> rcases h4 with rfl | rfl | rfl | rfl <;> simp [← Int.not_lt, hm, hm2]
    · have n3 : ¬ op = 13 := by omega
      have n4 : ¬ op = 14 := by omega
      have n5 : ¬ op = 15 := by omega
      have n6 : ¬ op = 16 := by omega
      have n7 : ¬ (13 ≤ op ∧ op ≤ 16) := by omega
      simp [h1, h2, n1, n2, n3, n4, n5, n6, n7]
end Go.Proofs.Ytghmogkapedmfaa
namespace Go.Proofs.Ytghmogkapedmfaa.aluLatencies
open Go.Ra Go.ChangeShapes Go.WideShapes Go.ChangeAt Go.RowKit
open Go.ChangeMaps (open_string shut_string)
theorem own : ownKnob Try.prog.godebug = none := by kernel_rfl
def Ts : List Ty := [.int .i64, .int .i64, .int .i64]
theorem law (xs : List AV) (h : Ty.hasL Ts xs) : Pure Try.prog 10 xs (.sc (.bool true)) := by
  have h0 := h
  simp only [Ts, Ty.hasL] at h0
  obtain ⟨a, _, rfl, _, b, _, rfl, _, c, _, rfl, _, rfl⟩ := h0
  exact lawX h (lat_pure _ _ _)
set_option maxRecDepth 100000 in
theorem lifted (os : Os) (started : os.Started) (H : Type) (enc : TypeId × Value → H) :
    ReturnsInHanded {} Try.checked os 10 .any (Rows.aluLatenciesSpec.pre6 enc Try.prog Try.f10 Rows.aluLatenciesRow.domain false) (Rows.aluLatenciesSpec.post enc Try.prog Try.f10 false true false false) := by
  refine returnsInHanded_of_change_sized (C := Try.checked) own started (by kernel_rfl) Try.func10
    (ChangeSpec.witness6 (enc := enc) (C := Try.checked) false ⟨#[], #[.int .i64 0, .int .i64 0, .int .i64 0], []⟩ 8 (by kernel_rfl) (by kernel_rfl) (by kernel_rfl) (by kernel_rfl)) ?_
  intro W base args ds gs before hval hW hcnd hsz _
  refine law_post (s := Rows.aluLatenciesSpec) (n := 60) (Ts := Ts) (ts := [3, 3, 3]) (tb := 4) (by kernel_rfl) rfl rfl Try.underlying4 rfl (by kernel_rfl) (by kernel_rfl) (fun ds hds => ?_) law W base args ds gs before hval hW hsz
  match ds, hds with
  | [d1, d2, d3], _ => exact ⟨rfl, rfl, rfl⟩
theorem over : Rows.aluLatenciesRow.holds Try.pinned (OpenSpec.ofChange Rows.aluLatenciesSpec) :=
  OpenClaim.holds_of_wide 10 Try.f10 rfl rfl rfl rfl rfl rfl rfl ⟨rfl, rfl, rfl, rfl, rfl⟩ rfl rfl rfl rfl rfl (by kernel_rfl) Try.func10 (by kernel_rfl)
    (of_decide_eq_true (by kernel_rfl)) (by unfold Func.isWrapper; first | (rw [if_pos (by decide +kernel)]; kernel_rfl) | (rw [if_neg (by decide +kernel)]; exact ⟨rfl, rfl⟩))
    (fun os started H enc _ => lifted os started H enc)
theorem proved : Rows.AluLatenciesSaid := over
end Go.Proofs.Ytghmogkapedmfaa.aluLatencies
namespace Go.Proofs.Ytghmogkapedmfaa
/-- The row, under a short name, for the claim. -/
theorem aluLatencies_holds : Rows.AluLatenciesSaid := aluLatencies.proved
end Go.Proofs.Ytghmogkapedmfaa
#print axioms Go.Proofs.Ytghmogkapedmfaa.aluLatencies_holds
