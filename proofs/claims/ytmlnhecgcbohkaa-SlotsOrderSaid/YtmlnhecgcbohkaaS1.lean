/- Lists of slots: whether two are one. -/
import Derived.Test.YtmlnhecgcbohkaaKlaw16
import Derived.Test.YtmlnhecgcbohkaaRaZe
namespace Go.Proofs.Ytmlnhecgcbohkaa
open Go.Ra
set_option linter.unusedVariables false
set_option linter.unusedSimpArgs false
def TS1 : Tab := mkT qq cl_law16 [] []
abbrev kSl : List KD := [.i .i64, .b, .i .u32]
def u_eqSl (a b : XV) : Bool := decide (asN (fld 0 a) = asN (fld 0 b)) && (asB (fld 1 a) == asB (fld 1 b) && (decide (asN (fld 2 a) = asN (fld 2 b)) && true))
theorem TS1ok : TabOk Try.prog TS1 := mkT_ok clok_law16 trivial trivial
theorem r_same1 (x y : Bool) (n m : Nat) (f g : Nat → XV) (r : AV) : (goS Try.prog TS1 [(.tmp 4)] r (.run c_law16_same) [] ⟨envX 0 [.row x 3 n (fun i => mkS kSl (f i)), .row y 3 m (fun i => mkS kSl (g i))], [], 0⟩) =
    (bif decide ¬(↑n : Int) = (↑m : Int) then con (XV.bool false) = r
 else
   LoopAt (Ok Try.prog (Tab.q TS1)) c_law16_same_l1
     (XSt.mk
       [((5 : Nat), XV.int IntKind.i64 (0 : Int)), ((4 : Nat), XV.bool false),
         ((0 : Nat),
           XV.row x (3 : Nat) n fun (i : Nat) => XV.agg (3 : Nat) [XV.int IntKind.i64 (asN (fld (0 : Nat) (f i))), XV.bool (asB (fld (1 : Nat) (f i))), XV.int IntKind.u32 (asN (fld (2 : Nat) (f i)))]),
         ((1 : Nat),
           XV.row y (3 : Nat) m fun (i : Nat) => XV.agg (3 : Nat) [XV.int IntKind.i64 (asN (fld (0 : Nat) (g i))), XV.bool (asB (fld (1 : Nat) (g i))), XV.int IntKind.u32 (asN (fld (2 : Nat) (g i)))])]
       [] (0 : Nat))
     [Frm.blk (0 : Nat), Frm.seq c_law16_same_p1] (finR [AR.tmp (4 : Nat)] r)) := by kernel_rfl
theorem r_same2 (x y : Bool) (n m : Nat) (f g : Nat → XV) (r : AV) (A : XSt → Prop) (i : Nat) : (goS Try.prog TS1 [(.tmp 4)] r (.run c_law16_same_l1) [.lp c_law16_same_l1 A, .blk 0, .seq c_law16_same_p1] ⟨[(0, .row x 3 n (fun i => mkS kSl (f i))), (1, .row y 3 m (fun i => mkS kSl (g i))), (5, .int .i64 i)], [], 0⟩) =
    (bif decide ((↑i : Int) < (↑n : Int)) then
  bif decide ((↑i : Int) < (↑n : Int)) then
    bif decide ((↑i : Int) < (↑m : Int)) then
      bif
          !(decide (asN (fld (0 : Nat) (f i)) = asN (fld (0 : Nat) (g i))) &&
              (asB (fld (1 : Nat) (f i)) == asB (fld (1 : Nat) (g i)) && (decide (asN (fld (2 : Nat) (f i)) = asN (fld (2 : Nat) (g i))) && true))) then
        con (XV.bool false) = r
      else
        A
          (XSt.mk
            [((5 : Nat), XV.int IntKind.i64 (IntKind.wrap IntKind.i64 ((↑i : Int) + (1 : Int)))),
              ((0 : Nat),
                XV.row x (3 : Nat) n fun (i : Nat) =>
                  XV.agg (3 : Nat) [XV.int IntKind.i64 (asN (fld (0 : Nat) (f i))), XV.bool (asB (fld (1 : Nat) (f i))), XV.int IntKind.u32 (asN (fld (2 : Nat) (f i)))]),
              ((1 : Nat),
                XV.row y (3 : Nat) m fun (i : Nat) =>
                  XV.agg (3 : Nat) [XV.int IntKind.i64 (asN (fld (0 : Nat) (g i))), XV.bool (asB (fld (1 : Nat) (g i))), XV.int IntKind.u32 (asN (fld (2 : Nat) (g i)))])]
            [] (0 : Nat))
    else False
  else False
 else con (XV.bool true) = r) := by kernel_rfl
theorem sp_law16_same : SpOk Try.prog (25, sameS 3 kSl u_eqSl) := sameS_ok fun x y n m f g hn => by
  refine pureS mix TS1ok t_law16_same (Nat.le_of_ble_eq_true rfl) ?_
  refine Eq.mpr (r_same1 x y n m f g _) (cnd2 (fun h => ?_) (fun h => ?_))
  · have hnm : ¬ n = m := by
      have : ¬ (n : Int) = m := by simpa using h
      omega
    simp only [con, B]
    have : eqR n m (fun i => u_eqSl (mkS kSl (f i)) (mkS kSl (g i))) = false := by
      rw [← Bool.not_eq_true]
      exact fun e => hnm (eqR_iff.1 e).1
    rw [this]
  · have hnm : n = m := by
      have : (n : Int) = m := by simpa using h
      omega
    subst hnm
    refine loopS mix TS1ok (fun i : Nat => ⟨[(0, .row x 3 n (fun i => mkS kSl (f i))), (1, .row y 3 n (fun i => mkS kSl (g i))), (5, .int .i64 i)], [], 0⟩) (fun i => i ≤ n ∧ ∀ j, j < i → u_eqSl (mkS kSl (f j)) (mkS kSl (g j)) = true) (fun i => n - i) 0 ⟨Nat.zero_le _, fun j hj => by omega⟩ (weakX ⟨rfl, rfl, rfl, trivial⟩ trivial (Nat.le_refl _)) ?_
    rintro i ⟨hi, hp⟩
    refine Eq.mpr (r_same2 x y n n f g _ _ i) (cnd2 (fun h => cndF h (cndF h (cnd2 (fun h1 => ?_) (fun h1 => ?_)))) (fun h => ?_))
    · have hlt : i < n := by simpa using h
      simp only [con, B]
      have : eqR n n (fun i => u_eqSl (mkS kSl (f i)) (mkS kSl (g i))) = false := by
        rw [← Bool.not_eq_true]
        intro e
        have := (eqR_iff.1 e).2 i hlt
        rw [Bool.not_eq_true'] at h1
        exact absurd (h1.symm.trans this) (by decide)
      rw [this]
    · have hlt : i < n := by simpa using h
      refine ⟨i + 1, ⟨hlt, fun j hj => ?_⟩, weakX ⟨rfl, rfl, ?_, trivial⟩ trivial (Nat.le_refl _), by omega⟩
      · by_cases hji : j = i
        · subst hji
          rw [Bool.not_eq_false'] at h1
          exact h1
        · exact hp j (by omega)
      · show con (.int .i64 (IntKind.i64.wrap ((i : Int) + 1))) = con (.int .i64 ((i + 1 : Nat) : Int))
        rw [wrap_i64 (by omega) (by omega)]
        rfl
    · have hlt : ¬ i < n := by simpa using h
      simp only [con, B]
      rw [eqR_self fun j hj => hp j (by omega)]
end Go.Proofs.Ytmlnhecgcbohkaa
