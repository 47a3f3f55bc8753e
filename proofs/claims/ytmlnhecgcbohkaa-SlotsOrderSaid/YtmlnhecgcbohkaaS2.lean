/- Filling a slot. -/
import Derived.Test.YtmlnhecgcbohkaaS1
import Derived.Test.YtmlnhecgcbohkaaKslots
import Derived.Test.YtmlnhecgcbohkaaKslices
import Derived.Test.YtmlnhecgcbohkaaKref15
import Derived.Test.YtmlnhecgcbohkaaRaZf
namespace Go.Proofs.Ytmlnhecgcbohkaa
open Go.Ra
set_option linter.unusedVariables false
set_option linter.unusedSimpArgs false
def TS2 : Tab := mkT qq (cl_slots ++ cl_slices ++ cl_ref15) [] (gl_slices ++ gl_ref15)
/-- Is a slot one of a tag that is not yet filled? -/
def u_open (tag : Int) (v : XV) : Bool := bif decide (asN (fld 0 v) = tag) then !asB (fld 1 v) else false
/-- The place of the first slot that is to be filled. -/
def idxSp : List XV → Option (List Bool × XV)
  | [.row _ e n f, .clo g [.fptr (.int .i64 tag)]] => bif (okE e 3 n && Nat.beq g 48) then some ([decide (n ≤ 4611686018427387904), allN (fun i => isS kSl (f i)) n], .int .i64 (bif decide (fstI (fun i => u_open tag (f i)) n < n) then (fstI (fun i => u_open tag (f i)) n : Int) else -1)) else none
  | _ => none
theorem TS2ok : TabOk Try.prog TS2 := mkT_ok ((clok_slots.app clok_slices).app clok_ref15) trivial (glok_slices.app glok_ref15)
theorem r_idx1 (x : Bool) (n : Nat) (f : Nat → XV) (tag : Int) (r : AV) : (goS Try.prog TS2 [(.tmp 4)] r (.run c_slices_IndexFunc_Slot_Slot) [] ⟨envX 0 [.row x 3 n (fun i => mkS kSl (f i)), .clo 48 [.fptr (.int .i64 tag)]], [], 0⟩) =
    (LoopAt (Ok Try.prog (Tab.q TS2)) c_slices_IndexFunc_Slot_Slot_l1
  (XSt.mk
    [((8 : Nat), XV.int IntKind.i64 (0 : Int)), ((7 : Nat), XV.int IntKind.i64 (↑n : Int)), ((4 : Nat), XV.int IntKind.i64 (0 : Int)),
      ((0 : Nat),
        XV.row x (3 : Nat) n fun (i : Nat) => XV.agg (3 : Nat) [XV.int IntKind.i64 (asN (fld (0 : Nat) (f i))), XV.bool (asB (fld (1 : Nat) (f i))), XV.int IntKind.u32 (asN (fld (2 : Nat) (f i)))]),
      ((1 : Nat), XV.clo (48 : Nat) [XV.fptr (XV.int IntKind.i64 tag)])]
    [] (0 : Nat))
  [Frm.blk (0 : Nat), Frm.seq c_slices_IndexFunc_Slot_Slot_p1] (finR [AR.tmp (4 : Nat)] r)) := by kernel_rfl
theorem r_idx2 (x : Bool) (n : Nat) (f : Nat → XV) (tag : Int) (r : AV)  (A : XSt → Prop) (i : Nat) : (goS Try.prog TS2 [(.tmp 4)] r (.run c_slices_IndexFunc_Slot_Slot_l1) [.lp c_slices_IndexFunc_Slot_Slot_l1 A, .blk 0, .seq c_slices_IndexFunc_Slot_Slot_p1] ⟨[(0, .row x 3 n (fun i => mkS kSl (f i))), (1, .clo 48 [.fptr (.int .i64 tag)]), (8, .int .i64 i), (7, .int .i64 n)], [], 0⟩) =
    (bif decide ((↑i : Int) < (↑n : Int)) then
  bif decide ((↑i : Int) < (↑n : Int)) then
    bif bif decide (asN (fld (0 : Nat) (f i)) = tag) then decide (asN (fld (0 : Nat) (f i)) = tag) else true then
      bif bif decide (asN (fld (0 : Nat) (f i)) = tag) then !asB (fld (1 : Nat) (f i)) else false then con (XV.int IntKind.i64 (↑i : Int)) = r
      else
        A
          (XSt.mk
            [((8 : Nat), XV.int IntKind.i64 (IntKind.wrap IntKind.i64 ((↑i : Int) + (1 : Int)))),
              ((0 : Nat),
                XV.row x (3 : Nat) n fun (i : Nat) =>
                  XV.agg (3 : Nat) [XV.int IntKind.i64 (asN (fld (0 : Nat) (f i))), XV.bool (asB (fld (1 : Nat) (f i))), XV.int IntKind.u32 (asN (fld (2 : Nat) (f i)))]),
              ((1 : Nat), XV.clo (48 : Nat) [XV.fptr (XV.int IntKind.i64 tag)]), ((7 : Nat), XV.int IntKind.i64 (↑n : Int))]
            [] (0 : Nat))
    else False
  else False
 else con (XV.int IntKind.i64 (-1 : Int)) = r) := by kernel_rfl
theorem idx_pure (x : Bool) (n : Nat) (f : Nat → XV) (tag : Int) (hn : n ≤ 4611686018427387904) : Pure Try.prog 47 (cons [.row x 3 n (fun i => mkS kSl (f i)), .clo 48 [.fptr (.int .i64 tag)]]) (con (.int .i64 (bif decide (fstI (fun i => u_open tag (f i)) n < n) then (fstI (fun i => u_open tag (f i)) n : Int) else -1))) := by
  refine pureS mix TS2ok t_slices_IndexFunc_Slot_Slot (Nat.le_of_ble_eq_true rfl) ?_
  refine Eq.mpr (r_idx1 x n f tag _) ?_
  refine loopS mix TS2ok (fun i : Nat => ⟨[(0, .row x 3 n (fun i => mkS kSl (f i))), (1, .clo 48 [.fptr (.int .i64 tag)]), (8, .int .i64 i), (7, .int .i64 n)], [], 0⟩) (fun i => i ≤ n ∧ ∀ j, j < i → u_open tag (f j) = false) (fun i => n - i) 0 ⟨Nat.zero_le _, fun j hj => by omega⟩ (weakX ⟨rfl, rfl, rfl, rfl, trivial⟩ trivial (Nat.le_refl _)) ?_
  rintro i ⟨hi, hp⟩
  refine Eq.mpr (r_idx2 x n f tag _ _ i) (cnd2 (fun h => cndF h (cndF (pk_and _) (cnd2 (fun h1 => ?_) (fun h1 => ?_)))) (fun h => ?_))
  · have hlt : i < n := by simpa using h
    rw [fstI_is hlt h1 hp]
    exact conI (by simp [hlt])
  · have hlt : i < n := by simpa using h
    refine ⟨i + 1, ⟨hlt, fun j hj => ?_⟩, weakX ⟨rfl, rfl, ?_, rfl, trivial⟩ trivial (Nat.le_refl _), by omega⟩
    · by_cases hji : j = i
      · subst hji; exact h1
      · exact hp j (by omega)
    · show con (.int .i64 (IntKind.i64.wrap ((i : Int) + 1))) = con (.int .i64 ((i + 1 : Nat) : Int))
      rw [wrap_i64 (by omega) (by omega)]
      rfl
  · have hlt : ¬ i < n := by simpa using h
    rw [fstI_none fun j hj => hp j (by omega)]
    exact conI (by simp)
theorem sp_idx : SpOk Try.prog (47, idxSp) := by
  intro args nd v ha hn
  simp only [idxSp] at ha
  split at ha
  · rename_i x e n f g tag
    cases hc : (okE e 3 n && Nat.beq g 48) <;> rw [hc] at ha
    · cases ha
    · simp only [cond_true, Option.some.injEq, Prod.mk.injEq] at ha
      obtain ⟨rfl, rfl⟩ := ha
      simp only [Bool.and_eq_true] at hc
      have hg := Nat.eq_of_beq_eq_true hc.2
      subst hg
      simp only [allT_cons, decide_eq_true_eq, allN_iff] at hn
      refine (idx_pure x n f tag hn.1).nilEqs (.cons (nil_row hc.1 fun i hi => ?_) (.cons (nil_self _) .nil))
      rw [mkS_eq (hn.2.1 i hi)]
  · cases ha
end Go.Proofs.Ytmlnhecgcbohkaa
