/- Stretches overlap just if some byte is in both, whichever is named first. -/
import Derived.Test.YtihhfmdihhmbdaaRows
import Derived.Test.YtihhfmdihhmbdaaBy4
import Derived.Test.YtihhfmdihhmbdaaKlaw5
import Derived.WalkKit
import Derived.ProofKit
import Derived.OpenShut
import Derived.ShutString
import Derived.ChangeOld
import Derived.Below
import Derived.SizedLaws
namespace Go.Proofs.Ytihhfmdihhmbdaa
open Go.Ra
set_option linter.unusedVariables false
set_option linter.unusedSimpArgs false
def TBo : Tab := mkT qq (cl_law5 ++ cl_bytes ++ cl_ref1 ++ cl_slices) [(33, ovlSp)] gl_slices
def o_sm (a b m : Int) (i : Nat) : Bool := decide (i ≥ 1 ∧ m ≥ 1 ∧ a < b + m ∧ b < a + i)
def sO (a n b m : Int) (i : Nat) : XSt := ⟨[(11, .int .i64 (a + i)), (10, .bool (o_sm a b m i)), (8, .bool false), (0, .int .i64 a), (1, .int .i64 n), (2, .int .i64 b), (3, .int .i64 m)], [], 0⟩
theorem TBook : TabOk Try.prog TBo := mkT_ok (((clok_law5.app clok_bytes).app clok_ref1).app clok_slices) ⟨sp_ovl, trivial⟩ glok_slices
theorem r_ovl0 (a n b m : Int) (r : AV) : (goS Try.prog TBo [(.tmp 8)] r (.run c_law5_BytesOverlap) [] ⟨envX 0 [.int .i64 a, .int .i64 n, .int .i64 b, .int .i64 m], [], 0⟩) =
    (bif bif decide (a < (-100 : Int)) then true else !decide (a < (-100 : Int)) then
  bif bif bif decide (a < (-100 : Int)) then true else decide (a > (100 : Int)) then true else !bif decide (a < (-100 : Int)) then true else decide (a > (100 : Int)) then
    bif
        bif bif bif decide (a < (-100 : Int)) then true else decide (a > (100 : Int)) then true else decide (b < (-100 : Int)) then true
        else !bif bif decide (a < (-100 : Int)) then true else decide (a > (100 : Int)) then true else decide (b < (-100 : Int)) then
      bif
          bif bif bif bif decide (a < (-100 : Int)) then true else decide (a > (100 : Int)) then true else decide (b < (-100 : Int)) then true else decide (b > (100 : Int)) then true
          else !bif bif bif decide (a < (-100 : Int)) then true else decide (a > (100 : Int)) then true else decide (b < (-100 : Int)) then true else decide (b > (100 : Int)) then
        bif
            bif
                bif bif bif bif decide (a < (-100 : Int)) then true else decide (a > (100 : Int)) then true else decide (b < (-100 : Int)) then true else decide (b > (100 : Int)) then true
                else decide (n < (-2 : Int)) then
              true
            else
              !bif bif bif bif decide (a < (-100 : Int)) then true else decide (a > (100 : Int)) then true else decide (b < (-100 : Int)) then true else decide (b > (100 : Int)) then true
                else decide (n < (-2 : Int)) then
          bif
              bif
                  bif
                      bif bif bif bif decide (a < (-100 : Int)) then true else decide (a > (100 : Int)) then true else decide (b < (-100 : Int)) then true else decide (b > (100 : Int)) then true
                      else decide (n < (-2 : Int)) then
                    true
                  else decide (n > (40 : Int)) then
                true
              else
                !bif
                      bif bif bif bif decide (a < (-100 : Int)) then true else decide (a > (100 : Int)) then true else decide (b < (-100 : Int)) then true else decide (b > (100 : Int)) then true
                      else decide (n < (-2 : Int)) then
                    true
                  else decide (n > (40 : Int)) then
            bif
                bif
                    bif
                        bif
                            bif bif bif bif decide (a < (-100 : Int)) then true else decide (a > (100 : Int)) then true else decide (b < (-100 : Int)) then true else decide (b > (100 : Int)) then true
                            else decide (n < (-2 : Int)) then
                          true
                        else decide (n > (40 : Int)) then
                      true
                    else decide (m < (-2 : Int)) then
                  true
                else
                  !bif
                        bif
                            bif bif bif bif decide (a < (-100 : Int)) then true else decide (a > (100 : Int)) then true else decide (b < (-100 : Int)) then true else decide (b > (100 : Int)) then true
                            else decide (n < (-2 : Int)) then
                          true
                        else decide (n > (40 : Int)) then
                      true
                    else decide (m < (-2 : Int)) then
              bif
                  bif
                      bif
                          bif
                              bif bif bif bif decide (a < (-100 : Int)) then true else decide (a > (100 : Int)) then true else decide (b < (-100 : Int)) then true else decide (b > (100 : Int)) then
                                true
                              else decide (n < (-2 : Int)) then
                            true
                          else decide (n > (40 : Int)) then
                        true
                      else decide (m < (-2 : Int)) then
                    true
                  else decide (m > (40 : Int)) then
                con (XV.bool true) = r
              else
                LoopAt (Ok Try.prog (Tab.q TBo)) c_law5_BytesOverlap_l1
                  (XSt.mk
                    [((11 : Nat), XV.int IntKind.i64 a), ((10 : Nat), XV.bool false), ((8 : Nat), XV.bool false), ((0 : Nat), XV.int IntKind.i64 a), ((1 : Nat), XV.int IntKind.i64 n),
                      ((2 : Nat), XV.int IntKind.i64 b), ((3 : Nat), XV.int IntKind.i64 m)]
                    [] (0 : Nat))
                  [Frm.blk (0 : Nat), Frm.seq c_law5_BytesOverlap_p1] (finR [AR.tmp (8 : Nat)] r)
            else False
          else False
        else False
      else False
    else False
  else False
 else False) := by kernel_rfl
theorem r_ovl3 (a n b m : Int) (i : Nat) (r : AV) (A : XSt → Prop) : (goS Try.prog TBo [(.tmp 8)] r (.run c_law5_BytesOverlap_l1) [.lp c_law5_BytesOverlap_l1 A, .blk 0, .seq c_law5_BytesOverlap_p1] (sO a n b m i)) =
    (bif decide (a + (↑i : Int) < IntKind.wrap IntKind.i64 (a + n)) then
  bif bif !o_sm a b m i then true else !!o_sm a b m i then
    bif bif bif decide (a + (↑i : Int) ≥ b) then bif !o_sm a b m i then decide (a + (↑i : Int) ≥ b) else false else true then true else !!o_sm a b m i then
      bif bif o_sm a b m i then true else !o_sm a b m i then
        A
          (XSt.mk
            [((11 : Nat), XV.int IntKind.i64 (IntKind.wrap IntKind.i64 (a + (↑i : Int) + (1 : Int)))),
              ((10 : Nat), XV.bool (bif o_sm a b m i then true else bif decide (a + (↑i : Int) ≥ b) then decide (a + (↑i : Int) < IntKind.wrap IntKind.i64 (b + m)) else false)),
              ((8 : Nat), XV.bool false), ((0 : Nat), XV.int IntKind.i64 a), ((1 : Nat), XV.int IntKind.i64 n), ((2 : Nat), XV.int IntKind.i64 b), ((3 : Nat), XV.int IntKind.i64 m)]
            [] (0 : Nat))
      else False
    else False
  else False
 else
   bif i64B a then
     bif i64B n then
       bif i64B b then
         bif i64B m then
           bif bif i64B b then true else !ovlB a n b m == o_sm a b m i then
             bif bif i64B m then true else !ovlB a n b m == o_sm a b m i then
               bif bif i64B a then true else !ovlB a n b m == o_sm a b m i then
                 bif bif i64B n then true else !ovlB a n b m == o_sm a b m i then
                   bif bif ovlB a n b m == o_sm a b m i then ovlB a n b m == o_sm a b m i else true then
                     con (XV.bool (bif ovlB a n b m == o_sm a b m i then ovlB b m a n == o_sm a b m i else false)) = r
                   else False
                 else False
               else False
             else False
           else False
         else False
       else False
     else False
   else False) := by kernel_rfl
theorem sm_next {a b m : Int} {i : Nat} : (bif o_sm a b m i then true else bif decide (a + ↑i ≥ b) then decide (a + ↑i < b + m) else false) = o_sm a b m (i + 1) := by
  rw [Bool.eq_iff_iff]
  simp only [o_sm, Bool.cond_true_left, Bool.cond_false_right, Bool.or_eq_true, Bool.and_eq_true, decide_eq_true_eq]
  constructor
  · rintro (h | h) <;> omega
  · intro h
    by_cases h1 : a + (i : Int) ≥ b ∧ a + (i : Int) < b + m
    · exact .inr h1
    · exact .inl (by omega)
theorem sm_end {a n b m : Int} {i : Nat} (h : (i : Int) = n ∨ (i = 0 ∧ n ≤ 0)) : ovlB a n b m = o_sm a b m i ∧ ovlB b m a n = o_sm a b m i := by
  constructor <;> (rw [Bool.eq_iff_iff]; simp only [o_sm, ovlB, decide_eq_true_eq]; omega)
theorem ovl_pure (a n b m : Int) : Pure Try.prog 9 (cons [.int .i64 a, .int .i64 n, .int .i64 b, .int .i64 m]) (con (.bool true)) := by
  refine pureS mix TBook t_law5_BytesOverlap (Nat.le_of_ble_eq_true rfl) ?_
  rw [r_ovl0]
  by_cases h1 : a < -100
  · simp [h1]
  by_cases h2 : a > 100
  · simp [h1, h2]
  by_cases h3 : b < -100
  · simp [h1, h2, h3]
  by_cases h4 : b > 100
  · simp [h1, h2, h3, h4]
  by_cases h5 : n < -2
  · simp [h1, h2, h3, h4, h5]
  by_cases h6 : n > 40
  · simp [h1, h2, h3, h4, h5, h6]
  by_cases h7 : m < -2
  · simp [h1, h2, h3, h4, h5, h6, h7]
  by_cases h8 : m > 40
  · simp [h1, h2, h3, h4, h5, h6, h7, h8]
  simp only [h1, h2, h3, h4, h5, h6, h7, h8, decide_true, decide_false, cond_true, cond_false, allN_true, Nat.le_refl, Int.toNat_natCast, Nat.beq_refl, pk_and, pk_or, Bool.not_true, Bool.not_false, not_true_eq_false, not_false_eq_true, Bool.and_true, Bool.true_and, Bool.and_self, ge_iff_le, Int.le_refl, if_true, if_false, reduceCtorEq, eq_self, BEq.rfl]
  have i0 : o_sm a b m 0 = false := by simp [o_sm]
  refine loopS mix TBook (fun i : Nat => sO a n b m i) (fun i => i = 0 ∨ (i : Int) ≤ n) (fun i => 41 - i) 0 (.inl rfl) (weakN ⟨le_is (conI (by omega)), le_is (by show con (.bool false) = con (.bool (o_sm a b m 0)); rw [i0]), le_is rfl, le_is rfl, le_is rfl, le_is rfl, le_is rfl, trivial⟩ trivial (Nat.le_refl _)) ?_
  intro i hi
  rw [r_ovl3]
  have e1 : IntKind.i64.wrap (a + n) = a + n := wrap_i64 (by omega) (by omega)
  have e2 : IntKind.i64.wrap (b + m) = b + m := wrap_i64 (by omega) (by omega)
  have e3 : IntKind.i64.wrap (a + ↑i + 1) = a + ↑i + 1 := wrap_i64 (by omega) (by omega)
  have ia : i64B a = true := i64B_iff.2 (by omega)
  have ib : i64B b = true := i64B_iff.2 (by omega)
  have im : i64B m = true := i64B_iff.2 (by omega)
  have ine : i64B n = true := i64B_iff.2 (by omega)
  simp only [e1, e2, e3, ia, ib, im, ine, sm_next, decide_true, decide_false, cond_true, cond_false, allN_true, Nat.le_refl, Int.toNat_natCast, Nat.beq_refl, pk_and, pk_or, Bool.not_true, Bool.not_false, not_true_eq_false, not_false_eq_true, Bool.and_true, Bool.true_and, Bool.and_self, ge_iff_le, Int.le_refl, if_true, if_false, reduceCtorEq, eq_self, BEq.rfl]
  by_cases hl : a + (i : Int) < a + n
  · simp only [hl, decide_true, decide_false, cond_true, cond_false, allN_true, Nat.le_refl, Int.toNat_natCast, Nat.beq_refl, pk_and, pk_or, Bool.not_true, Bool.not_false, not_true_eq_false, not_false_eq_true, Bool.and_true, Bool.true_and, Bool.and_self, ge_iff_le, Int.le_refl, if_true, if_false, reduceCtorEq, eq_self, BEq.rfl]
    have hA : ∀ {p : Prop}, p → (bif bif bif decide (b ≤ a + ↑i) then bif !o_sm a b m i then decide (b ≤ a + ↑i) else false else true then true else !!o_sm a b m i then p else False) := by
      intro p hp
      cases o_sm a b m i <;> cases decide (b ≤ a + (i : Int)) <;> exact hp
    refine hA ?_
    refine ⟨i + 1, .inr (by omega), weakN ⟨le_is (conI (by omega)), le_is rfl, le_is rfl, le_is rfl, le_is rfl, le_is rfl, le_is rfl, trivial⟩ trivial (Nat.le_refl _), by omega⟩
  · obtain ⟨g1, g2⟩ := sm_end (a := a) (n := n) (b := b) (m := m) (i := i) (by omega)
    simp only [hl, g1, g2, decide_true, decide_false, cond_true, cond_false, allN_true, Nat.le_refl, Int.toNat_natCast, Nat.beq_refl, pk_and, pk_or, Bool.not_true, Bool.not_false, not_true_eq_false, not_false_eq_true, Bool.and_true, Bool.true_and, Bool.and_self, ge_iff_le, Int.le_refl, if_true, if_false, reduceCtorEq, eq_self, BEq.rfl]
end Go.Proofs.Ytihhfmdihhmbdaa
namespace Go.Proofs.Ytihhfmdihhmbdaa.bytesOverlap
open Go.Ra Go.ChangeShapes Go.WideShapes Go.ChangeAt Go.RowKit
open Go.ChangeMaps (open_string shut_string)
theorem own : ownKnob Try.prog.godebug = none := by kernel_rfl
def Ts : List Ty := [.int .i64, .int .i64, .int .i64, .int .i64]
theorem law (xs : List AV) (h : Ty.hasL Ts xs) : Pure Try.prog 9 xs (.sc (.bool true)) := by
  have h0 := h
  simp only [Ts, Ty.hasL] at h0
  obtain ⟨a, _, rfl, _, b, _, rfl, _, c, _, rfl, _, d, _, rfl, _, rfl⟩ := h0
  exact lawX h (ovl_pure _ _ _ _)
set_option maxRecDepth 100000 in
theorem lifted (os : Os) (started : os.Started) (H : Type) (enc : TypeId × Value → H) :
    ReturnsInHanded {} Try.checked os 9 .any (Rows.bytesOverlapSpec.pre6 enc Try.prog Try.f9 Rows.bytesOverlapRow.domain false) (Rows.bytesOverlapSpec.post enc Try.prog Try.f9 false true false false) := by
  refine returnsInHanded_of_change_sized (C := Try.checked) own started (by kernel_rfl) Try.func9
    (ChangeSpec.witness6 (enc := enc) (C := Try.checked) false ⟨#[], #[.int .i64 0, .int .i64 0, .int .i64 0, .int .i64 0], []⟩ 8 (by kernel_rfl) (by kernel_rfl) (by kernel_rfl) (by kernel_rfl)) ?_
  intro W base args ds gs before hval hW hcnd hsz _
  refine law_post (s := Rows.bytesOverlapSpec) (n := 60) (Ts := Ts) (ts := [3, 3, 3, 3]) (tb := 4) (by kernel_rfl) rfl rfl Try.underlying4 rfl (by kernel_rfl) (by kernel_rfl) (fun ds hds => ?_) law W base args ds gs before hval hW hsz
  match ds, hds with
  | [d1, d2, d3, d4], _ => exact ⟨rfl, rfl, rfl⟩
theorem over : Rows.bytesOverlapRow.holds Try.pinned (OpenSpec.ofChange Rows.bytesOverlapSpec) :=
  OpenClaim.holds_of_wide 9 Try.f9 rfl rfl rfl rfl rfl rfl rfl ⟨rfl, rfl, rfl, rfl, rfl⟩ rfl rfl rfl rfl rfl (by kernel_rfl) Try.func9 (by kernel_rfl)
    (of_decide_eq_true (by kernel_rfl)) (by unfold Func.isWrapper; first | (rw [if_pos (by decide +kernel)]; kernel_rfl) | (rw [if_neg (by decide +kernel)]; exact ⟨rfl, rfl⟩))
    (fun os started H enc _ => lifted os started H enc)
theorem proved : Rows.BytesOverlapSaid := over
end Go.Proofs.Ytihhfmdihhmbdaa.bytesOverlap
namespace Go.Proofs.Ytihhfmdihhmbdaa
/-- The row, under a short name, for the claim. -/
theorem bytesOverlap_holds : Rows.BytesOverlapSaid := bytesOverlap.proved
end Go.Proofs.Ytihhfmdihhmbdaa
#print axioms Go.Proofs.Ytihhfmdihhmbdaa.bytesOverlap_holds
