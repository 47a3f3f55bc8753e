/- Texts put together. -/
import Derived.Test.YtmfbaglhmiadjaaPk4
/- Whether a program may be. -/
namespace Go.Proofs.Ytmfbaglhmiadjaa
open Go.Ra
set_option linter.unusedVariables false
set_option linter.unusedSimpArgs false
abbrev kIn : List KD := [.i .i64, .i .i64, .i .i64, .i .i64, .i .i64]
def u_rt (v : XV) : Bool := rtB (asN (fld 0 v)) (asN (fld 1 v)) (asN (fld 2 v)) (asN (fld 3 v)) (asN (fld 4 v))
def tgB (n : Nat) (v : XV) (i : Nat) : Bool := bif (decide (fmI (asN (fld 0 v)) = 6) || decide (fmI (asN (fld 0 v)) = 7)) then decide (0 ≤ (i : Int) + asN (fld 4 v)) && decide ((i : Int) + asN (fld 4 v) < n) else true
def allR (n : Nat) (f : Nat → XV) : Bool := allN (fun i => u_rt (f i)) n
def allT2 (n : Nat) (f : Nat → XV) : Bool := allN (fun i => tgB n (f i) i) n
/-- May a program be? -/
def prB (n : Nat) (f : Nat → XV) (sz : Int) (m : Nat) : Bool := decide (1 ≤ n ∧ n ≤ 2000 ∧ 0 ≤ sz ∧ sz ≤ 65536 ∧ (m : Int) ≤ sz) && (allR n f && allT2 n f)
def o_in (f : Nat → XV) (i : Nat) : XV := mkS kIn (f i)
def TP0 : Tab := mkT qq (cl_image ++ cl_slices ++ cl_ref1) [(46, rtSp), (25, rtSp), (51, fmSp), (26, fmSp)] gl_slices
def ctSp : List XV → Option (List Bool × XV)
  | [.row _ e n f, .clo g []] => bif (okE e 5 n && Nat.beq g 45) then some ([decide (n ≤ 4611686018427387904), allN (fun i => isS kIn (f i)) n], .bool (!allR n f)) else none
  | _ => none
def tgSp : List XV → Option (List Bool × XV)
  | [.agg 3 [.row _ e n f, .int .i64 sz, .row _ e2 m d]] => bif okE e 5 n then some ([decide (n ≤ 2000), allN (fun i => isS kIn (f i)) n, allR n f], .int .i64 (bif allT2 n f then 0 else 4)) else none
  | _ => none
def prSp : List XV → Option (List Bool × XV)
  | [.agg 3 [.row _ e n f, .int .i64 sz, .row _ e2 m d]] => bif okE e 5 n then some ([decide (n ≤ 4611686018427387904), allN (fun i => isS kIn (f i)) n, decide (m ≤ 4611686018427387904)], .bool (prB n f sz m)) else none
  | _ => none
def ixSp : List XV → Option (List Bool × XV)
  | [.row x e n f, .clo g []] => bif (okE e 5 n && Nat.beq g 45) then some ([decide (n ≤ 4611686018427387904), allN (fun i => isS kIn (f i)) n], .int .i64 (bif decide (fstI (fun i => !u_rt (f i)) n < n) then (fstI (fun i => !u_rt (f i)) n : Int) else -1)) else none
  | _ => none
def TP0b : Tab := mkT qq (cl_image ++ cl_slices ++ cl_ref1) [(66, ixSp)] gl_slices
def TP1 : Tab := mkT qq (cl_image ++ cl_slices ++ cl_ref1) [(46, rtSp), (25, rtSp), (51, fmSp), (26, fmSp), (48, ctSp), (49, tgSp), (27, tgSp)] gl_slices
theorem TP0ok : TabOk Try.prog TP0 := mkT_ok ((clok_image.app clok_slices).app clok_ref1) ⟨sp_right1, sp_right2, sp_form1, sp_form2, trivial⟩ glok_slices
theorem r_ixi1 (x : Bool) (n : Nat) (f : Nat → XV) (r : AV) : (goS Try.prog TP0 [(.tmp 4)] r (.run c_slices_IndexFunc_Ins_Ins) [] ⟨envX 0 [.row x 5 n (o_in f), .clo 45 []], [], 0⟩) = (LoopAt (Ok Try.prog (Tab.q TP0)) c_slices_IndexFunc_Ins_Ins_l1 (XSt.mk [(8, .int .i64 0), (7, .int .i64 (↑n : Int)), (4, .int .i64 0), (0, .row x 5 n (o_in fun
 a => f a)), (1, .clo 45 [])] [] 0) [Frm.blk 0, Frm.seq c_slices_IndexFunc_Ins_Ins_p1] (finR [AR.tmp 4] r)) := by kernel_rfl
theorem r_ixi2 (x : Bool) (n : Nat) (f : Nat → XV) (r : AV) (A : XSt → Prop) (i : Nat) : (goS Try.prog TP0 [(.tmp 4)] r (.run c_slices_IndexFunc_Ins_Ins_l1) [.lp c_slices_IndexFunc_Ins_Ins_l1 A, .blk 0, .seq c_slices_IndexFunc_Ins_Ins_p1] ⟨[(0, .row x 5 n (o_in f)), (1, .clo 45 []), (8, .int .i64 i), (7, .int .i64 n)], [], 0⟩) = (bif decide ((↑i : Int) < (↑n : Int)) then bif decide ((↑i : Int) < (↑n : Int)) then bif !rtB (asN (fld 0 (f i))) (asN (fld 1 (f i))) (asN (fld 2 (f i))) (asN
 (fld 3 (f i))) (asN (fld 4 (f i))) then con (.int .i64 (↑i : Int)) = r else A (XSt.mk [(8, .int .i64 (IntKind.wrap .i64 ((↑i : Int) + (1 : Int)))), (0, .row x 5
 n (o_in fun a => f a)), (1, .clo 45 []), (7, .int .i64 (↑n : Int))] [] 0) else False
else con (.int .i64 (-1 : Int)) = r) := by kernel_rfl
theorem r_tg1 (x y : Bool) (n m : Nat) (f d : Nat → XV) (sz : Int) (e2 : Nat) (r : AV) : (goS Try.prog TP0 [(.tmp 2)] r (.run c_image_Targets) [] ⟨envX 0 [.agg 3 [.row x 5 n (o_in f), .int .i64 sz, .row y e2 m d]], [], 0⟩) = (LoopAt (Ok Try.prog (Tab.q TP0)) c_image_Targets_l1 (XSt.mk [(10, .int .i64 0), (9, .int .i64 (↑n : Int)), (8, .row x 5 n (o_in fun a => f a)), (2, .int .i64
 0), (1, .ptr 0 [] 0)] [(0, some (.agg 3 [.row x 5 n (o_in fun a => f a), .int .i64 sz, .row y e2 m fun a => d a]))] 1) [Frm.blk 0, Frm.seq c_image_Targets_p1] (finR
 [AR.tmp 2] r)) := by kernel_rfl
theorem r_tg2 (x y : Bool) (n m : Nat) (f d : Nat → XV) (sz : Int) (e2 : Nat) (r : AV) : (goS Try.prog TP0 [(.tmp 2)] r (.run c_ref1_Targets) [] ⟨envX 0 [.agg 3 [.row x 5 n (o_in f), .int .i64 sz, .row y e2 m d]], [], 0⟩) = (LoopAt (Ok Try.prog (Tab.q TP0)) c_ref1_Targets_l1 (XSt.mk [(3, .int .i64 0), (2, .int .i64 0), (1, .ptr 0 [] 0)] [(0, some (.agg 3 [.row x 5 n (o_in fun a =>
 f a), .int .i64 sz, .row y e2 m fun a => d a]))] 1) [Frm.blk 0, Frm.seq c_ref1_Targets_p1] (finR [AR.tmp 2] r)) := by kernel_rfl
theorem r_tg1b (x y : Bool) (n m : Nat) (f d : Nat → XV) (sz : Int) (e2 : Nat) (r : AV) (A : XSt → Prop) (i : Nat) : (goS Try.prog TP0 [(.tmp 2)] r (.run c_image_Targets_l1) [.lp c_image_Targets_l1 A, .blk 0, .seq c_image_Targets_p1] ⟨[(10, .int .i64 i), (9, .int .i64 n), (8, .row x 5 n (o_in f)), (2, .int .i64 0), (1, .ptr 0 [] 0)], [(0, some (.agg 3 [.row x 5 n (o_in f), .int .i64 sz, .row y e2 m d]))], 1⟩) = (bif decide ((↑i : Int) < (↑n : Int)) then bif decide ((↑i : Int) < (↑n : Int)) then bif decide ((↑i : Int) < (↑n : Int)) then bif decide ((↑i : Int) < (↑n :
 Int)) then bif bif decide (fmI (asN (fld 0 (f i))) = 6) then true else !decide (fmI (asN (fld 0 (f i))) = 6) then bif bif bif decide (fmI (asN (fld 0 (f i))) = 6)
 then true else decide (fmI (asN (fld 0 (f i))) = 7) then true else !bif decide (fmI (asN (fld 0 (f i))) = 6) then true else decide (fmI (asN (fld 0 (f i))) = 7)
 then bif bif bif decide (asN (fld 4 (f i)) < IntKind.wrap .i64 ((0 : Int) - (↑i : Int))) then true else bif bif decide (fmI (asN (fld 0 (f i))) = 6) then true else
 decide (fmI (asN (fld 0 (f i))) = 7) then !decide (asN (fld 4 (f i)) < IntKind.wrap .i64 ((0 : Int) - (↑i : Int))) else false then true else !bif decide (fmI (asN
 (fld 0 (f i))) = 6) then true else decide (fmI (asN (fld 0 (f i))) = 7) then bif bif bif decide (fmI (asN (fld 0 (f i))) = 6) then true else decide (fmI (asN (fld
 0 (f i))) = 7) then bif decide (fmI (asN (fld 0 (f i))) = 6) then true else decide (fmI (asN (fld 0 (f i))) = 7) else true then bif bif bif decide (fmI (asN (fld
 0 (f i))) = 6) then true else decide (fmI (asN (fld 0 (f i))) = 7) then bif decide (asN (fld 4 (f i)) < IntKind.wrap .i64 ((0 : Int) - (↑i : Int))) then true else
 decide (asN (fld 4 (f i)) ≥ IntKind.wrap .i64 ((↑n : Int) - (↑i : Int))) else false then con (.int .i64 4) = r else A (XSt.mk [(10, .int .i64 (IntKind.wrap .i64
 ((↑i : Int) + (1 : Int)))), (9, .int .i64 (↑n : Int)), (8, .row x 5 n (o_in fun a => f a)), (2, .int .i64 0), (1, .ptr 0 [] 0)] [(1, some (.agg 5 [.int .i64 (asN
 (fld 0 (f i))), .int .i64 (asN (fld 1 (f i))), .int .i64 (asN (fld 2 (f i))), .int .i64 (asN (fld 3 (f i))), .int .i64 (asN (fld 4 (f i)))])), (0, some (.agg 3 [.row
 x 5 n (o_in fun a => f a), .int .i64 sz, .row y e2 m fun a => d a]))] 2) else False else False else False else False else False else False else False
else con (.int
 .i64 0) = r) := by kernel_rfl
theorem r_tg2b (x y : Bool) (n m : Nat) (f d : Nat → XV) (sz : Int) (e2 : Nat) (r : AV) (A : XSt → Prop) (i : Nat) : (goS Try.prog TP0 [(.tmp 2)] r (.run c_ref1_Targets_l1) [.lp c_ref1_Targets_l1 A, .blk 0, .seq c_ref1_Targets_p1] ⟨[(3, .int .i64 i), (2, .int .i64 0), (1, .ptr 0 [] 0)], [(0, some (.agg 3 [.row x 5 n (o_in f), .int .i64 sz, .row y e2 m d]))], 1⟩) = (bif decide ((↑i : Int) < (↑n : Int)) then bif decide ((↑i : Int) < (↑n : Int)) then bif bif decide (fmI (asN (fld 0 (f i))) = 6) then true else !decide (fmI
 (asN (fld 0 (f i))) = 6) then bif bif decide (fmI (asN (fld 0 (f i))) = 6) then true else decide (fmI (asN (fld 0 (f i))) = 7) then bif decide ((↑i : Int) < (↑n
 : Int)) then bif bif decide ¬fmI (asN (fld 0 (f i))) = 6 then decide ¬fmI (asN (fld 0 (f i))) = 6 else true then bif bif bif decide ¬fmI (asN (fld 0 (f i))) = 6
 then decide ¬fmI (asN (fld 0 (f i))) = 7 else false then true else !bif decide ¬fmI (asN (fld 0 (f i))) = 6 then decide ¬fmI (asN (fld 0 (f i))) = 7 else false then
 bif bif bif bif decide ¬fmI (asN (fld 0 (f i))) = 6 then decide ¬fmI (asN (fld 0 (f i))) = 7 else false then true else decide (asN (fld 4 (f i)) < (-8192 : Int))
 then true else !bif bif decide ¬fmI (asN (fld 0 (f i))) = 6 then decide ¬fmI (asN (fld 0 (f i))) = 7 else false then true else decide (asN (fld 4 (f i)) < (-8192
 : Int)) then bif bif bif bif bif decide ¬fmI (asN (fld 0 (f i))) = 6 then decide ¬fmI (asN (fld 0 (f i))) = 7 else false then true else decide (asN (fld 4 (f i))
 < (-8192 : Int)) then true else decide (asN (fld 4 (f i)) > 8191) then true else !bif bif bif decide ¬fmI (asN (fld 0 (f i))) = 6 then decide ¬fmI (asN (fld 0 (f
 i))) = 7 else false then true else decide (asN (fld 4 (f i)) < (-8192 : Int)) then true else decide (asN (fld 4 (f i)) > 8191) then bif bif bif bif bif bif decide
 ¬fmI (asN (fld 0 (f i))) = 6 then decide ¬fmI (asN (fld 0 (f i))) = 7 else false then true else decide (asN (fld 4 (f i)) < (-8192 : Int)) then true else decide
 (asN (fld 4 (f i)) > 8191) then true else decide (IntKind.wrap .i64 ((↑i : Int) + asN (fld 4 (f i))) < 0) then true else !bif bif bif bif decide ¬fmI (asN (fld 0
 (f i))) = 6 then decide ¬fmI (asN (fld 0 (f i))) = 7 else false then true else decide (asN (fld 4 (f i)) < (-8192 : Int)) then true else decide (asN (fld 4 (f i))
 > 8191) then true else decide (IntKind.wrap .i64 ((↑i : Int) + asN (fld 4 (f i))) < 0) then bif bif bif bif bif bif decide ¬fmI (asN (fld 0 (f i))) = 6 then decide
 ¬fmI (asN (fld 0 (f i))) = 7 else false then true else decide (asN (fld 4 (f i)) < (-8192 : Int)) then true else decide (asN (fld 4 (f i)) > 8191) then true else
 decide (IntKind.wrap .i64 ((↑i : Int) + asN (fld 4 (f i))) < 0) then true else decide (IntKind.wrap .i64 ((↑i : Int) + asN (fld 4 (f i))) ≥ (↑n : Int)) then bif
 bif bif decide (fmI (asN (fld 0 (f i))) = 6) then true else decide (fmI (asN (fld 0 (f i))) = 7) then true else false then con (.int .i64 4) = r else A (XSt.mk [(3,
 .int .i64 (IntKind.wrap .i64 ((↑i : Int) + (1 : Int)))), (2, .int .i64 0), (1, .ptr 0 [] 0)] [(0, some (.agg 3 [.row x 5 n (o_in fun a => f a), .int .i64 sz, .row
 y e2 m fun a => d a]))] 1) else bif bif bif decide (fmI (asN (fld 0 (f i))) = 6) then true else decide (fmI (asN (fld 0 (f i))) = 7) then decide (IntKind.wrap .i64
 ((↑i : Int) + asN (fld 4 (f i))) < 0) else false then con (.int .i64 4) = r else A (XSt.mk [(3, .int .i64 (IntKind.wrap .i64 ((↑i : Int) + (1 : Int)))), (2, .int
 .i64 0), (1, .ptr 0 [] 0)] [(0, some (.agg 3 [.row x 5 n (o_in fun a => f a), .int .i64 sz, .row y e2 m fun a => d a]))] 1) else False else False else False else
 False else False else False else bif !bif decide (fmI (asN (fld 0 (f i))) = 6) then true else decide (fmI (asN (fld 0 (f i))) = 7) then A (XSt.mk [(3, .int .i64
 (IntKind.wrap .i64 ((↑i : Int) + (1 : Int)))), (2, .int .i64 0), (1, .ptr 0 [] 0)] [(0, some (.agg 3 [.row x 5 n (o_in fun a => f a), .int .i64 sz, .row y e2 m fun
 a => d a]))] 1) else False else False else False
else con (.int .i64 0) = r) := by kernel_rfl
theorem allR_iff {n : Nat} {f : Nat → XV} : allR n f = true ↔ ∀ i, i < n → u_rt (f i) = true := allN_iff
theorem allT2_iff {n : Nat} {f : Nat → XV} : allT2 n f = true ↔ ∀ i, i < n → tgB n (f i) i = true := allN_iff
theorem ixi_pure (x : Bool) (n : Nat) (f : Nat → XV) (hn : n ≤ 4611686018427387904) :
    Pure Try.prog 66 (cons [.row x 5 n (o_in f), .clo 45 []]) (con (.int .i64 (bif decide (fstI (fun i => !u_rt (f i)) n < n) then (fstI (fun i => !u_rt (f i)) n : Int) else -1))) := by
  refine pureS mix TP0ok t_slices_IndexFunc_Ins_Ins (Nat.le_of_ble_eq_true rfl) ?_
  refine Eq.mpr (r_ixi1 x n f _) ?_
  refine loopS mix TP0ok (fun i : Nat => ⟨[(0, .row x 5 n (o_in f)), (1, .clo 45 []), (8, .int .i64 i), (7, .int .i64 n)], [], 0⟩) (fun i => i ≤ n ∧ ∀ j, j < i → (!u_rt (f j)) = false) (fun i => n - i) 0 ⟨Nat.zero_le _, fun j hj => by omega⟩ (weakX ⟨rfl, rfl, rfl, rfl, trivial⟩ trivial (Nat.le_refl _)) ?_
  rintro i ⟨hi, hp⟩
  refine Eq.mpr (r_ixi2 x n f _ _ i) ?_
  by_cases hlt : i < n
  · have h1 : (i : Int) < (n : Int) := by omega
    have w1 : IntKind.i64.wrap ((i : Int) + 1) = ((i + 1 : Nat) : Int) := wrap_i64 (by omega) (by omega)
    simp only [h1, hlt, w1, decide_true, decide_false, cond_true, cond_false, allN_true, Nat.le_refl, Int.toNat_natCast, Nat.beq_refl, pk_and, pk_or, Bool.not_true, Bool.not_false, not_true_eq_false, not_false_eq_true, Bool.and_true, Bool.true_and, Bool.and_self, ge_iff_le, Int.le_refl, if_true, if_false, reduceCtorEq, eq_self, BEq.rfl]
    refine cnd2 (fun h => ?_) (fun h => ?_)
    · have h' : (!u_rt (f i)) = true := h
      rw [fstI_is (p := fun i => !u_rt (f i)) hlt h' hp]
      exact conI (by simp [hlt])
    · have h' : (!u_rt (f i)) = false := h
      refine ⟨i + 1, ⟨hlt, fun j hj => ?_⟩, weakX ⟨rfl, rfl, rfl, rfl, trivial⟩ trivial (Nat.le_refl _), by omega⟩
      by_cases hji : j = i
      · subst hji; exact h'
      · exact hp j (by omega)
  · have h1 : ¬ (i : Int) < (n : Int) := by omega
    simp only [h1, decide_true, decide_false, cond_true, cond_false, allN_true, Nat.le_refl, Int.toNat_natCast, Nat.beq_refl, pk_and, pk_or, Bool.not_true, Bool.not_false, not_true_eq_false, not_false_eq_true, Bool.and_true, Bool.true_and, Bool.and_self, ge_iff_le, Int.le_refl, if_true, if_false, reduceCtorEq, eq_self, BEq.rfl]
    rw [fstI_none (p := fun i => !u_rt (f i)) fun j hj => hp j (by omega)]
    exact conI (by simp)
theorem in_shape (f : Nat → XV) (i : Nat) : isS kIn (o_in f i) = true := rfl
theorem in_id {f : Nat → XV} {n : Nat} (hs : ∀ i, i < n → isS kIn (f i) = true) {i : Nat} (hi : i < n) : o_in f i = f i := mkS_eq (hs i hi)
theorem rt_in (f : Nat → XV) (i : Nat) : u_rt (o_in f i) = u_rt (f i) := rfl
theorem tg_in (n : Nat) (f : Nat → XV) (i : Nat) : tgB n (o_in f i) i = tgB n (f i) i := rfl
theorem sp_ixi : SpOk Try.prog (66, ixSp) := by
  intro args nd v ha hn
  simp only [ixSp] at ha
  split at ha
  · rename_i x e n f g
    cases hc : (okE e 5 n && Nat.beq g 45) <;> rw [hc] at ha
    · cases ha
    · simp only [cond_true, Option.some.injEq, Prod.mk.injEq] at ha
      obtain ⟨rfl, rfl⟩ := ha
      simp only [Bool.and_eq_true] at hc
      have hg := Nat.eq_of_beq_eq_true hc.2
      subst hg
      simp only [allT_cons, decide_eq_true_eq, allN_iff, Bool.and_eq_true] at hn
      refine (ixi_pure x n f hn.1).nilEqs (.cons (nil_row hc.1 fun i hi => ?_) (.cons (nil_self _) .nil))
      rw [in_id hn.2.1 hi]
  · cases ha
theorem TP0bok : TabOk Try.prog TP0b := mkT_ok ((clok_image.app clok_slices).app clok_ref1) ⟨sp_ixi, trivial⟩ glok_slices
theorem r_ct (x : Bool) (n : Nat) (f : Nat → XV) (K : XV → Prop) : (quietGo TP0b 80 (callI TP0b 80 20) 48 [.row x 5 n (o_in f), .clo 45 []] K) = (bif decide (n ≤ 4611686018427387904) then bif allN (fun i => true) n then K (.bool (decide ((bif decide (fstI (fun i => !rtB (asN (fld 0 (f i))) (asN (fld 1
 (f i))) (asN (fld 2 (f i))) (asN (fld 3 (f i))) (asN (fld 4 (f i)))) n < n) then (↑(fstI (fun i => !rtB (asN (fld 0 (f i))) (asN (fld 1 (f i))) (asN (fld 2 (f i)))
 (asN (fld 3 (f i))) (asN (fld 4 (f i)))) n) : Int) else (-1 : Int)) ≥ (0 : Int)))) else False
else False) := by kernel_rfl
theorem fst_all {n : Nat} {f : Nat → XV} : decide ((bif decide (fstI (fun i => !u_rt (f i)) n < n) then (fstI (fun i => !u_rt (f i)) n : Int) else -1) ≥ 0) = !allR n f := by
  obtain ⟨h1, h2, h3⟩ := fstI_spec (fun i => !u_rt (f i)) n
  by_cases h : fstI (fun i => !u_rt (f i)) n < n
  · have h4 := h3 h
    simp only [h, decide_true, cond_true]
    have h5 : allR n f = false := by
      rw [← Bool.not_eq_true]
      intro h6
      have := allR_iff.1 h6 _ h
      simp only [this, Bool.not_true] at h4
      cases h4
    rw [h5, decide_eq_true (by omega)]
    rfl
  · simp only [h, decide_false, cond_false]
    have h5 : allR n f = true := allR_iff.2 fun i hi => by
      have := h2 i (by omega)
      simpa using this
    rw [h5]
    rfl
theorem ct_pure (x : Bool) (n : Nat) (f : Nat → XV) (hn : n ≤ 4611686018427387904) : Pure Try.prog 48 (cons [.row x 5 n (o_in f), .clo 45 []]) (con (.bool (!allR n f))) := by
  refine pureX (u := 80) (k := 20) mix TP0bok ?_
  rw [r_ct]
  simp only [hn, isS, isKs, isK, decide_true, decide_false, cond_true, cond_false, allN_true, Nat.le_refl, Int.toNat_natCast, Nat.beq_refl, pk_and, pk_or, Bool.not_true, Bool.not_false, not_true_eq_false, not_false_eq_true, Bool.and_true, Bool.true_and, Bool.and_self, ge_iff_le, Int.le_refl, if_true, if_false, reduceCtorEq, eq_self, BEq.rfl]
  refine conB ?_
  exact fst_all
theorem sp_ct : SpOk Try.prog (48, ctSp) := by
  intro args nd v ha hn
  simp only [ctSp] at ha
  split at ha
  · rename_i x e n f g
    cases hc : (okE e 5 n && Nat.beq g 45) <;> rw [hc] at ha
    · cases ha
    · simp only [cond_true, Option.some.injEq, Prod.mk.injEq] at ha
      obtain ⟨rfl, rfl⟩ := ha
      simp only [Bool.and_eq_true] at hc
      have hg := Nat.eq_of_beq_eq_true hc.2
      subst hg
      simp only [allT_cons, decide_eq_true_eq, allN_iff, Bool.and_eq_true] at hn
      refine (ct_pure x n f hn.1).nilEqs (.cons (nil_row hc.1 fun i hi => ?_) (.cons (nil_self _) .nil))
      rw [in_id hn.2.1 hi]
  · cases ha
theorem rt_imm {v : XV} (h : u_rt v = true) (hf : fmI (asN (fld 0 v)) = 6 ∨ fmI (asN (fld 0 v)) = 7) : -8192 ≤ asN (fld 4 v) ∧ asN (fld 4 v) ≤ 8191 := by
  unfold u_rt rtB at h
  rw [decide_eq_true_eq] at h
  obtain ⟨_, _, _, _, h⟩ := h
  omega
theorem tg_pure (x y : Bool) (n m : Nat) (f d : Nat → XV) (sz : Int) (e2 : Nat) (hn : n ≤ 2000) (hr : allR n f = true) : Pure Try.prog 49 (cons [.agg 3 [.row x 5 n (o_in f), .int .i64 sz, .row y e2 m d]]) (con (.int .i64 (bif allT2 n f then 0 else 4))) := by
  refine pureS mix TP0ok t_image_Targets (Nat.le_of_ble_eq_true rfl) ?_
  refine Eq.mpr (r_tg1 x y n m f d sz e2 _) ?_
  refine loopT mix TP0ok (fun i : Nat => ⟨[(10, .int .i64 i), (9, .int .i64 n), (8, .row x 5 n (o_in f)), (2, .int .i64 0), (1, .ptr 0 [] 0)], [(0, some (.agg 3 [.row x 5 n (o_in f), .int .i64 sz, .row y e2 m d]))], 1⟩) (fun i => i ≤ n ∧ ∀ j, j < i → tgB n (f j) j = true) (fun i => n - i) 0 ⟨Nat.zero_le _, fun j hj => by omega⟩ (weakX ⟨rfl, rfl, rfl, rfl, rfl, trivial⟩ ⟨rfl, trivial⟩ (Nat.le_refl _)) ?_
  rintro i ⟨hi, hp⟩
  refine Eq.mpr (r_tg1b x y n m f d sz e2 _ _ i) ?_
  by_cases hlt : i < n
  · have h1 : (i : Int) < (n : Int) := by omega
    have w1 : IntKind.i64.wrap ((i : Int) + 1) = ((i + 1 : Nat) : Int) := wrap_i64 (by omega) (by omega)
    have w2 : IntKind.i64.wrap (0 - (i : Int)) = -(i : Int) := by rw [wrap_i64 (by omega) (by omega)]; omega
    have w3 : IntKind.i64.wrap ((n : Int) - (i : Int)) = (n : Int) - i := wrap_i64 (by omega) (by omega)
    have himm := rt_imm (allR_iff.1 hr i hlt)
    have key : tgB n (f i) i = !(bif (bif decide (fmI (asN (fld 0 (f i))) = 6) then true else decide (fmI (asN (fld 0 (f i))) = 7)) then (bif decide (asN (fld 4 (f i)) < -(i : Int)) then true else decide (asN (fld 4 (f i)) ≥ (n : Int) - i)) else false) := by
      clear w1 w2 w3
      unfold tgB
      by_cases c6 : fmI (asN (fld 0 (f i))) = 6
      · have := himm (.inl c6)
        simp only [c6, decide_true, Bool.true_or, cond_true]
        rw [Bool.eq_iff_iff]
        simp
        omega
      · by_cases c7 : fmI (asN (fld 0 (f i))) = 7
        · have := himm (.inr c7)
          simp only [c6, c7, decide_true, decide_false, Bool.false_or, Bool.or_true, cond_true, cond_false]
          rw [Bool.eq_iff_iff]
          simp
          omega
        · simp only [c6, c7, decide_false, Bool.or_self, cond_false, Bool.not_false]
    simp only [h1, w1, w2, w3, pk_or, pk_and, decide_true, decide_false, cond_true, cond_false, allN_true, Nat.le_refl, Int.toNat_natCast, Nat.beq_refl, pk_and, pk_or, Bool.not_true, Bool.not_false, not_true_eq_false, not_false_eq_true, Bool.and_true, Bool.true_and, Bool.and_self, ge_iff_le, Int.le_refl, if_true, if_false, reduceCtorEq, eq_self, BEq.rfl]
    generalize hA : (bif decide (fmI (asN (fld 0 (f i))) = 6) then true else decide (fmI (asN (fld 0 (f i))) = 7)) = p at key ⊢
    generalize decide (asN (fld 4 (f i)) < -(i : Int)) = u at key ⊢
    generalize decide (asN (fld 4 (f i)) ≥ (n : Int) - i) = v at key ⊢
    have hbad : tgB n (f i) i = false → con (.int .i64 4) = con (.int .i64 (bif allT2 n f then 0 else 4)) := fun h => by
      have : allT2 n f = false := by
        rw [← Bool.not_eq_true]
        intro h6
        rw [allT2_iff.1 h6 i hlt] at h
        cases h
      rw [this]; rfl
    cases p <;> cases u <;> cases v <;> simp only [cond_true, cond_false, Bool.not_true, Bool.not_false] at key ⊢
    all_goals first
      | exact hbad key
      | (refine ⟨i + 1, ⟨hlt, fun k hk => ?_⟩, weakT ⟨le_is rfl, le_is rfl, le_is rfl, le_is rfl, le_is rfl, trivial⟩ ⟨rfl, trivial⟩ (Nat.le_refl _) rfl, by omega⟩
         by_cases hki : k = i
         · subst hki; exact key
         · exact hp k (by omega))
  · have h1 : ¬ (i : Int) < (n : Int) := by omega
    simp only [h1, decide_true, decide_false, cond_true, cond_false, allN_true, Nat.le_refl, Int.toNat_natCast, Nat.beq_refl, pk_and, pk_or, Bool.not_true, Bool.not_false, not_true_eq_false, not_false_eq_true, Bool.and_true, Bool.true_and, Bool.and_self, ge_iff_le, Int.le_refl, if_true, if_false, reduceCtorEq, eq_self, BEq.rfl]
    have : allT2 n f = true := allT2_iff.2 fun k hk => hp k (by omega)
    rw [this]; rfl
theorem sp_tg1 : SpOk Try.prog (49, tgSp) := by
  intro args nd v ha hn
  simp only [tgSp] at ha
  split at ha
  · rename_i x e n f sz y e2 m d
    cases hc : okE e 5 n <;> rw [hc] at ha
    · cases ha
    · simp only [cond_true, Option.some.injEq, Prod.mk.injEq] at ha
      obtain ⟨rfl, rfl⟩ := ha
      simp only [allT_cons, decide_eq_true_eq] at hn
      rw [allN_iff] at hn
      refine (tg_pure x y n m f d sz e2 hn.1 hn.2.2.1).nilQ (.cons (.agg (.cons (nilQ_row hc fun i hi => ?_) (nilQs_refl _))) .nil)
      rw [in_id hn.2.1 hi]
  · cases ha
theorem tg2_pure (x y : Bool) (n m : Nat) (f d : Nat → XV) (sz : Int) (e2 : Nat) (hn : n ≤ 2000) (hr : allR n f = true) : Pure Try.prog 27 (cons [.agg 3 [.row x 5 n (o_in f), .int .i64 sz, .row y e2 m d]]) (con (.int .i64 (bif allT2 n f then 0 else 4))) := by
  refine pureS mix TP0ok t_ref1_Targets (Nat.le_of_ble_eq_true rfl) ?_
  refine Eq.mpr (r_tg2 x y n m f d sz e2 _) ?_
  refine loopT mix TP0ok (fun i : Nat => ⟨[(3, .int .i64 i), (2, .int .i64 0), (1, .ptr 0 [] 0)], [(0, some (.agg 3 [.row x 5 n (o_in f), .int .i64 sz, .row y e2 m d]))], 1⟩) (fun i => i ≤ n ∧ ∀ j, j < i → tgB n (f j) j = true) (fun i => n - i) 0 ⟨Nat.zero_le _, fun j hj => by omega⟩ (weakX ⟨rfl, rfl, rfl, trivial⟩ ⟨rfl, trivial⟩ (Nat.le_refl _)) ?_
  rintro i ⟨hi, hp⟩
  refine Eq.mpr (r_tg2b x y n m f d sz e2 _ _ i) ?_
  by_cases hlt : i < n
  · have h1 : (i : Int) < (n : Int) := by omega
    have w1 : IntKind.i64.wrap ((i : Int) + 1) = ((i + 1 : Nat) : Int) := wrap_i64 (by omega) (by omega)
    have himm := rt_imm (allR_iff.1 hr i hlt)
    have hbad : tgB n (f i) i = false → con (.int .i64 4) = con (.int .i64 (bif allT2 n f then 0 else 4)) := fun h => by
      have : allT2 n f = false := by
        rw [← Bool.not_eq_true]
        intro h6
        rw [allT2_iff.1 h6 i hlt] at h
        cases h
      rw [this]; rfl
    have hgo : tgB n (f i) i = true → ∀ k, k < i + 1 → tgB n (f k) k = true := fun h k hk => by
      by_cases hki : k = i
      · subst hki; exact h
      · exact hp k (by omega)
    by_cases c6 : fmI (asN (fld 0 (f i))) = 6 ∨ fmI (asN (fld 0 (f i))) = 7
    · have him := himm c6
      have w2 : IntKind.i64.wrap ((i : Int) + asN (fld 4 (f i))) = (i : Int) + asN (fld 4 (f i)) := wrap_i64 (by omega) (by omega)
      have key : tgB n (f i) i = (decide (0 ≤ (i : Int) + asN (fld 4 (f i))) && decide ((i : Int) + asN (fld 4 (f i)) < n)) := by
        unfold tgB
        rcases c6 with c6 | c6
        · simp only [c6, decide_true, Bool.true_or, cond_true]
        · simp only [c6, decide_true, Bool.or_true, cond_true]
      have d1 : ¬ asN (fld 4 (f i)) < -8192 := by omega
      have d2 : ¬ asN (fld 4 (f i)) > 8191 := by omega
      generalize tgB n (f i) i = t at key hbad hgo
      rcases c6 with c6 | c6
      · have c7 : ¬ (6 : Int) = 7 := by decide
        by_cases c8 : (i : Int) + asN (fld 4 (f i)) < 0
        · have ht : t = false := by rw [key, decide_eq_false (by omega)]; rfl
          simp only [h1, w1, w2, pk_or, pk_and, c6, c7, c8, d1, d2, decide_true, decide_false, cond_true, cond_false, allN_true, Nat.le_refl, Int.toNat_natCast, Nat.beq_refl, pk_and, pk_or, Bool.not_true, Bool.not_false, not_true_eq_false, not_false_eq_true, Bool.and_true, Bool.true_and, Bool.and_self, ge_iff_le, Int.le_refl, if_true, if_false, reduceCtorEq, eq_self, BEq.rfl]
          exact hbad ht
        · by_cases c9 : (i : Int) + asN (fld 4 (f i)) ≥ n
          · have ht : t = false := by rw [key, decide_eq_false (p := _ < _) (by omega), Bool.and_false]
            simp only [h1, w1, w2, pk_or, pk_and, c6, c7, c8, c9, d1, d2, decide_true, decide_false, cond_true, cond_false, allN_true, Nat.le_refl, Int.toNat_natCast, Nat.beq_refl, pk_and, pk_or, Bool.not_true, Bool.not_false, not_true_eq_false, not_false_eq_true, Bool.and_true, Bool.true_and, Bool.and_self, ge_iff_le, Int.le_refl, if_true, if_false, reduceCtorEq, eq_self, BEq.rfl]
            exact hbad ht
          · have ht : t = true := by rw [key, decide_eq_true (by omega), decide_eq_true (by omega)]; rfl
            simp only [h1, w1, w2, pk_or, pk_and, c6, c7, c8, c9, d1, d2, decide_true, decide_false, cond_true, cond_false, allN_true, Nat.le_refl, Int.toNat_natCast, Nat.beq_refl, pk_and, pk_or, Bool.not_true, Bool.not_false, not_true_eq_false, not_false_eq_true, Bool.and_true, Bool.true_and, Bool.and_self, ge_iff_le, Int.le_refl, if_true, if_false, reduceCtorEq, eq_self, BEq.rfl]
            exact ⟨i + 1, ⟨hlt, hgo ht⟩, weakT ⟨le_is rfl, le_is rfl, le_is rfl, trivial⟩ ⟨rfl, trivial⟩ (Nat.le_refl _) rfl, by omega⟩
      · have c7 : ¬ (7 : Int) = 6 := by decide
        by_cases c8 : (i : Int) + asN (fld 4 (f i)) < 0
        · have ht : t = false := by rw [key, decide_eq_false (by omega)]; rfl
          simp only [h1, w1, w2, pk_or, pk_and, c6, c7, c8, d1, d2, decide_true, decide_false, cond_true, cond_false, allN_true, Nat.le_refl, Int.toNat_natCast, Nat.beq_refl, pk_and, pk_or, Bool.not_true, Bool.not_false, not_true_eq_false, not_false_eq_true, Bool.and_true, Bool.true_and, Bool.and_self, ge_iff_le, Int.le_refl, if_true, if_false, reduceCtorEq, eq_self, BEq.rfl]
          exact hbad ht
        · by_cases c9 : (i : Int) + asN (fld 4 (f i)) ≥ n
          · have ht : t = false := by rw [key, decide_eq_false (p := _ < _) (by omega), Bool.and_false]
            simp only [h1, w1, w2, pk_or, pk_and, c6, c7, c8, c9, d1, d2, decide_true, decide_false, cond_true, cond_false, allN_true, Nat.le_refl, Int.toNat_natCast, Nat.beq_refl, pk_and, pk_or, Bool.not_true, Bool.not_false, not_true_eq_false, not_false_eq_true, Bool.and_true, Bool.true_and, Bool.and_self, ge_iff_le, Int.le_refl, if_true, if_false, reduceCtorEq, eq_self, BEq.rfl]
            exact hbad ht
          · have ht : t = true := by rw [key, decide_eq_true (by omega), decide_eq_true (by omega)]; rfl
            simp only [h1, w1, w2, pk_or, pk_and, c6, c7, c8, c9, d1, d2, decide_true, decide_false, cond_true, cond_false, allN_true, Nat.le_refl, Int.toNat_natCast, Nat.beq_refl, pk_and, pk_or, Bool.not_true, Bool.not_false, not_true_eq_false, not_false_eq_true, Bool.and_true, Bool.true_and, Bool.and_self, ge_iff_le, Int.le_refl, if_true, if_false, reduceCtorEq, eq_self, BEq.rfl]
            exact ⟨i + 1, ⟨hlt, hgo ht⟩, weakT ⟨le_is rfl, le_is rfl, le_is rfl, trivial⟩ ⟨rfl, trivial⟩ (Nat.le_refl _) rfl, by omega⟩
    · have c7 : ¬ fmI (asN (fld 0 (f i))) = 7 := fun h => c6 (.inr h)
      have c6 : ¬ fmI (asN (fld 0 (f i))) = 6 := fun h => c6 (.inl h)
      have key : tgB n (f i) i = true := by
        unfold tgB
        simp only [c6, c7, decide_false, Bool.or_self, cond_false]
      simp only [h1, w1, pk_or, pk_and, c6, c7, decide_true, decide_false, cond_true, cond_false, allN_true, Nat.le_refl, Int.toNat_natCast, Nat.beq_refl, pk_and, pk_or, Bool.not_true, Bool.not_false, not_true_eq_false, not_false_eq_true, Bool.and_true, Bool.true_and, Bool.and_self, ge_iff_le, Int.le_refl, if_true, if_false, reduceCtorEq, eq_self, BEq.rfl]
      exact ⟨i + 1, ⟨hlt, hgo key⟩, weakT ⟨le_is rfl, le_is rfl, le_is rfl, trivial⟩ ⟨rfl, trivial⟩ (Nat.le_refl _) rfl, by omega⟩
  · have h1 : ¬ (i : Int) < (n : Int) := by omega
    simp only [h1, decide_true, decide_false, cond_true, cond_false, allN_true, Nat.le_refl, Int.toNat_natCast, Nat.beq_refl, pk_and, pk_or, Bool.not_true, Bool.not_false, not_true_eq_false, not_false_eq_true, Bool.and_true, Bool.true_and, Bool.and_self, ge_iff_le, Int.le_refl, if_true, if_false, reduceCtorEq, eq_self, BEq.rfl]
    have : allT2 n f = true := allT2_iff.2 fun k hk => hp k (by omega)
    rw [this]; rfl
theorem sp_tg2 : SpOk Try.prog (27, tgSp) := by
  intro args nd v ha hn
  simp only [tgSp] at ha
  split at ha
  · rename_i x e n f sz y e2 m d
    cases hc : okE e 5 n <;> rw [hc] at ha
    · cases ha
    · simp only [cond_true, Option.some.injEq, Prod.mk.injEq] at ha
      obtain ⟨rfl, rfl⟩ := ha
      simp only [allT_cons, decide_eq_true_eq] at hn
      rw [allN_iff] at hn
      refine (tg2_pure x y n m f d sz e2 hn.1 hn.2.2.1).nilQ (.cons (.agg (.cons (nilQ_row hc fun i hi => ?_) (nilQs_refl _))) .nil)
      rw [in_id hn.2.1 hi]
  · cases ha
theorem TP1ok : TabOk Try.prog TP1 := mkT_ok ((clok_image.app clok_slices).app clok_ref1) ⟨sp_right1, sp_right2, sp_form1, sp_form2, sp_ct, sp_tg1, sp_tg2, trivial⟩ glok_slices
theorem r_pr1 (x y : Bool) (n m : Nat) (f d : Nat → XV) (sz : Int) (e2 : Nat) (K : XV → Prop) : (quietGo TP1 80 (callI TP1 80 20) 28 [.agg 3 [.row x 5 n (o_in f), .int .i64 sz, .row y e2 m d]] K) = (bif bif decide ((↑n : Int) ≥ 1) then decide ((↑n : Int) ≥ 1) else true then bif bif bif decide ((↑n : Int) ≥ 1) then decide ((↑n : Int) ≤ 2000) else false then
 bif decide ((↑n : Int) ≥ 1) then decide ((↑n : Int) ≤ 2000) else false else true then bif bif bif bif decide ((↑n : Int) ≥ 1) then decide ((↑n : Int) ≤ 2000) else
 false then decide (sz ≥ 0) else false then bif bif decide ((↑n : Int) ≥ 1) then decide ((↑n : Int) ≤ 2000) else false then decide (sz ≥ 0) else false else true then
 bif bif bif bif bif decide ((↑n : Int) ≥ 1) then decide ((↑n : Int) ≤ 2000) else false then decide (sz ≥ 0) else false then decide (sz ≤ 65536) else false then bif
 bif bif decide ((↑n : Int) ≥ 1) then decide ((↑n : Int) ≤ 2000) else false then decide (sz ≥ 0) else false then decide (sz ≤ 65536) else false else true then bif
 bif decide (n ≤ 4611686018427387904) then true else !bif bif bif bif decide ((↑n : Int) ≥ 1) then decide ((↑n : Int) ≤ 2000) else false then decide (sz ≥ 0) else
 false then decide (sz ≤ 65536) else false then decide ((↑m : Int) ≤ sz) else false then bif bif allN (fun i => true) n then true else !bif bif bif bif decide ((↑n
 : Int) ≥ 1) then decide ((↑n : Int) ≤ 2000) else false then decide (sz ≥ 0) else false then decide (sz ≤ 65536) else false then decide ((↑m : Int) ≤ sz) else false
 then bif bif bif bif bif bif decide ((↑n : Int) ≥ 1) then decide ((↑n : Int) ≤ 2000) else false then decide (sz ≥ 0) else false then decide (sz ≤ 65536) else false
 then decide ((↑m : Int) ≤ sz) else false then bif bif bif bif decide ((↑n : Int) ≥ 1) then decide ((↑n : Int) ≤ 2000) else false then decide (sz ≥ 0) else false
 then decide (sz ≤ 65536) else false then decide ((↑m : Int) ≤ sz) else false else true then bif bif decide (n ≤ 2000) then true else !bif bif bif bif bif decide
 ((↑n : Int) ≥ 1) then decide ((↑n : Int) ≤ 2000) else false then decide (sz ≥ 0) else false then decide (sz ≤ 65536) else false then decide ((↑m : Int) ≤ sz) else
 false then !!allR n (o_in fun a => f a) else false then bif bif allN (fun i => true) n then true else !bif bif bif bif bif decide ((↑n : Int) ≥ 1) then decide ((↑n
 : Int) ≤ 2000) else false then decide (sz ≥ 0) else false then decide (sz ≤ 65536) else false then decide ((↑m : Int) ≤ sz) else false then !!allR n (o_in fun a
 => f a) else false then bif bif allR n (o_in fun a => f a) then true else !bif bif bif bif bif decide ((↑n : Int) ≥ 1) then decide ((↑n : Int) ≤ 2000) else false
 then decide (sz ≥ 0) else false then decide (sz ≤ 65536) else false then decide ((↑m : Int) ≤ sz) else false then !!allR n (o_in fun a => f a) else false then bif
 bif bif bif bif bif bif decide ((↑n : Int) ≥ 1) then decide ((↑n : Int) ≤ 2000) else false then decide (sz ≥ 0) else false then decide (sz ≤ 65536) else false then
 decide ((↑m : Int) ≤ sz) else false then !!allR n (o_in fun a => f a) else false then bif bif bif bif bif decide ((↑n : Int) ≥ 1) then decide ((↑n : Int) ≤ 2000)
 else false then decide (sz ≥ 0) else false then decide (sz ≤ 65536) else false then decide ((↑m : Int) ≤ sz) else false then !!allR n (o_in fun a => f a) else false
 else true then K (.bool (bif bif bif bif bif bif decide ((↑n : Int) ≥ 1) then decide ((↑n : Int) ≤ 2000) else false then decide (sz ≥ 0) else false then decide (sz
 ≤ 65536) else false then decide ((↑m : Int) ≤ sz) else false then !!allR n (o_in fun a => f a) else false then decide ((bif allT2 n (o_in fun a => f a) then (0 :
 Int) else (4 : Int)) = 0) else false)) else False else False else False else False else False else False else False else False else False else False
else False)
 := by kernel_rfl
theorem r_pr2 (x y : Bool) (n m : Nat) (f d : Nat → XV) (sz : Int) (e2 : Nat) (r : AV) : (goS Try.prog TP1 [(.tmp 2)] r (.run c_ref1_RightProgram) [] ⟨envX 0 [.agg 3 [.row x 5 n (o_in f), .int .i64 sz, .row y e2 m d]], [], 0⟩) = (bif bif decide ((↑n : Int) < 1) then true else !decide ((↑n : Int) < 1) then bif bif bif decide ((↑n : Int) < 1) then true else decide ((↑n : Int) > 2000) then
 true else !bif decide ((↑n : Int) < 1) then true else decide ((↑n : Int) > 2000) then bif bif bif bif decide ((↑n : Int) < 1) then true else decide ((↑n : Int) >
 2000) then true else decide (sz < 0) then true else !bif bif decide ((↑n : Int) < 1) then true else decide ((↑n : Int) > 2000) then true else decide (sz < 0) then
 bif bif bif bif bif decide ((↑n : Int) < 1) then true else decide ((↑n : Int) > 2000) then true else decide (sz < 0) then true else decide (sz > 65536) then true
 else !bif bif bif decide ((↑n : Int) < 1) then true else decide ((↑n : Int) > 2000) then true else decide (sz < 0) then true else decide (sz > 65536) then bif bif
 bif bif bif decide ((↑n : Int) < 1) then true else decide ((↑n : Int) > 2000) then true else decide (sz < 0) then true else decide (sz > 65536) then true else decide
 ((↑m : Int) > sz) then con (.bool false) = r else LoopAt (Ok Try.prog (Tab.q TP1)) c_ref1_RightProgram_l1 (XSt.mk [(3, .int .i64 0), (2, .bool false), (1, .ptr 0
 [] 0)] [(0, some (.agg 3 [.row x 5 n (o_in fun a => f a), .int .i64 sz, .row y e2 m fun a => d a]))] 1) [Frm.blk 0, Frm.seq c_ref1_RightProgram_p1] (finR [AR.tmp
 2] r) else False else False else False
else False) := by kernel_rfl
theorem r_pr2b (x y : Bool) (n m : Nat) (f d : Nat → XV) (sz : Int) (e2 : Nat) (r : AV) (A : XSt → Prop) (i : Nat) : (goS Try.prog TP1 [(.tmp 2)] r (.run c_ref1_RightProgram_l1) [.lp c_ref1_RightProgram_l1 A, .blk 0, .seq c_ref1_RightProgram_p1] ⟨[(3, .int .i64 i), (2, .bool false), (1, .ptr 0 [] 0)], [(0, some (.agg 3 [.row x 5 n (o_in f), .int .i64 sz, .row y e2 m d]))], 1⟩) = (bif decide ((↑i : Int) < (↑n : Int)) then bif decide ((↑i : Int) < (↑n : Int)) then bif !rtB (asN (fld 0 (f i))) (asN (fld 1 (f i))) (asN (fld 2 (f i))) (asN
 (fld 3 (f i))) (asN (fld 4 (f i))) then con (.bool false) = r else A (XSt.mk [(3, .int .i64 (IntKind.wrap .i64 ((↑i : Int) + (1 : Int)))), (2, .bool false), (1,
 .ptr 0 [] 0)] [(0, some (.agg 3 [.row x 5 n (o_in fun a => f a), .int .i64 sz, .row y e2 m fun a => d a]))] 1) else False
else bif decide (n ≤ 2000) then bif allN
 (fun i => true) n then bif allR n (o_in fun a => f a) then con (.bool (decide ((bif allT2 n (o_in fun a => f a) then (0 : Int) else (4 : Int)) = 0))) = r else False
 else False else False) := by kernel_rfl
theorem pk_t (b : Bool) : (bif b then true else true) = true := by cases b <;> rfl
theorem allR_in {n : Nat} {f : Nat → XV} : allR n (o_in f) = allR n f := rfl
theorem allT2_in {n : Nat} {f : Nat → XV} : allT2 n (o_in f) = allT2 n f := rfl
theorem pr_no {n m : Nat} {f : Nat → XV} {sz : Int} (h : ¬ (1 ≤ n ∧ n ≤ 2000 ∧ 0 ≤ sz ∧ sz ≤ 65536 ∧ (m : Int) ≤ sz)) : prB n f sz m = false := by
  unfold prB
  rw [decide_eq_false h]; rfl
theorem pr_yes {n m : Nat} {f : Nat → XV} {sz : Int} (h : 1 ≤ n ∧ n ≤ 2000 ∧ 0 ≤ sz ∧ sz ≤ 65536 ∧ (m : Int) ≤ sz) : prB n f sz m = (allR n f && allT2 n f) := by
  unfold prB
  rw [decide_eq_true h]; rfl
theorem pr_pure (x y : Bool) (n m : Nat) (f d : Nat → XV) (sz : Int) (e2 : Nat) (hn : n ≤ 4611686018427387904) : Pure Try.prog 28 (cons [.agg 3 [.row x 5 n (o_in f), .int .i64 sz, .row y e2 m d]]) (con (.bool (prB n f sz m))) := by
  refine pureX (u := 80) (k := 20) mix TP1ok ?_
  refine Eq.mpr (r_pr1 x y n m f d sz e2 _) ?_
  by_cases c1 : (n : Int) ≥ 1
  case neg =>
    rw [pr_no (by omega)]
    simp only [c1, pk_or, pk_and, pk_t, hn, decide_true, decide_false, cond_true, cond_false, allN_true, Nat.le_refl, Int.toNat_natCast, Nat.beq_refl, pk_and, pk_or, Bool.not_true, Bool.not_false, not_true_eq_false, not_false_eq_true, Bool.and_true, Bool.true_and, Bool.and_self, ge_iff_le, Int.le_refl, if_true, if_false, reduceCtorEq, eq_self, BEq.rfl]
  by_cases c2 : (n : Int) ≤ 2000
  case neg =>
    rw [pr_no (by omega)]
    simp only [c1, c2, pk_or, pk_and, pk_t, hn, decide_true, decide_false, cond_true, cond_false, allN_true, Nat.le_refl, Int.toNat_natCast, Nat.beq_refl, pk_and, pk_or, Bool.not_true, Bool.not_false, not_true_eq_false, not_false_eq_true, Bool.and_true, Bool.true_and, Bool.and_self, ge_iff_le, Int.le_refl, if_true, if_false, reduceCtorEq, eq_self, BEq.rfl]
  by_cases c3 : sz ≥ 0
  case neg =>
    rw [pr_no (by omega)]
    simp only [c1, c2, c3, pk_or, pk_and, pk_t, hn, decide_true, decide_false, cond_true, cond_false, allN_true, Nat.le_refl, Int.toNat_natCast, Nat.beq_refl, pk_and, pk_or, Bool.not_true, Bool.not_false, not_true_eq_false, not_false_eq_true, Bool.and_true, Bool.true_and, Bool.and_self, ge_iff_le, Int.le_refl, if_true, if_false, reduceCtorEq, eq_self, BEq.rfl]
  by_cases c4 : sz ≤ 65536
  case neg =>
    rw [pr_no (by omega)]
    simp only [c1, c2, c3, c4, pk_or, pk_and, pk_t, hn, decide_true, decide_false, cond_true, cond_false, allN_true, Nat.le_refl, Int.toNat_natCast, Nat.beq_refl, pk_and, pk_or, Bool.not_true, Bool.not_false, not_true_eq_false, not_false_eq_true, Bool.and_true, Bool.true_and, Bool.and_self, ge_iff_le, Int.le_refl, if_true, if_false, reduceCtorEq, eq_self, BEq.rfl]
  by_cases c5 : (m : Int) ≤ sz
  case neg =>
    rw [pr_no (by omega)]
    simp only [c1, c2, c3, c4, c5, pk_or, pk_and, pk_t, hn, decide_true, decide_false, cond_true, cond_false, allN_true, Nat.le_refl, Int.toNat_natCast, Nat.beq_refl, pk_and, pk_or, Bool.not_true, Bool.not_false, not_true_eq_false, not_false_eq_true, Bool.and_true, Bool.true_and, Bool.and_self, ge_iff_le, Int.le_refl, if_true, if_false, reduceCtorEq, eq_self, BEq.rfl]
  rw [pr_yes (by omega)]
  have hn2 : n ≤ 2000 := by omega
  simp only [c1, c2, c3, c4, c5, pk_or, pk_and, pk_t, hn, hn2, allR_in, allT2_in, decide_true, decide_false, cond_true, cond_false, allN_true, Nat.le_refl, Int.toNat_natCast, Nat.beq_refl, pk_and, pk_or, Bool.not_true, Bool.not_false, not_true_eq_false, not_false_eq_true, Bool.and_true, Bool.true_and, Bool.and_self, ge_iff_le, Int.le_refl, if_true, if_false, reduceCtorEq, eq_self, BEq.rfl]
  rcases Bool.eq_false_or_eq_true (allT2 n f) with hb | hb <;> rcases Bool.eq_false_or_eq_true (allR n f) with ha | ha <;> simp [ha, hb]
theorem pr2_pure (x y : Bool) (n m : Nat) (f d : Nat → XV) (sz : Int) (e2 : Nat) : Pure Try.prog 12 (cons [.agg 3 [.row x 5 n (o_in f), .int .i64 sz, .row y e2 m d]]) (con (.bool (prB n f sz m))) := by
  refine pureS mix TP1ok t_ref1_RightProgram (Nat.le_of_ble_eq_true rfl) ?_
  refine Eq.mpr (r_pr2 x y n m f d sz e2 _) ?_
  by_cases c1 : (n : Int) < 1
  · rw [pr_no (by omega)]
    simp only [c1, pk_or, pk_and, pk_t, decide_true, decide_false, cond_true, cond_false, allN_true, Nat.le_refl, Int.toNat_natCast, Nat.beq_refl, pk_and, pk_or, Bool.not_true, Bool.not_false, not_true_eq_false, not_false_eq_true, Bool.and_true, Bool.true_and, Bool.and_self, ge_iff_le, Int.le_refl, if_true, if_false, reduceCtorEq, eq_self, BEq.rfl]
  by_cases c2 : (n : Int) > 2000
  · rw [pr_no (by omega)]
    simp only [c1, c2, pk_or, pk_and, pk_t, decide_true, decide_false, cond_true, cond_false, allN_true, Nat.le_refl, Int.toNat_natCast, Nat.beq_refl, pk_and, pk_or, Bool.not_true, Bool.not_false, not_true_eq_false, not_false_eq_true, Bool.and_true, Bool.true_and, Bool.and_self, ge_iff_le, Int.le_refl, if_true, if_false, reduceCtorEq, eq_self, BEq.rfl]
  by_cases c3 : sz < 0
  · rw [pr_no (by omega)]
    simp only [c1, c2, c3, pk_or, pk_and, pk_t, decide_true, decide_false, cond_true, cond_false, allN_true, Nat.le_refl, Int.toNat_natCast, Nat.beq_refl, pk_and, pk_or, Bool.not_true, Bool.not_false, not_true_eq_false, not_false_eq_true, Bool.and_true, Bool.true_and, Bool.and_self, ge_iff_le, Int.le_refl, if_true, if_false, reduceCtorEq, eq_self, BEq.rfl]
  by_cases c4 : sz > 65536
  · rw [pr_no (by omega)]
    simp only [c1, c2, c3, c4, pk_or, pk_and, pk_t, decide_true, decide_false, cond_true, cond_false, allN_true, Nat.le_refl, Int.toNat_natCast, Nat.beq_refl, pk_and, pk_or, Bool.not_true, Bool.not_false, not_true_eq_false, not_false_eq_true, Bool.and_true, Bool.true_and, Bool.and_self, ge_iff_le, Int.le_refl, if_true, if_false, reduceCtorEq, eq_self, BEq.rfl]
  by_cases c5 : (m : Int) > sz
  · rw [pr_no (by omega)]
    simp only [c1, c2, c3, c4, c5, pk_or, pk_and, pk_t, decide_true, decide_false, cond_true, cond_false, allN_true, Nat.le_refl, Int.toNat_natCast, Nat.beq_refl, pk_and, pk_or, Bool.not_true, Bool.not_false, not_true_eq_false, not_false_eq_true, Bool.and_true, Bool.true_and, Bool.and_self, ge_iff_le, Int.le_refl, if_true, if_false, reduceCtorEq, eq_self, BEq.rfl]
  rw [pr_yes (by omega)]
  have hn2 : n ≤ 2000 := by omega
  simp only [c1, c2, c3, c4, c5, pk_or, pk_and, pk_t, hn2, allR_in, allT2_in, decide_true, decide_false, cond_true, cond_false, allN_true, Nat.le_refl, Int.toNat_natCast, Nat.beq_refl, pk_and, pk_or, Bool.not_true, Bool.not_false, not_true_eq_false, not_false_eq_true, Bool.and_true, Bool.true_and, Bool.and_self, ge_iff_le, Int.le_refl, if_true, if_false, reduceCtorEq, eq_self, BEq.rfl]
  refine loopT mix TP1ok (fun i : Nat => ⟨[(3, .int .i64 i), (2, .bool false), (1, .ptr 0 [] 0)], [(0, some (.agg 3 [.row x 5 n (o_in f), .int .i64 sz, .row y e2 m d]))], 1⟩) (fun i => i ≤ n ∧ ∀ j, j < i → u_rt (f j) = true) (fun i => n - i) 0 ⟨Nat.zero_le _, fun j hj => by omega⟩ (weakX ⟨rfl, rfl, rfl, trivial⟩ ⟨rfl, trivial⟩ (Nat.le_refl _)) ?_
  rintro i ⟨hi, hp⟩
  refine Eq.mpr (r_pr2b x y n m f d sz e2 _ _ i) ?_
  by_cases hlt : i < n
  · have h1 : (i : Int) < (n : Int) := by omega
    have w1 : IntKind.i64.wrap ((i : Int) + 1) = ((i + 1 : Nat) : Int) := wrap_i64 (by omega) (by omega)
    simp only [h1, w1, pk_or, pk_and, pk_t, decide_true, decide_false, cond_true, cond_false, allN_true, Nat.le_refl, Int.toNat_natCast, Nat.beq_refl, pk_and, pk_or, Bool.not_true, Bool.not_false, not_true_eq_false, not_false_eq_true, Bool.and_true, Bool.true_and, Bool.and_self, ge_iff_le, Int.le_refl, if_true, if_false, reduceCtorEq, eq_self, BEq.rfl]
    refine cnd2 (fun h => ?_) (fun h => ?_)
    · have h' : allR n f = false := by
        rw [← Bool.not_eq_true]
        intro h6
        have h7 : (!u_rt (f i)) = true := h
        rw [allR_iff.1 h6 i hlt] at h7
        cases h7
      rw [h']; rfl
    · have h' : u_rt (f i) = true := by
        have h7 : (!u_rt (f i)) = false := h
        simpa using h7
      refine ⟨i + 1, ⟨hlt, fun j hj => ?_⟩, weakT ⟨le_is rfl, le_is rfl, le_is rfl, trivial⟩ ⟨rfl, trivial⟩ (Nat.le_refl _) rfl, by omega⟩
      by_cases hji : j = i
      · subst hji; exact h'
      · exact hp j (by omega)
  · have h1 : ¬ (i : Int) < (n : Int) := by omega
    have h2 : allR n f = true := allR_iff.2 fun j hj => hp j (by omega)
    simp only [h1, hn2, h2, allR_in, allT2_in, decide_true, decide_false, cond_true, cond_false, allN_true, Nat.le_refl, Int.toNat_natCast, Nat.beq_refl, pk_and, pk_or, Bool.not_true, Bool.not_false, not_true_eq_false, not_false_eq_true, Bool.and_true, Bool.true_and, Bool.and_self, ge_iff_le, Int.le_refl, if_true, if_false, reduceCtorEq, eq_self, BEq.rfl]
    rcases Bool.eq_false_or_eq_true (allT2 n f) with hb | hb <;> simp [hb]
theorem sp_pr1 : SpOk Try.prog (28, prSp) := by
  intro args nd v ha hn
  simp only [prSp] at ha
  split at ha
  · rename_i x e n f sz y e2 m d
    cases hc : okE e 5 n <;> rw [hc] at ha
    · cases ha
    · simp only [cond_true, Option.some.injEq, Prod.mk.injEq] at ha
      obtain ⟨rfl, rfl⟩ := ha
      simp only [allT_cons, decide_eq_true_eq] at hn
      rw [allN_iff] at hn
      refine (pr_pure x y n m f d sz e2 hn.1).nilQ (.cons (.agg (.cons (nilQ_row hc fun i hi => ?_) (nilQs_refl _))) .nil)
      rw [in_id hn.2.1 hi]
  · cases ha
theorem sp_pr2 : SpOk Try.prog (12, prSp) := by
  intro args nd v ha hn
  simp only [prSp] at ha
  split at ha
  · rename_i x e n f sz y e2 m d
    cases hc : okE e 5 n <;> rw [hc] at ha
    · cases ha
    · simp only [cond_true, Option.some.injEq, Prod.mk.injEq] at ha
      obtain ⟨rfl, rfl⟩ := ha
      simp only [allT_cons, decide_eq_true_eq] at hn
      rw [allN_iff] at hn
      refine (pr2_pure x y n m f d sz e2).nilQ (.cons (.agg (.cons (nilQ_row hc fun i hi => ?_) (nilQs_refl _))) .nil)
      rw [in_id hn.2.1 hi]
  · cases ha
end Go.Proofs.Ytmfbaglhmiadjaa

/- One step of a program: what registers have, and the parts of a result. -/
namespace Go.Proofs.Ytmfbaglhmiadjaa
open Go.Ra
set_option linter.unusedVariables false
set_option linter.unusedSimpArgs false
abbrev kWr : List KD := [.i .i64, .i .i64, .i .u32]
def o_rg (f : Nat → XV) (i : Nat) : XV := .int .u32 (asN (f i))
def o_wr (f : Nat → XV) (i : Nat) : XV := mkS kWr (f i)
/-- What a register has. -/
def vlI (g : Nat → XV) (n : Int) : Int := bif decide (n = 0) then 0 else asN (g n.toNat)
def valSp : List XV → Option (List Bool × XV)
  | [.tab 16 1 g, .int .i64 n] => some ([decide (0 ≤ n), decide (n ≤ 15), allN (fun i => isK (.i .u32) (g i)) 16], .int .u32 (vlI g n))
  | _ => none
def getSp : List XV → Option (List Bool × XV)
  | [.fptr (.agg 5 [.agg 3 [.row x0 e0 n0 f0, .int .i64 sz, .row x1 e1 n1 f1], .fptr (.agg 23 [.int .i64 en, .agg 3 [.int .i64 tk, .int .i64 ts, .int .i64 tp], .int .i64 st, .tab 16 1 g, .row x2 e2 n2 f2, .row x3 e3 n3 f3]), .int .i64 pc]), .int .i64 n] => some ([decide (0 ≤ n), decide (n ≤ 15), allN (fun i => isK (.i .u32) (g i)) 16], .int .u32 (vlI g n))
  | _ => none
def TV0 : Tab := mkT qq (cl_seq ++ cl_ref1) [] gl_slices
theorem TV0ok : TabOk Try.prog TV0 := mkT_ok (clok_seq.app clok_ref1) trivial glok_slices
theorem r_val (g : Nat → XV) (n : Int) (K : XV → Prop) : (quietGo TV0 80 (callI TV0 80 20) 34 [.tab 16 1 (o_rg g), .int .i64 n] K) = (bif decide (n = 0) then K (.int .u32 0)
else bif decide (0 ≤ n) then bif decide (n < 16) then bif Nat.beq (Int.toNat n * 1) (Int.toNat n * 1) then bif decide
 (Int.toNat n < 16) then K (.int .u32 (asN (g (Int.toNat n)))) else False else False else False else False) := by kernel_rfl
theorem r_get (x0 x1 x2 x3 : Bool) (e0 e1 e2 e3 n0 n1 n2 n3 : Nat) (f0 f1 f2 f3 : Nat → XV) (sz en tk ts tp st pc : Int) (g : Nat → XV) (n : Int) (K : XV → Prop) : (quietGo TV0 80 (callI TV0 80 20) 54 [.fptr (.agg 5 [.agg 3 [.row x0 e0 n0 f0, .int .i64 sz, .row x1 e1 n1 f1], .fptr (.agg 23 [.int .i64 en, .agg 3 [.int .i64 tk, .int .i64 ts, .int .i64 tp], .int .i64 st, .tab 16 1 (o_rg g), .row x2 e2 n2 f2, .row x3 e3 n3 f3]), .int .i64 pc]), .int .i64 n] K) = (bif decide (n = 0) then K (.int .u32 0)
else bif decide (0 ≤ n) then bif decide (n < 16) then K (.int .u32 (asN (g (Int.toNat n)))) else False else False) :=
 by kernel_rfl
theorem rg_eq {g : Nat → XV} (h : ∀ i, i < 16 → isK (.i .u32) (g i) = true) : con (.tab 16 1 g) = con (.tab 16 1 (o_rg g)) := by
  simp only [con]
  rw [tabL_congr fun i hi => by rw [show g i = o_rg g i from (mkK_eq (h i hi)).symm]]
theorem sp_val : SpOk Try.prog (34, valSp) := by
  intro args nd v ha hn
  simp only [valSp] at ha
  split at ha <;> simp only [Option.some.injEq, Prod.mk.injEq, reduceCtorEq] at ha
  obtain ⟨rfl, rfl⟩ := ha
  rename_i g n
  simp only [allT_cons, decide_eq_true_eq, allN_iff] at hn
  obtain ⟨h0, h1, h2, _⟩ := hn
  have e : cons [XV.tab 16 1 g, .int .i64 n] = cons [XV.tab 16 1 (o_rg g), .int .i64 n] := by simp only [cons]; rw [rg_eq h2]
  rw [e]
  refine pureX (u := 80) (k := 20) mix TV0ok ?_
  rw [r_val]
  have c1 : n < 16 := by omega
  have c2 : n.toNat < 16 := by omega
  unfold vlI
  by_cases c0 : n = 0
  · simp only [c0, decide_true, decide_false, cond_true, cond_false, allN_true, Nat.le_refl, Int.toNat_natCast, Nat.beq_refl, pk_and, pk_or, Bool.not_true, Bool.not_false, not_true_eq_false, not_false_eq_true, Bool.and_true, Bool.true_and, Bool.and_self, ge_iff_le, Int.le_refl, if_true, if_false, reduceCtorEq, eq_self, BEq.rfl]
  · simp only [c0, h0, c1, c2, decide_true, decide_false, cond_true, cond_false, allN_true, Nat.le_refl, Int.toNat_natCast, Nat.beq_refl, pk_and, pk_or, Bool.not_true, Bool.not_false, not_true_eq_false, not_false_eq_true, Bool.and_true, Bool.true_and, Bool.and_self, ge_iff_le, Int.le_refl, if_true, if_false, reduceCtorEq, eq_self, BEq.rfl]
theorem sp_get : SpOk Try.prog (54, getSp) := by
  intro args nd v ha hn
  simp only [getSp] at ha
  split at ha <;> simp only [Option.some.injEq, Prod.mk.injEq, reduceCtorEq] at ha
  obtain ⟨rfl, rfl⟩ := ha
  rename_i x0 e0 n0 f0 sz x1 e1 n1 f1 en tk ts tp st g x2 e2 n2 f2 x3 e3 n3 f3 pc n
  simp only [allT_cons, decide_eq_true_eq, allN_iff] at hn
  obtain ⟨h0, h1, h2, _⟩ := hn
  have e : cons [XV.fptr (.agg 5 [.agg 3 [.row x0 e0 n0 f0, .int .i64 sz, .row x1 e1 n1 f1], .fptr (.agg 23 [.int .i64 en, .agg 3 [.int .i64 tk, .int .i64 ts, .int .i64 tp], .int .i64 st, .tab 16 1 g, .row x2 e2 n2 f2, .row x3 e3 n3 f3]), .int .i64 pc]), .int .i64 n] = cons [XV.fptr (.agg 5 [.agg 3 [.row x0 e0 n0 f0, .int .i64 sz, .row x1 e1 n1 f1], .fptr (.agg 23 [.int .i64 en, .agg 3 [.int .i64 tk, .int .i64 ts, .int .i64 tp], .int .i64 st, .tab 16 1 (o_rg g), .row x2 e2 n2 f2, .row x3 e3 n3 f3]), .int .i64 pc]), .int .i64 n] := by
    have h := rg_eq h2
    simp only [con] at h
    simp only [cons, con]
    rw [h]
  rw [e]
  refine pureX (u := 80) (k := 20) mix TV0ok ?_
  rw [r_get]
  have c1 : n < 16 := by omega
  have c2 : n.toNat < 16 := by omega
  unfold vlI
  by_cases c0 : n = 0
  · simp only [c0, decide_true, decide_false, cond_true, cond_false, allN_true, Nat.le_refl, Int.toNat_natCast, Nat.beq_refl, pk_and, pk_or, Bool.not_true, Bool.not_false, not_true_eq_false, not_false_eq_true, Bool.and_true, Bool.true_and, Bool.and_self, ge_iff_le, Int.le_refl, if_true, if_false, reduceCtorEq, eq_self, BEq.rfl]
  · simp only [c0, h0, c1, c2, decide_true, decide_false, cond_true, cond_false, allN_true, Nat.le_refl, Int.toNat_natCast, Nat.beq_refl, pk_and, pk_or, Bool.not_true, Bool.not_false, not_true_eq_false, not_false_eq_true, Bool.and_true, Bool.true_and, Bool.and_self, ge_iff_le, Int.le_refl, if_true, if_false, reduceCtorEq, eq_self, BEq.rfl]
end Go.Proofs.Ytmfbaglhmiadjaa

/- One step of a program: forms. -/
namespace Go.Proofs.Ytmfbaglhmiadjaa
open Go.Ra
set_option linter.unusedVariables false
set_option linter.unusedSimpArgs false
def szSpF (s : Int) : List XV → Option (List Bool × XV)
  | [.int .i64 op] => some ([decide (szI op = s)], .int .i64 s)
  | _ => none
def TQ (f : Int) : Tab := mkT qq (cl_seq ++ cl_bytes ++ cl_slices ++ cl_ref1 ++ cl_word ++ cl_math) [(28, prSp), (12, prSp), (54, getSp), (34, valSp), (51, fmSpF f), (26, fmSpF f), (55, doSp), (53, tkSp), (68, szSp), (35, szSp), (70, chkSp), (15, chkSp), (71, loadSp), (17, stoSp), (16, mskSp)] gl_slices
def TQs (s : Int) : Tab := mkT qq (cl_seq ++ cl_bytes ++ cl_slices ++ cl_ref1 ++ cl_word ++ cl_math) [(28, prSp), (12, prSp), (54, getSp), (34, valSp), (51, fmSpF 5), (26, fmSpF 5), (68, szSpF s), (35, szSpF s), (70, chkSp), (15, chkSp), (17, stoSp), (16, mskSp)] gl_slices
abbrev xPr (x : Bool) (n : Nat) (f : Nat → XV) (sz : Int) (y : Bool) (m : Nat) (d : Nat → XV) : XV := .agg 3 [.row x 5 n (o_in f), .int .i64 sz, .row y 1 m (o_by d)]
abbrev xRe (en tk ts tp st : Int) (rg : Nat → XV) (xm : Bool) (nm : Nat) (mm : Nat → XV) (xw : Bool) (nw : Nat) (wf : Nat → XV) : XV := .agg 23 [.int .i64 en, .agg 3 [.int .i64 tk, .int .i64 ts, .int .i64 tp], .int .i64 st, .tab 16 1 (o_rg rg), .row xm 1 nm (o_by mm), .row xw 3 nw (o_wr wf)]
theorem r_s1_1 (x : Bool) (n : Nat) (f : Nat → XV) (sz : Int) (y : Bool) (m : Nat) (d : Nat → XV) (en tk ts tp st : Int) (rg : Nat → XV) (xm : Bool) (nm : Nat) (mm : Nat → XV) (xw : Bool) (nw : Nat) (wf : Nat → XV) (pc : Int) (K : XV → Prop) : (quietGo (TQ 1) 80 (callI (TQ 1) 80 20) 20 [xPr x n f sz y m d, xRe en tk ts tp st rg xm nm mm xw nw wf, .int .i64 pc] K) = (bif decide (nm * 1 ≤ 140737488355328) then bif allN (fun i => true) nm then bif decide (nw * 24 ≤ 140737488355328) then bif allN (fun i => true) nw then bif
 bif decide (n ≤ 4611686018427387904) then true else !!decide ¬en = 0 then bif bif allN (fun i => true) n then true else !!decide ¬en = 0 then bif bif decide (m ≤
 4611686018427387904) then true else !!decide ¬en = 0 then bif bif decide ¬en = 0 then true else !decide ¬en = 0 then bif bif bif decide ¬en = 0 then true else !prB
 n (o_in fun a => f a) sz m then true else !bif decide ¬en = 0 then true else !prB n (o_in fun a => f a) sz m then bif bif bif decide ¬en = 0 then true else !prB
 n (o_in fun a => f a) sz m then true else decide ¬(↑nm : Int) = sz then bif decide (nm ≤ nm) then bif decide (nw ≤ nw) then K (.tup [.agg 23 [.int .i64 en, .agg
 3 [.int .i64 tk, .int .i64 ts, .int .i64 tp], .int .i64 st, .tab 16 1 (o_rg fun a => rg a), .row false 1 nm fun i => .int .u8 (asN (mm i)), .row false 3 nw fun i
 => .agg 3 [.int .i64 (asN (fld 0 (wf i))), .int .i64 (asN (fld 1 (wf i))), .int .u32 (asN (fld 2 (wf i)))]], .int .i64 pc]) else False else False else bif bif decide
 (pc < 0) then true else !decide (pc < 0) then bif bif decide (pc < 0) then true else decide (pc ≥ (↑n : Int)) then bif decide (nm ≤ nm) then bif decide (nw ≤ nw)
 then K (.tup [.agg 23 [.int .i64 2, .agg 3 [.int .i64 4, .int .i64 st, .int .i64 pc], .int .i64 st, .tab 16 1 (o_rg fun a => rg a), .row false 1 nm fun i => .int
 .u8 (asN (mm i)), .row false 3 nw fun i => .agg 3 [.int .i64 (asN (fld 0 (wf i))), .int .i64 (asN (fld 1 (wf i))), .int .u32 (asN (fld 2 (wf i)))]], .int .i64 pc])
 else False else False else bif decide (0 ≤ pc) then bif decide (pc < (↑n : Int)) then bif decide (fmI (asN (fld 0 (f (Int.toNat pc)))) = 1) then bif decide (nm ≤
 nm) then bif decide (nw ≤ nw) then bif decide (0 ≤ asN (fld 2 (f (Int.toNat pc)))) then bif decide (asN (fld 2 (f (Int.toNat pc))) ≤ 15) then bif decide (nm ≤ nm)
 then bif decide (nw ≤ nw) then bif decide (0 ≤ asN (fld 3 (f (Int.toNat pc)))) then bif decide (asN (fld 3 (f (Int.toNat pc))) ≤ 15) then bif decide (0 ≤ vlI (o_rg
 fun a => rg a) (asN (fld 2 (f (Int.toNat pc))))) then bif decide (vlI (o_rg fun a => rg a) (asN (fld 2 (f (Int.toNat pc)))) ≤ 4294967295) then bif decide (0 ≤ vlI
 (o_rg fun a => rg a) (asN (fld 3 (f (Int.toNat pc))))) then bif decide (vlI (o_rg fun a => rg a) (asN (fld 3 (f (Int.toNat pc)))) ≤ 4294967295) then bif !dkB (asN
 (fld 0 (f (Int.toNat pc)))) (asN (fld 1 (f (Int.toNat pc)))) (asN (fld 2 (f (Int.toNat pc)))) (asN (fld 3 (f (Int.toNat pc)))) (asN (fld 4 (f (Int.toNat pc)))) (vlI
 (o_rg fun a => rg a) (asN (fld 3 (f (Int.toNat pc))))) then bif decide (nm ≤ nm) then bif decide (nw ≤ nw) then K (.tup [.agg 23 [.int .i64 2, .agg 3 [.int .i64
 3, .int .i64 st, .int .i64 pc], .int .i64 st, .tab 16 1 (o_rg fun a => rg a), .row false 1 nm fun i => .int .u8 (asN (mm i)), .row false 3 nw fun i => .agg 3 [.int
 .i64 (asN (fld 0 (wf i))), .int .i64 (asN (fld 1 (wf i))), .int .u32 (asN (fld 2 (wf i)))]], .int .i64 pc]) else False else False else bif decide ¬asN (fld 1 (f
 (Int.toNat pc))) = 0 then bif decide (0 ≤ asN (fld 1 (f (Int.toNat pc)))) then bif decide (asN (fld 1 (f (Int.toNat pc))) < 16) then bif Nat.beq (pl 5 (Int.toNat
 (asN (fld 1 (f (Int.toNat pc)))) * 1)) (pl 5 (Int.toNat (asN (fld 1 (f (Int.toNat pc)))) * 1)) then bif decide (Int.toNat (asN (fld 1 (f (Int.toNat pc)))) < 16)
 then bif decide (Int.toNat (asN (fld 1 (f (Int.toNat pc)))) < 16) then bif decide (nm ≤ nm) then bif decide (nw ≤ nw) then K (.tup [.agg 23 [.int .i64 en, .agg 3
 [.int .i64 tk, .int .i64 ts, .int .i64 tp], .int .i64 (IntKind.wrap .i64 (st + (1 : Int))), .tab 16 1 fun j => .int .u32 (bif Nat.beq j (Int.toNat (asN (fld 1 (f
 (Int.toNat pc))))) then doI (asN (fld 0 (f (Int.toNat pc)))) (asN (fld 1 (f (Int.toNat pc)))) (asN (fld 2 (f (Int.toNat pc)))) (asN (fld 3 (f (Int.toNat pc)))) (asN
 (fld 4 (f (Int.toNat pc)))) (vlI (o_rg fun a => rg a) (asN (fld 2 (f (Int.toNat pc))))) (vlI (o_rg fun a => rg a) (asN (fld 3 (f (Int.toNat pc))))) else asN (rg
 j)), .row false 1 nm fun i => .int .u8 (asN (mm i)), .row false 3 nw fun i => .agg 3 [.int .i64 (asN (fld 0 (wf i))), .int .i64 (asN (fld 1 (wf i))), .int .u32 (asN
 (fld 2 (wf i)))]], .int .i64 (IntKind.wrap .i64 (pc + (1 : Int)))]) else False else False else False else False else False else False else False else bif decide
 (nm ≤ nm) then bif decide (nw ≤ nw) then K (.tup [.agg 23 [.int .i64 en, .agg 3 [.int .i64 tk, .int .i64 ts, .int .i64 tp], .int .i64 (IntKind.wrap .i64 (st + (1
 : Int))), .tab 16 1 (o_rg fun a => rg a), .row false 1 nm fun i => .int .u8 (asN (mm i)), .row false 3 nw fun i => .agg 3 [.int .i64 (asN (fld 0 (wf i))), .int .i64
 (asN (fld 1 (wf i))), .int .u32 (asN (fld 2 (wf i)))]], .int .i64 (IntKind.wrap .i64 (pc + (1 : Int)))]) else False else False else False else False else False else
 False else False else False else False else False else False else False else False else False else False else False else False else False else False else False else
 False else False else False else False else False else False
else False) := by kernel_rfl
theorem r_s1_2 (x : Bool) (n : Nat) (f : Nat → XV) (sz : Int) (y : Bool) (m : Nat) (d : Nat → XV) (en tk ts tp st : Int) (rg : Nat → XV) (xm : Bool) (nm : Nat) (mm : Nat → XV) (xw : Bool) (nw : Nat) (wf : Nat → XV) (pc : Int) (K : XV → Prop) : (quietGo (TQ 2) 80 (callI (TQ 2) 80 20) 20 [xPr x n f sz y m d, xRe en tk ts tp st rg xm nm mm xw nw wf, .int .i64 pc] K) = (bif decide (nm * 1 ≤ 140737488355328) then bif allN (fun i => true) nm then bif decide (nw * 24 ≤ 140737488355328) then bif allN (fun i => true) nw then bif
 bif decide (n ≤ 4611686018427387904) then true else !!decide ¬en = 0 then bif bif allN (fun i => true) n then true else !!decide ¬en = 0 then bif bif decide (m ≤
 4611686018427387904) then true else !!decide ¬en = 0 then bif bif decide ¬en = 0 then true else !decide ¬en = 0 then bif bif bif decide ¬en = 0 then true else !prB
 n (o_in fun a => f a) sz m then true else !bif decide ¬en = 0 then true else !prB n (o_in fun a => f a) sz m then bif bif bif decide ¬en = 0 then true else !prB
 n (o_in fun a => f a) sz m then true else decide ¬(↑nm : Int) = sz then bif decide (nm ≤ nm) then bif decide (nw ≤ nw) then K (.tup [.agg 23 [.int .i64 en, .agg
 3 [.int .i64 tk, .int .i64 ts, .int .i64 tp], .int .i64 st, .tab 16 1 (o_rg fun a => rg a), .row false 1 nm fun i => .int .u8 (asN (mm i)), .row false 3 nw fun i
 => .agg 3 [.int .i64 (asN (fld 0 (wf i))), .int .i64 (asN (fld 1 (wf i))), .int .u32 (asN (fld 2 (wf i)))]], .int .i64 pc]) else False else False else bif bif decide
 (pc < 0) then true else !decide (pc < 0) then bif bif decide (pc < 0) then true else decide (pc ≥ (↑n : Int)) then bif decide (nm ≤ nm) then bif decide (nw ≤ nw)
 then K (.tup [.agg 23 [.int .i64 2, .agg 3 [.int .i64 4, .int .i64 st, .int .i64 pc], .int .i64 st, .tab 16 1 (o_rg fun a => rg a), .row false 1 nm fun i => .int
 .u8 (asN (mm i)), .row false 3 nw fun i => .agg 3 [.int .i64 (asN (fld 0 (wf i))), .int .i64 (asN (fld 1 (wf i))), .int .u32 (asN (fld 2 (wf i)))]], .int .i64 pc])
 else False else False else bif decide (0 ≤ pc) then bif decide (pc < (↑n : Int)) then bif decide (fmI (asN (fld 0 (f (Int.toNat pc)))) = 2) then bif decide (nm ≤
 nm) then bif decide (nw ≤ nw) then bif decide (0 ≤ asN (fld 2 (f (Int.toNat pc)))) then bif decide (asN (fld 2 (f (Int.toNat pc))) ≤ 15) then bif decide (nm ≤ nm)
 then bif decide (nw ≤ nw) then bif decide (0 ≤ asN (fld 3 (f (Int.toNat pc)))) then bif decide (asN (fld 3 (f (Int.toNat pc))) ≤ 15) then bif decide (0 ≤ vlI (o_rg
 fun a => rg a) (asN (fld 2 (f (Int.toNat pc))))) then bif decide (vlI (o_rg fun a => rg a) (asN (fld 2 (f (Int.toNat pc)))) ≤ 4294967295) then bif decide (0 ≤ vlI
 (o_rg fun a => rg a) (asN (fld 3 (f (Int.toNat pc))))) then bif decide (vlI (o_rg fun a => rg a) (asN (fld 3 (f (Int.toNat pc)))) ≤ 4294967295) then bif !dkB (asN
 (fld 0 (f (Int.toNat pc)))) (asN (fld 1 (f (Int.toNat pc)))) (asN (fld 2 (f (Int.toNat pc)))) (asN (fld 3 (f (Int.toNat pc)))) (asN (fld 4 (f (Int.toNat pc)))) (vlI
 (o_rg fun a => rg a) (asN (fld 3 (f (Int.toNat pc))))) then bif decide (nm ≤ nm) then bif decide (nw ≤ nw) then K (.tup [.agg 23 [.int .i64 2, .agg 3 [.int .i64
 3, .int .i64 st, .int .i64 pc], .int .i64 st, .tab 16 1 (o_rg fun a => rg a), .row false 1 nm fun i => .int .u8 (asN (mm i)), .row false 3 nw fun i => .agg 3 [.int
 .i64 (asN (fld 0 (wf i))), .int .i64 (asN (fld 1 (wf i))), .int .u32 (asN (fld 2 (wf i)))]], .int .i64 pc]) else False else False else bif decide ¬asN (fld 1 (f
 (Int.toNat pc))) = 0 then bif decide (0 ≤ asN (fld 1 (f (Int.toNat pc)))) then bif decide (asN (fld 1 (f (Int.toNat pc))) < 16) then bif Nat.beq (pl 5 (Int.toNat
 (asN (fld 1 (f (Int.toNat pc)))) * 1)) (pl 5 (Int.toNat (asN (fld 1 (f (Int.toNat pc)))) * 1)) then bif decide (Int.toNat (asN (fld 1 (f (Int.toNat pc)))) < 16)
 then bif decide (Int.toNat (asN (fld 1 (f (Int.toNat pc)))) < 16) then bif decide (nm ≤ nm) then bif decide (nw ≤ nw) then K (.tup [.agg 23 [.int .i64 en, .agg 3
 [.int .i64 tk, .int .i64 ts, .int .i64 tp], .int .i64 (IntKind.wrap .i64 (st + (1 : Int))), .tab 16 1 fun j => .int .u32 (bif Nat.beq j (Int.toNat (asN (fld 1 (f
 (Int.toNat pc))))) then doI (asN (fld 0 (f (Int.toNat pc)))) (asN (fld 1 (f (Int.toNat pc)))) (asN (fld 2 (f (Int.toNat pc)))) (asN (fld 3 (f (Int.toNat pc)))) (asN
 (fld 4 (f (Int.toNat pc)))) (vlI (o_rg fun a => rg a) (asN (fld 2 (f (Int.toNat pc))))) (vlI (o_rg fun a => rg a) (asN (fld 3 (f (Int.toNat pc))))) else asN (rg
 j)), .row false 1 nm fun i => .int .u8 (asN (mm i)), .row false 3 nw fun i => .agg 3 [.int .i64 (asN (fld 0 (wf i))), .int .i64 (asN (fld 1 (wf i))), .int .u32 (asN
 (fld 2 (wf i)))]], .int .i64 (IntKind.wrap .i64 (pc + (1 : Int)))]) else False else False else False else False else False else False else False else bif decide
 (nm ≤ nm) then bif decide (nw ≤ nw) then K (.tup [.agg 23 [.int .i64 en, .agg 3 [.int .i64 tk, .int .i64 ts, .int .i64 tp], .int .i64 (IntKind.wrap .i64 (st + (1
 : Int))), .tab 16 1 (o_rg fun a => rg a), .row false 1 nm fun i => .int .u8 (asN (mm i)), .row false 3 nw fun i => .agg 3 [.int .i64 (asN (fld 0 (wf i))), .int .i64
 (asN (fld 1 (wf i))), .int .u32 (asN (fld 2 (wf i)))]], .int .i64 (IntKind.wrap .i64 (pc + (1 : Int)))]) else False else False else False else False else False else
 False else False else False else False else False else False else False else False else False else False else False else False else False else False else False else
 False else False else False else False else False else False
else False) := by kernel_rfl
theorem r_s1_3 (x : Bool) (n : Nat) (f : Nat → XV) (sz : Int) (y : Bool) (m : Nat) (d : Nat → XV) (en tk ts tp st : Int) (rg : Nat → XV) (xm : Bool) (nm : Nat) (mm : Nat → XV) (xw : Bool) (nw : Nat) (wf : Nat → XV) (pc : Int) (K : XV → Prop) : (quietGo (TQ 3) 80 (callI (TQ 3) 80 20) 20 [xPr x n f sz y m d, xRe en tk ts tp st rg xm nm mm xw nw wf, .int .i64 pc] K) = (bif decide (nm * 1 ≤ 140737488355328) then bif allN (fun i => true) nm then bif decide (nw * 24 ≤ 140737488355328) then bif allN (fun i => true) nw then bif
 bif decide (n ≤ 4611686018427387904) then true else !!decide ¬en = 0 then bif bif allN (fun i => true) n then true else !!decide ¬en = 0 then bif bif decide (m ≤
 4611686018427387904) then true else !!decide ¬en = 0 then bif bif decide ¬en = 0 then true else !decide ¬en = 0 then bif bif bif decide ¬en = 0 then true else !prB
 n (o_in fun a => f a) sz m then true else !bif decide ¬en = 0 then true else !prB n (o_in fun a => f a) sz m then bif bif bif decide ¬en = 0 then true else !prB
 n (o_in fun a => f a) sz m then true else decide ¬(↑nm : Int) = sz then bif decide (nm ≤ nm) then bif decide (nw ≤ nw) then K (.tup [.agg 23 [.int .i64 en, .agg
 3 [.int .i64 tk, .int .i64 ts, .int .i64 tp], .int .i64 st, .tab 16 1 (o_rg fun a => rg a), .row false 1 nm fun i => .int .u8 (asN (mm i)), .row false 3 nw fun i
 => .agg 3 [.int .i64 (asN (fld 0 (wf i))), .int .i64 (asN (fld 1 (wf i))), .int .u32 (asN (fld 2 (wf i)))]], .int .i64 pc]) else False else False else bif bif decide
 (pc < 0) then true else !decide (pc < 0) then bif bif decide (pc < 0) then true else decide (pc ≥ (↑n : Int)) then bif decide (nm ≤ nm) then bif decide (nw ≤ nw)
 then K (.tup [.agg 23 [.int .i64 2, .agg 3 [.int .i64 4, .int .i64 st, .int .i64 pc], .int .i64 st, .tab 16 1 (o_rg fun a => rg a), .row false 1 nm fun i => .int
 .u8 (asN (mm i)), .row false 3 nw fun i => .agg 3 [.int .i64 (asN (fld 0 (wf i))), .int .i64 (asN (fld 1 (wf i))), .int .u32 (asN (fld 2 (wf i)))]], .int .i64 pc])
 else False else False else bif decide (0 ≤ pc) then bif decide (pc < (↑n : Int)) then bif decide (fmI (asN (fld 0 (f (Int.toNat pc)))) = 3) then bif decide (nm ≤
 nm) then bif decide (nw ≤ nw) then bif decide (0 ≤ asN (fld 2 (f (Int.toNat pc)))) then bif decide (asN (fld 2 (f (Int.toNat pc))) ≤ 15) then bif decide (nm ≤ nm)
 then bif decide (nw ≤ nw) then bif decide (0 ≤ asN (fld 3 (f (Int.toNat pc)))) then bif decide (asN (fld 3 (f (Int.toNat pc))) ≤ 15) then bif decide (0 ≤ vlI (o_rg
 fun a => rg a) (asN (fld 2 (f (Int.toNat pc))))) then bif decide (vlI (o_rg fun a => rg a) (asN (fld 2 (f (Int.toNat pc)))) ≤ 4294967295) then bif decide (0 ≤ vlI
 (o_rg fun a => rg a) (asN (fld 3 (f (Int.toNat pc))))) then bif decide (vlI (o_rg fun a => rg a) (asN (fld 3 (f (Int.toNat pc)))) ≤ 4294967295) then bif !dkB (asN
 (fld 0 (f (Int.toNat pc)))) (asN (fld 1 (f (Int.toNat pc)))) (asN (fld 2 (f (Int.toNat pc)))) (asN (fld 3 (f (Int.toNat pc)))) (asN (fld 4 (f (Int.toNat pc)))) (vlI
 (o_rg fun a => rg a) (asN (fld 3 (f (Int.toNat pc))))) then bif decide (nm ≤ nm) then bif decide (nw ≤ nw) then K (.tup [.agg 23 [.int .i64 2, .agg 3 [.int .i64
 3, .int .i64 st, .int .i64 pc], .int .i64 st, .tab 16 1 (o_rg fun a => rg a), .row false 1 nm fun i => .int .u8 (asN (mm i)), .row false 3 nw fun i => .agg 3 [.int
 .i64 (asN (fld 0 (wf i))), .int .i64 (asN (fld 1 (wf i))), .int .u32 (asN (fld 2 (wf i)))]], .int .i64 pc]) else False else False else bif decide ¬asN (fld 1 (f
 (Int.toNat pc))) = 0 then bif decide (0 ≤ asN (fld 1 (f (Int.toNat pc)))) then bif decide (asN (fld 1 (f (Int.toNat pc))) < 16) then bif Nat.beq (pl 5 (Int.toNat
 (asN (fld 1 (f (Int.toNat pc)))) * 1)) (pl 5 (Int.toNat (asN (fld 1 (f (Int.toNat pc)))) * 1)) then bif decide (Int.toNat (asN (fld 1 (f (Int.toNat pc)))) < 16)
 then bif decide (Int.toNat (asN (fld 1 (f (Int.toNat pc)))) < 16) then bif decide (nm ≤ nm) then bif decide (nw ≤ nw) then K (.tup [.agg 23 [.int .i64 en, .agg 3
 [.int .i64 tk, .int .i64 ts, .int .i64 tp], .int .i64 (IntKind.wrap .i64 (st + (1 : Int))), .tab 16 1 fun j => .int .u32 (bif Nat.beq j (Int.toNat (asN (fld 1 (f
 (Int.toNat pc))))) then doI (asN (fld 0 (f (Int.toNat pc)))) (asN (fld 1 (f (Int.toNat pc)))) (asN (fld 2 (f (Int.toNat pc)))) (asN (fld 3 (f (Int.toNat pc)))) (asN
 (fld 4 (f (Int.toNat pc)))) (vlI (o_rg fun a => rg a) (asN (fld 2 (f (Int.toNat pc))))) (vlI (o_rg fun a => rg a) (asN (fld 3 (f (Int.toNat pc))))) else asN (rg
 j)), .row false 1 nm fun i => .int .u8 (asN (mm i)), .row false 3 nw fun i => .agg 3 [.int .i64 (asN (fld 0 (wf i))), .int .i64 (asN (fld 1 (wf i))), .int .u32 (asN
 (fld 2 (wf i)))]], .int .i64 (IntKind.wrap .i64 (pc + (1 : Int)))]) else False else False else False else False else False else False else False else bif decide
 (nm ≤ nm) then bif decide (nw ≤ nw) then K (.tup [.agg 23 [.int .i64 en, .agg 3 [.int .i64 tk, .int .i64 ts, .int .i64 tp], .int .i64 (IntKind.wrap .i64 (st + (1
 : Int))), .tab 16 1 (o_rg fun a => rg a), .row false 1 nm fun i => .int .u8 (asN (mm i)), .row false 3 nw fun i => .agg 3 [.int .i64 (asN (fld 0 (wf i))), .int .i64
 (asN (fld 1 (wf i))), .int .u32 (asN (fld 2 (wf i)))]], .int .i64 (IntKind.wrap .i64 (pc + (1 : Int)))]) else False else False else False else False else False else
 False else False else False else False else False else False else False else False else False else False else False else False else False else False else False else
 False else False else False else False else False else False
else False) := by kernel_rfl
theorem r_s1_4 (x : Bool) (n : Nat) (f : Nat → XV) (sz : Int) (y : Bool) (m : Nat) (d : Nat → XV) (en tk ts tp st : Int) (rg : Nat → XV) (xm : Bool) (nm : Nat) (mm : Nat → XV) (xw : Bool) (nw : Nat) (wf : Nat → XV) (pc : Int) (K : XV → Prop) : (quietGo (TQ 4) 80 (callI (TQ 4) 80 20) 20 [xPr x n f sz y m d, xRe en tk ts tp st rg xm nm mm xw nw wf, .int .i64 pc] K) = (bif decide (nm * 1 ≤ 140737488355328) then bif allN (fun i => true) nm then bif decide (nw * 24 ≤ 140737488355328) then bif allN (fun i => true) nw then bif
 bif decide (n ≤ 4611686018427387904) then true else !!decide ¬en = 0 then bif bif allN (fun i => true) n then true else !!decide ¬en = 0 then bif bif decide (m ≤
 4611686018427387904) then true else !!decide ¬en = 0 then bif bif decide ¬en = 0 then true else !decide ¬en = 0 then bif bif bif decide ¬en = 0 then true else !prB
 n (o_in fun a => f a) sz m then true else !bif decide ¬en = 0 then true else !prB n (o_in fun a => f a) sz m then bif bif bif decide ¬en = 0 then true else !prB
 n (o_in fun a => f a) sz m then true else decide ¬(↑nm : Int) = sz then bif decide (nm ≤ nm) then bif decide (nw ≤ nw) then K (.tup [.agg 23 [.int .i64 en, .agg
 3 [.int .i64 tk, .int .i64 ts, .int .i64 tp], .int .i64 st, .tab 16 1 (o_rg fun a => rg a), .row false 1 nm fun i => .int .u8 (asN (mm i)), .row false 3 nw fun i
 => .agg 3 [.int .i64 (asN (fld 0 (wf i))), .int .i64 (asN (fld 1 (wf i))), .int .u32 (asN (fld 2 (wf i)))]], .int .i64 pc]) else False else False else bif bif decide
 (pc < 0) then true else !decide (pc < 0) then bif bif decide (pc < 0) then true else decide (pc ≥ (↑n : Int)) then bif decide (nm ≤ nm) then bif decide (nw ≤ nw)
 then K (.tup [.agg 23 [.int .i64 2, .agg 3 [.int .i64 4, .int .i64 st, .int .i64 pc], .int .i64 st, .tab 16 1 (o_rg fun a => rg a), .row false 1 nm fun i => .int
 .u8 (asN (mm i)), .row false 3 nw fun i => .agg 3 [.int .i64 (asN (fld 0 (wf i))), .int .i64 (asN (fld 1 (wf i))), .int .u32 (asN (fld 2 (wf i)))]], .int .i64 pc])
 else False else False else bif decide (0 ≤ pc) then bif decide (pc < (↑n : Int)) then bif decide (fmI (asN (fld 0 (f (Int.toNat pc)))) = 4) then bif decide (nm ≤
 nm) then bif decide (nw ≤ nw) then bif decide (0 ≤ asN (fld 2 (f (Int.toNat pc)))) then bif decide (asN (fld 2 (f (Int.toNat pc))) ≤ 15) then bif decide ¬chkI (szI
 (asN (fld 0 (f (Int.toNat pc))))) (IntKind.wrap .u32 (vlI (o_rg fun a => rg a) (asN (fld 2 (f (Int.toNat pc)))) + IntKind.wrap .u32 (asN (fld 4 (f (Int.toNat pc))))))
 (↑nm : Int) = (0 : Int) then bif decide ¬chkI (szI (asN (fld 0 (f (Int.toNat pc))))) (IntKind.wrap .u32 (vlI (o_rg fun a => rg a) (asN (fld 2 (f (Int.toNat pc))))
 + IntKind.wrap .u32 (asN (fld 4 (f (Int.toNat pc)))))) (↑nm : Int) = (0 : Int) then bif decide (nm ≤ nm) then bif decide (nw ≤ nw) then K (.tup [.agg 23 [.int .i64
 2, .agg 3 [.int .i64 (chkI (szI (asN (fld 0 (f (Int.toNat pc))))) (IntKind.wrap .u32 (vlI (o_rg fun a => rg a) (asN (fld 2 (f (Int.toNat pc)))) + IntKind.wrap .u32
 (asN (fld 4 (f (Int.toNat pc)))))) (↑nm : Int)), .int .i64 st, .int .i64 pc], .int .i64 st, .tab 16 1 (o_rg fun a => rg a), .row false 1 nm fun i => .int .u8 (asN
 (mm i)), .row false 3 nw fun i => .agg 3 [.int .i64 (asN (fld 0 (wf i))), .int .i64 (asN (fld 1 (wf i))), .int .u32 (asN (fld 2 (wf i)))]], .int .i64 pc]) else False
 else False else bif decide (nm ≤ nm) then bif decide (nw ≤ nw) then K (.tup [.agg 23 [.int .i64 en, .agg 3 [.int .i64 tk, .int .i64 ts, .int .i64 tp], .int .i64
 (IntKind.wrap .i64 (st + (1 : Int))), .tab 16 1 (o_rg fun a => rg a), .row false 1 nm fun i => .int .u8 (asN (mm i)), .row false 3 nw fun i => .agg 3 [.int .i64
 (asN (fld 0 (wf i))), .int .i64 (asN (fld 1 (wf i))), .int .u32 (asN (fld 2 (wf i)))]], .int .i64 (IntKind.wrap .i64 (pc + (1 : Int)))]) else False else False else
 bif decide (fmI (asN (fld 0 (f (Int.toNat pc)))) = 4) then bif decide (nm ≤ nm) then bif decide (nm ≤ 1099511627776) then bif allN (fun i => true) nm then bif rngB
 nm fun i => .int .u8 (asN (mm i)) then bif decide ((0 : Int) ≤ IntKind.wrap .u32 (vlI (o_rg fun a => rg a) (asN (fld 2 (f (Int.toNat pc)))) + IntKind.wrap .u32 (asN
 (fld 4 (f (Int.toNat pc)))))) then bif decide (IntKind.wrap .u32 (vlI (o_rg fun a => rg a) (asN (fld 2 (f (Int.toNat pc)))) + IntKind.wrap .u32 (asN (fld 4 (f (Int.toNat
 pc))))) ≤ (4294967295 : Int)) then bif decide ¬asN (fld 1 (f (Int.toNat pc))) = 0 then bif decide (0 ≤ asN (fld 1 (f (Int.toNat pc)))) then bif decide (asN (fld
 1 (f (Int.toNat pc))) < 16) then bif Nat.beq (pl 5 (Int.toNat (asN (fld 1 (f (Int.toNat pc)))) * 1)) (pl 5 (Int.toNat (asN (fld 1 (f (Int.toNat pc)))) * 1)) then
 bif decide (Int.toNat (asN (fld 1 (f (Int.toNat pc)))) < 16) then bif decide (Int.toNat (asN (fld 1 (f (Int.toNat pc)))) < 16) then bif decide (nm ≤ nm) then bif
 decide (nw ≤ nw) then K (.tup [.agg 23 [.int .i64 en, .agg 3 [.int .i64 tk, .int .i64 ts, .int .i64 tp], .int .i64 (IntKind.wrap .i64 (st + (1 : Int))), .tab 16
 1 fun j => .int .u32 (bif Nat.beq j (Int.toNat (asN (fld 1 (f (Int.toNat pc))))) then loadI nm (fun i => .int .u8 (asN (mm i))) (asN (fld 0 (f (Int.toNat pc))))
 (IntKind.wrap .u32 (vlI (o_rg fun a => rg a) (asN (fld 2 (f (Int.toNat pc)))) + IntKind.wrap .u32 (asN (fld 4 (f (Int.toNat pc)))))) else asN (rg j)), .row false
 1 nm fun i => .int .u8 (asN (mm i)), .row false 3 nw fun i => .agg 3 [.int .i64 (asN (fld 0 (wf i))), .int .i64 (asN (fld 1 (wf i))), .int .u32 (asN (fld 2 (wf i)))]],
 .int .i64 (IntKind.wrap .i64 (pc + (1 : Int)))]) else False else False else False else False else False else False else False else bif decide (nm ≤ nm) then bif
 decide (nw ≤ nw) then K (.tup [.agg 23 [.int .i64 en, .agg 3 [.int .i64 tk, .int .i64 ts, .int .i64 tp], .int .i64 (IntKind.wrap .i64 (st + (1 : Int))), .tab 16
 1 (o_rg fun a => rg a), .row false 1 nm fun i => .int .u8 (asN (mm i)), .row false 3 nw fun i => .agg 3 [.int .i64 (asN (fld 0 (wf i))), .int .i64 (asN (fld 1 (wf
 i))), .int .u32 (asN (fld 2 (wf i)))]], .int .i64 (IntKind.wrap .i64 (pc + (1 : Int)))]) else False else False else False else False else False else False else False
 else False else False else False else False else False else False else False else False else False else False else False else False else False else False else False
 else False else False else False
else False) := by kernel_rfl
theorem r_s1_6 (x : Bool) (n : Nat) (f : Nat → XV) (sz : Int) (y : Bool) (m : Nat) (d : Nat → XV) (en tk ts tp st : Int) (rg : Nat → XV) (xm : Bool) (nm : Nat) (mm : Nat → XV) (xw : Bool) (nw : Nat) (wf : Nat → XV) (pc : Int) (K : XV → Prop) : (quietGo (TQ 6) 80 (callI (TQ 6) 80 20) 20 [xPr x n f sz y m d, xRe en tk ts tp st rg xm nm mm xw nw wf, .int .i64 pc] K) = (bif decide (nm * 1 ≤ 140737488355328) then bif allN (fun i => true) nm then bif decide (nw * 24 ≤ 140737488355328) then bif allN (fun i => true) nw then bif
 bif decide (n ≤ 4611686018427387904) then true else !!decide ¬en = 0 then bif bif allN (fun i => true) n then true else !!decide ¬en = 0 then bif bif decide (m ≤
 4611686018427387904) then true else !!decide ¬en = 0 then bif bif decide ¬en = 0 then true else !decide ¬en = 0 then bif bif bif decide ¬en = 0 then true else !prB
 n (o_in fun a => f a) sz m then true else !bif decide ¬en = 0 then true else !prB n (o_in fun a => f a) sz m then bif bif bif decide ¬en = 0 then true else !prB
 n (o_in fun a => f a) sz m then true else decide ¬(↑nm : Int) = sz then bif decide (nm ≤ nm) then bif decide (nw ≤ nw) then K (.tup [.agg 23 [.int .i64 en, .agg
 3 [.int .i64 tk, .int .i64 ts, .int .i64 tp], .int .i64 st, .tab 16 1 (o_rg fun a => rg a), .row false 1 nm fun i => .int .u8 (asN (mm i)), .row false 3 nw fun i
 => .agg 3 [.int .i64 (asN (fld 0 (wf i))), .int .i64 (asN (fld 1 (wf i))), .int .u32 (asN (fld 2 (wf i)))]], .int .i64 pc]) else False else False else bif bif decide
 (pc < 0) then true else !decide (pc < 0) then bif bif decide (pc < 0) then true else decide (pc ≥ (↑n : Int)) then bif decide (nm ≤ nm) then bif decide (nw ≤ nw)
 then K (.tup [.agg 23 [.int .i64 2, .agg 3 [.int .i64 4, .int .i64 st, .int .i64 pc], .int .i64 st, .tab 16 1 (o_rg fun a => rg a), .row false 1 nm fun i => .int
 .u8 (asN (mm i)), .row false 3 nw fun i => .agg 3 [.int .i64 (asN (fld 0 (wf i))), .int .i64 (asN (fld 1 (wf i))), .int .u32 (asN (fld 2 (wf i)))]], .int .i64 pc])
 else False else False else bif decide (0 ≤ pc) then bif decide (pc < (↑n : Int)) then bif decide (fmI (asN (fld 0 (f (Int.toNat pc)))) = 6) then bif decide (nm ≤
 nm) then bif decide (nw ≤ nw) then bif decide (0 ≤ asN (fld 2 (f (Int.toNat pc)))) then bif decide (asN (fld 2 (f (Int.toNat pc))) ≤ 15) then bif decide (nm ≤ nm)
 then bif decide (nw ≤ nw) then bif decide (0 ≤ asN (fld 3 (f (Int.toNat pc)))) then bif decide (asN (fld 3 (f (Int.toNat pc))) ≤ 15) then bif decide (0 ≤ vlI (o_rg
 fun a => rg a) (asN (fld 2 (f (Int.toNat pc))))) then bif decide (vlI (o_rg fun a => rg a) (asN (fld 2 (f (Int.toNat pc)))) ≤ 4294967295) then bif decide (0 ≤ vlI
 (o_rg fun a => rg a) (asN (fld 3 (f (Int.toNat pc))))) then bif decide (vlI (o_rg fun a => rg a) (asN (fld 3 (f (Int.toNat pc)))) ≤ 4294967295) then bif tkB (asN
 (fld 0 (f (Int.toNat pc)))) (vlI (o_rg fun a => rg a) (asN (fld 2 (f (Int.toNat pc))))) (vlI (o_rg fun a => rg a) (asN (fld 3 (f (Int.toNat pc))))) then bif decide
 (nm ≤ nm) then bif decide (nw ≤ nw) then K (.tup [.agg 23 [.int .i64 en, .agg 3 [.int .i64 tk, .int .i64 ts, .int .i64 tp], .int .i64 (IntKind.wrap .i64 (st + (1
 : Int))), .tab 16 1 (o_rg fun a => rg a), .row false 1 nm fun i => .int .u8 (asN (mm i)), .row false 3 nw fun i => .agg 3 [.int .i64 (asN (fld 0 (wf i))), .int .i64
 (asN (fld 1 (wf i))), .int .u32 (asN (fld 2 (wf i)))]], .int .i64 (IntKind.wrap .i64 (pc + asN (fld 4 (f (Int.toNat pc)))))]) else False else False else bif decide
 (nm ≤ nm) then bif decide (nw ≤ nw) then K (.tup [.agg 23 [.int .i64 en, .agg 3 [.int .i64 tk, .int .i64 ts, .int .i64 tp], .int .i64 (IntKind.wrap .i64 (st + (1
 : Int))), .tab 16 1 (o_rg fun a => rg a), .row false 1 nm fun i => .int .u8 (asN (mm i)), .row false 3 nw fun i => .agg 3 [.int .i64 (asN (fld 0 (wf i))), .int .i64
 (asN (fld 1 (wf i))), .int .u32 (asN (fld 2 (wf i)))]], .int .i64 (IntKind.wrap .i64 (pc + (1 : Int)))]) else False else False else False else False else False else
 False else False else False else False else False else False else False else False else False else False else False else False else False else False else False else
 False else False else False else False else False else False
else False) := by kernel_rfl
theorem r_s1_7 (x : Bool) (n : Nat) (f : Nat → XV) (sz : Int) (y : Bool) (m : Nat) (d : Nat → XV) (en tk ts tp st : Int) (rg : Nat → XV) (xm : Bool) (nm : Nat) (mm : Nat → XV) (xw : Bool) (nw : Nat) (wf : Nat → XV) (pc : Int) (K : XV → Prop) : (quietGo (TQ 7) 80 (callI (TQ 7) 80 20) 20 [xPr x n f sz y m d, xRe en tk ts tp st rg xm nm mm xw nw wf, .int .i64 pc] K) = (bif decide (nm * 1 ≤ 140737488355328) then bif allN (fun i => true) nm then bif decide (nw * 24 ≤ 140737488355328) then bif allN (fun i => true) nw then bif
 bif decide (n ≤ 4611686018427387904) then true else !!decide ¬en = 0 then bif bif allN (fun i => true) n then true else !!decide ¬en = 0 then bif bif decide (m ≤
 4611686018427387904) then true else !!decide ¬en = 0 then bif bif decide ¬en = 0 then true else !decide ¬en = 0 then bif bif bif decide ¬en = 0 then true else !prB
 n (o_in fun a => f a) sz m then true else !bif decide ¬en = 0 then true else !prB n (o_in fun a => f a) sz m then bif bif bif decide ¬en = 0 then true else !prB
 n (o_in fun a => f a) sz m then true else decide ¬(↑nm : Int) = sz then bif decide (nm ≤ nm) then bif decide (nw ≤ nw) then K (.tup [.agg 23 [.int .i64 en, .agg
 3 [.int .i64 tk, .int .i64 ts, .int .i64 tp], .int .i64 st, .tab 16 1 (o_rg fun a => rg a), .row false 1 nm fun i => .int .u8 (asN (mm i)), .row false 3 nw fun i
 => .agg 3 [.int .i64 (asN (fld 0 (wf i))), .int .i64 (asN (fld 1 (wf i))), .int .u32 (asN (fld 2 (wf i)))]], .int .i64 pc]) else False else False else bif bif decide
 (pc < 0) then true else !decide (pc < 0) then bif bif decide (pc < 0) then true else decide (pc ≥ (↑n : Int)) then bif decide (nm ≤ nm) then bif decide (nw ≤ nw)
 then K (.tup [.agg 23 [.int .i64 2, .agg 3 [.int .i64 4, .int .i64 st, .int .i64 pc], .int .i64 st, .tab 16 1 (o_rg fun a => rg a), .row false 1 nm fun i => .int
 .u8 (asN (mm i)), .row false 3 nw fun i => .agg 3 [.int .i64 (asN (fld 0 (wf i))), .int .i64 (asN (fld 1 (wf i))), .int .u32 (asN (fld 2 (wf i)))]], .int .i64 pc])
 else False else False else bif decide (0 ≤ pc) then bif decide (pc < (↑n : Int)) then bif decide (fmI (asN (fld 0 (f (Int.toNat pc)))) = 7) then bif decide (nm ≤
 nm) then bif decide (nw ≤ nw) then K (.tup [.agg 23 [.int .i64 en, .agg 3 [.int .i64 tk, .int .i64 ts, .int .i64 tp], .int .i64 (IntKind.wrap .i64 (st + (1 : Int))),
 .tab 16 1 (o_rg fun a => rg a), .row false 1 nm fun i => .int .u8 (asN (mm i)), .row false 3 nw fun i => .agg 3 [.int .i64 (asN (fld 0 (wf i))), .int .i64 (asN (fld
 1 (wf i))), .int .u32 (asN (fld 2 (wf i)))]], .int .i64 (IntKind.wrap .i64 (pc + asN (fld 4 (f (Int.toNat pc)))))]) else False else False else False else False else
 False else False else False else False else False else False else False else False else False else False
else False) := by kernel_rfl
theorem r_s1_8 (x : Bool) (n : Nat) (f : Nat → XV) (sz : Int) (y : Bool) (m : Nat) (d : Nat → XV) (en tk ts tp st : Int) (rg : Nat → XV) (xm : Bool) (nm : Nat) (mm : Nat → XV) (xw : Bool) (nw : Nat) (wf : Nat → XV) (pc : Int) (K : XV → Prop) : (quietGo (TQ 8) 80 (callI (TQ 8) 80 20) 20 [xPr x n f sz y m d, xRe en tk ts tp st rg xm nm mm xw nw wf, .int .i64 pc] K) = (bif decide (nm * 1 ≤ 140737488355328) then bif allN (fun i => true) nm then bif decide (nw * 24 ≤ 140737488355328) then bif allN (fun i => true) nw then bif
 bif decide (n ≤ 4611686018427387904) then true else !!decide ¬en = 0 then bif bif allN (fun i => true) n then true else !!decide ¬en = 0 then bif bif decide (m ≤
 4611686018427387904) then true else !!decide ¬en = 0 then bif bif decide ¬en = 0 then true else !decide ¬en = 0 then bif bif bif decide ¬en = 0 then true else !prB
 n (o_in fun a => f a) sz m then true else !bif decide ¬en = 0 then true else !prB n (o_in fun a => f a) sz m then bif bif bif decide ¬en = 0 then true else !prB
 n (o_in fun a => f a) sz m then true else decide ¬(↑nm : Int) = sz then bif decide (nm ≤ nm) then bif decide (nw ≤ nw) then K (.tup [.agg 23 [.int .i64 en, .agg
 3 [.int .i64 tk, .int .i64 ts, .int .i64 tp], .int .i64 st, .tab 16 1 (o_rg fun a => rg a), .row false 1 nm fun i => .int .u8 (asN (mm i)), .row false 3 nw fun i
 => .agg 3 [.int .i64 (asN (fld 0 (wf i))), .int .i64 (asN (fld 1 (wf i))), .int .u32 (asN (fld 2 (wf i)))]], .int .i64 pc]) else False else False else bif bif decide
 (pc < 0) then true else !decide (pc < 0) then bif bif decide (pc < 0) then true else decide (pc ≥ (↑n : Int)) then bif decide (nm ≤ nm) then bif decide (nw ≤ nw)
 then K (.tup [.agg 23 [.int .i64 2, .agg 3 [.int .i64 4, .int .i64 st, .int .i64 pc], .int .i64 st, .tab 16 1 (o_rg fun a => rg a), .row false 1 nm fun i => .int
 .u8 (asN (mm i)), .row false 3 nw fun i => .agg 3 [.int .i64 (asN (fld 0 (wf i))), .int .i64 (asN (fld 1 (wf i))), .int .u32 (asN (fld 2 (wf i)))]], .int .i64 pc])
 else False else False else bif decide (0 ≤ pc) then bif decide (pc < (↑n : Int)) then bif decide (fmI (asN (fld 0 (f (Int.toNat pc)))) = 8) then bif decide (nm ≤
 nm) then bif decide (nw ≤ nw) then K (.tup [.agg 23 [.int .i64 1, .agg 3 [.int .i64 tk, .int .i64 ts, .int .i64 tp], .int .i64 (IntKind.wrap .i64 (st + (1 : Int))),
 .tab 16 1 (o_rg fun a => rg a), .row false 1 nm fun i => .int .u8 (asN (mm i)), .row false 3 nw fun i => .agg 3 [.int .i64 (asN (fld 0 (wf i))), .int .i64 (asN (fld
 1 (wf i))), .int .u32 (asN (fld 2 (wf i)))]], .int .i64 pc]) else False else False else False else False else False else False else False else False else False else
 False else False else False else False else False
else False) := by kernel_rfl
theorem r_s1_51 (x : Bool) (n : Nat) (f : Nat → XV) (sz : Int) (y : Bool) (m : Nat) (d : Nat → XV) (en tk ts tp st : Int) (rg : Nat → XV) (xm : Bool) (nm : Nat) (mm : Nat → XV) (xw : Bool) (nw : Nat) (wf : Nat → XV) (pc : Int) (K : XV → Prop) : (quietGo (TQs 1) 80 (callI (TQs 1) 80 20) 20 [xPr x n f sz y m d, xRe en tk ts tp st rg xm nm mm xw nw wf, .int .i64 pc] K) = (bif decide (nm * 1 ≤ 140737488355328) then bif allN (fun i => true) nm then bif decide (nw * 24 ≤ 140737488355328) then bif allN (fun i => true) nw then bif
 bif decide (n ≤ 4611686018427387904) then true else !!decide ¬en = 0 then bif bif allN (fun i => true) n then true else !!decide ¬en = 0 then bif bif decide (m ≤
 4611686018427387904) then true else !!decide ¬en = 0 then bif bif decide ¬en = 0 then true else !decide ¬en = 0 then bif bif bif decide ¬en = 0 then true else !prB
 n (o_in fun a => f a) sz m then true else !bif decide ¬en = 0 then true else !prB n (o_in fun a => f a) sz m then bif bif bif decide ¬en = 0 then true else !prB
 n (o_in fun a => f a) sz m then true else decide ¬(↑nm : Int) = sz then bif decide (nm ≤ nm) then bif decide (nw ≤ nw) then K (.tup [.agg 23 [.int .i64 en, .agg
 3 [.int .i64 tk, .int .i64 ts, .int .i64 tp], .int .i64 st, .tab 16 1 (o_rg fun a => rg a), .row false 1 nm fun i => .int .u8 (asN (mm i)), .row false 3 nw fun i
 => .agg 3 [.int .i64 (asN (fld 0 (wf i))), .int .i64 (asN (fld 1 (wf i))), .int .u32 (asN (fld 2 (wf i)))]], .int .i64 pc]) else False else False else bif bif decide
 (pc < 0) then true else !decide (pc < 0) then bif bif decide (pc < 0) then true else decide (pc ≥ (↑n : Int)) then bif decide (nm ≤ nm) then bif decide (nw ≤ nw)
 then K (.tup [.agg 23 [.int .i64 2, .agg 3 [.int .i64 4, .int .i64 st, .int .i64 pc], .int .i64 st, .tab 16 1 (o_rg fun a => rg a), .row false 1 nm fun i => .int
 .u8 (asN (mm i)), .row false 3 nw fun i => .agg 3 [.int .i64 (asN (fld 0 (wf i))), .int .i64 (asN (fld 1 (wf i))), .int .u32 (asN (fld 2 (wf i)))]], .int .i64 pc])
 else False else False else bif decide (0 ≤ pc) then bif decide (pc < (↑n : Int)) then bif decide (fmI (asN (fld 0 (f (Int.toNat pc)))) = 5) then bif decide (szI
 (asN (fld 0 (f (Int.toNat pc)))) = 1) then bif decide (nm ≤ nm) then bif decide (nw ≤ nw) then bif decide (0 ≤ asN (fld 2 (f (Int.toNat pc)))) then bif decide (asN
 (fld 2 (f (Int.toNat pc))) ≤ 15) then bif decide ¬chkI (1 : Int) (IntKind.wrap .u32 (vlI (o_rg fun a => rg a) (asN (fld 2 (f (Int.toNat pc)))) + IntKind.wrap .u32
 (asN (fld 4 (f (Int.toNat pc)))))) (↑nm : Int) = (0 : Int) then bif decide ¬chkI (1 : Int) (IntKind.wrap .u32 (vlI (o_rg fun a => rg a) (asN (fld 2 (f (Int.toNat
 pc)))) + IntKind.wrap .u32 (asN (fld 4 (f (Int.toNat pc)))))) (↑nm : Int) = (0 : Int) then bif decide (nm ≤ nm) then bif decide (nw ≤ nw) then K (.tup [.agg 23 [.int
 .i64 2, .agg 3 [.int .i64 (chkI (1 : Int) (IntKind.wrap .u32 (vlI (o_rg fun a => rg a) (asN (fld 2 (f (Int.toNat pc)))) + IntKind.wrap .u32 (asN (fld 4 (f (Int.toNat
 pc)))))) (↑nm : Int)), .int .i64 st, .int .i64 pc], .int .i64 st, .tab 16 1 (o_rg fun a => rg a), .row false 1 nm fun i => .int .u8 (asN (mm i)), .row false 3 nw
 fun i => .agg 3 [.int .i64 (asN (fld 0 (wf i))), .int .i64 (asN (fld 1 (wf i))), .int .u32 (asN (fld 2 (wf i)))]], .int .i64 pc]) else False else False else bif
 decide (nm ≤ nm) then bif decide (nw ≤ nw) then K (.tup [.agg 23 [.int .i64 en, .agg 3 [.int .i64 tk, .int .i64 ts, .int .i64 tp], .int .i64 (IntKind.wrap .i64 (st
 + (1 : Int))), .tab 16 1 (o_rg fun a => rg a), .row false 1 nm fun i => .int .u8 (asN (mm i)), .row false 3 nw fun i => .agg 3 [.int .i64 (asN (fld 0 (wf i))), .int
 .i64 (asN (fld 1 (wf i))), .int .u32 (asN (fld 2 (wf i)))]], .int .i64 (IntKind.wrap .i64 (pc + (1 : Int)))]) else False else False else bif decide (fmI (asN (fld
 0 (f (Int.toNat pc)))) = 5) then bif decide (nm ≤ nm) then bif decide (nw ≤ nw) then bif decide (0 ≤ asN (fld 3 (f (Int.toNat pc)))) then bif decide (asN (fld 3
 (f (Int.toNat pc))) ≤ 15) then bif bif decide (IntKind.wrap .i64 (IntKind.wrap .u32 (vlI (o_rg fun a => rg a) (asN (fld 2 (f (Int.toNat pc)))) + IntKind.wrap .u32
 (asN (fld 4 (f (Int.toNat pc)))))) < (0 : Int)) then true else !decide (IntKind.wrap .i64 (IntKind.wrap .u32 (vlI (o_rg fun a => rg a) (asN (fld 2 (f (Int.toNat
 pc)))) + IntKind.wrap .u32 (asN (fld 4 (f (Int.toNat pc)))))) < (0 : Int)) then bif bif bif decide (IntKind.wrap .i64 (IntKind.wrap .u32 (vlI (o_rg fun a => rg a)
 (asN (fld 2 (f (Int.toNat pc)))) + IntKind.wrap .u32 (asN (fld 4 (f (Int.toNat pc)))))) < (0 : Int)) then true else decide (IntKind.wrap .i64 (IntKind.wrap .u32
 (vlI (o_rg fun a => rg a) (asN (fld 2 (f (Int.toNat pc)))) + IntKind.wrap .u32 (asN (fld 4 (f (Int.toNat pc)))))) > (4294967295 : Int)) then true else !bif decide
 (IntKind.wrap .i64 (IntKind.wrap .u32 (vlI (o_rg fun a => rg a) (asN (fld 2 (f (Int.toNat pc)))) + IntKind.wrap .u32 (asN (fld 4 (f (Int.toNat pc)))))) < (0 : Int))
 then true else decide (IntKind.wrap .i64 (IntKind.wrap .u32 (vlI (o_rg fun a => rg a) (asN (fld 2 (f (Int.toNat pc)))) + IntKind.wrap .u32 (asN (fld 4 (f (Int.toNat
 pc)))))) > (4294967295 : Int)) then bif bif bif decide (IntKind.wrap .i64 (IntKind.wrap .u32 (vlI (o_rg fun a => rg a) (asN (fld 2 (f (Int.toNat pc)))) + IntKind.wrap
 .u32 (asN (fld 4 (f (Int.toNat pc)))))) < (0 : Int)) then true else decide (IntKind.wrap .i64 (IntKind.wrap .u32 (vlI (o_rg fun a => rg a) (asN (fld 2 (f (Int.toNat
 pc)))) + IntKind.wrap .u32 (asN (fld 4 (f (Int.toNat pc)))))) > (4294967295 : Int)) then true else decide ¬chkI (1 : Int) (IntKind.wrap .u32 (IntKind.wrap .i64 (IntKind.wrap
 .u32 (vlI (o_rg fun a => rg a) (asN (fld 2 (f (Int.toNat pc)))) + IntKind.wrap .u32 (asN (fld 4 (f (Int.toNat pc)))))))) (↑nm : Int) = (0 : Int) then bif decide
 (nw ≤ nw) then bif decide (pl nw 1 * 24 ≤ 140737488355328) then bif decide (nm ≤ nm) then bif decide (pl nw 1 ≤ pl nw 1) then K (.tup [.agg 23 [.int .i64 en, .agg
 3 [.int .i64 tk, .int .i64 ts, .int .i64 tp], .int .i64 (IntKind.wrap .i64 (st + (1 : Int))), .tab 16 1 (o_rg fun a => rg a), .row false 1 nm fun i => .int .u8 (asN
 (mm i)), .row false 3 (pl nw 1) fun i => .agg 3 [.int .i64 (bif decide (i < nw) then asN (fld 0 (wf i)) else IntKind.wrap .i64 (IntKind.wrap .u32 (vlI (o_rg fun
 a => rg a) (asN (fld 2 (f (Int.toNat pc)))) + IntKind.wrap .u32 (asN (fld 4 (f (Int.toNat pc))))))), .int .i64 (bif decide (i < nw) then asN (fld 1 (wf i)) else
 (1 : Int)), .int .u32 (bif decide (i < nw) then asN (fld 2 (wf i)) else bitsI .and .u32 (vlI (o_rg fun a => rg a) (asN (fld 3 (f (Int.toNat pc))))) (255 : Int))]],
 .int .i64 (IntKind.wrap .i64 (pc + (1 : Int)))]) else False else False else False else False else bif decide ((0 : Int) ≤ IntKind.wrap .i64 (IntKind.wrap .i64 (IntKind.wrap
 .u32 (vlI (o_rg fun a => rg a) (asN (fld 2 (f (Int.toNat pc)))) + IntKind.wrap .u32 (asN (fld 4 (f (Int.toNat pc)))))) + (0 : Int))) then bif decide (IntKind.wrap
 .i64 (IntKind.wrap .i64 (IntKind.wrap .u32 (vlI (o_rg fun a => rg a) (asN (fld 2 (f (Int.toNat pc)))) + IntKind.wrap .u32 (asN (fld 4 (f (Int.toNat pc)))))) + (0
 : Int)) < (↑nm : Int)) then bif Nat.beq (Int.toNat (IntKind.wrap .i64 (IntKind.wrap .i64 (IntKind.wrap .u32 (vlI (o_rg fun a => rg a) (asN (fld 2 (f (Int.toNat pc))))
 + IntKind.wrap .u32 (asN (fld 4 (f (Int.toNat pc)))))) + (0 : Int))) * 1) (Int.toNat (IntKind.wrap .i64 (IntKind.wrap .i64 (IntKind.wrap .u32 (vlI (o_rg fun a =>
 rg a) (asN (fld 2 (f (Int.toNat pc)))) + IntKind.wrap .u32 (asN (fld 4 (f (Int.toNat pc)))))) + (0 : Int))) * 1) then bif decide (Int.toNat (IntKind.wrap .i64 (IntKind.wrap
 .i64 (IntKind.wrap .u32 (vlI (o_rg fun a => rg a) (asN (fld 2 (f (Int.toNat pc)))) + IntKind.wrap .u32 (asN (fld 4 (f (Int.toNat pc)))))) + (0 : Int))) < nm) then
 bif decide (Int.toNat (IntKind.wrap .i64 (IntKind.wrap .i64 (IntKind.wrap .u32 (vlI (o_rg fun a => rg a) (asN (fld 2 (f (Int.toNat pc)))) + IntKind.wrap .u32 (asN
 (fld 4 (f (Int.toNat pc)))))) + (0 : Int))) < nm) then bif decide (nw ≤ nw) then bif decide (pl nw 1 * 24 ≤ 140737488355328) then bif decide (nm ≤ nm) then bif decide
 (pl nw 1 ≤ pl nw 1) then K (.tup [.agg 23 [.int .i64 en, .agg 3 [.int .i64 tk, .int .i64 ts, .int .i64 tp], .int .i64 (IntKind.wrap .i64 (st + (1 : Int))), .tab
 16 1 (o_rg fun a => rg a), .row false 1 nm fun i => .int .u8 (bif Nat.beq i (Int.toNat (IntKind.wrap .i64 (IntKind.wrap .i64 (IntKind.wrap .u32 (vlI (o_rg fun a
 => rg a) (asN (fld 2 (f (Int.toNat pc)))) + IntKind.wrap .u32 (asN (fld 4 (f (Int.toNat pc)))))) + (0 : Int)))) then IntKind.wrap .u8 (Int.fdiv (bitsI .and .u32
 (vlI (o_rg fun a => rg a) (asN (fld 3 (f (Int.toNat pc))))) (255 : Int)) (1 : Int)) else asN (mm i)), .row false 3 (pl nw 1) fun i => .agg 3 [.int .i64 (bif decide
 (i < nw) then asN (fld 0 (wf i)) else IntKind.wrap .i64 (IntKind.wrap .u32 (vlI (o_rg fun a => rg a) (asN (fld 2 (f (Int.toNat pc)))) + IntKind.wrap .u32 (asN (fld
 4 (f (Int.toNat pc))))))), .int .i64 (bif decide (i < nw) then asN (fld 1 (wf i)) else (1 : Int)), .int .u32 (bif decide (i < nw) then asN (fld 2 (wf i)) else bitsI
 .and .u32 (vlI (o_rg fun a => rg a) (asN (fld 3 (f (Int.toNat pc))))) (255 : Int))]], .int .i64 (IntKind.wrap .i64 (pc + (1 : Int)))]) else False else False else
 False else False else False else False else False else False else False else False else False else False else False else False else False else False else False else
 False else False else False else False else False else False else False else False else False else False else False else False else False else False else False else
 False
else False) := by kernel_rfl
theorem r_s1_52 (x : Bool) (n : Nat) (f : Nat → XV) (sz : Int) (y : Bool) (m : Nat) (d : Nat → XV) (en tk ts tp st : Int) (rg : Nat → XV) (xm : Bool) (nm : Nat) (mm : Nat → XV) (xw : Bool) (nw : Nat) (wf : Nat → XV) (pc : Int) (K : XV → Prop) : (quietGo (TQs 2) 80 (callI (TQs 2) 80 20) 20 [xPr x n f sz y m d, xRe en tk ts tp st rg xm nm mm xw nw wf, .int .i64 pc] K) = (bif decide (nm * 1 ≤ 140737488355328) then bif allN (fun i => true) nm then bif decide (nw * 24 ≤ 140737488355328) then bif allN (fun i => true) nw then bif
 bif decide (n ≤ 4611686018427387904) then true else !!decide ¬en = 0 then bif bif allN (fun i => true) n then true else !!decide ¬en = 0 then bif bif decide (m ≤
 4611686018427387904) then true else !!decide ¬en = 0 then bif bif decide ¬en = 0 then true else !decide ¬en = 0 then bif bif bif decide ¬en = 0 then true else !prB
 n (o_in fun a => f a) sz m then true else !bif decide ¬en = 0 then true else !prB n (o_in fun a => f a) sz m then bif bif bif decide ¬en = 0 then true else !prB
 n (o_in fun a => f a) sz m then true else decide ¬(↑nm : Int) = sz then bif decide (nm ≤ nm) then bif decide (nw ≤ nw) then K (.tup [.agg 23 [.int .i64 en, .agg
 3 [.int .i64 tk, .int .i64 ts, .int .i64 tp], .int .i64 st, .tab 16 1 (o_rg fun a => rg a), .row false 1 nm fun i => .int .u8 (asN (mm i)), .row false 3 nw fun i
 => .agg 3 [.int .i64 (asN (fld 0 (wf i))), .int .i64 (asN (fld 1 (wf i))), .int .u32 (asN (fld 2 (wf i)))]], .int .i64 pc]) else False else False else bif bif decide
 (pc < 0) then true else !decide (pc < 0) then bif bif decide (pc < 0) then true else decide (pc ≥ (↑n : Int)) then bif decide (nm ≤ nm) then bif decide (nw ≤ nw)
 then K (.tup [.agg 23 [.int .i64 2, .agg 3 [.int .i64 4, .int .i64 st, .int .i64 pc], .int .i64 st, .tab 16 1 (o_rg fun a => rg a), .row false 1 nm fun i => .int
 .u8 (asN (mm i)), .row false 3 nw fun i => .agg 3 [.int .i64 (asN (fld 0 (wf i))), .int .i64 (asN (fld 1 (wf i))), .int .u32 (asN (fld 2 (wf i)))]], .int .i64 pc])
 else False else False else bif decide (0 ≤ pc) then bif decide (pc < (↑n : Int)) then bif decide (fmI (asN (fld 0 (f (Int.toNat pc)))) = 5) then bif decide (szI
 (asN (fld 0 (f (Int.toNat pc)))) = 2) then bif decide (nm ≤ nm) then bif decide (nw ≤ nw) then bif decide (0 ≤ asN (fld 2 (f (Int.toNat pc)))) then bif decide (asN
 (fld 2 (f (Int.toNat pc))) ≤ 15) then bif decide ¬chkI (2 : Int) (IntKind.wrap .u32 (vlI (o_rg fun a => rg a) (asN (fld 2 (f (Int.toNat pc)))) + IntKind.wrap .u32
 (asN (fld 4 (f (Int.toNat pc)))))) (↑nm : Int) = (0 : Int) then bif decide ¬chkI (2 : Int) (IntKind.wrap .u32 (vlI (o_rg fun a => rg a) (asN (fld 2 (f (Int.toNat
 pc)))) + IntKind.wrap .u32 (asN (fld 4 (f (Int.toNat pc)))))) (↑nm : Int) = (0 : Int) then bif decide (nm ≤ nm) then bif decide (nw ≤ nw) then K (.tup [.agg 23 [.int
 .i64 2, .agg 3 [.int .i64 (chkI (2 : Int) (IntKind.wrap .u32 (vlI (o_rg fun a => rg a) (asN (fld 2 (f (Int.toNat pc)))) + IntKind.wrap .u32 (asN (fld 4 (f (Int.toNat
 pc)))))) (↑nm : Int)), .int .i64 st, .int .i64 pc], .int .i64 st, .tab 16 1 (o_rg fun a => rg a), .row false 1 nm fun i => .int .u8 (asN (mm i)), .row false 3 nw
 fun i => .agg 3 [.int .i64 (asN (fld 0 (wf i))), .int .i64 (asN (fld 1 (wf i))), .int .u32 (asN (fld 2 (wf i)))]], .int .i64 pc]) else False else False else bif
 decide (nm ≤ nm) then bif decide (nw ≤ nw) then K (.tup [.agg 23 [.int .i64 en, .agg 3 [.int .i64 tk, .int .i64 ts, .int .i64 tp], .int .i64 (IntKind.wrap .i64 (st
 + (1 : Int))), .tab 16 1 (o_rg fun a => rg a), .row false 1 nm fun i => .int .u8 (asN (mm i)), .row false 3 nw fun i => .agg 3 [.int .i64 (asN (fld 0 (wf i))), .int
 .i64 (asN (fld 1 (wf i))), .int .u32 (asN (fld 2 (wf i)))]], .int .i64 (IntKind.wrap .i64 (pc + (1 : Int)))]) else False else False else bif decide (fmI (asN (fld
 0 (f (Int.toNat pc)))) = 5) then bif decide (nm ≤ nm) then bif decide (nw ≤ nw) then bif decide (0 ≤ asN (fld 3 (f (Int.toNat pc)))) then bif decide (asN (fld 3
 (f (Int.toNat pc))) ≤ 15) then bif bif decide (IntKind.wrap .i64 (IntKind.wrap .u32 (vlI (o_rg fun a => rg a) (asN (fld 2 (f (Int.toNat pc)))) + IntKind.wrap .u32
 (asN (fld 4 (f (Int.toNat pc)))))) < (0 : Int)) then true else !decide (IntKind.wrap .i64 (IntKind.wrap .u32 (vlI (o_rg fun a => rg a) (asN (fld 2 (f (Int.toNat
 pc)))) + IntKind.wrap .u32 (asN (fld 4 (f (Int.toNat pc)))))) < (0 : Int)) then bif bif bif decide (IntKind.wrap .i64 (IntKind.wrap .u32 (vlI (o_rg fun a => rg a)
 (asN (fld 2 (f (Int.toNat pc)))) + IntKind.wrap .u32 (asN (fld 4 (f (Int.toNat pc)))))) < (0 : Int)) then true else decide (IntKind.wrap .i64 (IntKind.wrap .u32
 (vlI (o_rg fun a => rg a) (asN (fld 2 (f (Int.toNat pc)))) + IntKind.wrap .u32 (asN (fld 4 (f (Int.toNat pc)))))) > (4294967295 : Int)) then true else !bif decide
 (IntKind.wrap .i64 (IntKind.wrap .u32 (vlI (o_rg fun a => rg a) (asN (fld 2 (f (Int.toNat pc)))) + IntKind.wrap .u32 (asN (fld 4 (f (Int.toNat pc)))))) < (0 : Int))
 then true else decide (IntKind.wrap .i64 (IntKind.wrap .u32 (vlI (o_rg fun a => rg a) (asN (fld 2 (f (Int.toNat pc)))) + IntKind.wrap .u32 (asN (fld 4 (f (Int.toNat
 pc)))))) > (4294967295 : Int)) then bif bif bif decide (IntKind.wrap .i64 (IntKind.wrap .u32 (vlI (o_rg fun a => rg a) (asN (fld 2 (f (Int.toNat pc)))) + IntKind.wrap
 .u32 (asN (fld 4 (f (Int.toNat pc)))))) < (0 : Int)) then true else decide (IntKind.wrap .i64 (IntKind.wrap .u32 (vlI (o_rg fun a => rg a) (asN (fld 2 (f (Int.toNat
 pc)))) + IntKind.wrap .u32 (asN (fld 4 (f (Int.toNat pc)))))) > (4294967295 : Int)) then true else decide ¬chkI (2 : Int) (IntKind.wrap .u32 (IntKind.wrap .i64 (IntKind.wrap
 .u32 (vlI (o_rg fun a => rg a) (asN (fld 2 (f (Int.toNat pc)))) + IntKind.wrap .u32 (asN (fld 4 (f (Int.toNat pc)))))))) (↑nm : Int) = (0 : Int) then bif decide
 (nw ≤ nw) then bif decide (pl nw 1 * 24 ≤ 140737488355328) then bif decide (nm ≤ nm) then bif decide (pl nw 1 ≤ pl nw 1) then K (.tup [.agg 23 [.int .i64 en, .agg
 3 [.int .i64 tk, .int .i64 ts, .int .i64 tp], .int .i64 (IntKind.wrap .i64 (st + (1 : Int))), .tab 16 1 (o_rg fun a => rg a), .row false 1 nm fun i => .int .u8 (asN
 (mm i)), .row false 3 (pl nw 1) fun i => .agg 3 [.int .i64 (bif decide (i < nw) then asN (fld 0 (wf i)) else IntKind.wrap .i64 (IntKind.wrap .u32 (vlI (o_rg fun
 a => rg a) (asN (fld 2 (f (Int.toNat pc)))) + IntKind.wrap .u32 (asN (fld 4 (f (Int.toNat pc))))))), .int .i64 (bif decide (i < nw) then asN (fld 1 (wf i)) else
 (2 : Int)), .int .u32 (bif decide (i < nw) then asN (fld 2 (wf i)) else bitsI .and .u32 (vlI (o_rg fun a => rg a) (asN (fld 3 (f (Int.toNat pc))))) (65535 : Int))]],
 .int .i64 (IntKind.wrap .i64 (pc + (1 : Int)))]) else False else False else False else False else bif decide ((0 : Int) ≤ IntKind.wrap .i64 (IntKind.wrap .i64 (IntKind.wrap
 .u32 (vlI (o_rg fun a => rg a) (asN (fld 2 (f (Int.toNat pc)))) + IntKind.wrap .u32 (asN (fld 4 (f (Int.toNat pc)))))) + (0 : Int))) then bif decide (IntKind.wrap
 .i64 (IntKind.wrap .i64 (IntKind.wrap .u32 (vlI (o_rg fun a => rg a) (asN (fld 2 (f (Int.toNat pc)))) + IntKind.wrap .u32 (asN (fld 4 (f (Int.toNat pc)))))) + (0
 : Int)) < (↑nm : Int)) then bif Nat.beq (Int.toNat (IntKind.wrap .i64 (IntKind.wrap .i64 (IntKind.wrap .u32 (vlI (o_rg fun a => rg a) (asN (fld 2 (f (Int.toNat pc))))
 + IntKind.wrap .u32 (asN (fld 4 (f (Int.toNat pc)))))) + (0 : Int))) * 1) (Int.toNat (IntKind.wrap .i64 (IntKind.wrap .i64 (IntKind.wrap .u32 (vlI (o_rg fun a =>
 rg a) (asN (fld 2 (f (Int.toNat pc)))) + IntKind.wrap .u32 (asN (fld 4 (f (Int.toNat pc)))))) + (0 : Int))) * 1) then bif decide (Int.toNat (IntKind.wrap .i64 (IntKind.wrap
 .i64 (IntKind.wrap .u32 (vlI (o_rg fun a => rg a) (asN (fld 2 (f (Int.toNat pc)))) + IntKind.wrap .u32 (asN (fld 4 (f (Int.toNat pc)))))) + (0 : Int))) < nm) then
 bif decide (Int.toNat (IntKind.wrap .i64 (IntKind.wrap .i64 (IntKind.wrap .u32 (vlI (o_rg fun a => rg a) (asN (fld 2 (f (Int.toNat pc)))) + IntKind.wrap .u32 (asN
 (fld 4 (f (Int.toNat pc)))))) + (0 : Int))) < nm) then bif decide ((0 : Int) ≤ IntKind.wrap .i64 (IntKind.wrap .i64 (IntKind.wrap .u32 (vlI (o_rg fun a => rg a)
 (asN (fld 2 (f (Int.toNat pc)))) + IntKind.wrap .u32 (asN (fld 4 (f (Int.toNat pc)))))) + (1 : Int))) then bif decide (IntKind.wrap .i64 (IntKind.wrap .i64 (IntKind.wrap
 .u32 (vlI (o_rg fun a => rg a) (asN (fld 2 (f (Int.toNat pc)))) + IntKind.wrap .u32 (asN (fld 4 (f (Int.toNat pc)))))) + (1 : Int)) < (↑nm : Int)) then bif Nat.beq
 (Int.toNat (IntKind.wrap .i64 (IntKind.wrap .i64 (IntKind.wrap .u32 (vlI (o_rg fun a => rg a) (asN (fld 2 (f (Int.toNat pc)))) + IntKind.wrap .u32 (asN (fld 4 (f
 (Int.toNat pc)))))) + (1 : Int))) * 1) (Int.toNat (IntKind.wrap .i64 (IntKind.wrap .i64 (IntKind.wrap .u32 (vlI (o_rg fun a => rg a) (asN (fld 2 (f (Int.toNat pc))))
 + IntKind.wrap .u32 (asN (fld 4 (f (Int.toNat pc)))))) + (1 : Int))) * 1) then bif decide (Int.toNat (IntKind.wrap .i64 (IntKind.wrap .i64 (IntKind.wrap .u32 (vlI
 (o_rg fun a => rg a) (asN (fld 2 (f (Int.toNat pc)))) + IntKind.wrap .u32 (asN (fld 4 (f (Int.toNat pc)))))) + (1 : Int))) < nm) then bif decide (Int.toNat (IntKind.wrap
 .i64 (IntKind.wrap .i64 (IntKind.wrap .u32 (vlI (o_rg fun a => rg a) (asN (fld 2 (f (Int.toNat pc)))) + IntKind.wrap .u32 (asN (fld 4 (f (Int.toNat pc)))))) + (1
 : Int))) < nm) then bif decide (nw ≤ nw) then bif decide (pl nw 1 * 24 ≤ 140737488355328) then bif decide (nm ≤ nm) then bif decide (pl nw 1 ≤ pl nw 1) then K (.tup
 [.agg 23 [.int .i64 en, .agg 3 [.int .i64 tk, .int .i64 ts, .int .i64 tp], .int .i64 (IntKind.wrap .i64 (st + (1 : Int))), .tab 16 1 (o_rg fun a => rg a), .row false
 1 nm fun i => .int .u8 (bif Nat.beq i (Int.toNat (IntKind.wrap .i64 (IntKind.wrap .i64 (IntKind.wrap .u32 (vlI (o_rg fun a => rg a) (asN (fld 2 (f (Int.toNat pc))))
 + IntKind.wrap .u32 (asN (fld 4 (f (Int.toNat pc)))))) + (1 : Int)))) then IntKind.wrap .u8 (Int.fdiv (bitsI .and .u32 (vlI (o_rg fun a => rg a) (asN (fld 3 (f (Int.toNat
 pc))))) (65535 : Int)) (256 : Int)) else bif Nat.beq i (Int.toNat (IntKind.wrap .i64 (IntKind.wrap .i64 (IntKind.wrap .u32 (vlI (o_rg fun a => rg a) (asN (fld 2
 (f (Int.toNat pc)))) + IntKind.wrap .u32 (asN (fld 4 (f (Int.toNat pc)))))) + (0 : Int)))) then IntKind.wrap .u8 (Int.fdiv (bitsI .and .u32 (vlI (o_rg fun a => rg
 a) (asN (fld 3 (f (Int.toNat pc))))) (65535 : Int)) (1 : Int)) else asN (mm i)), .row false 3 (pl nw 1) fun i => .agg 3 [.int .i64 (bif decide (i < nw) then asN
 (fld 0 (wf i)) else IntKind.wrap .i64 (IntKind.wrap .u32 (vlI (o_rg fun a => rg a) (asN (fld 2 (f (Int.toNat pc)))) + IntKind.wrap .u32 (asN (fld 4 (f (Int.toNat
 pc))))))), .int .i64 (bif decide (i < nw) then asN (fld 1 (wf i)) else (2 : Int)), .int .u32 (bif decide (i < nw) then asN (fld 2 (wf i)) else bitsI .and .u32 (vlI
 (o_rg fun a => rg a) (asN (fld 3 (f (Int.toNat pc))))) (65535 : Int))]], .int .i64 (IntKind.wrap .i64 (pc + (1 : Int)))]) else False else False else False else False
 else False else False else False else False else False else False else False else False else False else False else False else False else False else False else False
 else False else False else False else False else False else False else False else False else False else False else False else False else False else False else False
 else False else False else False else False
else False) := by kernel_rfl
theorem r_s1_54 (x : Bool) (n : Nat) (f : Nat → XV) (sz : Int) (y : Bool) (m : Nat) (d : Nat → XV) (en tk ts tp st : Int) (rg : Nat → XV) (xm : Bool) (nm : Nat) (mm : Nat → XV) (xw : Bool) (nw : Nat) (wf : Nat → XV) (pc : Int) (K : XV → Prop) : (quietGo (TQs 4) 80 (callI (TQs 4) 80 20) 20 [xPr x n f sz y m d, xRe en tk ts tp st rg xm nm mm xw nw wf, .int .i64 pc] K) = (bif decide (nm * 1 ≤ 140737488355328) then bif allN (fun i => true) nm then bif decide (nw * 24 ≤ 140737488355328) then bif allN (fun i => true) nw then bif
 bif decide (n ≤ 4611686018427387904) then true else !!decide ¬en = 0 then bif bif allN (fun i => true) n then true else !!decide ¬en = 0 then bif bif decide (m ≤
 4611686018427387904) then true else !!decide ¬en = 0 then bif bif decide ¬en = 0 then true else !decide ¬en = 0 then bif bif bif decide ¬en = 0 then true else !prB
 n (o_in fun a => f a) sz m then true else !bif decide ¬en = 0 then true else !prB n (o_in fun a => f a) sz m then bif bif bif decide ¬en = 0 then true else !prB
 n (o_in fun a => f a) sz m then true else decide ¬(↑nm : Int) = sz then bif decide (nm ≤ nm) then bif decide (nw ≤ nw) then K (.tup [.agg 23 [.int .i64 en, .agg
 3 [.int .i64 tk, .int .i64 ts, .int .i64 tp], .int .i64 st, .tab 16 1 (o_rg fun a => rg a), .row false 1 nm fun i => .int .u8 (asN (mm i)), .row false 3 nw fun i
 => .agg 3 [.int .i64 (asN (fld 0 (wf i))), .int .i64 (asN (fld 1 (wf i))), .int .u32 (asN (fld 2 (wf i)))]], .int .i64 pc]) else False else False else bif bif decide
 (pc < 0) then true else !decide (pc < 0) then bif bif decide (pc < 0) then true else decide (pc ≥ (↑n : Int)) then bif decide (nm ≤ nm) then bif decide (nw ≤ nw)
 then K (.tup [.agg 23 [.int .i64 2, .agg 3 [.int .i64 4, .int .i64 st, .int .i64 pc], .int .i64 st, .tab 16 1 (o_rg fun a => rg a), .row false 1 nm fun i => .int
 .u8 (asN (mm i)), .row false 3 nw fun i => .agg 3 [.int .i64 (asN (fld 0 (wf i))), .int .i64 (asN (fld 1 (wf i))), .int .u32 (asN (fld 2 (wf i)))]], .int .i64 pc])
 else False else False else bif decide (0 ≤ pc) then bif decide (pc < (↑n : Int)) then bif decide (fmI (asN (fld 0 (f (Int.toNat pc)))) = 5) then bif decide (szI
 (asN (fld 0 (f (Int.toNat pc)))) = 4) then bif decide (nm ≤ nm) then bif decide (nw ≤ nw) then bif decide (0 ≤ asN (fld 2 (f (Int.toNat pc)))) then bif decide (asN
 (fld 2 (f (Int.toNat pc))) ≤ 15) then bif decide ¬chkI (4 : Int) (IntKind.wrap .u32 (vlI (o_rg fun a => rg a) (asN (fld 2 (f (Int.toNat pc)))) + IntKind.wrap .u32
 (asN (fld 4 (f (Int.toNat pc)))))) (↑nm : Int) = (0 : Int) then bif decide ¬chkI (4 : Int) (IntKind.wrap .u32 (vlI (o_rg fun a => rg a) (asN (fld 2 (f (Int.toNat
 pc)))) + IntKind.wrap .u32 (asN (fld 4 (f (Int.toNat pc)))))) (↑nm : Int) = (0 : Int) then bif decide (nm ≤ nm) then bif decide (nw ≤ nw) then K (.tup [.agg 23 [.int
 .i64 2, .agg 3 [.int .i64 (chkI (4 : Int) (IntKind.wrap .u32 (vlI (o_rg fun a => rg a) (asN (fld 2 (f (Int.toNat pc)))) + IntKind.wrap .u32 (asN (fld 4 (f (Int.toNat
 pc)))))) (↑nm : Int)), .int .i64 st, .int .i64 pc], .int .i64 st, .tab 16 1 (o_rg fun a => rg a), .row false 1 nm fun i => .int .u8 (asN (mm i)), .row false 3 nw
 fun i => .agg 3 [.int .i64 (asN (fld 0 (wf i))), .int .i64 (asN (fld 1 (wf i))), .int .u32 (asN (fld 2 (wf i)))]], .int .i64 pc]) else False else False else bif
 decide (nm ≤ nm) then bif decide (nw ≤ nw) then K (.tup [.agg 23 [.int .i64 en, .agg 3 [.int .i64 tk, .int .i64 ts, .int .i64 tp], .int .i64 (IntKind.wrap .i64 (st
 + (1 : Int))), .tab 16 1 (o_rg fun a => rg a), .row false 1 nm fun i => .int .u8 (asN (mm i)), .row false 3 nw fun i => .agg 3 [.int .i64 (asN (fld 0 (wf i))), .int
 .i64 (asN (fld 1 (wf i))), .int .u32 (asN (fld 2 (wf i)))]], .int .i64 (IntKind.wrap .i64 (pc + (1 : Int)))]) else False else False else bif decide (fmI (asN (fld
 0 (f (Int.toNat pc)))) = 5) then bif decide (nm ≤ nm) then bif decide (nw ≤ nw) then bif decide (0 ≤ asN (fld 3 (f (Int.toNat pc)))) then bif decide (asN (fld 3
 (f (Int.toNat pc))) ≤ 15) then bif bif decide (IntKind.wrap .i64 (IntKind.wrap .u32 (vlI (o_rg fun a => rg a) (asN (fld 2 (f (Int.toNat pc)))) + IntKind.wrap .u32
 (asN (fld 4 (f (Int.toNat pc)))))) < (0 : Int)) then true else !decide (IntKind.wrap .i64 (IntKind.wrap .u32 (vlI (o_rg fun a => rg a) (asN (fld 2 (f (Int.toNat
 pc)))) + IntKind.wrap .u32 (asN (fld 4 (f (Int.toNat pc)))))) < (0 : Int)) then bif bif bif decide (IntKind.wrap .i64 (IntKind.wrap .u32 (vlI (o_rg fun a => rg a)
 (asN (fld 2 (f (Int.toNat pc)))) + IntKind.wrap .u32 (asN (fld 4 (f (Int.toNat pc)))))) < (0 : Int)) then true else decide (IntKind.wrap .i64 (IntKind.wrap .u32
 (vlI (o_rg fun a => rg a) (asN (fld 2 (f (Int.toNat pc)))) + IntKind.wrap .u32 (asN (fld 4 (f (Int.toNat pc)))))) > (4294967295 : Int)) then true else !bif decide
 (IntKind.wrap .i64 (IntKind.wrap .u32 (vlI (o_rg fun a => rg a) (asN (fld 2 (f (Int.toNat pc)))) + IntKind.wrap .u32 (asN (fld 4 (f (Int.toNat pc)))))) < (0 : Int))
 then true else decide (IntKind.wrap .i64 (IntKind.wrap .u32 (vlI (o_rg fun a => rg a) (asN (fld 2 (f (Int.toNat pc)))) + IntKind.wrap .u32 (asN (fld 4 (f (Int.toNat
 pc)))))) > (4294967295 : Int)) then bif bif bif decide (IntKind.wrap .i64 (IntKind.wrap .u32 (vlI (o_rg fun a => rg a) (asN (fld 2 (f (Int.toNat pc)))) + IntKind.wrap
 .u32 (asN (fld 4 (f (Int.toNat pc)))))) < (0 : Int)) then true else decide (IntKind.wrap .i64 (IntKind.wrap .u32 (vlI (o_rg fun a => rg a) (asN (fld 2 (f (Int.toNat
 pc)))) + IntKind.wrap .u32 (asN (fld 4 (f (Int.toNat pc)))))) > (4294967295 : Int)) then true else decide ¬chkI (4 : Int) (IntKind.wrap .u32 (IntKind.wrap .i64 (IntKind.wrap
 .u32 (vlI (o_rg fun a => rg a) (asN (fld 2 (f (Int.toNat pc)))) + IntKind.wrap .u32 (asN (fld 4 (f (Int.toNat pc)))))))) (↑nm : Int) = (0 : Int) then bif decide
 (nw ≤ nw) then bif decide (pl nw 1 * 24 ≤ 140737488355328) then bif decide (nm ≤ nm) then bif decide (pl nw 1 ≤ pl nw 1) then K (.tup [.agg 23 [.int .i64 en, .agg
 3 [.int .i64 tk, .int .i64 ts, .int .i64 tp], .int .i64 (IntKind.wrap .i64 (st + (1 : Int))), .tab 16 1 (o_rg fun a => rg a), .row false 1 nm fun i => .int .u8 (asN
 (mm i)), .row false 3 (pl nw 1) fun i => .agg 3 [.int .i64 (bif decide (i < nw) then asN (fld 0 (wf i)) else IntKind.wrap .i64 (IntKind.wrap .u32 (vlI (o_rg fun
 a => rg a) (asN (fld 2 (f (Int.toNat pc)))) + IntKind.wrap .u32 (asN (fld 4 (f (Int.toNat pc))))))), .int .i64 (bif decide (i < nw) then asN (fld 1 (wf i)) else
 (4 : Int)), .int .u32 (bif decide (i < nw) then asN (fld 2 (wf i)) else bitsI .and .u32 (vlI (o_rg fun a => rg a) (asN (fld 3 (f (Int.toNat pc))))) (4294967295 :
 Int))]], .int .i64 (IntKind.wrap .i64 (pc + (1 : Int)))]) else False else False else False else False else bif decide ((0 : Int) ≤ IntKind.wrap .i64 (IntKind.wrap
 .i64 (IntKind.wrap .u32 (vlI (o_rg fun a => rg a) (asN (fld 2 (f (Int.toNat pc)))) + IntKind.wrap .u32 (asN (fld 4 (f (Int.toNat pc)))))) + (0 : Int))) then bif
 decide (IntKind.wrap .i64 (IntKind.wrap .i64 (IntKind.wrap .u32 (vlI (o_rg fun a => rg a) (asN (fld 2 (f (Int.toNat pc)))) + IntKind.wrap .u32 (asN (fld 4 (f (Int.toNat
 pc)))))) + (0 : Int)) < (↑nm : Int)) then bif Nat.beq (Int.toNat (IntKind.wrap .i64 (IntKind.wrap .i64 (IntKind.wrap .u32 (vlI (o_rg fun a => rg a) (asN (fld 2 (f
 (Int.toNat pc)))) + IntKind.wrap .u32 (asN (fld 4 (f (Int.toNat pc)))))) + (0 : Int))) * 1) (Int.toNat (IntKind.wrap .i64 (IntKind.wrap .i64 (IntKind.wrap .u32 (vlI
 (o_rg fun a => rg a) (asN (fld 2 (f (Int.toNat pc)))) + IntKind.wrap .u32 (asN (fld 4 (f (Int.toNat pc)))))) + (0 : Int))) * 1) then bif decide (Int.toNat (IntKind.wrap
 .i64 (IntKind.wrap .i64 (IntKind.wrap .u32 (vlI (o_rg fun a => rg a) (asN (fld 2 (f (Int.toNat pc)))) + IntKind.wrap .u32 (asN (fld 4 (f (Int.toNat pc)))))) + (0
 : Int))) < nm) then bif decide (Int.toNat (IntKind.wrap .i64 (IntKind.wrap .i64 (IntKind.wrap .u32 (vlI (o_rg fun a => rg a) (asN (fld 2 (f (Int.toNat pc)))) + IntKind.wrap
 .u32 (asN (fld 4 (f (Int.toNat pc)))))) + (0 : Int))) < nm) then bif decide ((0 : Int) ≤ IntKind.wrap .i64 (IntKind.wrap .i64 (IntKind.wrap .u32 (vlI (o_rg fun a
 => rg a) (asN (fld 2 (f (Int.toNat pc)))) + IntKind.wrap .u32 (asN (fld 4 (f (Int.toNat pc)))))) + (1 : Int))) then bif decide (IntKind.wrap .i64 (IntKind.wrap .i64
 (IntKind.wrap .u32 (vlI (o_rg fun a => rg a) (asN (fld 2 (f (Int.toNat pc)))) + IntKind.wrap .u32 (asN (fld 4 (f (Int.toNat pc)))))) + (1 : Int)) < (↑nm : Int))
 then bif Nat.beq (Int.toNat (IntKind.wrap .i64 (IntKind.wrap .i64 (IntKind.wrap .u32 (vlI (o_rg fun a => rg a) (asN (fld 2 (f (Int.toNat pc)))) + IntKind.wrap .u32
 (asN (fld 4 (f (Int.toNat pc)))))) + (1 : Int))) * 1) (Int.toNat (IntKind.wrap .i64 (IntKind.wrap .i64 (IntKind.wrap .u32 (vlI (o_rg fun a => rg a) (asN (fld 2 (f
 (Int.toNat pc)))) + IntKind.wrap .u32 (asN (fld 4 (f (Int.toNat pc)))))) + (1 : Int))) * 1) then bif decide (Int.toNat (IntKind.wrap .i64 (IntKind.wrap .i64 (IntKind.wrap
 .u32 (vlI (o_rg fun a => rg a) (asN (fld 2 (f (Int.toNat pc)))) + IntKind.wrap .u32 (asN (fld 4 (f (Int.toNat pc)))))) + (1 : Int))) < nm) then bif decide (Int.toNat
 (IntKind.wrap .i64 (IntKind.wrap .i64 (IntKind.wrap .u32 (vlI (o_rg fun a => rg a) (asN (fld 2 (f (Int.toNat pc)))) + IntKind.wrap .u32 (asN (fld 4 (f (Int.toNat
 pc)))))) + (1 : Int))) < nm) then bif decide ((0 : Int) ≤ IntKind.wrap .i64 (IntKind.wrap .i64 (IntKind.wrap .u32 (vlI (o_rg fun a => rg a) (asN (fld 2 (f (Int.toNat
 pc)))) + IntKind.wrap .u32 (asN (fld 4 (f (Int.toNat pc)))))) + (2 : Int))) then bif decide (IntKind.wrap .i64 (IntKind.wrap .i64 (IntKind.wrap .u32 (vlI (o_rg fun
 a => rg a) (asN (fld 2 (f (Int.toNat pc)))) + IntKind.wrap .u32 (asN (fld 4 (f (Int.toNat pc)))))) + (2 : Int)) < (↑nm : Int)) then bif Nat.beq (Int.toNat (IntKind.wrap
 .i64 (IntKind.wrap .i64 (IntKind.wrap .u32 (vlI (o_rg fun a => rg a) (asN (fld 2 (f (Int.toNat pc)))) + IntKind.wrap .u32 (asN (fld 4 (f (Int.toNat pc)))))) + (2
 : Int))) * 1) (Int.toNat (IntKind.wrap .i64 (IntKind.wrap .i64 (IntKind.wrap .u32 (vlI (o_rg fun a => rg a) (asN (fld 2 (f (Int.toNat pc)))) + IntKind.wrap .u32
 (asN (fld 4 (f (Int.toNat pc)))))) + (2 : Int))) * 1) then bif decide (Int.toNat (IntKind.wrap .i64 (IntKind.wrap .i64 (IntKind.wrap .u32 (vlI (o_rg fun a => rg
 a) (asN (fld 2 (f (Int.toNat pc)))) + IntKind.wrap .u32 (asN (fld 4 (f (Int.toNat pc)))))) + (2 : Int))) < nm) then bif decide (Int.toNat (IntKind.wrap .i64 (IntKind.wrap
 .i64 (IntKind.wrap .u32 (vlI (o_rg fun a => rg a) (asN (fld 2 (f (Int.toNat pc)))) + IntKind.wrap .u32 (asN (fld 4 (f (Int.toNat pc)))))) + (2 : Int))) < nm) then
 bif decide ((0 : Int) ≤ IntKind.wrap .i64 (IntKind.wrap .i64 (IntKind.wrap .u32 (vlI (o_rg fun a => rg a) (asN (fld 2 (f (Int.toNat pc)))) + IntKind.wrap .u32 (asN
 (fld 4 (f (Int.toNat pc)))))) + (3 : Int))) then bif decide (IntKind.wrap .i64 (IntKind.wrap .i64 (IntKind.wrap .u32 (vlI (o_rg fun a => rg a) (asN (fld 2 (f (Int.toNat
 pc)))) + IntKind.wrap .u32 (asN (fld 4 (f (Int.toNat pc)))))) + (3 : Int)) < (↑nm : Int)) then bif Nat.beq (Int.toNat (IntKind.wrap .i64 (IntKind.wrap .i64 (IntKind.wrap
 .u32 (vlI (o_rg fun a => rg a) (asN (fld 2 (f (Int.toNat pc)))) + IntKind.wrap .u32 (asN (fld 4 (f (Int.toNat pc)))))) + (3 : Int))) * 1) (Int.toNat (IntKind.wrap
 .i64 (IntKind.wrap .i64 (IntKind.wrap .u32 (vlI (o_rg fun a => rg a) (asN (fld 2 (f (Int.toNat pc)))) + IntKind.wrap .u32 (asN (fld 4 (f (Int.toNat pc)))))) + (3
 : Int))) * 1) then bif decide (Int.toNat (IntKind.wrap .i64 (IntKind.wrap .i64 (IntKind.wrap .u32 (vlI (o_rg fun a => rg a) (asN (fld 2 (f (Int.toNat pc)))) + IntKind.wrap
 .u32 (asN (fld 4 (f (Int.toNat pc)))))) + (3 : Int))) < nm) then bif decide (Int.toNat (IntKind.wrap .i64 (IntKind.wrap .i64 (IntKind.wrap .u32 (vlI (o_rg fun a
 => rg a) (asN (fld 2 (f (Int.toNat pc)))) + IntKind.wrap .u32 (asN (fld 4 (f (Int.toNat pc)))))) + (3 : Int))) < nm) then bif decide (nw ≤ nw) then bif decide (pl
 nw 1 * 24 ≤ 140737488355328) then bif decide (nm ≤ nm) then bif decide (pl nw 1 ≤ pl nw 1) then K (.tup [.agg 23 [.int .i64 en, .agg 3 [.int .i64 tk, .int .i64 ts,
 .int .i64 tp], .int .i64 (IntKind.wrap .i64 (st + (1 : Int))), .tab 16 1 (o_rg fun a => rg a), .row false 1 nm fun i => .int .u8 (bif Nat.beq i (Int.toNat (IntKind.wrap
 .i64 (IntKind.wrap .i64 (IntKind.wrap .u32 (vlI (o_rg fun a => rg a) (asN (fld 2 (f (Int.toNat pc)))) + IntKind.wrap .u32 (asN (fld 4 (f (Int.toNat pc)))))) + (3
 : Int)))) then IntKind.wrap .u8 (Int.fdiv (bitsI .and .u32 (vlI (o_rg fun a => rg a) (asN (fld 3 (f (Int.toNat pc))))) (4294967295 : Int)) (16777216 : Int)) else
 bif Nat.beq i (Int.toNat (IntKind.wrap .i64 (IntKind.wrap .i64 (IntKind.wrap .u32 (vlI (o_rg fun a => rg a) (asN (fld 2 (f (Int.toNat pc)))) + IntKind.wrap .u32
 (asN (fld 4 (f (Int.toNat pc)))))) + (2 : Int)))) then IntKind.wrap .u8 (Int.fdiv (bitsI .and .u32 (vlI (o_rg fun a => rg a) (asN (fld 3 (f (Int.toNat pc))))) (4294967295
 : Int)) (65536 : Int)) else bif Nat.beq i (Int.toNat (IntKind.wrap .i64 (IntKind.wrap .i64 (IntKind.wrap .u32 (vlI (o_rg fun a => rg a) (asN (fld 2 (f (Int.toNat
 pc)))) + IntKind.wrap .u32 (asN (fld 4 (f (Int.toNat pc)))))) + (1 : Int)))) then IntKind.wrap .u8 (Int.fdiv (bitsI .and .u32 (vlI (o_rg fun a => rg a) (asN (fld
 3 (f (Int.toNat pc))))) (4294967295 : Int)) (256 : Int)) else bif Nat.beq i (Int.toNat (IntKind.wrap .i64 (IntKind.wrap .i64 (IntKind.wrap .u32 (vlI (o_rg fun a
 => rg a) (asN (fld 2 (f (Int.toNat pc)))) + IntKind.wrap .u32 (asN (fld 4 (f (Int.toNat pc)))))) + (0 : Int)))) then IntKind.wrap .u8 (Int.fdiv (bitsI .and .u32
 (vlI (o_rg fun a => rg a) (asN (fld 3 (f (Int.toNat pc))))) (4294967295 : Int)) (1 : Int)) else asN (mm i)), .row false 3 (pl nw 1) fun i => .agg 3 [.int .i64 (bif
 decide (i < nw) then asN (fld 0 (wf i)) else IntKind.wrap .i64 (IntKind.wrap .u32 (vlI (o_rg fun a => rg a) (asN (fld 2 (f (Int.toNat pc)))) + IntKind.wrap .u32
 (asN (fld 4 (f (Int.toNat pc))))))), .int .i64 (bif decide (i < nw) then asN (fld 1 (wf i)) else (4 : Int)), .int .u32 (bif decide (i < nw) then asN (fld 2 (wf i))
 else bitsI .and .u32 (vlI (o_rg fun a => rg a) (asN (fld 3 (f (Int.toNat pc))))) (4294967295 : Int))]], .int .i64 (IntKind.wrap .i64 (pc + (1 : Int)))]) else False
 else False else False else False else False else False else False else False else False else False else False else False else False else False else False else False
 else False else False else False else False else False else False else False else False else False else False else False else False else False else False else False
 else False else False else False else False else False else False else False else False else False else False else False else False else False else False else False
 else False else False
else False) := by kernel_rfl
end Go.Proofs.Ytmfbaglhmiadjaa

/- One step of a program, plainly, and that it is what the code does. -/
namespace Go.Proofs.Ytmfbaglhmiadjaa
open Go.Ra
set_option linter.unusedVariables false
set_option linter.unusedSimpArgs false
/-- A program's parts. -/
structure PV where
  n : Nat
  f : Nat → XV
  sz : Int
  m : Nat
  d : Nat → XV
/-- A result's parts. -/
structure RV where
  en : Int
  tk : Int
  ts : Int
  tp : Int
  st : Int
  rg : Nat → XV
  nm : Nat
  mm : Nat → XV
  nw : Nat
  wf : Nat → XV
def PV.xv (p : PV) (x y : Bool) : XV := xPr x p.n p.f p.sz y p.m p.d
def RV.xv (r : RV) (x y : Bool) : XV := xRe r.en r.tk r.ts r.tp r.st r.rg x r.nm r.mm y r.nw r.wf
def PV.right (p : PV) : Bool := prB p.n p.f p.sz p.m
def o_set (g : Nat → XV) (d v : Int) (i : Nat) : XV := .int .u32 (bif (!decide (d = 0) && Nat.beq i d.toNat) then v else asN (g i))
def o_apw (n : Nat) (wf : Nat → XV) (a s v : Int) (i : Nat) : XV := bif decide (i < n) then o_wr wf i else .agg 3 [.int .i64 a, .int .i64 s, .int .u32 v]
def RV.trap (r : RV) (k pc : Int) : RV := { r with en := 2, tk := k, ts := r.st, tp := pc }
def RV.tick (r : RV) : RV := { r with st := IntKind.i64.wrap (r.st + 1) }
def RV.set (r : RV) (d v : Int) : RV := { r.tick with rg := o_set r.rg d v }
def RV.sto (r : RV) (a s v : Int) : RV := { r.tick with mm := o_sto (okW r.nm a s) r.mm a.toNat s.toNat v, nw := r.nw + 1, wf := o_apw r.nw r.wf a s v }
abbrev iOp (v : XV) : Int := asN (fld 0 v)
abbrev iD (v : XV) : Int := asN (fld 1 v)
abbrev iA (v : XV) : Int := asN (fld 2 v)
abbrev iB (v : XV) : Int := asN (fld 3 v)
abbrev iM (v : XV) : Int := asN (fld 4 v)
/-- The address of a load or store. -/
def adV (v : XV) (r : RV) : Int := IntKind.u32.wrap (vlI r.rg (iA v) + IntKind.u32.wrap (iM v))
/-- What an instruction does. -/
def insV (v : XV) (r : RV) (pc : Int) : RV × Int :=
  if fmI (iOp v) = 8 then ({ r.tick with en := 1 }, pc)
  else if fmI (iOp v) = 7 then (r.tick, IntKind.i64.wrap (pc + iM v))
  else if fmI (iOp v) = 6 then (r.tick, if tkB (iOp v) (vlI r.rg (iA v)) (vlI r.rg (iB v)) = true then IntKind.i64.wrap (pc + iM v) else IntKind.i64.wrap (pc + 1))
  else if fmI (iOp v) = 5 then (if chkI (szI (iOp v)) (adV v r) r.nm = 0 then (r.sto (adV v r) (szI (iOp v)) (mskI (vlI r.rg (iB v)) (szI (iOp v))), IntKind.i64.wrap (pc + 1)) else (r.trap (chkI (szI (iOp v)) (adV v r) r.nm) pc, pc))
  else if fmI (iOp v) = 4 then (if chkI (szI (iOp v)) (adV v r) r.nm = 0 then (r.set (iD v) (loadI r.nm r.mm (iOp v) (adV v r)), IntKind.i64.wrap (pc + 1)) else (r.trap (chkI (szI (iOp v)) (adV v r) r.nm) pc, pc))
  else if dkB (iOp v) (iD v) (iA v) (iB v) (iM v) (vlI r.rg (iB v)) = true then (r.set (iD v) (doI (iOp v) (iD v) (iA v) (iB v) (iM v) (vlI r.rg (iA v)) (vlI r.rg (iB v))), IntKind.i64.wrap (pc + 1)) else (r.trap 3 pc, pc)
/-- A step, where all is right. -/
def goV (p : PV) (r : RV) (pc : Int) : RV × Int := if pc < 0 ∨ pc ≥ p.n then (r.trap 4 pc, pc) else insV (p.f pc.toNat) r pc
/-- A step. -/
def stepV (p : PV) (r : RV) (pc : Int) : RV × Int := if r.en = 0 ∧ p.right = true ∧ (r.nm : Int) = p.sz then goV p r pc else (r, pc)
/-- What a result must be like. -/
structure RV.ok (r : RV) : Prop where
  nm : r.nm ≤ 1099511627776
  nw : r.nw ≤ 1000000
  rg : ∀ i, i < 16 → 0 ≤ asN (r.rg i) ∧ asN (r.rg i) ≤ 4294967295
  mm : ∀ i, i < r.nm → 0 ≤ asN (r.mm i) ∧ asN (r.mm i) ≤ 255
structure PV.ok (p : PV) : Prop where
  n : p.n ≤ 4611686018427387904
  m : p.m ≤ 4611686018427387904
theorem pk_t2 (b : Bool) : (bif b then true else true) = true := by cases b <;> rfl
theorem pr_in {n m : Nat} {f : Nat → XV} {sz : Int} : prB n (o_in f) sz m = prB n f sz m := rfl
theorem vl_in {g : Nat → XV} {n : Int} : vlI (o_rg g) n = vlI g n := rfl
theorem wrd_by (f : Nat → XV) (a : Nat) : ∀ i, wrd (fun i => .int .u8 (asN (f i))) a i = wrd f a i
  | 0 => rfl
  | i + 1 => by
    show wrd (fun i => .int .u8 (asN (f i))) a i + _ = _
    rw [wrd_by f a i]
    rfl
theorem load_by {n : Nat} {f : Nat → XV} {op a : Int} : loadI n (fun i => .int .u8 (asN (f i))) op a = loadI n f op a := by
  unfold loadI
  rw [wrd_by]
theorem rt_fields {v : XV} (h : u_rt v = true) : fmI (iOp v) ≠ 0 ∧ (0 ≤ iD v ∧ iD v ≤ 15) ∧ (0 ≤ iA v ∧ iA v ≤ 15) ∧ (0 ≤ iB v ∧ iB v ≤ 15) ∧ -8192 ≤ iM v ∧ iM v ≤ 8191 := by
  unfold u_rt rtB at h
  rw [decide_eq_true_eq] at h
  unfold rtP rgP at h
  obtain ⟨h1, h2, h3, h4, h5⟩ := h
  refine ⟨h1, ?_, ?_, ?_, ?_⟩ <;> simp only [iD, iA, iB, iM] <;> omega
theorem vl_rng {g : Nat → XV} (h : ∀ i, i < 16 → 0 ≤ asN (g i) ∧ asN (g i) ≤ 4294967295) {n : Int} (h0 : 0 ≤ n) (h1 : n ≤ 15) : 0 ≤ vlI g n ∧ vlI g n ≤ 4294967295 := by
  unfold vlI
  by_cases hn : n = 0
  · rw [decide_eq_true hn, cond_true]; omega
  · rw [decide_eq_false hn]
    exact h n.toNat (by omega)
theorem sz_store {op : Int} (h : fmI op = 5) : szI op = 1 ∨ szI op = 2 ∨ szI op = 4 := by
  unfold fmI at h
  repeat' split at h
  all_goals first | (exfalso; omega) | skip
  rcases (by omega : op = 31 ∨ op = 32 ∨ op = 33) with rfl | rfl | rfl
  · exact .inr (.inr rfl)
  · exact .inr (.inl rfl)
  · exact .inl rfl
theorem u32_rng (x : Int) : 0 ≤ IntKind.u32.wrap x ∧ IntKind.u32.wrap x ≤ 4294967295 := by rw [wU32]; omega
theorem rng_by {n : Nat} {f : Nat → XV} (h : ∀ i, i < n → 0 ≤ asN (f i) ∧ asN (f i) ≤ 255) : rngB n (fun i => .int .u8 (asN (f i))) = true := rngB_iff.2 h
theorem and_full {b : Int} (h0 : 0 ≤ b) (h1 : b ≤ 4294967295) : bitsI .and .u32 b 4294967295 = b := by
  obtain ⟨m, rfl⟩ := Int.eq_ofNat_of_zero_le h0
  show IntKind.u32.wrap (((BitVec.ofInt 32 (m : Int)) &&& (BitVec.ofInt 32 4294967295)).toNat : Int) = _
  have e1 : (BitVec.ofInt 32 (m : Int)).toNat = m := by rw [BitVec.toNat_ofInt]; omega
  rw [BitVec.toNat_and, e1, show (BitVec.ofInt 32 4294967295).toNat = 2 ^ 32 - 1 from rfl, Nat.and_two_pow_sub_one_of_lt_two_pow (by omega), wU32]
  omega
theorem xre_eq {en tk ts tp st pc : Int} {rg : Nat → XV} {nm nw : Nat} {mm mm' wf wf' : Nat → XV} (h1 : ∀ i, i < nm → con (mm i) = con (mm' i)) (h2 : ∀ i, i < nw → con (wf i) = con (wf' i)) :
    con (.tup [.agg 23 [.int .i64 en, .agg 3 [.int .i64 tk, .int .i64 ts, .int .i64 tp], .int .i64 st, .tab 16 1 rg, .row false 1 nm mm, .row false 3 nw wf], .int .i64 pc]) = con (.tup [.agg 23 [.int .i64 en, .agg 3 [.int .i64 tk, .int .i64 ts, .int .i64 tp], .int .i64 st, .tab 16 1 rg, .row false 1 nm mm', .row false 3 nw wf'], .int .i64 pc]) := by
  simp only [con, cons]
  rw [tabL_congr h1, tabL_congr h2]
theorem set_eq {g : Nat → XV} {d v : Int} (hd : ¬ d = 0) : (fun j => XV.int .u32 (bif Nat.beq j d.toNat then v else asN (g j))) = o_set g d v := by
  funext j
  simp only [o_set, hd, decide_false, Bool.not_false, Bool.true_and]
theorem set_no {g : Nat → XV} {d v : Int} (hd : d = 0) : o_rg (o_set g d v) = o_rg g := by
  funext j
  simp only [o_set, o_rg, hd, decide_true, Bool.not_true, Bool.false_and, cond_false, asN]
theorem set_id {g : Nat → XV} {d v : Int} : o_rg (o_set g d v) = o_set g d v := by
  funext j
  rfl

theorem TQok (f : Int) : TabOk Try.prog (TQ f) := mkT_ok (((((clok_seq.app clok_bytes).app clok_slices).app clok_ref1).app clok_word).app clok_math) ⟨sp_pr1, sp_pr2, sp_get, sp_val, sp_formF1 f, sp_formF2 f, sp_do1, sp_tk1, sp_size1, sp_size2, sp_check1, sp_check2, sp_load, sp_rsto, sp_mask, trivial⟩ glok_slices
theorem sp_szF1 (s : Int) : SpOk Try.prog (68, szSpF s) := fun args nd v h hn => by
  simp only [szSpF] at h
  split at h
  · simp only [Option.some.injEq, Prod.mk.injEq] at h
    obtain ⟨rfl, rfl⟩ := h
    simp only [allT_cons, decide_eq_true_eq] at hn
    rename_i op
    have := size1 op
    rw [hn.1] at this
    exact this
  · cases h
theorem sp_szF2 (s : Int) : SpOk Try.prog (35, szSpF s) := fun args nd v h hn => by
  simp only [szSpF] at h
  split at h
  · simp only [Option.some.injEq, Prod.mk.injEq] at h
    obtain ⟨rfl, rfl⟩ := h
    simp only [allT_cons, decide_eq_true_eq] at hn
    rename_i op
    have := sp_size2 [.int .i64 op] [] (.int .i64 (szI op)) rfl (by simp [allT])
    rw [hn.1] at this
    exact this
  · cases h

theorem TQsok (s : Int) : TabOk Try.prog (TQs s) := mkT_ok (((((clok_seq.app clok_bytes).app clok_slices).app clok_ref1).app clok_word).app clok_math) ⟨sp_pr1, sp_pr2, sp_get, sp_val, sp_formF1 5, sp_formF2 5, sp_szF1 s, sp_szF2 s, sp_check1, sp_check2, sp_rsto, sp_mask, trivial⟩ glok_slices

section
variable {x y xm xw : Bool} {p : PV} {r : RV} {pc : Int}
theorem st1_pre (hp : p.ok) (hr : r.ok) (h : ¬ (r.en = 0 ∧ p.right = true ∧ (r.nm : Int) = p.sz) ∨ (pc < 0 ∨ pc ≥ p.n)) : Pure Try.prog 20 (cons [p.xv x y, r.xv xm xw, .int .i64 pc]) (con (.tup [(stepV p r pc).1.xv false false, .int .i64 (stepV p r pc).2])) := by
  refine pureX (u := 80) (k := 20) mix (TQok 8) ?_
  refine Eq.mpr (r_s1_8 x p.n p.f p.sz y p.m p.d r.en r.tk r.ts r.tp r.st r.rg xm r.nm r.mm xw r.nw r.wf pc _) ?_
  have hn := hp.n
  have hm := hp.m
  have b1 : r.nm * 1 ≤ 140737488355328 := by have := hr.nm; omega
  have b2 : r.nw * 24 ≤ 140737488355328 := by have := hr.nw; omega
  unfold stepV
  by_cases c1 : r.en = 0
  case neg =>
    rw [if_neg (fun h => c1 h.1)]
    simp only [c1, hn, hm, b1, b2, pk_or, pk_and, pk_t, decide_true, decide_false, cond_true, cond_false, allN_true, Nat.le_refl, Int.toNat_natCast, Nat.beq_refl, pk_and, pk_or, Bool.not_true, Bool.not_false, not_true_eq_false, not_false_eq_true, Bool.and_true, Bool.true_and, Bool.and_self, ge_iff_le, Int.le_refl, if_true, if_false, reduceCtorEq, eq_self, BEq.rfl]
    rfl
  have c1d : decide (¬ r.en = 0) = false := by simp [c1]
  by_cases c2 : prB p.n p.f p.sz p.m = true
  case neg =>
    have c2' : prB p.n p.f p.sz p.m = false := by simpa using c2
    rw [if_neg (fun h => c2 h.2.1)]
    simp only [c1d, c2', pr_in, hn, hm, b1, b2, pk_or, pk_and, pk_t, decide_true, decide_false, cond_true, cond_false, allN_true, Nat.le_refl, Int.toNat_natCast, Nat.beq_refl, pk_and, pk_or, Bool.not_true, Bool.not_false, not_true_eq_false, not_false_eq_true, Bool.and_true, Bool.true_and, Bool.and_self, ge_iff_le, Int.le_refl, if_true, if_false, reduceCtorEq, eq_self, BEq.rfl]
    rfl
  by_cases c3 : (r.nm : Int) = p.sz
  case neg =>
    rw [if_neg (fun h => c3 h.2.2)]
    simp only [c1d, c2, c3, pr_in, hn, hm, b1, b2, pk_or, pk_and, pk_t, decide_true, decide_false, cond_true, cond_false, allN_true, Nat.le_refl, Int.toNat_natCast, Nat.beq_refl, pk_and, pk_or, Bool.not_true, Bool.not_false, not_true_eq_false, not_false_eq_true, Bool.and_true, Bool.true_and, Bool.and_self, ge_iff_le, Int.le_refl, if_true, if_false, reduceCtorEq, eq_self, BEq.rfl]
    rfl
  have c3d : decide (¬ (r.nm : Int) = p.sz) = false := by simp [c3]
  have hpc := h.resolve_left (fun h => h ⟨c1, c2, c3⟩)
  rw [if_pos ⟨c1, c2, c3⟩]
  unfold goV
  rw [if_pos hpc]
  by_cases c4 : pc < 0
  · simp only [c1d, c2, c3d, c4, pr_in, hn, hm, b1, b2, pk_or, pk_and, pk_t, decide_true, decide_false, cond_true, cond_false, allN_true, Nat.le_refl, Int.toNat_natCast, Nat.beq_refl, pk_and, pk_or, Bool.not_true, Bool.not_false, not_true_eq_false, not_false_eq_true, Bool.and_true, Bool.true_and, Bool.and_self, ge_iff_le, Int.le_refl, if_true, if_false, reduceCtorEq, eq_self, BEq.rfl]
    rfl
  · have c5 : pc ≥ p.n := hpc.resolve_left c4
    simp only [c1d, c2, c3d, c4, c5, pr_in, hn, hm, b1, b2, pk_or, pk_and, pk_t, decide_true, decide_false, cond_true, cond_false, allN_true, Nat.le_refl, Int.toNat_natCast, Nat.beq_refl, pk_and, pk_or, Bool.not_true, Bool.not_false, not_true_eq_false, not_false_eq_true, Bool.and_true, Bool.true_and, Bool.and_self, ge_iff_le, Int.le_refl, if_true, if_false, reduceCtorEq, eq_self, BEq.rfl]
    rfl

theorem st1_8 (hp : p.ok) (hr : r.ok) (c1 : r.en = 0) (c2 : prB p.n p.f p.sz p.m = true) (hR : allR p.n p.f = true) (c3 : (r.nm : Int) = p.sz) (h0 : 0 ≤ pc) (h1 : pc < p.n) (hf : fmI (iOp (p.f pc.toNat)) = 8) : Pure Try.prog 20 (cons [p.xv x y, r.xv xm xw, .int .i64 pc]) (con (.tup [(insV (p.f pc.toNat) r pc).1.xv false false, .int .i64 (insV (p.f pc.toNat) r pc).2])) := by
  refine pureX (u := 80) (k := 20) mix (TQok 8) ?_
  refine Eq.mpr (r_s1_8 x p.n p.f p.sz y p.m p.d r.en r.tk r.ts r.tp r.st r.rg xm r.nm r.mm xw r.nw r.wf pc _) ?_
  have c1d : decide (¬ r.en = 0) = false := by simp [c1]
  have c3d : decide (¬ (r.nm : Int) = p.sz) = false := by simp [c3]
  have hn := hp.n
  have hm := hp.m
  have b1 : r.nm * 1 ≤ 140737488355328 := by have := hr.nm; omega
  have b2 : r.nw * 24 ≤ 140737488355328 := by have := hr.nw; omega
  have b3 : r.nm ≤ 1099511627776 := hr.nm
  have c4 : ¬ pc < 0 := by omega
  have c5 : ¬ pc ≥ p.n := by omega
  have c6 : (0 : Int) ≤ pc := by omega
  have c7 : pc < p.n := by omega
  have hrt := allR_iff.1 hR pc.toNat (by omega)
  obtain ⟨_, ⟨hd0, hd1⟩, ⟨ha0, ha1⟩, ⟨hb0, hb1⟩, hi0, hi1⟩ := rt_fields hrt
  obtain ⟨va0, va1⟩ := vl_rng hr.rg ha0 ha1
  obtain ⟨vb0, vb1⟩ := vl_rng hr.rg hb0 hb1
  obtain ⟨ad0, ad1⟩ := u32_rng (vlI r.rg (iA (p.f pc.toNat)) + IntKind.u32.wrap (iM (p.f pc.toNat)))
  have hd2 : iD (p.f pc.toNat) < 16 := by omega
  have hd3 : (iD (p.f pc.toNat)).toNat < 16 := by omega
  have hmm := rng_by hr.mm
  have e : insV (p.f pc.toNat) r pc = ({ r.tick with en := 1 }, pc) := by unfold insV; rw [if_pos hf]
  rw [e]
  simp only [c1d, c2, c3d, c4, c5, c6, c7, hf, pr_in, vl_in, load_by, hn, hm, b1, b2, b3, ha0, ha1, hb0, hb1, hd0, hd2, hd3, va0, va1, vb0, vb1, ad0, ad1, hmm, pk_or, pk_and, pk_t, decide_true, decide_false, cond_true, cond_false, allN_true, Nat.le_refl, Int.toNat_natCast, Nat.beq_refl, pk_and, pk_or, Bool.not_true, Bool.not_false, not_true_eq_false, not_false_eq_true, Bool.and_true, Bool.true_and, Bool.and_self, ge_iff_le, Int.le_refl, if_true, if_false, reduceCtorEq, eq_self, BEq.rfl]
  rfl

theorem st1_7 (hp : p.ok) (hr : r.ok) (c1 : r.en = 0) (c2 : prB p.n p.f p.sz p.m = true) (hR : allR p.n p.f = true) (c3 : (r.nm : Int) = p.sz) (h0 : 0 ≤ pc) (h1 : pc < p.n) (hf : fmI (iOp (p.f pc.toNat)) = 7) : Pure Try.prog 20 (cons [p.xv x y, r.xv xm xw, .int .i64 pc]) (con (.tup [(insV (p.f pc.toNat) r pc).1.xv false false, .int .i64 (insV (p.f pc.toNat) r pc).2])) := by
  refine pureX (u := 80) (k := 20) mix (TQok 7) ?_
  refine Eq.mpr (r_s1_7 x p.n p.f p.sz y p.m p.d r.en r.tk r.ts r.tp r.st r.rg xm r.nm r.mm xw r.nw r.wf pc _) ?_
  have c1d : decide (¬ r.en = 0) = false := by simp [c1]
  have c3d : decide (¬ (r.nm : Int) = p.sz) = false := by simp [c3]
  have hn := hp.n
  have hm := hp.m
  have b1 : r.nm * 1 ≤ 140737488355328 := by have := hr.nm; omega
  have b2 : r.nw * 24 ≤ 140737488355328 := by have := hr.nw; omega
  have b3 : r.nm ≤ 1099511627776 := hr.nm
  have c4 : ¬ pc < 0 := by omega
  have c5 : ¬ pc ≥ p.n := by omega
  have c6 : (0 : Int) ≤ pc := by omega
  have c7 : pc < p.n := by omega
  have hrt := allR_iff.1 hR pc.toNat (by omega)
  obtain ⟨_, ⟨hd0, hd1⟩, ⟨ha0, ha1⟩, ⟨hb0, hb1⟩, hi0, hi1⟩ := rt_fields hrt
  obtain ⟨va0, va1⟩ := vl_rng hr.rg ha0 ha1
  obtain ⟨vb0, vb1⟩ := vl_rng hr.rg hb0 hb1
  obtain ⟨ad0, ad1⟩ := u32_rng (vlI r.rg (iA (p.f pc.toNat)) + IntKind.u32.wrap (iM (p.f pc.toNat)))
  have hd2 : iD (p.f pc.toNat) < 16 := by omega
  have hd3 : (iD (p.f pc.toNat)).toNat < 16 := by omega
  have hmm := rng_by hr.mm
  have e : insV (p.f pc.toNat) r pc = (r.tick, IntKind.i64.wrap (pc + iM (p.f pc.toNat))) := by unfold insV; rw [if_neg (by omega), if_pos hf]
  rw [e]
  simp only [c1d, c2, c3d, c4, c5, c6, c7, hf, pr_in, vl_in, load_by, hn, hm, b1, b2, b3, ha0, ha1, hb0, hb1, hd0, hd2, hd3, va0, va1, vb0, vb1, ad0, ad1, hmm, pk_or, pk_and, pk_t, decide_true, decide_false, cond_true, cond_false, allN_true, Nat.le_refl, Int.toNat_natCast, Nat.beq_refl, pk_and, pk_or, Bool.not_true, Bool.not_false, not_true_eq_false, not_false_eq_true, Bool.and_true, Bool.true_and, Bool.and_self, ge_iff_le, Int.le_refl, if_true, if_false, reduceCtorEq, eq_self, BEq.rfl]
  rfl

theorem st1_6 (hp : p.ok) (hr : r.ok) (c1 : r.en = 0) (c2 : prB p.n p.f p.sz p.m = true) (hR : allR p.n p.f = true) (c3 : (r.nm : Int) = p.sz) (h0 : 0 ≤ pc) (h1 : pc < p.n) (hf : fmI (iOp (p.f pc.toNat)) = 6) : Pure Try.prog 20 (cons [p.xv x y, r.xv xm xw, .int .i64 pc]) (con (.tup [(insV (p.f pc.toNat) r pc).1.xv false false, .int .i64 (insV (p.f pc.toNat) r pc).2])) := by
  refine pureX (u := 80) (k := 20) mix (TQok 6) ?_
  refine Eq.mpr (r_s1_6 x p.n p.f p.sz y p.m p.d r.en r.tk r.ts r.tp r.st r.rg xm r.nm r.mm xw r.nw r.wf pc _) ?_
  have c1d : decide (¬ r.en = 0) = false := by simp [c1]
  have c3d : decide (¬ (r.nm : Int) = p.sz) = false := by simp [c3]
  have hn := hp.n
  have hm := hp.m
  have b1 : r.nm * 1 ≤ 140737488355328 := by have := hr.nm; omega
  have b2 : r.nw * 24 ≤ 140737488355328 := by have := hr.nw; omega
  have b3 : r.nm ≤ 1099511627776 := hr.nm
  have c4 : ¬ pc < 0 := by omega
  have c5 : ¬ pc ≥ p.n := by omega
  have c6 : (0 : Int) ≤ pc := by omega
  have c7 : pc < p.n := by omega
  have hrt := allR_iff.1 hR pc.toNat (by omega)
  obtain ⟨_, ⟨hd0, hd1⟩, ⟨ha0, ha1⟩, ⟨hb0, hb1⟩, hi0, hi1⟩ := rt_fields hrt
  obtain ⟨va0, va1⟩ := vl_rng hr.rg ha0 ha1
  obtain ⟨vb0, vb1⟩ := vl_rng hr.rg hb0 hb1
  obtain ⟨ad0, ad1⟩ := u32_rng (vlI r.rg (iA (p.f pc.toNat)) + IntKind.u32.wrap (iM (p.f pc.toNat)))
  have hd2 : iD (p.f pc.toNat) < 16 := by omega
  have hd3 : (iD (p.f pc.toNat)).toNat < 16 := by omega
  have hmm := rng_by hr.mm
  have e : insV (p.f pc.toNat) r pc = (r.tick, if tkB (iOp (p.f pc.toNat)) (vlI r.rg (iA (p.f pc.toNat))) (vlI r.rg (iB (p.f pc.toNat))) = true then IntKind.i64.wrap (pc + iM (p.f pc.toNat)) else IntKind.i64.wrap (pc + 1)) := by unfold insV; rw [if_neg (by omega), if_neg (by omega), if_pos hf]
  rw [e]
  simp only [c1d, c2, c3d, c4, c5, c6, c7, hf, pr_in, vl_in, load_by, hn, hm, b1, b2, b3, ha0, ha1, hb0, hb1, hd0, hd2, hd3, va0, va1, vb0, vb1, ad0, ad1, hmm, pk_or, pk_and, pk_t, decide_true, decide_false, cond_true, cond_false, allN_true, Nat.le_refl, Int.toNat_natCast, Nat.beq_refl, pk_and, pk_or, Bool.not_true, Bool.not_false, not_true_eq_false, not_false_eq_true, Bool.and_true, Bool.true_and, Bool.and_self, ge_iff_le, Int.le_refl, if_true, if_false, reduceCtorEq, eq_self, BEq.rfl]
  refine cnd2 (fun h => ?_) (fun h => ?_)
  · rw [if_pos h]; rfl
  · rw [if_neg (by rw [h]; decide)]; rfl

theorem st1_4 (hp : p.ok) (hr : r.ok) (c1 : r.en = 0) (c2 : prB p.n p.f p.sz p.m = true) (hR : allR p.n p.f = true) (c3 : (r.nm : Int) = p.sz) (h0 : 0 ≤ pc) (h1 : pc < p.n) (hf : fmI (iOp (p.f pc.toNat)) = 4) : Pure Try.prog 20 (cons [p.xv x y, r.xv xm xw, .int .i64 pc]) (con (.tup [(insV (p.f pc.toNat) r pc).1.xv false false, .int .i64 (insV (p.f pc.toNat) r pc).2])) := by
  refine pureX (u := 80) (k := 20) mix (TQok 4) ?_
  refine Eq.mpr (r_s1_4 x p.n p.f p.sz y p.m p.d r.en r.tk r.ts r.tp r.st r.rg xm r.nm r.mm xw r.nw r.wf pc _) ?_
  have c1d : decide (¬ r.en = 0) = false := by simp [c1]
  have c3d : decide (¬ (r.nm : Int) = p.sz) = false := by simp [c3]
  have hn := hp.n
  have hm := hp.m
  have b1 : r.nm * 1 ≤ 140737488355328 := by have := hr.nm; omega
  have b2 : r.nw * 24 ≤ 140737488355328 := by have := hr.nw; omega
  have b3 : r.nm ≤ 1099511627776 := hr.nm
  have c4 : ¬ pc < 0 := by omega
  have c5 : ¬ pc ≥ p.n := by omega
  have c6 : (0 : Int) ≤ pc := by omega
  have c7 : pc < p.n := by omega
  have hrt := allR_iff.1 hR pc.toNat (by omega)
  obtain ⟨_, ⟨hd0, hd1⟩, ⟨ha0, ha1⟩, ⟨hb0, hb1⟩, hi0, hi1⟩ := rt_fields hrt
  obtain ⟨va0, va1⟩ := vl_rng hr.rg ha0 ha1
  obtain ⟨vb0, vb1⟩ := vl_rng hr.rg hb0 hb1
  obtain ⟨ad0, ad1⟩ := u32_rng (vlI r.rg (iA (p.f pc.toNat)) + IntKind.u32.wrap (iM (p.f pc.toNat)))
  have hd2 : iD (p.f pc.toNat) < 16 := by omega
  have hd3 : (iD (p.f pc.toNat)).toNat < 16 := by omega
  have hmm := rng_by hr.mm
  have e : insV (p.f pc.toNat) r pc = (if chkI (szI (iOp (p.f pc.toNat))) (adV (p.f pc.toNat) r) r.nm = 0 then (r.set (iD (p.f pc.toNat)) (loadI r.nm r.mm (iOp (p.f pc.toNat)) (adV (p.f pc.toNat) r)), IntKind.i64.wrap (pc + 1)) else (r.trap (chkI (szI (iOp (p.f pc.toNat))) (adV (p.f pc.toNat) r) r.nm) pc, pc)) := by
    unfold insV; rw [if_neg (by omega), if_neg (by omega), if_neg (by omega), if_neg (by omega), if_pos hf]
  rw [e]
  unfold adV
  by_cases hc : chkI (szI (iOp (p.f pc.toNat))) (IntKind.u32.wrap (vlI r.rg (iA (p.f pc.toNat)) + IntKind.u32.wrap (iM (p.f pc.toNat)))) r.nm = 0
  case neg =>
    rw [if_neg hc]
    simp only [hc, c1d, c2, c3d, c4, c5, c6, c7, hf, pr_in, vl_in, load_by, hn, hm, b1, b2, b3, ha0, ha1, hb0, hb1, hd0, hd2, hd3, va0, va1, vb0, vb1, ad0, ad1, hmm, pk_or, pk_and, pk_t, decide_true, decide_false, cond_true, cond_false, allN_true, Nat.le_refl, Int.toNat_natCast, Nat.beq_refl, pk_and, pk_or, Bool.not_true, Bool.not_false, not_true_eq_false, not_false_eq_true, Bool.and_true, Bool.true_and, Bool.and_self, ge_iff_le, Int.le_refl, if_true, if_false, reduceCtorEq, eq_self, BEq.rfl]
    rfl
  rw [if_pos hc]
  by_cases hd : iD (p.f pc.toNat) = 0
  · have hdd : decide (¬ iD (p.f pc.toNat) = 0) = false := by simp [hd]
    simp only [hc, hdd, c1d, c2, c3d, c4, c5, c6, c7, hf, pr_in, vl_in, load_by, hn, hm, b1, b2, b3, ha0, ha1, hb0, hb1, hd0, hd2, hd3, va0, va1, vb0, vb1, ad0, ad1, hmm, pk_or, pk_and, pk_t, decide_true, decide_false, cond_true, cond_false, allN_true, Nat.le_refl, Int.toNat_natCast, Nat.beq_refl, pk_and, pk_or, Bool.not_true, Bool.not_false, not_true_eq_false, not_false_eq_true, Bool.and_true, Bool.true_and, Bool.and_self, ge_iff_le, Int.le_refl, if_true, if_false, reduceCtorEq, eq_self, BEq.rfl]
    simp only [RV.xv, xRe, RV.set, set_no hd]
    rfl
  · simp only [hc, hd, c1d, c2, c3d, c4, c5, c6, c7, hf, pr_in, vl_in, load_by, hn, hm, b1, b2, b3, ha0, ha1, hb0, hb1, hd0, hd2, hd3, va0, va1, vb0, vb1, ad0, ad1, hmm, pk_or, pk_and, pk_t, decide_true, decide_false, cond_true, cond_false, allN_true, Nat.le_refl, Int.toNat_natCast, Nat.beq_refl, pk_and, pk_or, Bool.not_true, Bool.not_false, not_true_eq_false, not_false_eq_true, Bool.and_true, Bool.true_and, Bool.and_self, ge_iff_le, Int.le_refl, if_true, if_false, reduceCtorEq, eq_self, BEq.rfl]
    rw [set_eq hd]
    rfl

theorem st1_1 (hp : p.ok) (hr : r.ok) (c1 : r.en = 0) (c2 : prB p.n p.f p.sz p.m = true) (hR : allR p.n p.f = true) (c3 : (r.nm : Int) = p.sz) (h0 : 0 ≤ pc) (h1 : pc < p.n) (hf : fmI (iOp (p.f pc.toNat)) = 1) : Pure Try.prog 20 (cons [p.xv x y, r.xv xm xw, .int .i64 pc]) (con (.tup [(insV (p.f pc.toNat) r pc).1.xv false false, .int .i64 (insV (p.f pc.toNat) r pc).2])) := by
  refine pureX (u := 80) (k := 20) mix (TQok 1) ?_
  refine Eq.mpr (r_s1_1 x p.n p.f p.sz y p.m p.d r.en r.tk r.ts r.tp r.st r.rg xm r.nm r.mm xw r.nw r.wf pc _) ?_
  have c1d : decide (¬ r.en = 0) = false := by simp [c1]
  have c3d : decide (¬ (r.nm : Int) = p.sz) = false := by simp [c3]
  have hn := hp.n
  have hm := hp.m
  have b1 : r.nm * 1 ≤ 140737488355328 := by have := hr.nm; omega
  have b2 : r.nw * 24 ≤ 140737488355328 := by have := hr.nw; omega
  have b3 : r.nm ≤ 1099511627776 := hr.nm
  have c4 : ¬ pc < 0 := by omega
  have c5 : ¬ pc ≥ p.n := by omega
  have c6 : (0 : Int) ≤ pc := by omega
  have c7 : pc < p.n := by omega
  have hrt := allR_iff.1 hR pc.toNat (by omega)
  obtain ⟨_, ⟨hd0, hd1⟩, ⟨ha0, ha1⟩, ⟨hb0, hb1⟩, hi0, hi1⟩ := rt_fields hrt
  obtain ⟨va0, va1⟩ := vl_rng hr.rg ha0 ha1
  obtain ⟨vb0, vb1⟩ := vl_rng hr.rg hb0 hb1
  obtain ⟨ad0, ad1⟩ := u32_rng (vlI r.rg (iA (p.f pc.toNat)) + IntKind.u32.wrap (iM (p.f pc.toNat)))
  have hd2 : iD (p.f pc.toNat) < 16 := by omega
  have hd3 : (iD (p.f pc.toNat)).toNat < 16 := by omega
  have hmm := rng_by hr.mm
  have e : insV (p.f pc.toNat) r pc = (if dkB (iOp (p.f pc.toNat)) (iD (p.f pc.toNat)) (iA (p.f pc.toNat)) (iB (p.f pc.toNat)) (iM (p.f pc.toNat)) (vlI r.rg (iB (p.f pc.toNat))) = true then (r.set (iD (p.f pc.toNat)) (doI (iOp (p.f pc.toNat)) (iD (p.f pc.toNat)) (iA (p.f pc.toNat)) (iB (p.f pc.toNat)) (iM (p.f pc.toNat)) (vlI r.rg (iA (p.f pc.toNat))) (vlI r.rg (iB (p.f pc.toNat)))), IntKind.i64.wrap (pc + 1)) else (r.trap 3 pc, pc)) := by
    unfold insV; rw [if_neg (by omega), if_neg (by omega), if_neg (by omega), if_neg (by omega), if_neg (by omega)]
  rw [e]
  by_cases hc : dkB (iOp (p.f pc.toNat)) (iD (p.f pc.toNat)) (iA (p.f pc.toNat)) (iB (p.f pc.toNat)) (iM (p.f pc.toNat)) (vlI r.rg (iB (p.f pc.toNat))) = true
  case neg =>
    rw [if_neg hc]
    have hc' : dkB (iOp (p.f pc.toNat)) (iD (p.f pc.toNat)) (iA (p.f pc.toNat)) (iB (p.f pc.toNat)) (iM (p.f pc.toNat)) (vlI r.rg (iB (p.f pc.toNat))) = false := by simpa using hc
    simp only [hc', c1d, c2, c3d, c4, c5, c6, c7, hf, pr_in, vl_in, load_by, hn, hm, b1, b2, b3, ha0, ha1, hb0, hb1, hd0, hd2, hd3, va0, va1, vb0, vb1, ad0, ad1, hmm, pk_or, pk_and, pk_t, decide_true, decide_false, cond_true, cond_false, allN_true, Nat.le_refl, Int.toNat_natCast, Nat.beq_refl, pk_and, pk_or, Bool.not_true, Bool.not_false, not_true_eq_false, not_false_eq_true, Bool.and_true, Bool.true_and, Bool.and_self, ge_iff_le, Int.le_refl, if_true, if_false, reduceCtorEq, eq_self, BEq.rfl]
    rfl
  rw [if_pos hc]
  by_cases hd : iD (p.f pc.toNat) = 0
  · have hdd : decide (¬ iD (p.f pc.toNat) = 0) = false := by simp [hd]
    simp only [hc, hdd, c1d, c2, c3d, c4, c5, c6, c7, hf, pr_in, vl_in, load_by, hn, hm, b1, b2, b3, ha0, ha1, hb0, hb1, hd0, hd2, hd3, va0, va1, vb0, vb1, ad0, ad1, hmm, pk_or, pk_and, pk_t, decide_true, decide_false, cond_true, cond_false, allN_true, Nat.le_refl, Int.toNat_natCast, Nat.beq_refl, pk_and, pk_or, Bool.not_true, Bool.not_false, not_true_eq_false, not_false_eq_true, Bool.and_true, Bool.true_and, Bool.and_self, ge_iff_le, Int.le_refl, if_true, if_false, reduceCtorEq, eq_self, BEq.rfl]
    simp only [RV.xv, xRe, RV.set, set_no hd]
    rfl
  · simp only [hc, hd, c1d, c2, c3d, c4, c5, c6, c7, hf, pr_in, vl_in, load_by, hn, hm, b1, b2, b3, ha0, ha1, hb0, hb1, hd0, hd2, hd3, va0, va1, vb0, vb1, ad0, ad1, hmm, pk_or, pk_and, pk_t, decide_true, decide_false, cond_true, cond_false, allN_true, Nat.le_refl, Int.toNat_natCast, Nat.beq_refl, pk_and, pk_or, Bool.not_true, Bool.not_false, not_true_eq_false, not_false_eq_true, Bool.and_true, Bool.true_and, Bool.and_self, ge_iff_le, Int.le_refl, if_true, if_false, reduceCtorEq, eq_self, BEq.rfl]
    rw [set_eq hd]
    rfl

theorem st1_2 (hp : p.ok) (hr : r.ok) (c1 : r.en = 0) (c2 : prB p.n p.f p.sz p.m = true) (hR : allR p.n p.f = true) (c3 : (r.nm : Int) = p.sz) (h0 : 0 ≤ pc) (h1 : pc < p.n) (hf : fmI (iOp (p.f pc.toNat)) = 2) : Pure Try.prog 20 (cons [p.xv x y, r.xv xm xw, .int .i64 pc]) (con (.tup [(insV (p.f pc.toNat) r pc).1.xv false false, .int .i64 (insV (p.f pc.toNat) r pc).2])) := by
  refine pureX (u := 80) (k := 20) mix (TQok 2) ?_
  refine Eq.mpr (r_s1_2 x p.n p.f p.sz y p.m p.d r.en r.tk r.ts r.tp r.st r.rg xm r.nm r.mm xw r.nw r.wf pc _) ?_
  have c1d : decide (¬ r.en = 0) = false := by simp [c1]
  have c3d : decide (¬ (r.nm : Int) = p.sz) = false := by simp [c3]
  have hn := hp.n
  have hm := hp.m
  have b1 : r.nm * 1 ≤ 140737488355328 := by have := hr.nm; omega
  have b2 : r.nw * 24 ≤ 140737488355328 := by have := hr.nw; omega
  have b3 : r.nm ≤ 1099511627776 := hr.nm
  have c4 : ¬ pc < 0 := by omega
  have c5 : ¬ pc ≥ p.n := by omega
  have c6 : (0 : Int) ≤ pc := by omega
  have c7 : pc < p.n := by omega
  have hrt := allR_iff.1 hR pc.toNat (by omega)
  obtain ⟨_, ⟨hd0, hd1⟩, ⟨ha0, ha1⟩, ⟨hb0, hb1⟩, hi0, hi1⟩ := rt_fields hrt
  obtain ⟨va0, va1⟩ := vl_rng hr.rg ha0 ha1
  obtain ⟨vb0, vb1⟩ := vl_rng hr.rg hb0 hb1
  obtain ⟨ad0, ad1⟩ := u32_rng (vlI r.rg (iA (p.f pc.toNat)) + IntKind.u32.wrap (iM (p.f pc.toNat)))
  have hd2 : iD (p.f pc.toNat) < 16 := by omega
  have hd3 : (iD (p.f pc.toNat)).toNat < 16 := by omega
  have hmm := rng_by hr.mm
  have e : insV (p.f pc.toNat) r pc = (if dkB (iOp (p.f pc.toNat)) (iD (p.f pc.toNat)) (iA (p.f pc.toNat)) (iB (p.f pc.toNat)) (iM (p.f pc.toNat)) (vlI r.rg (iB (p.f pc.toNat))) = true then (r.set (iD (p.f pc.toNat)) (doI (iOp (p.f pc.toNat)) (iD (p.f pc.toNat)) (iA (p.f pc.toNat)) (iB (p.f pc.toNat)) (iM (p.f pc.toNat)) (vlI r.rg (iA (p.f pc.toNat))) (vlI r.rg (iB (p.f pc.toNat)))), IntKind.i64.wrap (pc + 1)) else (r.trap 3 pc, pc)) := by
    unfold insV; rw [if_neg (by omega), if_neg (by omega), if_neg (by omega), if_neg (by omega), if_neg (by omega)]
  rw [e]
  by_cases hc : dkB (iOp (p.f pc.toNat)) (iD (p.f pc.toNat)) (iA (p.f pc.toNat)) (iB (p.f pc.toNat)) (iM (p.f pc.toNat)) (vlI r.rg (iB (p.f pc.toNat))) = true
  case neg =>
    rw [if_neg hc]
    have hc' : dkB (iOp (p.f pc.toNat)) (iD (p.f pc.toNat)) (iA (p.f pc.toNat)) (iB (p.f pc.toNat)) (iM (p.f pc.toNat)) (vlI r.rg (iB (p.f pc.toNat))) = false := by simpa using hc
    simp only [hc', c1d, c2, c3d, c4, c5, c6, c7, hf, pr_in, vl_in, load_by, hn, hm, b1, b2, b3, ha0, ha1, hb0, hb1, hd0, hd2, hd3, va0, va1, vb0, vb1, ad0, ad1, hmm, pk_or, pk_and, pk_t, decide_true, decide_false, cond_true, cond_false, allN_true, Nat.le_refl, Int.toNat_natCast, Nat.beq_refl, pk_and, pk_or, Bool.not_true, Bool.not_false, not_true_eq_false, not_false_eq_true, Bool.and_true, Bool.true_and, Bool.and_self, ge_iff_le, Int.le_refl, if_true, if_false, reduceCtorEq, eq_self, BEq.rfl]
    rfl
  rw [if_pos hc]
  by_cases hd : iD (p.f pc.toNat) = 0
  · have hdd : decide (¬ iD (p.f pc.toNat) = 0) = false := by simp [hd]
    simp only [hc, hdd, c1d, c2, c3d, c4, c5, c6, c7, hf, pr_in, vl_in, load_by, hn, hm, b1, b2, b3, ha0, ha1, hb0, hb1, hd0, hd2, hd3, va0, va1, vb0, vb1, ad0, ad1, hmm, pk_or, pk_and, pk_t, decide_true, decide_false, cond_true, cond_false, allN_true, Nat.le_refl, Int.toNat_natCast, Nat.beq_refl, pk_and, pk_or, Bool.not_true, Bool.not_false, not_true_eq_false, not_false_eq_true, Bool.and_true, Bool.true_and, Bool.and_self, ge_iff_le, Int.le_refl, if_true, if_false, reduceCtorEq, eq_self, BEq.rfl]
    simp only [RV.xv, xRe, RV.set, set_no hd]
    rfl
  · simp only [hc, hd, c1d, c2, c3d, c4, c5, c6, c7, hf, pr_in, vl_in, load_by, hn, hm, b1, b2, b3, ha0, ha1, hb0, hb1, hd0, hd2, hd3, va0, va1, vb0, vb1, ad0, ad1, hmm, pk_or, pk_and, pk_t, decide_true, decide_false, cond_true, cond_false, allN_true, Nat.le_refl, Int.toNat_natCast, Nat.beq_refl, pk_and, pk_or, Bool.not_true, Bool.not_false, not_true_eq_false, not_false_eq_true, Bool.and_true, Bool.true_and, Bool.and_self, ge_iff_le, Int.le_refl, if_true, if_false, reduceCtorEq, eq_self, BEq.rfl]
    rw [set_eq hd]
    rfl

theorem st1_3 (hp : p.ok) (hr : r.ok) (c1 : r.en = 0) (c2 : prB p.n p.f p.sz p.m = true) (hR : allR p.n p.f = true) (c3 : (r.nm : Int) = p.sz) (h0 : 0 ≤ pc) (h1 : pc < p.n) (hf : fmI (iOp (p.f pc.toNat)) = 3) : Pure Try.prog 20 (cons [p.xv x y, r.xv xm xw, .int .i64 pc]) (con (.tup [(insV (p.f pc.toNat) r pc).1.xv false false, .int .i64 (insV (p.f pc.toNat) r pc).2])) := by
  refine pureX (u := 80) (k := 20) mix (TQok 3) ?_
  refine Eq.mpr (r_s1_3 x p.n p.f p.sz y p.m p.d r.en r.tk r.ts r.tp r.st r.rg xm r.nm r.mm xw r.nw r.wf pc _) ?_
  have c1d : decide (¬ r.en = 0) = false := by simp [c1]
  have c3d : decide (¬ (r.nm : Int) = p.sz) = false := by simp [c3]
  have hn := hp.n
  have hm := hp.m
  have b1 : r.nm * 1 ≤ 140737488355328 := by have := hr.nm; omega
  have b2 : r.nw * 24 ≤ 140737488355328 := by have := hr.nw; omega
  have b3 : r.nm ≤ 1099511627776 := hr.nm
  have c4 : ¬ pc < 0 := by omega
  have c5 : ¬ pc ≥ p.n := by omega
  have c6 : (0 : Int) ≤ pc := by omega
  have c7 : pc < p.n := by omega
  have hrt := allR_iff.1 hR pc.toNat (by omega)
  obtain ⟨_, ⟨hd0, hd1⟩, ⟨ha0, ha1⟩, ⟨hb0, hb1⟩, hi0, hi1⟩ := rt_fields hrt
  obtain ⟨va0, va1⟩ := vl_rng hr.rg ha0 ha1
  obtain ⟨vb0, vb1⟩ := vl_rng hr.rg hb0 hb1
  obtain ⟨ad0, ad1⟩ := u32_rng (vlI r.rg (iA (p.f pc.toNat)) + IntKind.u32.wrap (iM (p.f pc.toNat)))
  have hd2 : iD (p.f pc.toNat) < 16 := by omega
  have hd3 : (iD (p.f pc.toNat)).toNat < 16 := by omega
  have hmm := rng_by hr.mm
  have e : insV (p.f pc.toNat) r pc = (if dkB (iOp (p.f pc.toNat)) (iD (p.f pc.toNat)) (iA (p.f pc.toNat)) (iB (p.f pc.toNat)) (iM (p.f pc.toNat)) (vlI r.rg (iB (p.f pc.toNat))) = true then (r.set (iD (p.f pc.toNat)) (doI (iOp (p.f pc.toNat)) (iD (p.f pc.toNat)) (iA (p.f pc.toNat)) (iB (p.f pc.toNat)) (iM (p.f pc.toNat)) (vlI r.rg (iA (p.f pc.toNat))) (vlI r.rg (iB (p.f pc.toNat)))), IntKind.i64.wrap (pc + 1)) else (r.trap 3 pc, pc)) := by
    unfold insV; rw [if_neg (by omega), if_neg (by omega), if_neg (by omega), if_neg (by omega), if_neg (by omega)]
  rw [e]
  by_cases hc : dkB (iOp (p.f pc.toNat)) (iD (p.f pc.toNat)) (iA (p.f pc.toNat)) (iB (p.f pc.toNat)) (iM (p.f pc.toNat)) (vlI r.rg (iB (p.f pc.toNat))) = true
  case neg =>
    rw [if_neg hc]
    have hc' : dkB (iOp (p.f pc.toNat)) (iD (p.f pc.toNat)) (iA (p.f pc.toNat)) (iB (p.f pc.toNat)) (iM (p.f pc.toNat)) (vlI r.rg (iB (p.f pc.toNat))) = false := by simpa using hc
    simp only [hc', c1d, c2, c3d, c4, c5, c6, c7, hf, pr_in, vl_in, load_by, hn, hm, b1, b2, b3, ha0, ha1, hb0, hb1, hd0, hd2, hd3, va0, va1, vb0, vb1, ad0, ad1, hmm, pk_or, pk_and, pk_t, decide_true, decide_false, cond_true, cond_false, allN_true, Nat.le_refl, Int.toNat_natCast, Nat.beq_refl, pk_and, pk_or, Bool.not_true, Bool.not_false, not_true_eq_false, not_false_eq_true, Bool.and_true, Bool.true_and, Bool.and_self, ge_iff_le, Int.le_refl, if_true, if_false, reduceCtorEq, eq_self, BEq.rfl]
    rfl
  rw [if_pos hc]
  by_cases hd : iD (p.f pc.toNat) = 0
  · have hdd : decide (¬ iD (p.f pc.toNat) = 0) = false := by simp [hd]
    simp only [hc, hdd, c1d, c2, c3d, c4, c5, c6, c7, hf, pr_in, vl_in, load_by, hn, hm, b1, b2, b3, ha0, ha1, hb0, hb1, hd0, hd2, hd3, va0, va1, vb0, vb1, ad0, ad1, hmm, pk_or, pk_and, pk_t, decide_true, decide_false, cond_true, cond_false, allN_true, Nat.le_refl, Int.toNat_natCast, Nat.beq_refl, pk_and, pk_or, Bool.not_true, Bool.not_false, not_true_eq_false, not_false_eq_true, Bool.and_true, Bool.true_and, Bool.and_self, ge_iff_le, Int.le_refl, if_true, if_false, reduceCtorEq, eq_self, BEq.rfl]
    simp only [RV.xv, xRe, RV.set, set_no hd]
    rfl
  · simp only [hc, hd, c1d, c2, c3d, c4, c5, c6, c7, hf, pr_in, vl_in, load_by, hn, hm, b1, b2, b3, ha0, ha1, hb0, hb1, hd0, hd2, hd3, va0, va1, vb0, vb1, ad0, ad1, hmm, pk_or, pk_and, pk_t, decide_true, decide_false, cond_true, cond_false, allN_true, Nat.le_refl, Int.toNat_natCast, Nat.beq_refl, pk_and, pk_or, Bool.not_true, Bool.not_false, not_true_eq_false, not_false_eq_true, Bool.and_true, Bool.true_and, Bool.and_self, ge_iff_le, Int.le_refl, if_true, if_false, reduceCtorEq, eq_self, BEq.rfl]
    rw [set_eq hd]
    rfl

theorem st1_51 (hp : p.ok) (hr : r.ok) (c1 : r.en = 0) (c2 : prB p.n p.f p.sz p.m = true) (hR : allR p.n p.f = true) (c3 : (r.nm : Int) = p.sz) (h0 : 0 ≤ pc) (h1 : pc < p.n) (hf : fmI (iOp (p.f pc.toNat)) = 5) (hs : szI (iOp (p.f pc.toNat)) = 1) : Pure Try.prog 20 (cons [p.xv x y, r.xv xm xw, .int .i64 pc]) (con (.tup [(insV (p.f pc.toNat) r pc).1.xv false false, .int .i64 (insV (p.f pc.toNat) r pc).2])) := by
  refine pureX (u := 80) (k := 20) mix (TQsok 1) ?_
  refine Eq.mpr (r_s1_51 x p.n p.f p.sz y p.m p.d r.en r.tk r.ts r.tp r.st r.rg xm r.nm r.mm xw r.nw r.wf pc _) ?_
  have c1d : decide (¬ r.en = 0) = false := by simp [c1]
  have c3d : decide (¬ (r.nm : Int) = p.sz) = false := by simp [c3]
  have hn := hp.n
  have hm := hp.m
  have b1 : r.nm * 1 ≤ 140737488355328 := by have := hr.nm; omega
  have b2 : r.nw * 24 ≤ 140737488355328 := by have := hr.nw; omega
  have b3 : r.nm ≤ 1099511627776 := hr.nm
  have c4 : ¬ pc < 0 := by omega
  have c5 : ¬ pc ≥ p.n := by omega
  have c6 : (0 : Int) ≤ pc := by omega
  have c7 : pc < p.n := by omega
  have hrt := allR_iff.1 hR pc.toNat (by omega)
  obtain ⟨_, ⟨hd0, hd1⟩, ⟨ha0, ha1⟩, ⟨hb0, hb1⟩, hi0, hi1⟩ := rt_fields hrt
  obtain ⟨va0, va1⟩ := vl_rng hr.rg ha0 ha1
  obtain ⟨vb0, vb1⟩ := vl_rng hr.rg hb0 hb1
  obtain ⟨ad0, ad1⟩ := u32_rng (vlI r.rg (iA (p.f pc.toNat)) + IntKind.u32.wrap (iM (p.f pc.toNat)))
  have hd2 : iD (p.f pc.toNat) < 16 := by omega
  have hd3 : (iD (p.f pc.toNat)).toNat < 16 := by omega
  have hmm := rng_by hr.mm
  have e : insV (p.f pc.toNat) r pc = (if chkI 1 (adV (p.f pc.toNat) r) r.nm = 0 then (r.sto (adV (p.f pc.toNat) r) 1 (mskI (vlI r.rg (iB (p.f pc.toNat))) 1), IntKind.i64.wrap (pc + 1)) else (r.trap (chkI 1 (adV (p.f pc.toNat) r) r.nm) pc, pc)) := by
    unfold insV; rw [if_neg (by omega), if_neg (by omega), if_neg (by omega), if_pos hf, hs]
  rw [e]
  unfold adV
  generalize hA : IntKind.u32.wrap (vlI r.rg (iA (p.f pc.toNat)) + IntKind.u32.wrap (iM (p.f pc.toNat))) = ad at ad0 ad1 ⊢
  by_cases hc : chkI 1 ad r.nm = 0
  case neg =>
    rw [if_neg hc]
    simp only [hc, hs, hA, c1d, c2, c3d, c4, c5, c6, c7, hf, pr_in, vl_in, load_by, hn, hm, b1, b2, b3, ha0, ha1, hb0, hb1, hd0, hd2, hd3, va0, va1, vb0, vb1, ad0, ad1, hmm, pk_or, pk_and, pk_t, decide_true, decide_false, cond_true, cond_false, allN_true, Nat.le_refl, Int.toNat_natCast, Nat.beq_refl, pk_and, pk_or, Bool.not_true, Bool.not_false, not_true_eq_false, not_false_eq_true, Bool.and_true, Bool.true_and, Bool.and_self, ge_iff_le, Int.le_refl, if_true, if_false, reduceCtorEq, eq_self, BEq.rfl]
    rfl
  rw [if_pos hc]
  have hk : mskI (vlI r.rg (iB (p.f pc.toNat))) 1 = bitsI .and .u32 (vlI r.rg (iB (p.f pc.toNat))) 255 := rfl
  obtain ⟨hin, _⟩ := chk_in (by omega) ad0 ad1 hr.nm hc
  have hok : okW r.nm ad 1 = true := okW_iff.2 ⟨by omega, ad0, ad1, hc⟩
  have w0 : IntKind.i64.wrap ad = ad := wrap_i64 (by omega) (by omega)
  have w1 : IntKind.u32.wrap ad = ad := wrap_u32 ad0 ad1
  have n1 : ¬ ad < 0 := by omega
  have n2 : ¬ ad > 4294967295 := by omega
  have hpl : pl r.nw 1 = r.nw + 1 := pl_eq _ _
  have b4 : (r.nw + 1) * 24 ≤ 140737488355328 := by
    have := hr.nw
    omega
  have e0 : (IntKind.i64.wrap (ad + 0)).toNat = ad.toNat + 0 := by rw [wrap_i64 (by omega) (by omega)]; omega
  have z0 : (0 : Int) ≤ IntKind.i64.wrap (ad + 0) := by rw [wrap_i64 (by omega) (by omega)]; omega
  have y0 : IntKind.i64.wrap (ad + 0) < r.nm := by rw [wrap_i64 (by omega) (by omega)]; omega
  have x0 : ad.toNat + 0 < r.nm := by omega
  simp only [hc, hs, hA, w0, w1, n1, n2, hpl, b4, e0, z0, y0, x0, c1d, c2, c3d, c4, c5, c6, c7, hf, pr_in, vl_in, load_by, hn, hm, b1, b2, b3, ha0, ha1, hb0, hb1, hd0, hd2, hd3, va0, va1, vb0, vb1, ad0, ad1, hmm, pk_or, pk_and, pk_t, decide_true, decide_false, cond_true, cond_false, allN_true, Nat.le_refl, Int.toNat_natCast, Nat.beq_refl, pk_and, pk_or, Bool.not_true, Bool.not_false, not_true_eq_false, not_false_eq_true, Bool.and_true, Bool.true_and, Bool.and_self, ge_iff_le, Int.le_refl, if_true, if_false, reduceCtorEq, eq_self, BEq.rfl]
  refine xre_eq (fun i hi => ?_) (fun i hi => ?_)
  · show con _ = con (o_sto (okW r.nm ad 1) r.mm ad.toNat 1 (mskI (vlI r.rg (iB (p.f pc.toNat))) 1) i)
    rw [hok]
    by_cases h0 : i = ad.toNat + 0
    · rw [sto_in (j := 0) (by omega) h0]
      simp only [h0, Nat.beq_refl, cond_true, cond_false]
      rw [fdivE (by omega), wU8, hk]
      rfl
    rw [sto_out (by omega)]
    simp only [beq_ne h0, cond_false]
  · show con _ = con (o_wr (o_apw r.nw r.wf ad 1 (mskI (vlI r.rg (iB (p.f pc.toNat))) 1)) i)
    unfold o_apw o_wr
    by_cases hin : i < r.nw
    · simp only [hin, decide_true, cond_true]
      rfl
    · simp only [hin, decide_false, cond_false, hk]
      rfl

theorem st1_52 (hp : p.ok) (hr : r.ok) (c1 : r.en = 0) (c2 : prB p.n p.f p.sz p.m = true) (hR : allR p.n p.f = true) (c3 : (r.nm : Int) = p.sz) (h0 : 0 ≤ pc) (h1 : pc < p.n) (hf : fmI (iOp (p.f pc.toNat)) = 5) (hs : szI (iOp (p.f pc.toNat)) = 2) : Pure Try.prog 20 (cons [p.xv x y, r.xv xm xw, .int .i64 pc]) (con (.tup [(insV (p.f pc.toNat) r pc).1.xv false false, .int .i64 (insV (p.f pc.toNat) r pc).2])) := by
  refine pureX (u := 80) (k := 20) mix (TQsok 2) ?_
  refine Eq.mpr (r_s1_52 x p.n p.f p.sz y p.m p.d r.en r.tk r.ts r.tp r.st r.rg xm r.nm r.mm xw r.nw r.wf pc _) ?_
  have c1d : decide (¬ r.en = 0) = false := by simp [c1]
  have c3d : decide (¬ (r.nm : Int) = p.sz) = false := by simp [c3]
  have hn := hp.n
  have hm := hp.m
  have b1 : r.nm * 1 ≤ 140737488355328 := by have := hr.nm; omega
  have b2 : r.nw * 24 ≤ 140737488355328 := by have := hr.nw; omega
  have b3 : r.nm ≤ 1099511627776 := hr.nm
  have c4 : ¬ pc < 0 := by omega
  have c5 : ¬ pc ≥ p.n := by omega
  have c6 : (0 : Int) ≤ pc := by omega
  have c7 : pc < p.n := by omega
  have hrt := allR_iff.1 hR pc.toNat (by omega)
  obtain ⟨_, ⟨hd0, hd1⟩, ⟨ha0, ha1⟩, ⟨hb0, hb1⟩, hi0, hi1⟩ := rt_fields hrt
  obtain ⟨va0, va1⟩ := vl_rng hr.rg ha0 ha1
  obtain ⟨vb0, vb1⟩ := vl_rng hr.rg hb0 hb1
  obtain ⟨ad0, ad1⟩ := u32_rng (vlI r.rg (iA (p.f pc.toNat)) + IntKind.u32.wrap (iM (p.f pc.toNat)))
  have hd2 : iD (p.f pc.toNat) < 16 := by omega
  have hd3 : (iD (p.f pc.toNat)).toNat < 16 := by omega
  have hmm := rng_by hr.mm
  have e : insV (p.f pc.toNat) r pc = (if chkI 2 (adV (p.f pc.toNat) r) r.nm = 0 then (r.sto (adV (p.f pc.toNat) r) 2 (mskI (vlI r.rg (iB (p.f pc.toNat))) 2), IntKind.i64.wrap (pc + 1)) else (r.trap (chkI 2 (adV (p.f pc.toNat) r) r.nm) pc, pc)) := by
    unfold insV; rw [if_neg (by omega), if_neg (by omega), if_neg (by omega), if_pos hf, hs]
  rw [e]
  unfold adV
  generalize hA : IntKind.u32.wrap (vlI r.rg (iA (p.f pc.toNat)) + IntKind.u32.wrap (iM (p.f pc.toNat))) = ad at ad0 ad1 ⊢
  by_cases hc : chkI 2 ad r.nm = 0
  case neg =>
    rw [if_neg hc]
    simp only [hc, hs, hA, c1d, c2, c3d, c4, c5, c6, c7, hf, pr_in, vl_in, load_by, hn, hm, b1, b2, b3, ha0, ha1, hb0, hb1, hd0, hd2, hd3, va0, va1, vb0, vb1, ad0, ad1, hmm, pk_or, pk_and, pk_t, decide_true, decide_false, cond_true, cond_false, allN_true, Nat.le_refl, Int.toNat_natCast, Nat.beq_refl, pk_and, pk_or, Bool.not_true, Bool.not_false, not_true_eq_false, not_false_eq_true, Bool.and_true, Bool.true_and, Bool.and_self, ge_iff_le, Int.le_refl, if_true, if_false, reduceCtorEq, eq_self, BEq.rfl]
    rfl
  rw [if_pos hc]
  have hk : mskI (vlI r.rg (iB (p.f pc.toNat))) 2 = bitsI .and .u32 (vlI r.rg (iB (p.f pc.toNat))) 65535 := rfl
  obtain ⟨hin, _⟩ := chk_in (by omega) ad0 ad1 hr.nm hc
  have hok : okW r.nm ad 2 = true := okW_iff.2 ⟨by omega, ad0, ad1, hc⟩
  have w0 : IntKind.i64.wrap ad = ad := wrap_i64 (by omega) (by omega)
  have w1 : IntKind.u32.wrap ad = ad := wrap_u32 ad0 ad1
  have n1 : ¬ ad < 0 := by omega
  have n2 : ¬ ad > 4294967295 := by omega
  have hpl : pl r.nw 1 = r.nw + 1 := pl_eq _ _
  have b4 : (r.nw + 1) * 24 ≤ 140737488355328 := by
    have := hr.nw
    omega
  have e0 : (IntKind.i64.wrap (ad + 0)).toNat = ad.toNat + 0 := by rw [wrap_i64 (by omega) (by omega)]; omega
  have z0 : (0 : Int) ≤ IntKind.i64.wrap (ad + 0) := by rw [wrap_i64 (by omega) (by omega)]; omega
  have y0 : IntKind.i64.wrap (ad + 0) < r.nm := by rw [wrap_i64 (by omega) (by omega)]; omega
  have x0 : ad.toNat + 0 < r.nm := by omega
  have e1 : (IntKind.i64.wrap (ad + 1)).toNat = ad.toNat + 1 := by rw [wrap_i64 (by omega) (by omega)]; omega
  have z1 : (0 : Int) ≤ IntKind.i64.wrap (ad + 1) := by rw [wrap_i64 (by omega) (by omega)]; omega
  have y1 : IntKind.i64.wrap (ad + 1) < r.nm := by rw [wrap_i64 (by omega) (by omega)]; omega
  have x1 : ad.toNat + 1 < r.nm := by omega
  simp only [hc, hs, hA, w0, w1, n1, n2, hpl, b4, e0, z0, y0, x0, e1, z1, y1, x1, c1d, c2, c3d, c4, c5, c6, c7, hf, pr_in, vl_in, load_by, hn, hm, b1, b2, b3, ha0, ha1, hb0, hb1, hd0, hd2, hd3, va0, va1, vb0, vb1, ad0, ad1, hmm, pk_or, pk_and, pk_t, decide_true, decide_false, cond_true, cond_false, allN_true, Nat.le_refl, Int.toNat_natCast, Nat.beq_refl, pk_and, pk_or, Bool.not_true, Bool.not_false, not_true_eq_false, not_false_eq_true, Bool.and_true, Bool.true_and, Bool.and_self, ge_iff_le, Int.le_refl, if_true, if_false, reduceCtorEq, eq_self, BEq.rfl]
  refine xre_eq (fun i hi => ?_) (fun i hi => ?_)
  · show con _ = con (o_sto (okW r.nm ad 2) r.mm ad.toNat 2 (mskI (vlI r.rg (iB (p.f pc.toNat))) 2) i)
    rw [hok]
    by_cases h0 : i = ad.toNat + 0
    · rw [sto_in (j := 0) (by omega) h0]
      simp only [h0, Nat.beq_refl, beq_ne (show ¬ ad.toNat + 0 = ad.toNat + 1 by omega), cond_true, cond_false]
      rw [fdivE (by omega), wU8, hk]
      rfl
    by_cases h1 : i = ad.toNat + 1
    · rw [sto_in (j := 1) (by omega) h1]
      simp only [h1, Nat.beq_refl, beq_ne (show ¬ ad.toNat + 1 = ad.toNat + 0 by omega), cond_true, cond_false]
      rw [fdivE (by omega), wU8, hk]
      rfl
    rw [sto_out (by omega)]
    simp only [beq_ne h0, beq_ne h1, cond_false]
  · show con _ = con (o_wr (o_apw r.nw r.wf ad 2 (mskI (vlI r.rg (iB (p.f pc.toNat))) 2)) i)
    unfold o_apw o_wr
    by_cases hin : i < r.nw
    · simp only [hin, decide_true, cond_true]
      rfl
    · simp only [hin, decide_false, cond_false, hk]
      rfl

theorem st1_54 (hp : p.ok) (hr : r.ok) (c1 : r.en = 0) (c2 : prB p.n p.f p.sz p.m = true) (hR : allR p.n p.f = true) (c3 : (r.nm : Int) = p.sz) (h0 : 0 ≤ pc) (h1 : pc < p.n) (hf : fmI (iOp (p.f pc.toNat)) = 5) (hs : szI (iOp (p.f pc.toNat)) = 4) : Pure Try.prog 20 (cons [p.xv x y, r.xv xm xw, .int .i64 pc]) (con (.tup [(insV (p.f pc.toNat) r pc).1.xv false false, .int .i64 (insV (p.f pc.toNat) r pc).2])) := by
  refine pureX (u := 80) (k := 20) mix (TQsok 4) ?_
  refine Eq.mpr (r_s1_54 x p.n p.f p.sz y p.m p.d r.en r.tk r.ts r.tp r.st r.rg xm r.nm r.mm xw r.nw r.wf pc _) ?_
  have c1d : decide (¬ r.en = 0) = false := by simp [c1]
  have c3d : decide (¬ (r.nm : Int) = p.sz) = false := by simp [c3]
  have hn := hp.n
  have hm := hp.m
  have b1 : r.nm * 1 ≤ 140737488355328 := by have := hr.nm; omega
  have b2 : r.nw * 24 ≤ 140737488355328 := by have := hr.nw; omega
  have b3 : r.nm ≤ 1099511627776 := hr.nm
  have c4 : ¬ pc < 0 := by omega
  have c5 : ¬ pc ≥ p.n := by omega
  have c6 : (0 : Int) ≤ pc := by omega
  have c7 : pc < p.n := by omega
  have hrt := allR_iff.1 hR pc.toNat (by omega)
  obtain ⟨_, ⟨hd0, hd1⟩, ⟨ha0, ha1⟩, ⟨hb0, hb1⟩, hi0, hi1⟩ := rt_fields hrt
  obtain ⟨va0, va1⟩ := vl_rng hr.rg ha0 ha1
  obtain ⟨vb0, vb1⟩ := vl_rng hr.rg hb0 hb1
  obtain ⟨ad0, ad1⟩ := u32_rng (vlI r.rg (iA (p.f pc.toNat)) + IntKind.u32.wrap (iM (p.f pc.toNat)))
  have hd2 : iD (p.f pc.toNat) < 16 := by omega
  have hd3 : (iD (p.f pc.toNat)).toNat < 16 := by omega
  have hmm := rng_by hr.mm
  have e : insV (p.f pc.toNat) r pc = (if chkI 4 (adV (p.f pc.toNat) r) r.nm = 0 then (r.sto (adV (p.f pc.toNat) r) 4 (mskI (vlI r.rg (iB (p.f pc.toNat))) 4), IntKind.i64.wrap (pc + 1)) else (r.trap (chkI 4 (adV (p.f pc.toNat) r) r.nm) pc, pc)) := by
    unfold insV; rw [if_neg (by omega), if_neg (by omega), if_neg (by omega), if_pos hf, hs]
  rw [e]
  unfold adV
  generalize hA : IntKind.u32.wrap (vlI r.rg (iA (p.f pc.toNat)) + IntKind.u32.wrap (iM (p.f pc.toNat))) = ad at ad0 ad1 ⊢
  by_cases hc : chkI 4 ad r.nm = 0
  case neg =>
    rw [if_neg hc]
    simp only [hc, hs, hA, c1d, c2, c3d, c4, c5, c6, c7, hf, pr_in, vl_in, load_by, hn, hm, b1, b2, b3, ha0, ha1, hb0, hb1, hd0, hd2, hd3, va0, va1, vb0, vb1, ad0, ad1, hmm, pk_or, pk_and, pk_t, decide_true, decide_false, cond_true, cond_false, allN_true, Nat.le_refl, Int.toNat_natCast, Nat.beq_refl, pk_and, pk_or, Bool.not_true, Bool.not_false, not_true_eq_false, not_false_eq_true, Bool.and_true, Bool.true_and, Bool.and_self, ge_iff_le, Int.le_refl, if_true, if_false, reduceCtorEq, eq_self, BEq.rfl]
    rfl
  rw [if_pos hc]
  have hk : mskI (vlI r.rg (iB (p.f pc.toNat))) 4 = bitsI .and .u32 (vlI r.rg (iB (p.f pc.toNat))) 4294967295 := (and_full vb0 vb1).symm
  obtain ⟨hin, _⟩ := chk_in (by omega) ad0 ad1 hr.nm hc
  have hok : okW r.nm ad 4 = true := okW_iff.2 ⟨by omega, ad0, ad1, hc⟩
  have w0 : IntKind.i64.wrap ad = ad := wrap_i64 (by omega) (by omega)
  have w1 : IntKind.u32.wrap ad = ad := wrap_u32 ad0 ad1
  have n1 : ¬ ad < 0 := by omega
  have n2 : ¬ ad > 4294967295 := by omega
  have hpl : pl r.nw 1 = r.nw + 1 := pl_eq _ _
  have b4 : (r.nw + 1) * 24 ≤ 140737488355328 := by
    have := hr.nw
    omega
  have e0 : (IntKind.i64.wrap (ad + 0)).toNat = ad.toNat + 0 := by rw [wrap_i64 (by omega) (by omega)]; omega
  have z0 : (0 : Int) ≤ IntKind.i64.wrap (ad + 0) := by rw [wrap_i64 (by omega) (by omega)]; omega
  have y0 : IntKind.i64.wrap (ad + 0) < r.nm := by rw [wrap_i64 (by omega) (by omega)]; omega
  have x0 : ad.toNat + 0 < r.nm := by omega
  have e1 : (IntKind.i64.wrap (ad + 1)).toNat = ad.toNat + 1 := by rw [wrap_i64 (by omega) (by omega)]; omega
  have z1 : (0 : Int) ≤ IntKind.i64.wrap (ad + 1) := by rw [wrap_i64 (by omega) (by omega)]; omega
  have y1 : IntKind.i64.wrap (ad + 1) < r.nm := by rw [wrap_i64 (by omega) (by omega)]; omega
  have x1 : ad.toNat + 1 < r.nm := by omega
  have e2 : (IntKind.i64.wrap (ad + 2)).toNat = ad.toNat + 2 := by rw [wrap_i64 (by omega) (by omega)]; omega
  have z2 : (0 : Int) ≤ IntKind.i64.wrap (ad + 2) := by rw [wrap_i64 (by omega) (by omega)]; omega
  have y2 : IntKind.i64.wrap (ad + 2) < r.nm := by rw [wrap_i64 (by omega) (by omega)]; omega
  have x2 : ad.toNat + 2 < r.nm := by omega
  have e3 : (IntKind.i64.wrap (ad + 3)).toNat = ad.toNat + 3 := by rw [wrap_i64 (by omega) (by omega)]; omega
  have z3 : (0 : Int) ≤ IntKind.i64.wrap (ad + 3) := by rw [wrap_i64 (by omega) (by omega)]; omega
  have y3 : IntKind.i64.wrap (ad + 3) < r.nm := by rw [wrap_i64 (by omega) (by omega)]; omega
  have x3 : ad.toNat + 3 < r.nm := by omega
  simp only [hc, hs, hA, w0, w1, n1, n2, hpl, b4, e0, z0, y0, x0, e1, z1, y1, x1, e2, z2, y2, x2, e3, z3, y3, x3, c1d, c2, c3d, c4, c5, c6, c7, hf, pr_in, vl_in, load_by, hn, hm, b1, b2, b3, ha0, ha1, hb0, hb1, hd0, hd2, hd3, va0, va1, vb0, vb1, ad0, ad1, hmm, pk_or, pk_and, pk_t, decide_true, decide_false, cond_true, cond_false, allN_true, Nat.le_refl, Int.toNat_natCast, Nat.beq_refl, pk_and, pk_or, Bool.not_true, Bool.not_false, not_true_eq_false, not_false_eq_true, Bool.and_true, Bool.true_and, Bool.and_self, ge_iff_le, Int.le_refl, if_true, if_false, reduceCtorEq, eq_self, BEq.rfl]
  refine xre_eq (fun i hi => ?_) (fun i hi => ?_)
  · show con _ = con (o_sto (okW r.nm ad 4) r.mm ad.toNat 4 (mskI (vlI r.rg (iB (p.f pc.toNat))) 4) i)
    rw [hok]
    by_cases h0 : i = ad.toNat + 0
    · rw [sto_in (j := 0) (by omega) h0]
      simp only [h0, Nat.beq_refl, beq_ne (show ¬ ad.toNat + 0 = ad.toNat + 1 by omega), beq_ne (show ¬ ad.toNat + 0 = ad.toNat + 2 by omega), beq_ne (show ¬ ad.toNat + 0 = ad.toNat + 3 by omega), cond_true, cond_false]
      rw [fdivE (by omega), wU8, hk]
      rfl
    by_cases h1 : i = ad.toNat + 1
    · rw [sto_in (j := 1) (by omega) h1]
      simp only [h1, Nat.beq_refl, beq_ne (show ¬ ad.toNat + 1 = ad.toNat + 0 by omega), beq_ne (show ¬ ad.toNat + 1 = ad.toNat + 2 by omega), beq_ne (show ¬ ad.toNat + 1 = ad.toNat + 3 by omega), cond_true, cond_false]
      rw [fdivE (by omega), wU8, hk]
      rfl
    by_cases h2 : i = ad.toNat + 2
    · rw [sto_in (j := 2) (by omega) h2]
      simp only [h2, Nat.beq_refl, beq_ne (show ¬ ad.toNat + 2 = ad.toNat + 0 by omega), beq_ne (show ¬ ad.toNat + 2 = ad.toNat + 1 by omega), beq_ne (show ¬ ad.toNat + 2 = ad.toNat + 3 by omega), cond_true, cond_false]
      rw [fdivE (by omega), wU8, hk]
      rfl
    by_cases h3 : i = ad.toNat + 3
    · rw [sto_in (j := 3) (by omega) h3]
      simp only [h3, Nat.beq_refl, beq_ne (show ¬ ad.toNat + 3 = ad.toNat + 0 by omega), beq_ne (show ¬ ad.toNat + 3 = ad.toNat + 1 by omega), beq_ne (show ¬ ad.toNat + 3 = ad.toNat + 2 by omega), cond_true, cond_false]
      rw [fdivE (by omega), wU8, hk]
      rfl
    rw [sto_out (by omega)]
    simp only [beq_ne h0, beq_ne h1, beq_ne h2, beq_ne h3, cond_false]
  · show con _ = con (o_wr (o_apw r.nw r.wf ad 4 (mskI (vlI r.rg (iB (p.f pc.toNat))) 4)) i)
    unfold o_apw o_wr
    by_cases hin : i < r.nw
    · simp only [hin, decide_true, cond_true]
      rfl
    · simp only [hin, decide_false, cond_false, hk]
      rfl

theorem st1 (hp : p.ok) (hr : r.ok) : Pure Try.prog 20 (cons [p.xv x y, r.xv xm xw, .int .i64 pc]) (con (.tup [(stepV p r pc).1.xv false false, .int .i64 (stepV p r pc).2])) := by
  by_cases h : r.en = 0 ∧ p.right = true ∧ (r.nm : Int) = p.sz
  case neg => exact st1_pre hp hr (.inl h)
  by_cases hpc : pc < 0 ∨ pc ≥ p.n
  case pos => exact st1_pre hp hr (.inr hpc)
  obtain ⟨c1, c2, c3⟩ := h
  have h0 : 0 ≤ pc := by omega
  have h1 : pc < p.n := by omega
  have hR : allR p.n p.f = true := by
    have h := c2
    unfold PV.right prB at h
    simp only [Bool.and_eq_true] at h
    exact h.2.1
  unfold stepV goV
  rw [if_pos ⟨c1, c2, c3⟩, if_neg hpc]
  have hrt := allR_iff.1 hR pc.toNat (by omega)
  obtain ⟨hf0, _⟩ := rt_fields hrt
  rcases fm_in (iOp (p.f pc.toNat)) with hf | hf | hf | hf | hf | hf | hf | hf | hf
  · exact absurd hf hf0
  · exact st1_1 hp hr c1 c2 hR c3 h0 h1 hf
  · exact st1_2 hp hr c1 c2 hR c3 h0 h1 hf
  · exact st1_3 hp hr c1 c2 hR c3 h0 h1 hf
  · exact st1_4 hp hr c1 c2 hR c3 h0 h1 hf
  · rcases sz_store hf with hs | hs | hs
    · exact st1_51 hp hr c1 c2 hR c3 h0 h1 hf hs
    · exact st1_52 hp hr c1 c2 hR c3 h0 h1 hf hs
    · exact st1_54 hp hr c1 c2 hR c3 h0 h1 hf hs
  · exact st1_6 hp hr c1 c2 hR c3 h0 h1 hf
  · exact st1_7 hp hr c1 c2 hR c3 h0 h1 hf
  · exact st1_8 hp hr c1 c2 hR c3 h0 h1 hf

end
end Go.Proofs.Ytmfbaglhmiadjaa

/- A whole run: forms. -/
namespace Go.Proofs.Ytmfbaglhmiadjaa
open Go.Ra
set_option linter.unusedVariables false
set_option linter.unusedSimpArgs false
def xNo : XV := .agg 23 [.int .i64 0, .agg 3 [.int .i64 0, .int .i64 0, .int .i64 0], .int .i64 0, .tab 16 1 (fun _ => .int .u32 0), .row true 0 0 (fun _ => .unk), .row true 0 0 (fun _ => .unk)]
/-- Between two rounds of a run. -/
def sRun (x : Bool) (n : Nat) (f : Nat → XV) (sz : Int) (y : Bool) (m : Nat) (d : Nat → XV) (st : Int) (rg : Nat → XV) (nm : Nat) (mm : Nat → XV) (nw : Nat) (wf : Nat → XV) (pc bd : Int) (k : Nat) : XSt :=
  ⟨[(20, .int .i64 k), (19, .int .i64 bd), (6, .ptr 5 [] 0), (5, .ptr 4 [] 0), (4, .ptr 1 [] 0)],
   [(6, some (.tab nw 3 (o_wr wf))), (5, some (.agg 5 [xPr x n f sz y m d, .ptr 4 [] 0, .int .i64 pc])), (4, some (.agg 23 [.int .i64 0, .agg 3 [.int .i64 0, .int .i64 0, .int .i64 0], .int .i64 st, .tab 16 1 (o_rg rg), .sl 3 [] 0 0 nm 1, .sl 6 [] 0 0 nw 3])), (3, some (.tab nm 1 (o_by mm))), (1, some xNo), (0, some (xPr x n f sz y m d))], 7⟩
theorem r_run0 (x : Bool) (n : Nat) (f : Nat → XV) (sz : Int) (y : Bool) (m : Nat) (d : Nat → XV) (fuel : Int) (r : AV) : (goS Try.prog (TQ 8) [(.cell 4 true 23)] r (.run c_seq_Run) [] ⟨envX 0 [xPr x n f sz y m d, .int .i64 fuel], [], 0⟩) = (bif decide (n ≤ 4611686018427387904) then bif allN (fun i => true) n then bif decide (m ≤ 4611686018427387904) then bif !prB n (o_in fun a => f a) sz m then
 con (.agg 23 [.int .i64 0, .agg 3 [.int .i64 0, .int .i64 0, .int .i64 0], .int .i64 0, .tab 16 1 fun x => .int .u32 0, .row true 0 0 fun x => .unk, .row true 0
 0 fun x => .unk]) = r else bif decide (0 ≤ sz) then bif decide (Int.toNat sz * 1 ≤ 140737488355328) then bif Nat.beq (Int.toNat sz) (Int.toNat sz) then LoopAt (Ok
 Try.prog (Tab.q (TQ (8 : Int)))) c_seq_Run_l1 (XSt.mk [(20, .int .i64 0), (19, .int .i64 (if (if 100000 < fuel then (100000 : Int) else fuel) > 0 then if 100000
 < fuel then (100000 : Int) else fuel else (0 : Int))), (6, .ptr 5 [] 0), (5, .ptr 4 [] 0), (4, .ptr 1 [] 0)] [(5, some (.agg 5 [.agg 3 [.row x 5 n (o_in fun a =>
 f a), .int .i64 sz, .row y 1 m (o_by fun a => d a)], .ptr 4 [] 0, .int .i64 0])), (4, some (.agg 23 [.int .i64 0, .agg 3 [.int .i64 0, .int .i64 0, .int .i64 0],
 .int .i64 0, .tab 16 1 fun x => .int .u32 0, .sl 3 [] 0 0 (Int.toNat sz) 1, .row true 0 0 fun x => .unk])), (3, some (.tab (Int.toNat sz) 1 fun i => .int .u8 (bif
 decide (i < m) then asN (d i) else (0 : Int)))), (2, some (.agg 3 [.row x 5 n (o_in fun a => f a), .int .i64 sz, .row y 1 m (o_by fun a => d a)])), (1, some (.agg
 23 [.int .i64 0, .agg 3 [.int .i64 0, .int .i64 0, .int .i64 0], .int .i64 0, .tab 16 1 fun x => .int .u32 0, .row true 0 0 fun x => .unk, .row true 0 0 fun x =>
 .unk])), (0, some (.agg 3 [.row x 5 n (o_in fun a => f a), .int .i64 sz, .row y 1 m (o_by fun a => d a)]))] 6) [Frm.blk 0, Frm.seq c_seq_Run_p1] (finR [AR.cell 4
 true 23] r) else False else False else False else False else False
else False) := by kernel_rfl
theorem r_rn_1 (x : Bool) (n : Nat) (f : Nat → XV) (sz : Int) (y : Bool) (m : Nat) (d : Nat → XV) (st : Int) (rg : Nat → XV) (nm : Nat) (mm : Nat → XV) (nw : Nat) (wf : Nat → XV) (pc bd : Int) (k : Nat) (r : AV) (A : XSt → Prop) : (goS Try.prog (TQ 1) [(.cell 4 true 23)] r (.run c_seq_Run_l1) [.lp c_seq_Run_l1 A, .blk 0, .seq c_seq_Run_p1] (sRun x n f sz y m d st rg nm mm nw wf pc bd k)) = (bif decide ((↑k : Int) < bd) then bif bif decide (pc < 0) then true else !decide (pc < 0) then bif bif decide (pc < 0) then true else decide (pc ≥ (↑n : Int))
 then bif decide (nm ≤ nm) then bif decide (nw ≤ nw) then con (.agg 23 [.int .i64 2, .agg 3 [.int .i64 4, .int .i64 st, .int .i64 pc], .int .i64 st, .tab 16 1 (o_rg
 fun a => rg a), .row false 1 nm fun i => .int .u8 (asN (mm i)), .row false 3 nw fun i => .agg 3 [.int .i64 (asN (fld 0 (wf i))), .int .i64 (asN (fld 1 (wf i))),
 .int .u32 (asN (fld 2 (wf i)))]]) = r else False else False else bif decide (0 ≤ pc) then bif decide (pc < (↑n : Int)) then bif decide (fmI (asN (fld 0 (f (Int.toNat
 pc)))) = 1) then bif decide (nm ≤ nm) then bif decide (nw ≤ nw) then bif decide (0 ≤ asN (fld 2 (f (Int.toNat pc)))) then bif decide (asN (fld 2 (f (Int.toNat pc)))
 ≤ 15) then bif decide (nm ≤ nm) then bif decide (nw ≤ nw) then bif decide (0 ≤ asN (fld 3 (f (Int.toNat pc)))) then bif decide (asN (fld 3 (f (Int.toNat pc))) ≤
 15) then bif decide (0 ≤ vlI (o_rg fun a => rg a) (asN (fld 2 (f (Int.toNat pc))))) then bif decide (vlI (o_rg fun a => rg a) (asN (fld 2 (f (Int.toNat pc)))) ≤
 4294967295) then bif decide (0 ≤ vlI (o_rg fun a => rg a) (asN (fld 3 (f (Int.toNat pc))))) then bif decide (vlI (o_rg fun a => rg a) (asN (fld 3 (f (Int.toNat pc))))
 ≤ 4294967295) then bif !dkB (asN (fld 0 (f (Int.toNat pc)))) (asN (fld 1 (f (Int.toNat pc)))) (asN (fld 2 (f (Int.toNat pc)))) (asN (fld 3 (f (Int.toNat pc)))) (asN
 (fld 4 (f (Int.toNat pc)))) (vlI (o_rg fun a => rg a) (asN (fld 3 (f (Int.toNat pc))))) then bif decide (nm ≤ nm) then bif decide (nw ≤ nw) then con (.agg 23 [.int
 .i64 2, .agg 3 [.int .i64 3, .int .i64 st, .int .i64 pc], .int .i64 st, .tab 16 1 (o_rg fun a => rg a), .row false 1 nm fun i => .int .u8 (asN (mm i)), .row false
 3 nw fun i => .agg 3 [.int .i64 (asN (fld 0 (wf i))), .int .i64 (asN (fld 1 (wf i))), .int .u32 (asN (fld 2 (wf i)))]]) = r else False else False else bif decide
 ¬asN (fld 1 (f (Int.toNat pc))) = 0 then bif decide (0 ≤ asN (fld 1 (f (Int.toNat pc)))) then bif decide (asN (fld 1 (f (Int.toNat pc))) < 16) then bif Nat.beq (pl
 5 (Int.toNat (asN (fld 1 (f (Int.toNat pc)))) * 1)) (pl 5 (Int.toNat (asN (fld 1 (f (Int.toNat pc)))) * 1)) then bif decide (Int.toNat (asN (fld 1 (f (Int.toNat
 pc)))) < 16) then bif decide (Int.toNat (asN (fld 1 (f (Int.toNat pc)))) < 16) then A (XSt.mk [(20, .int .i64 (IntKind.wrap .i64 ((↑k : Int) + (1 : Int)))), (19,
 .int .i64 bd), (6, .ptr 5 [] 0), (5, .ptr 4 [] 0), (4, .ptr 1 [] 0)] [(7, some (.agg 5 [.int .i64 (asN (fld 0 (f (Int.toNat pc)))), .int .i64 (asN (fld 1 (f (Int.toNat
 pc)))), .int .i64 (asN (fld 2 (f (Int.toNat pc)))), .int .i64 (asN (fld 3 (f (Int.toNat pc)))), .int .i64 (asN (fld 4 (f (Int.toNat pc))))])), (6, some (.tab nw
 3 (o_wr fun a => wf a))), (5, some (.agg 5 [.agg 3 [.row x 5 n (o_in fun a => f a), .int .i64 sz, .row y 1 m (o_by fun a => d a)], .ptr 4 [] 0, .int .i64 (IntKind.wrap
 .i64 (pc + (1 : Int)))])), (4, some (.agg 23 [.int .i64 0, .agg 3 [.int .i64 0, .int .i64 0, .int .i64 0], .int .i64 (IntKind.wrap .i64 (st + (1 : Int))), .tab 16
 1 fun j => .int .u32 (bif Nat.beq j (Int.toNat (asN (fld 1 (f (Int.toNat pc))))) then doI (asN (fld 0 (f (Int.toNat pc)))) (asN (fld 1 (f (Int.toNat pc)))) (asN
 (fld 2 (f (Int.toNat pc)))) (asN (fld 3 (f (Int.toNat pc)))) (asN (fld 4 (f (Int.toNat pc)))) (vlI (o_rg fun a => rg a) (asN (fld 2 (f (Int.toNat pc))))) (vlI (o_rg
 fun a => rg a) (asN (fld 3 (f (Int.toNat pc))))) else asN (rg j)), .sl 3 [] 0 0 nm 1, .sl 6 [] 0 0 nw 3])), (3, some (.tab nm 1 (o_by fun a => mm a))), (1, some
 (.agg 23 [.int .i64 0, .agg 3 [.int .i64 0, .int .i64 0, .int .i64 0], .int .i64 0, .tab 16 1 fun x => .int .u32 0, .row true 0 0 fun x => .unk, .row true 0 0 fun
 x => .unk])), (0, some (.agg 3 [.row x 5 n (o_in fun a => f a), .int .i64 sz, .row y 1 m (o_by fun a => d a)]))] 8) else False else False else False else False else
 False else A (XSt.mk [(20, .int .i64 (IntKind.wrap .i64 ((↑k : Int) + (1 : Int)))), (19, .int .i64 bd), (6, .ptr 5 [] 0), (5, .ptr 4 [] 0), (4, .ptr 1 [] 0)] [(7,
 some (.agg 5 [.int .i64 (asN (fld 0 (f (Int.toNat pc)))), .int .i64 (asN (fld 1 (f (Int.toNat pc)))), .int .i64 (asN (fld 2 (f (Int.toNat pc)))), .int .i64 (asN
 (fld 3 (f (Int.toNat pc)))), .int .i64 (asN (fld 4 (f (Int.toNat pc))))])), (6, some (.tab nw 3 (o_wr fun a => wf a))), (5, some (.agg 5 [.agg 3 [.row x 5 n (o_in
 fun a => f a), .int .i64 sz, .row y 1 m (o_by fun a => d a)], .ptr 4 [] 0, .int .i64 (IntKind.wrap .i64 (pc + (1 : Int)))])), (4, some (.agg 23 [.int .i64 0, .agg
 3 [.int .i64 0, .int .i64 0, .int .i64 0], .int .i64 (IntKind.wrap .i64 (st + (1 : Int))), .tab 16 1 (o_rg fun a => rg a), .sl 3 [] 0 0 nm 1, .sl 6 [] 0 0 nw 3])),
 (3, some (.tab nm 1 (o_by fun a => mm a))), (1, some (.agg 23 [.int .i64 0, .agg 3 [.int .i64 0, .int .i64 0, .int .i64 0], .int .i64 0, .tab 16 1 fun x => .int
 .u32 0, .row true 0 0 fun x => .unk, .row true 0 0 fun x => .unk])), (0, some (.agg 3 [.row x 5 n (o_in fun a => f a), .int .i64 sz, .row y 1 m (o_by fun a => d
 a)]))] 8) else False else False else False else False else False else False else False else False else False else False else False else False else False else False
 else False else False
else bif decide (nm ≤ nm) then bif decide (nw ≤ nw) then con (.agg 23 [.int .i64 3, .agg 3 [.int .i64 0, .int .i64 0, .int .i64 0], .int .i64
 st, .tab 16 1 (o_rg fun a => rg a), .row false 1 nm fun i => .int .u8 (asN (mm i)), .row false 3 nw fun i => .agg 3 [.int .i64 (asN (fld 0 (wf i))), .int .i64 (asN
 (fld 1 (wf i))), .int .u32 (asN (fld 2 (wf i)))]]) = r else False else False) := by kernel_rfl
theorem r_rn_2 (x : Bool) (n : Nat) (f : Nat → XV) (sz : Int) (y : Bool) (m : Nat) (d : Nat → XV) (st : Int) (rg : Nat → XV) (nm : Nat) (mm : Nat → XV) (nw : Nat) (wf : Nat → XV) (pc bd : Int) (k : Nat) (r : AV) (A : XSt → Prop) : (goS Try.prog (TQ 2) [(.cell 4 true 23)] r (.run c_seq_Run_l1) [.lp c_seq_Run_l1 A, .blk 0, .seq c_seq_Run_p1] (sRun x n f sz y m d st rg nm mm nw wf pc bd k)) = (bif decide ((↑k : Int) < bd) then bif bif decide (pc < 0) then true else !decide (pc < 0) then bif bif decide (pc < 0) then true else decide (pc ≥ (↑n : Int))
 then bif decide (nm ≤ nm) then bif decide (nw ≤ nw) then con (.agg 23 [.int .i64 2, .agg 3 [.int .i64 4, .int .i64 st, .int .i64 pc], .int .i64 st, .tab 16 1 (o_rg
 fun a => rg a), .row false 1 nm fun i => .int .u8 (asN (mm i)), .row false 3 nw fun i => .agg 3 [.int .i64 (asN (fld 0 (wf i))), .int .i64 (asN (fld 1 (wf i))),
 .int .u32 (asN (fld 2 (wf i)))]]) = r else False else False else bif decide (0 ≤ pc) then bif decide (pc < (↑n : Int)) then bif decide (fmI (asN (fld 0 (f (Int.toNat
 pc)))) = 2) then bif decide (nm ≤ nm) then bif decide (nw ≤ nw) then bif decide (0 ≤ asN (fld 2 (f (Int.toNat pc)))) then bif decide (asN (fld 2 (f (Int.toNat pc)))
 ≤ 15) then bif decide (nm ≤ nm) then bif decide (nw ≤ nw) then bif decide (0 ≤ asN (fld 3 (f (Int.toNat pc)))) then bif decide (asN (fld 3 (f (Int.toNat pc))) ≤
 15) then bif decide (0 ≤ vlI (o_rg fun a => rg a) (asN (fld 2 (f (Int.toNat pc))))) then bif decide (vlI (o_rg fun a => rg a) (asN (fld 2 (f (Int.toNat pc)))) ≤
 4294967295) then bif decide (0 ≤ vlI (o_rg fun a => rg a) (asN (fld 3 (f (Int.toNat pc))))) then bif decide (vlI (o_rg fun a => rg a) (asN (fld 3 (f (Int.toNat pc))))
 ≤ 4294967295) then bif !dkB (asN (fld 0 (f (Int.toNat pc)))) (asN (fld 1 (f (Int.toNat pc)))) (asN (fld 2 (f (Int.toNat pc)))) (asN (fld 3 (f (Int.toNat pc)))) (asN
 (fld 4 (f (Int.toNat pc)))) (vlI (o_rg fun a => rg a) (asN (fld 3 (f (Int.toNat pc))))) then bif decide (nm ≤ nm) then bif decide (nw ≤ nw) then con (.agg 23 [.int
 .i64 2, .agg 3 [.int .i64 3, .int .i64 st, .int .i64 pc], .int .i64 st, .tab 16 1 (o_rg fun a => rg a), .row false 1 nm fun i => .int .u8 (asN (mm i)), .row false
 3 nw fun i => .agg 3 [.int .i64 (asN (fld 0 (wf i))), .int .i64 (asN (fld 1 (wf i))), .int .u32 (asN (fld 2 (wf i)))]]) = r else False else False else bif decide
 ¬asN (fld 1 (f (Int.toNat pc))) = 0 then bif decide (0 ≤ asN (fld 1 (f (Int.toNat pc)))) then bif decide (asN (fld 1 (f (Int.toNat pc))) < 16) then bif Nat.beq (pl
 5 (Int.toNat (asN (fld 1 (f (Int.toNat pc)))) * 1)) (pl 5 (Int.toNat (asN (fld 1 (f (Int.toNat pc)))) * 1)) then bif decide (Int.toNat (asN (fld 1 (f (Int.toNat
 pc)))) < 16) then bif decide (Int.toNat (asN (fld 1 (f (Int.toNat pc)))) < 16) then A (XSt.mk [(20, .int .i64 (IntKind.wrap .i64 ((↑k : Int) + (1 : Int)))), (19,
 .int .i64 bd), (6, .ptr 5 [] 0), (5, .ptr 4 [] 0), (4, .ptr 1 [] 0)] [(7, some (.agg 5 [.int .i64 (asN (fld 0 (f (Int.toNat pc)))), .int .i64 (asN (fld 1 (f (Int.toNat
 pc)))), .int .i64 (asN (fld 2 (f (Int.toNat pc)))), .int .i64 (asN (fld 3 (f (Int.toNat pc)))), .int .i64 (asN (fld 4 (f (Int.toNat pc))))])), (6, some (.tab nw
 3 (o_wr fun a => wf a))), (5, some (.agg 5 [.agg 3 [.row x 5 n (o_in fun a => f a), .int .i64 sz, .row y 1 m (o_by fun a => d a)], .ptr 4 [] 0, .int .i64 (IntKind.wrap
 .i64 (pc + (1 : Int)))])), (4, some (.agg 23 [.int .i64 0, .agg 3 [.int .i64 0, .int .i64 0, .int .i64 0], .int .i64 (IntKind.wrap .i64 (st + (1 : Int))), .tab 16
 1 fun j => .int .u32 (bif Nat.beq j (Int.toNat (asN (fld 1 (f (Int.toNat pc))))) then doI (asN (fld 0 (f (Int.toNat pc)))) (asN (fld 1 (f (Int.toNat pc)))) (asN
 (fld 2 (f (Int.toNat pc)))) (asN (fld 3 (f (Int.toNat pc)))) (asN (fld 4 (f (Int.toNat pc)))) (vlI (o_rg fun a => rg a) (asN (fld 2 (f (Int.toNat pc))))) (vlI (o_rg
 fun a => rg a) (asN (fld 3 (f (Int.toNat pc))))) else asN (rg j)), .sl 3 [] 0 0 nm 1, .sl 6 [] 0 0 nw 3])), (3, some (.tab nm 1 (o_by fun a => mm a))), (1, some
 (.agg 23 [.int .i64 0, .agg 3 [.int .i64 0, .int .i64 0, .int .i64 0], .int .i64 0, .tab 16 1 fun x => .int .u32 0, .row true 0 0 fun x => .unk, .row true 0 0 fun
 x => .unk])), (0, some (.agg 3 [.row x 5 n (o_in fun a => f a), .int .i64 sz, .row y 1 m (o_by fun a => d a)]))] 8) else False else False else False else False else
 False else A (XSt.mk [(20, .int .i64 (IntKind.wrap .i64 ((↑k : Int) + (1 : Int)))), (19, .int .i64 bd), (6, .ptr 5 [] 0), (5, .ptr 4 [] 0), (4, .ptr 1 [] 0)] [(7,
 some (.agg 5 [.int .i64 (asN (fld 0 (f (Int.toNat pc)))), .int .i64 (asN (fld 1 (f (Int.toNat pc)))), .int .i64 (asN (fld 2 (f (Int.toNat pc)))), .int .i64 (asN
 (fld 3 (f (Int.toNat pc)))), .int .i64 (asN (fld 4 (f (Int.toNat pc))))])), (6, some (.tab nw 3 (o_wr fun a => wf a))), (5, some (.agg 5 [.agg 3 [.row x 5 n (o_in
 fun a => f a), .int .i64 sz, .row y 1 m (o_by fun a => d a)], .ptr 4 [] 0, .int .i64 (IntKind.wrap .i64 (pc + (1 : Int)))])), (4, some (.agg 23 [.int .i64 0, .agg
 3 [.int .i64 0, .int .i64 0, .int .i64 0], .int .i64 (IntKind.wrap .i64 (st + (1 : Int))), .tab 16 1 (o_rg fun a => rg a), .sl 3 [] 0 0 nm 1, .sl 6 [] 0 0 nw 3])),
 (3, some (.tab nm 1 (o_by fun a => mm a))), (1, some (.agg 23 [.int .i64 0, .agg 3 [.int .i64 0, .int .i64 0, .int .i64 0], .int .i64 0, .tab 16 1 fun x => .int
 .u32 0, .row true 0 0 fun x => .unk, .row true 0 0 fun x => .unk])), (0, some (.agg 3 [.row x 5 n (o_in fun a => f a), .int .i64 sz, .row y 1 m (o_by fun a => d
 a)]))] 8) else False else False else False else False else False else False else False else False else False else False else False else False else False else False
 else False else False
else bif decide (nm ≤ nm) then bif decide (nw ≤ nw) then con (.agg 23 [.int .i64 3, .agg 3 [.int .i64 0, .int .i64 0, .int .i64 0], .int .i64
 st, .tab 16 1 (o_rg fun a => rg a), .row false 1 nm fun i => .int .u8 (asN (mm i)), .row false 3 nw fun i => .agg 3 [.int .i64 (asN (fld 0 (wf i))), .int .i64 (asN
 (fld 1 (wf i))), .int .u32 (asN (fld 2 (wf i)))]]) = r else False else False) := by kernel_rfl
theorem r_rn_3 (x : Bool) (n : Nat) (f : Nat → XV) (sz : Int) (y : Bool) (m : Nat) (d : Nat → XV) (st : Int) (rg : Nat → XV) (nm : Nat) (mm : Nat → XV) (nw : Nat) (wf : Nat → XV) (pc bd : Int) (k : Nat) (r : AV) (A : XSt → Prop) : (goS Try.prog (TQ 3) [(.cell 4 true 23)] r (.run c_seq_Run_l1) [.lp c_seq_Run_l1 A, .blk 0, .seq c_seq_Run_p1] (sRun x n f sz y m d st rg nm mm nw wf pc bd k)) = (bif decide ((↑k : Int) < bd) then bif bif decide (pc < 0) then true else !decide (pc < 0) then bif bif decide (pc < 0) then true else decide (pc ≥ (↑n : Int))
 then bif decide (nm ≤ nm) then bif decide (nw ≤ nw) then con (.agg 23 [.int .i64 2, .agg 3 [.int .i64 4, .int .i64 st, .int .i64 pc], .int .i64 st, .tab 16 1 (o_rg
 fun a => rg a), .row false 1 nm fun i => .int .u8 (asN (mm i)), .row false 3 nw fun i => .agg 3 [.int .i64 (asN (fld 0 (wf i))), .int .i64 (asN (fld 1 (wf i))),
 .int .u32 (asN (fld 2 (wf i)))]]) = r else False else False else bif decide (0 ≤ pc) then bif decide (pc < (↑n : Int)) then bif decide (fmI (asN (fld 0 (f (Int.toNat
 pc)))) = 3) then bif decide (nm ≤ nm) then bif decide (nw ≤ nw) then bif decide (0 ≤ asN (fld 2 (f (Int.toNat pc)))) then bif decide (asN (fld 2 (f (Int.toNat pc)))
 ≤ 15) then bif decide (nm ≤ nm) then bif decide (nw ≤ nw) then bif decide (0 ≤ asN (fld 3 (f (Int.toNat pc)))) then bif decide (asN (fld 3 (f (Int.toNat pc))) ≤
 15) then bif decide (0 ≤ vlI (o_rg fun a => rg a) (asN (fld 2 (f (Int.toNat pc))))) then bif decide (vlI (o_rg fun a => rg a) (asN (fld 2 (f (Int.toNat pc)))) ≤
 4294967295) then bif decide (0 ≤ vlI (o_rg fun a => rg a) (asN (fld 3 (f (Int.toNat pc))))) then bif decide (vlI (o_rg fun a => rg a) (asN (fld 3 (f (Int.toNat pc))))
 ≤ 4294967295) then bif !dkB (asN (fld 0 (f (Int.toNat pc)))) (asN (fld 1 (f (Int.toNat pc)))) (asN (fld 2 (f (Int.toNat pc)))) (asN (fld 3 (f (Int.toNat pc)))) (asN
 (fld 4 (f (Int.toNat pc)))) (vlI (o_rg fun a => rg a) (asN (fld 3 (f (Int.toNat pc))))) then bif decide (nm ≤ nm) then bif decide (nw ≤ nw) then con (.agg 23 [.int
 .i64 2, .agg 3 [.int .i64 3, .int .i64 st, .int .i64 pc], .int .i64 st, .tab 16 1 (o_rg fun a => rg a), .row false 1 nm fun i => .int .u8 (asN (mm i)), .row false
 3 nw fun i => .agg 3 [.int .i64 (asN (fld 0 (wf i))), .int .i64 (asN (fld 1 (wf i))), .int .u32 (asN (fld 2 (wf i)))]]) = r else False else False else bif decide
 ¬asN (fld 1 (f (Int.toNat pc))) = 0 then bif decide (0 ≤ asN (fld 1 (f (Int.toNat pc)))) then bif decide (asN (fld 1 (f (Int.toNat pc))) < 16) then bif Nat.beq (pl
 5 (Int.toNat (asN (fld 1 (f (Int.toNat pc)))) * 1)) (pl 5 (Int.toNat (asN (fld 1 (f (Int.toNat pc)))) * 1)) then bif decide (Int.toNat (asN (fld 1 (f (Int.toNat
 pc)))) < 16) then bif decide (Int.toNat (asN (fld 1 (f (Int.toNat pc)))) < 16) then A (XSt.mk [(20, .int .i64 (IntKind.wrap .i64 ((↑k : Int) + (1 : Int)))), (19,
 .int .i64 bd), (6, .ptr 5 [] 0), (5, .ptr 4 [] 0), (4, .ptr 1 [] 0)] [(7, some (.agg 5 [.int .i64 (asN (fld 0 (f (Int.toNat pc)))), .int .i64 (asN (fld 1 (f (Int.toNat
 pc)))), .int .i64 (asN (fld 2 (f (Int.toNat pc)))), .int .i64 (asN (fld 3 (f (Int.toNat pc)))), .int .i64 (asN (fld 4 (f (Int.toNat pc))))])), (6, some (.tab nw
 3 (o_wr fun a => wf a))), (5, some (.agg 5 [.agg 3 [.row x 5 n (o_in fun a => f a), .int .i64 sz, .row y 1 m (o_by fun a => d a)], .ptr 4 [] 0, .int .i64 (IntKind.wrap
 .i64 (pc + (1 : Int)))])), (4, some (.agg 23 [.int .i64 0, .agg 3 [.int .i64 0, .int .i64 0, .int .i64 0], .int .i64 (IntKind.wrap .i64 (st + (1 : Int))), .tab 16
 1 fun j => .int .u32 (bif Nat.beq j (Int.toNat (asN (fld 1 (f (Int.toNat pc))))) then doI (asN (fld 0 (f (Int.toNat pc)))) (asN (fld 1 (f (Int.toNat pc)))) (asN
 (fld 2 (f (Int.toNat pc)))) (asN (fld 3 (f (Int.toNat pc)))) (asN (fld 4 (f (Int.toNat pc)))) (vlI (o_rg fun a => rg a) (asN (fld 2 (f (Int.toNat pc))))) (vlI (o_rg
 fun a => rg a) (asN (fld 3 (f (Int.toNat pc))))) else asN (rg j)), .sl 3 [] 0 0 nm 1, .sl 6 [] 0 0 nw 3])), (3, some (.tab nm 1 (o_by fun a => mm a))), (1, some
 (.agg 23 [.int .i64 0, .agg 3 [.int .i64 0, .int .i64 0, .int .i64 0], .int .i64 0, .tab 16 1 fun x => .int .u32 0, .row true 0 0 fun x => .unk, .row true 0 0 fun
 x => .unk])), (0, some (.agg 3 [.row x 5 n (o_in fun a => f a), .int .i64 sz, .row y 1 m (o_by fun a => d a)]))] 8) else False else False else False else False else
 False else A (XSt.mk [(20, .int .i64 (IntKind.wrap .i64 ((↑k : Int) + (1 : Int)))), (19, .int .i64 bd), (6, .ptr 5 [] 0), (5, .ptr 4 [] 0), (4, .ptr 1 [] 0)] [(7,
 some (.agg 5 [.int .i64 (asN (fld 0 (f (Int.toNat pc)))), .int .i64 (asN (fld 1 (f (Int.toNat pc)))), .int .i64 (asN (fld 2 (f (Int.toNat pc)))), .int .i64 (asN
 (fld 3 (f (Int.toNat pc)))), .int .i64 (asN (fld 4 (f (Int.toNat pc))))])), (6, some (.tab nw 3 (o_wr fun a => wf a))), (5, some (.agg 5 [.agg 3 [.row x 5 n (o_in
 fun a => f a), .int .i64 sz, .row y 1 m (o_by fun a => d a)], .ptr 4 [] 0, .int .i64 (IntKind.wrap .i64 (pc + (1 : Int)))])), (4, some (.agg 23 [.int .i64 0, .agg
 3 [.int .i64 0, .int .i64 0, .int .i64 0], .int .i64 (IntKind.wrap .i64 (st + (1 : Int))), .tab 16 1 (o_rg fun a => rg a), .sl 3 [] 0 0 nm 1, .sl 6 [] 0 0 nw 3])),
 (3, some (.tab nm 1 (o_by fun a => mm a))), (1, some (.agg 23 [.int .i64 0, .agg 3 [.int .i64 0, .int .i64 0, .int .i64 0], .int .i64 0, .tab 16 1 fun x => .int
 .u32 0, .row true 0 0 fun x => .unk, .row true 0 0 fun x => .unk])), (0, some (.agg 3 [.row x 5 n (o_in fun a => f a), .int .i64 sz, .row y 1 m (o_by fun a => d
 a)]))] 8) else False else False else False else False else False else False else False else False else False else False else False else False else False else False
 else False else False
else bif decide (nm ≤ nm) then bif decide (nw ≤ nw) then con (.agg 23 [.int .i64 3, .agg 3 [.int .i64 0, .int .i64 0, .int .i64 0], .int .i64
 st, .tab 16 1 (o_rg fun a => rg a), .row false 1 nm fun i => .int .u8 (asN (mm i)), .row false 3 nw fun i => .agg 3 [.int .i64 (asN (fld 0 (wf i))), .int .i64 (asN
 (fld 1 (wf i))), .int .u32 (asN (fld 2 (wf i)))]]) = r else False else False) := by kernel_rfl
theorem r_rn_4 (x : Bool) (n : Nat) (f : Nat → XV) (sz : Int) (y : Bool) (m : Nat) (d : Nat → XV) (st : Int) (rg : Nat → XV) (nm : Nat) (mm : Nat → XV) (nw : Nat) (wf : Nat → XV) (pc bd : Int) (k : Nat) (r : AV) (A : XSt → Prop) : (goS Try.prog (TQ 4) [(.cell 4 true 23)] r (.run c_seq_Run_l1) [.lp c_seq_Run_l1 A, .blk 0, .seq c_seq_Run_p1] (sRun x n f sz y m d st rg nm mm nw wf pc bd k)) = (bif decide ((↑k : Int) < bd) then bif bif decide (pc < 0) then true else !decide (pc < 0) then bif bif decide (pc < 0) then true else decide (pc ≥ (↑n : Int))
 then bif decide (nm ≤ nm) then bif decide (nw ≤ nw) then con (.agg 23 [.int .i64 2, .agg 3 [.int .i64 4, .int .i64 st, .int .i64 pc], .int .i64 st, .tab 16 1 (o_rg
 fun a => rg a), .row false 1 nm fun i => .int .u8 (asN (mm i)), .row false 3 nw fun i => .agg 3 [.int .i64 (asN (fld 0 (wf i))), .int .i64 (asN (fld 1 (wf i))),
 .int .u32 (asN (fld 2 (wf i)))]]) = r else False else False else bif decide (0 ≤ pc) then bif decide (pc < (↑n : Int)) then bif decide (fmI (asN (fld 0 (f (Int.toNat
 pc)))) = 4) then bif decide (nm ≤ nm) then bif decide (nw ≤ nw) then bif decide (0 ≤ asN (fld 2 (f (Int.toNat pc)))) then bif decide (asN (fld 2 (f (Int.toNat pc)))
 ≤ 15) then bif decide ¬chkI (szI (asN (fld 0 (f (Int.toNat pc))))) (IntKind.wrap .u32 (vlI (o_rg fun a => rg a) (asN (fld 2 (f (Int.toNat pc)))) + IntKind.wrap .u32
 (asN (fld 4 (f (Int.toNat pc)))))) (↑nm : Int) = (0 : Int) then bif decide ¬chkI (szI (asN (fld 0 (f (Int.toNat pc))))) (IntKind.wrap .u32 (vlI (o_rg fun a => rg
 a) (asN (fld 2 (f (Int.toNat pc)))) + IntKind.wrap .u32 (asN (fld 4 (f (Int.toNat pc)))))) (↑nm : Int) = (0 : Int) then bif decide (nm ≤ nm) then bif decide (nw
 ≤ nw) then con (.agg 23 [.int .i64 2, .agg 3 [.int .i64 (chkI (szI (asN (fld 0 (f (Int.toNat pc))))) (IntKind.wrap .u32 (vlI (o_rg fun a => rg a) (asN (fld 2 (f
 (Int.toNat pc)))) + IntKind.wrap .u32 (asN (fld 4 (f (Int.toNat pc)))))) (↑nm : Int)), .int .i64 st, .int .i64 pc], .int .i64 st, .tab 16 1 (o_rg fun a => rg a),
 .row false 1 nm fun i => .int .u8 (asN (mm i)), .row false 3 nw fun i => .agg 3 [.int .i64 (asN (fld 0 (wf i))), .int .i64 (asN (fld 1 (wf i))), .int .u32 (asN (fld
 2 (wf i)))]]) = r else False else False else A (XSt.mk [(20, .int .i64 (IntKind.wrap .i64 ((↑k : Int) + (1 : Int)))), (19, .int .i64 bd), (6, .ptr 5 [] 0), (5, .ptr
 4 [] 0), (4, .ptr 1 [] 0)] [(8, some (.agg 5 [.int .i64 (asN (fld 0 (f (Int.toNat pc)))), .int .i64 (asN (fld 1 (f (Int.toNat pc)))), .int .i64 (asN (fld 2 (f (Int.toNat
 pc)))), .int .i64 (asN (fld 3 (f (Int.toNat pc)))), .int .i64 (asN (fld 4 (f (Int.toNat pc))))])), (7, some (.agg 5 [.int .i64 (asN (fld 0 (f (Int.toNat pc)))),
 .int .i64 (asN (fld 1 (f (Int.toNat pc)))), .int .i64 (asN (fld 2 (f (Int.toNat pc)))), .int .i64 (asN (fld 3 (f (Int.toNat pc)))), .int .i64 (asN (fld 4 (f (Int.toNat
 pc))))])), (6, some (.tab nw 3 (o_wr fun a => wf a))), (5, some (.agg 5 [.agg 3 [.row x 5 n (o_in fun a => f a), .int .i64 sz, .row y 1 m (o_by fun a => d a)], .ptr
 4 [] 0, .int .i64 (IntKind.wrap .i64 (pc + (1 : Int)))])), (4, some (.agg 23 [.int .i64 0, .agg 3 [.int .i64 0, .int .i64 0, .int .i64 0], .int .i64 (IntKind.wrap
 .i64 (st + (1 : Int))), .tab 16 1 (o_rg fun a => rg a), .sl 3 [] 0 0 nm 1, .sl 6 [] 0 0 nw 3])), (3, some (.tab nm 1 (o_by fun a => mm a))), (1, some (.agg 23 [.int
 .i64 0, .agg 3 [.int .i64 0, .int .i64 0, .int .i64 0], .int .i64 0, .tab 16 1 fun x => .int .u32 0, .row true 0 0 fun x => .unk, .row true 0 0 fun x => .unk])),
 (0, some (.agg 3 [.row x 5 n (o_in fun a => f a), .int .i64 sz, .row y 1 m (o_by fun a => d a)]))] 9) else bif decide (fmI (asN (fld 0 (f (Int.toNat pc)))) = 4)
 then bif decide (nm ≤ nm) then bif decide (nm ≤ 1099511627776) then bif allN (fun i => true) nm then bif rngB nm fun i => .int .u8 (asN (mm i)) then bif decide ((0
 : Int) ≤ IntKind.wrap .u32 (vlI (o_rg fun a => rg a) (asN (fld 2 (f (Int.toNat pc)))) + IntKind.wrap .u32 (asN (fld 4 (f (Int.toNat pc)))))) then bif decide (IntKind.wrap
 .u32 (vlI (o_rg fun a => rg a) (asN (fld 2 (f (Int.toNat pc)))) + IntKind.wrap .u32 (asN (fld 4 (f (Int.toNat pc))))) ≤ (4294967295 : Int)) then bif decide ¬asN
 (fld 1 (f (Int.toNat pc))) = 0 then bif decide (0 ≤ asN (fld 1 (f (Int.toNat pc)))) then bif decide (asN (fld 1 (f (Int.toNat pc))) < 16) then bif Nat.beq (pl 5
 (Int.toNat (asN (fld 1 (f (Int.toNat pc)))) * 1)) (pl 5 (Int.toNat (asN (fld 1 (f (Int.toNat pc)))) * 1)) then bif decide (Int.toNat (asN (fld 1 (f (Int.toNat pc))))
 < 16) then bif decide (Int.toNat (asN (fld 1 (f (Int.toNat pc)))) < 16) then A (XSt.mk [(20, .int .i64 (IntKind.wrap .i64 ((↑k : Int) + (1 : Int)))), (19, .int .i64
 bd), (6, .ptr 5 [] 0), (5, .ptr 4 [] 0), (4, .ptr 1 [] 0)] [(8, some (.agg 5 [.int .i64 (asN (fld 0 (f (Int.toNat pc)))), .int .i64 (asN (fld 1 (f (Int.toNat pc)))),
 .int .i64 (asN (fld 2 (f (Int.toNat pc)))), .int .i64 (asN (fld 3 (f (Int.toNat pc)))), .int .i64 (asN (fld 4 (f (Int.toNat pc))))])), (7, some (.agg 5 [.int .i64
 (asN (fld 0 (f (Int.toNat pc)))), .int .i64 (asN (fld 1 (f (Int.toNat pc)))), .int .i64 (asN (fld 2 (f (Int.toNat pc)))), .int .i64 (asN (fld 3 (f (Int.toNat pc)))),
 .int .i64 (asN (fld 4 (f (Int.toNat pc))))])), (6, some (.tab nw 3 (o_wr fun a => wf a))), (5, some (.agg 5 [.agg 3 [.row x 5 n (o_in fun a => f a), .int .i64 sz,
 .row y 1 m (o_by fun a => d a)], .ptr 4 [] 0, .int .i64 (IntKind.wrap .i64 (pc + (1 : Int)))])), (4, some (.agg 23 [.int .i64 0, .agg 3 [.int .i64 0, .int .i64 0,
 .int .i64 0], .int .i64 (IntKind.wrap .i64 (st + (1 : Int))), .tab 16 1 fun j => .int .u32 (bif Nat.beq j (Int.toNat (asN (fld 1 (f (Int.toNat pc))))) then loadI
 nm (fun i => .int .u8 (asN (mm i))) (asN (fld 0 (f (Int.toNat pc)))) (IntKind.wrap .u32 (vlI (o_rg fun a => rg a) (asN (fld 2 (f (Int.toNat pc)))) + IntKind.wrap
 .u32 (asN (fld 4 (f (Int.toNat pc)))))) else asN (rg j)), .sl 3 [] 0 0 nm 1, .sl 6 [] 0 0 nw 3])), (3, some (.tab nm 1 (o_by fun a => mm a))), (1, some (.agg 23
 [.int .i64 0, .agg 3 [.int .i64 0, .int .i64 0, .int .i64 0], .int .i64 0, .tab 16 1 fun x => .int .u32 0, .row true 0 0 fun x => .unk, .row true 0 0 fun x => .unk])),
 (0, some (.agg 3 [.row x 5 n (o_in fun a => f a), .int .i64 sz, .row y 1 m (o_by fun a => d a)]))] 9) else False else False else False else False else False else
 A (XSt.mk [(20, .int .i64 (IntKind.wrap .i64 ((↑k : Int) + (1 : Int)))), (19, .int .i64 bd), (6, .ptr 5 [] 0), (5, .ptr 4 [] 0), (4, .ptr 1 [] 0)] [(8, some (.agg
 5 [.int .i64 (asN (fld 0 (f (Int.toNat pc)))), .int .i64 (asN (fld 1 (f (Int.toNat pc)))), .int .i64 (asN (fld 2 (f (Int.toNat pc)))), .int .i64 (asN (fld 3 (f (Int.toNat
 pc)))), .int .i64 (asN (fld 4 (f (Int.toNat pc))))])), (7, some (.agg 5 [.int .i64 (asN (fld 0 (f (Int.toNat pc)))), .int .i64 (asN (fld 1 (f (Int.toNat pc)))),
 .int .i64 (asN (fld 2 (f (Int.toNat pc)))), .int .i64 (asN (fld 3 (f (Int.toNat pc)))), .int .i64 (asN (fld 4 (f (Int.toNat pc))))])), (6, some (.tab nw 3 (o_wr
 fun a => wf a))), (5, some (.agg 5 [.agg 3 [.row x 5 n (o_in fun a => f a), .int .i64 sz, .row y 1 m (o_by fun a => d a)], .ptr 4 [] 0, .int .i64 (IntKind.wrap .i64
 (pc + (1 : Int)))])), (4, some (.agg 23 [.int .i64 0, .agg 3 [.int .i64 0, .int .i64 0, .int .i64 0], .int .i64 (IntKind.wrap .i64 (st + (1 : Int))), .tab 16 1 (o_rg
 fun a => rg a), .sl 3 [] 0 0 nm 1, .sl 6 [] 0 0 nw 3])), (3, some (.tab nm 1 (o_by fun a => mm a))), (1, some (.agg 23 [.int .i64 0, .agg 3 [.int .i64 0, .int .i64
 0, .int .i64 0], .int .i64 0, .tab 16 1 fun x => .int .u32 0, .row true 0 0 fun x => .unk, .row true 0 0 fun x => .unk])), (0, some (.agg 3 [.row x 5 n (o_in fun
 a => f a), .int .i64 sz, .row y 1 m (o_by fun a => d a)]))] 9) else False else False else False else False else False else False else False else False else False
 else False else False else False else False else False else False
else bif decide (nm ≤ nm) then bif decide (nw ≤ nw) then con (.agg 23 [.int .i64 3, .agg 3 [.int
 .i64 0, .int .i64 0, .int .i64 0], .int .i64 st, .tab 16 1 (o_rg fun a => rg a), .row false 1 nm fun i => .int .u8 (asN (mm i)), .row false 3 nw fun i => .agg 3
 [.int .i64 (asN (fld 0 (wf i))), .int .i64 (asN (fld 1 (wf i))), .int .u32 (asN (fld 2 (wf i)))]]) = r else False else False) := by kernel_rfl
theorem r_rn_6 (x : Bool) (n : Nat) (f : Nat → XV) (sz : Int) (y : Bool) (m : Nat) (d : Nat → XV) (st : Int) (rg : Nat → XV) (nm : Nat) (mm : Nat → XV) (nw : Nat) (wf : Nat → XV) (pc bd : Int) (k : Nat) (r : AV) (A : XSt → Prop) : (goS Try.prog (TQ 6) [(.cell 4 true 23)] r (.run c_seq_Run_l1) [.lp c_seq_Run_l1 A, .blk 0, .seq c_seq_Run_p1] (sRun x n f sz y m d st rg nm mm nw wf pc bd k)) = (bif decide ((↑k : Int) < bd) then bif bif decide (pc < 0) then true else !decide (pc < 0) then bif bif decide (pc < 0) then true else decide (pc ≥ (↑n : Int))
 then bif decide (nm ≤ nm) then bif decide (nw ≤ nw) then con (.agg 23 [.int .i64 2, .agg 3 [.int .i64 4, .int .i64 st, .int .i64 pc], .int .i64 st, .tab 16 1 (o_rg
 fun a => rg a), .row false 1 nm fun i => .int .u8 (asN (mm i)), .row false 3 nw fun i => .agg 3 [.int .i64 (asN (fld 0 (wf i))), .int .i64 (asN (fld 1 (wf i))),
 .int .u32 (asN (fld 2 (wf i)))]]) = r else False else False else bif decide (0 ≤ pc) then bif decide (pc < (↑n : Int)) then bif decide (fmI (asN (fld 0 (f (Int.toNat
 pc)))) = 6) then bif decide (nm ≤ nm) then bif decide (nw ≤ nw) then bif decide (0 ≤ asN (fld 2 (f (Int.toNat pc)))) then bif decide (asN (fld 2 (f (Int.toNat pc)))
 ≤ 15) then bif decide (nm ≤ nm) then bif decide (nw ≤ nw) then bif decide (0 ≤ asN (fld 3 (f (Int.toNat pc)))) then bif decide (asN (fld 3 (f (Int.toNat pc))) ≤
 15) then bif decide (0 ≤ vlI (o_rg fun a => rg a) (asN (fld 2 (f (Int.toNat pc))))) then bif decide (vlI (o_rg fun a => rg a) (asN (fld 2 (f (Int.toNat pc)))) ≤
 4294967295) then bif decide (0 ≤ vlI (o_rg fun a => rg a) (asN (fld 3 (f (Int.toNat pc))))) then bif decide (vlI (o_rg fun a => rg a) (asN (fld 3 (f (Int.toNat pc))))
 ≤ 4294967295) then bif tkB (asN (fld 0 (f (Int.toNat pc)))) (vlI (o_rg fun a => rg a) (asN (fld 2 (f (Int.toNat pc))))) (vlI (o_rg fun a => rg a) (asN (fld 3 (f
 (Int.toNat pc))))) then A (XSt.mk [(20, .int .i64 (IntKind.wrap .i64 ((↑k : Int) + (1 : Int)))), (19, .int .i64 bd), (6, .ptr 5 [] 0), (5, .ptr 4 [] 0), (4, .ptr
 1 [] 0)] [(7, some (.agg 5 [.int .i64 (asN (fld 0 (f (Int.toNat pc)))), .int .i64 (asN (fld 1 (f (Int.toNat pc)))), .int .i64 (asN (fld 2 (f (Int.toNat pc)))), .int
 .i64 (asN (fld 3 (f (Int.toNat pc)))), .int .i64 (asN (fld 4 (f (Int.toNat pc))))])), (6, some (.tab nw 3 (o_wr fun a => wf a))), (5, some (.agg 5 [.agg 3 [.row
 x 5 n (o_in fun a => f a), .int .i64 sz, .row y 1 m (o_by fun a => d a)], .ptr 4 [] 0, .int .i64 (IntKind.wrap .i64 (pc + asN (fld 4 (f (Int.toNat pc)))))])), (4,
 some (.agg 23 [.int .i64 0, .agg 3 [.int .i64 0, .int .i64 0, .int .i64 0], .int .i64 (IntKind.wrap .i64 (st + (1 : Int))), .tab 16 1 (o_rg fun a => rg a), .sl 3
 [] 0 0 nm 1, .sl 6 [] 0 0 nw 3])), (3, some (.tab nm 1 (o_by fun a => mm a))), (1, some (.agg 23 [.int .i64 0, .agg 3 [.int .i64 0, .int .i64 0, .int .i64 0], .int
 .i64 0, .tab 16 1 fun x => .int .u32 0, .row true 0 0 fun x => .unk, .row true 0 0 fun x => .unk])), (0, some (.agg 3 [.row x 5 n (o_in fun a => f a), .int .i64
 sz, .row y 1 m (o_by fun a => d a)]))] 8) else A (XSt.mk [(20, .int .i64 (IntKind.wrap .i64 ((↑k : Int) + (1 : Int)))), (19, .int .i64 bd), (6, .ptr 5 [] 0), (5,
 .ptr 4 [] 0), (4, .ptr 1 [] 0)] [(7, some (.agg 5 [.int .i64 (asN (fld 0 (f (Int.toNat pc)))), .int .i64 (asN (fld 1 (f (Int.toNat pc)))), .int .i64 (asN (fld 2
 (f (Int.toNat pc)))), .int .i64 (asN (fld 3 (f (Int.toNat pc)))), .int .i64 (asN (fld 4 (f (Int.toNat pc))))])), (6, some (.tab nw 3 (o_wr fun a => wf a))), (5,
 some (.agg 5 [.agg 3 [.row x 5 n (o_in fun a => f a), .int .i64 sz, .row y 1 m (o_by fun a => d a)], .ptr 4 [] 0, .int .i64 (IntKind.wrap .i64 (pc + (1 : Int)))])),
 (4, some (.agg 23 [.int .i64 0, .agg 3 [.int .i64 0, .int .i64 0, .int .i64 0], .int .i64 (IntKind.wrap .i64 (st + (1 : Int))), .tab 16 1 (o_rg fun a => rg a), .sl
 3 [] 0 0 nm 1, .sl 6 [] 0 0 nw 3])), (3, some (.tab nm 1 (o_by fun a => mm a))), (1, some (.agg 23 [.int .i64 0, .agg 3 [.int .i64 0, .int .i64 0, .int .i64 0],
 .int .i64 0, .tab 16 1 fun x => .int .u32 0, .row true 0 0 fun x => .unk, .row true 0 0 fun x => .unk])), (0, some (.agg 3 [.row x 5 n (o_in fun a => f a), .int
 .i64 sz, .row y 1 m (o_by fun a => d a)]))] 8) else False else False else False else False else False else False else False else False else False else False else
 False else False else False else False else False else False
else bif decide (nm ≤ nm) then bif decide (nw ≤ nw) then con (.agg 23 [.int .i64 3, .agg 3 [.int .i64
 0, .int .i64 0, .int .i64 0], .int .i64 st, .tab 16 1 (o_rg fun a => rg a), .row false 1 nm fun i => .int .u8 (asN (mm i)), .row false 3 nw fun i => .agg 3 [.int
 .i64 (asN (fld 0 (wf i))), .int .i64 (asN (fld 1 (wf i))), .int .u32 (asN (fld 2 (wf i)))]]) = r else False else False) := by kernel_rfl
theorem r_rn_7 (x : Bool) (n : Nat) (f : Nat → XV) (sz : Int) (y : Bool) (m : Nat) (d : Nat → XV) (st : Int) (rg : Nat → XV) (nm : Nat) (mm : Nat → XV) (nw : Nat) (wf : Nat → XV) (pc bd : Int) (k : Nat) (r : AV) (A : XSt → Prop) : (goS Try.prog (TQ 7) [(.cell 4 true 23)] r (.run c_seq_Run_l1) [.lp c_seq_Run_l1 A, .blk 0, .seq c_seq_Run_p1] (sRun x n f sz y m d st rg nm mm nw wf pc bd k)) = (bif decide ((↑k : Int) < bd) then bif bif decide (pc < 0) then true else !decide (pc < 0) then bif bif decide (pc < 0) then true else decide (pc ≥ (↑n : Int))
 then bif decide (nm ≤ nm) then bif decide (nw ≤ nw) then con (.agg 23 [.int .i64 2, .agg 3 [.int .i64 4, .int .i64 st, .int .i64 pc], .int .i64 st, .tab 16 1 (o_rg
 fun a => rg a), .row false 1 nm fun i => .int .u8 (asN (mm i)), .row false 3 nw fun i => .agg 3 [.int .i64 (asN (fld 0 (wf i))), .int .i64 (asN (fld 1 (wf i))),
 .int .u32 (asN (fld 2 (wf i)))]]) = r else False else False else bif decide (0 ≤ pc) then bif decide (pc < (↑n : Int)) then bif decide (fmI (asN (fld 0 (f (Int.toNat
 pc)))) = 7) then A (XSt.mk [(20, .int .i64 (IntKind.wrap .i64 ((↑k : Int) + (1 : Int)))), (19, .int .i64 bd), (6, .ptr 5 [] 0), (5, .ptr 4 [] 0), (4, .ptr 1 [] 0)]
 [(7, some (.agg 5 [.int .i64 (asN (fld 0 (f (Int.toNat pc)))), .int .i64 (asN (fld 1 (f (Int.toNat pc)))), .int .i64 (asN (fld 2 (f (Int.toNat pc)))), .int .i64
 (asN (fld 3 (f (Int.toNat pc)))), .int .i64 (asN (fld 4 (f (Int.toNat pc))))])), (6, some (.tab nw 3 (o_wr fun a => wf a))), (5, some (.agg 5 [.agg 3 [.row x 5 n
 (o_in fun a => f a), .int .i64 sz, .row y 1 m (o_by fun a => d a)], .ptr 4 [] 0, .int .i64 (IntKind.wrap .i64 (pc + asN (fld 4 (f (Int.toNat pc)))))])), (4, some
 (.agg 23 [.int .i64 0, .agg 3 [.int .i64 0, .int .i64 0, .int .i64 0], .int .i64 (IntKind.wrap .i64 (st + (1 : Int))), .tab 16 1 (o_rg fun a => rg a), .sl 3 [] 0
 0 nm 1, .sl 6 [] 0 0 nw 3])), (3, some (.tab nm 1 (o_by fun a => mm a))), (1, some (.agg 23 [.int .i64 0, .agg 3 [.int .i64 0, .int .i64 0, .int .i64 0], .int .i64
 0, .tab 16 1 fun x => .int .u32 0, .row true 0 0 fun x => .unk, .row true 0 0 fun x => .unk])), (0, some (.agg 3 [.row x 5 n (o_in fun a => f a), .int .i64 sz, .row
 y 1 m (o_by fun a => d a)]))] 8) else False else False else False else False
else bif decide (nm ≤ nm) then bif decide (nw ≤ nw) then con (.agg 23 [.int .i64 3,
 .agg 3 [.int .i64 0, .int .i64 0, .int .i64 0], .int .i64 st, .tab 16 1 (o_rg fun a => rg a), .row false 1 nm fun i => .int .u8 (asN (mm i)), .row false 3 nw fun
 i => .agg 3 [.int .i64 (asN (fld 0 (wf i))), .int .i64 (asN (fld 1 (wf i))), .int .u32 (asN (fld 2 (wf i)))]]) = r else False else False) := by kernel_rfl
theorem r_rn_8 (x : Bool) (n : Nat) (f : Nat → XV) (sz : Int) (y : Bool) (m : Nat) (d : Nat → XV) (st : Int) (rg : Nat → XV) (nm : Nat) (mm : Nat → XV) (nw : Nat) (wf : Nat → XV) (pc bd : Int) (k : Nat) (r : AV) (A : XSt → Prop) : (goS Try.prog (TQ 8) [(.cell 4 true 23)] r (.run c_seq_Run_l1) [.lp c_seq_Run_l1 A, .blk 0, .seq c_seq_Run_p1] (sRun x n f sz y m d st rg nm mm nw wf pc bd k)) = (bif decide ((↑k : Int) < bd) then bif bif decide (pc < 0) then true else !decide (pc < 0) then bif bif decide (pc < 0) then true else decide (pc ≥ (↑n : Int))
 then bif decide (nm ≤ nm) then bif decide (nw ≤ nw) then con (.agg 23 [.int .i64 2, .agg 3 [.int .i64 4, .int .i64 st, .int .i64 pc], .int .i64 st, .tab 16 1 (o_rg
 fun a => rg a), .row false 1 nm fun i => .int .u8 (asN (mm i)), .row false 3 nw fun i => .agg 3 [.int .i64 (asN (fld 0 (wf i))), .int .i64 (asN (fld 1 (wf i))),
 .int .u32 (asN (fld 2 (wf i)))]]) = r else False else False else bif decide (0 ≤ pc) then bif decide (pc < (↑n : Int)) then bif decide (fmI (asN (fld 0 (f (Int.toNat
 pc)))) = 8) then bif decide (nm ≤ nm) then bif decide (nw ≤ nw) then con (.agg 23 [.int .i64 1, .agg 3 [.int .i64 0, .int .i64 0, .int .i64 0], .int .i64 (IntKind.wrap
 .i64 (st + (1 : Int))), .tab 16 1 (o_rg fun a => rg a), .row false 1 nm fun i => .int .u8 (asN (mm i)), .row false 3 nw fun i => .agg 3 [.int .i64 (asN (fld 0 (wf
 i))), .int .i64 (asN (fld 1 (wf i))), .int .u32 (asN (fld 2 (wf i)))]]) = r else False else False else False else False else False else False
else bif decide (nm
 ≤ nm) then bif decide (nw ≤ nw) then con (.agg 23 [.int .i64 3, .agg 3 [.int .i64 0, .int .i64 0, .int .i64 0], .int .i64 st, .tab 16 1 (o_rg fun a => rg a), .row
 false 1 nm fun i => .int .u8 (asN (mm i)), .row false 3 nw fun i => .agg 3 [.int .i64 (asN (fld 0 (wf i))), .int .i64 (asN (fld 1 (wf i))), .int .u32 (asN (fld 2
 (wf i)))]]) = r else False else False) := by kernel_rfl
theorem r_rn_51 (x : Bool) (n : Nat) (f : Nat → XV) (sz : Int) (y : Bool) (m : Nat) (d : Nat → XV) (st : Int) (rg : Nat → XV) (nm : Nat) (mm : Nat → XV) (nw : Nat) (wf : Nat → XV) (pc bd : Int) (k : Nat) (r : AV) (A : XSt → Prop) : (goS Try.prog (TQs 1) [(.cell 4 true 23)] r (.run c_seq_Run_l1) [.lp c_seq_Run_l1 A, .blk 0, .seq c_seq_Run_p1] (sRun x n f sz y m d st rg nm mm nw wf pc bd k)) = (bif decide ((↑k : Int) < bd) then bif bif decide (pc < 0) then true else !decide (pc < 0) then bif bif decide (pc < 0) then true else decide (pc ≥ (↑n : Int))
 then bif decide (nm ≤ nm) then bif decide (nw ≤ nw) then con (.agg 23 [.int .i64 2, .agg 3 [.int .i64 4, .int .i64 st, .int .i64 pc], .int .i64 st, .tab 16 1 (o_rg
 fun a => rg a), .row false 1 nm fun i => .int .u8 (asN (mm i)), .row false 3 nw fun i => .agg 3 [.int .i64 (asN (fld 0 (wf i))), .int .i64 (asN (fld 1 (wf i))),
 .int .u32 (asN (fld 2 (wf i)))]]) = r else False else False else bif decide (0 ≤ pc) then bif decide (pc < (↑n : Int)) then bif decide (fmI (asN (fld 0 (f (Int.toNat
 pc)))) = 5) then bif decide (szI (asN (fld 0 (f (Int.toNat pc)))) = 1) then bif decide (nm ≤ nm) then bif decide (nw ≤ nw) then bif decide (0 ≤ asN (fld 2 (f (Int.toNat
 pc)))) then bif decide (asN (fld 2 (f (Int.toNat pc))) ≤ 15) then bif decide ¬chkI (1 : Int) (IntKind.wrap .u32 (vlI (o_rg fun a => rg a) (asN (fld 2 (f (Int.toNat
 pc)))) + IntKind.wrap .u32 (asN (fld 4 (f (Int.toNat pc)))))) (↑nm : Int) = (0 : Int) then bif decide ¬chkI (1 : Int) (IntKind.wrap .u32 (vlI (o_rg fun a => rg a)
 (asN (fld 2 (f (Int.toNat pc)))) + IntKind.wrap .u32 (asN (fld 4 (f (Int.toNat pc)))))) (↑nm : Int) = (0 : Int) then bif decide (nm ≤ nm) then bif decide (nw ≤ nw)
 then con (.agg 23 [.int .i64 2, .agg 3 [.int .i64 (chkI (1 : Int) (IntKind.wrap .u32 (vlI (o_rg fun a => rg a) (asN (fld 2 (f (Int.toNat pc)))) + IntKind.wrap .u32
 (asN (fld 4 (f (Int.toNat pc)))))) (↑nm : Int)), .int .i64 st, .int .i64 pc], .int .i64 st, .tab 16 1 (o_rg fun a => rg a), .row false 1 nm fun i => .int .u8 (asN
 (mm i)), .row false 3 nw fun i => .agg 3 [.int .i64 (asN (fld 0 (wf i))), .int .i64 (asN (fld 1 (wf i))), .int .u32 (asN (fld 2 (wf i)))]]) = r else False else False
 else A (XSt.mk [(20, .int .i64 (IntKind.wrap .i64 ((↑k : Int) + (1 : Int)))), (19, .int .i64 bd), (6, .ptr 5 [] 0), (5, .ptr 4 [] 0), (4, .ptr 1 [] 0)] [(8, some
 (.agg 5 [.int .i64 (asN (fld 0 (f (Int.toNat pc)))), .int .i64 (asN (fld 1 (f (Int.toNat pc)))), .int .i64 (asN (fld 2 (f (Int.toNat pc)))), .int .i64 (asN (fld
 3 (f (Int.toNat pc)))), .int .i64 (asN (fld 4 (f (Int.toNat pc))))])), (7, some (.agg 5 [.int .i64 (asN (fld 0 (f (Int.toNat pc)))), .int .i64 (asN (fld 1 (f (Int.toNat
 pc)))), .int .i64 (asN (fld 2 (f (Int.toNat pc)))), .int .i64 (asN (fld 3 (f (Int.toNat pc)))), .int .i64 (asN (fld 4 (f (Int.toNat pc))))])), (6, some (.tab nw
 3 (o_wr fun a => wf a))), (5, some (.agg 5 [.agg 3 [.row x 5 n (o_in fun a => f a), .int .i64 sz, .row y 1 m (o_by fun a => d a)], .ptr 4 [] 0, .int .i64 (IntKind.wrap
 .i64 (pc + (1 : Int)))])), (4, some (.agg 23 [.int .i64 0, .agg 3 [.int .i64 0, .int .i64 0, .int .i64 0], .int .i64 (IntKind.wrap .i64 (st + (1 : Int))), .tab 16
 1 (o_rg fun a => rg a), .sl 3 [] 0 0 nm 1, .sl 6 [] 0 0 nw 3])), (3, some (.tab nm 1 (o_by fun a => mm a))), (1, some (.agg 23 [.int .i64 0, .agg 3 [.int .i64 0,
 .int .i64 0, .int .i64 0], .int .i64 0, .tab 16 1 fun x => .int .u32 0, .row true 0 0 fun x => .unk, .row true 0 0 fun x => .unk])), (0, some (.agg 3 [.row x 5 n
 (o_in fun a => f a), .int .i64 sz, .row y 1 m (o_by fun a => d a)]))] 9) else bif decide (fmI (asN (fld 0 (f (Int.toNat pc)))) = 5) then bif decide (nm ≤ nm) then
 bif decide (nw ≤ nw) then bif decide (0 ≤ asN (fld 3 (f (Int.toNat pc)))) then bif decide (asN (fld 3 (f (Int.toNat pc))) ≤ 15) then bif bif decide (IntKind.wrap
 .i64 (IntKind.wrap .u32 (vlI (o_rg fun a => rg a) (asN (fld 2 (f (Int.toNat pc)))) + IntKind.wrap .u32 (asN (fld 4 (f (Int.toNat pc)))))) < (0 : Int)) then true
 else !decide (IntKind.wrap .i64 (IntKind.wrap .u32 (vlI (o_rg fun a => rg a) (asN (fld 2 (f (Int.toNat pc)))) + IntKind.wrap .u32 (asN (fld 4 (f (Int.toNat pc))))))
 < (0 : Int)) then bif bif bif decide (IntKind.wrap .i64 (IntKind.wrap .u32 (vlI (o_rg fun a => rg a) (asN (fld 2 (f (Int.toNat pc)))) + IntKind.wrap .u32 (asN (fld
 4 (f (Int.toNat pc)))))) < (0 : Int)) then true else decide (IntKind.wrap .i64 (IntKind.wrap .u32 (vlI (o_rg fun a => rg a) (asN (fld 2 (f (Int.toNat pc)))) + IntKind.wrap
 .u32 (asN (fld 4 (f (Int.toNat pc)))))) > (4294967295 : Int)) then true else !bif decide (IntKind.wrap .i64 (IntKind.wrap .u32 (vlI (o_rg fun a => rg a) (asN (fld
 2 (f (Int.toNat pc)))) + IntKind.wrap .u32 (asN (fld 4 (f (Int.toNat pc)))))) < (0 : Int)) then true else decide (IntKind.wrap .i64 (IntKind.wrap .u32 (vlI (o_rg
 fun a => rg a) (asN (fld 2 (f (Int.toNat pc)))) + IntKind.wrap .u32 (asN (fld 4 (f (Int.toNat pc)))))) > (4294967295 : Int)) then bif bif bif decide (IntKind.wrap
 .i64 (IntKind.wrap .u32 (vlI (o_rg fun a => rg a) (asN (fld 2 (f (Int.toNat pc)))) + IntKind.wrap .u32 (asN (fld 4 (f (Int.toNat pc)))))) < (0 : Int)) then true
 else decide (IntKind.wrap .i64 (IntKind.wrap .u32 (vlI (o_rg fun a => rg a) (asN (fld 2 (f (Int.toNat pc)))) + IntKind.wrap .u32 (asN (fld 4 (f (Int.toNat pc))))))
 > (4294967295 : Int)) then true else decide ¬chkI (1 : Int) (IntKind.wrap .u32 (IntKind.wrap .i64 (IntKind.wrap .u32 (vlI (o_rg fun a => rg a) (asN (fld 2 (f (Int.toNat
 pc)))) + IntKind.wrap .u32 (asN (fld 4 (f (Int.toNat pc)))))))) (↑nm : Int) = (0 : Int) then bif decide (nw ≤ nw) then bif decide (pl nw 1 * 24 ≤ 140737488355328)
 then A (XSt.mk [(20, .int .i64 (IntKind.wrap .i64 ((↑k : Int) + (1 : Int)))), (19, .int .i64 bd), (6, .ptr 5 [] 0), (5, .ptr 4 [] 0), (4, .ptr 1 [] 0)] [(11, some
 (.tab (pl nw 1) 3 fun i => .agg 3 [.int .i64 (bif decide (i < nw) then asN (fld 0 (wf i)) else IntKind.wrap .i64 (IntKind.wrap .u32 (vlI (o_rg fun a => rg a) (asN
 (fld 2 (f (Int.toNat pc)))) + IntKind.wrap .u32 (asN (fld 4 (f (Int.toNat pc))))))), .int .i64 (bif decide (i < nw) then asN (fld 1 (wf i)) else (1 : Int)), .int
 .u32 (bif decide (i < nw) then asN (fld 2 (wf i)) else bitsI .and .u32 (vlI (o_rg fun a => rg a) (asN (fld 3 (f (Int.toNat pc))))) (255 : Int))])), (10, some (.agg
 3 [.int .i64 (IntKind.wrap .i64 (IntKind.wrap .u32 (vlI (o_rg fun a => rg a) (asN (fld 2 (f (Int.toNat pc)))) + IntKind.wrap .u32 (asN (fld 4 (f (Int.toNat pc))))))),
 .int .i64 1, .int .u32 (bitsI .and .u32 (vlI (o_rg fun a => rg a) (asN (fld 3 (f (Int.toNat pc))))) (255 : Int))])), (9, some (.agg 3 [.int .i64 (IntKind.wrap .i64
 (IntKind.wrap .u32 (vlI (o_rg fun a => rg a) (asN (fld 2 (f (Int.toNat pc)))) + IntKind.wrap .u32 (asN (fld 4 (f (Int.toNat pc))))))), .int .i64 1, .int .u32 (bitsI
 .and .u32 (vlI (o_rg fun a => rg a) (asN (fld 3 (f (Int.toNat pc))))) (255 : Int))])), (8, some (.agg 5 [.int .i64 (asN (fld 0 (f (Int.toNat pc)))), .int .i64 (asN
 (fld 1 (f (Int.toNat pc)))), .int .i64 (asN (fld 2 (f (Int.toNat pc)))), .int .i64 (asN (fld 3 (f (Int.toNat pc)))), .int .i64 (asN (fld 4 (f (Int.toNat pc))))])),
 (7, some (.agg 5 [.int .i64 (asN (fld 0 (f (Int.toNat pc)))), .int .i64 (asN (fld 1 (f (Int.toNat pc)))), .int .i64 (asN (fld 2 (f (Int.toNat pc)))), .int .i64 (asN
 (fld 3 (f (Int.toNat pc)))), .int .i64 (asN (fld 4 (f (Int.toNat pc))))])), (6, none), (5, some (.agg 5 [.agg 3 [.row x 5 n (o_in fun a => f a), .int .i64 sz, .row
 y 1 m (o_by fun a => d a)], .ptr 4 [] 0, .int .i64 (IntKind.wrap .i64 (pc + (1 : Int)))])), (4, some (.agg 23 [.int .i64 0, .agg 3 [.int .i64 0, .int .i64 0, .int
 .i64 0], .int .i64 (IntKind.wrap .i64 (st + (1 : Int))), .tab 16 1 (o_rg fun a => rg a), .sl 3 [] 0 0 nm 1, .sl 11 [] 0 0 (pl nw 1) 3])), (3, some (.tab nm 1 (o_by
 fun a => mm a))), (1, some (.agg 23 [.int .i64 0, .agg 3 [.int .i64 0, .int .i64 0, .int .i64 0], .int .i64 0, .tab 16 1 fun x => .int .u32 0, .row true 0 0 fun
 x => .unk, .row true 0 0 fun x => .unk])), (0, some (.agg 3 [.row x 5 n (o_in fun a => f a), .int .i64 sz, .row y 1 m (o_by fun a => d a)]))] 12) else False else
 False else bif decide ((0 : Int) ≤ IntKind.wrap .i64 (IntKind.wrap .i64 (IntKind.wrap .u32 (vlI (o_rg fun a => rg a) (asN (fld 2 (f (Int.toNat pc)))) + IntKind.wrap
 .u32 (asN (fld 4 (f (Int.toNat pc)))))) + (0 : Int))) then bif decide (IntKind.wrap .i64 (IntKind.wrap .i64 (IntKind.wrap .u32 (vlI (o_rg fun a => rg a) (asN (fld
 2 (f (Int.toNat pc)))) + IntKind.wrap .u32 (asN (fld 4 (f (Int.toNat pc)))))) + (0 : Int)) < (↑nm : Int)) then bif Nat.beq (Int.toNat (IntKind.wrap .i64 (IntKind.wrap
 .i64 (IntKind.wrap .u32 (vlI (o_rg fun a => rg a) (asN (fld 2 (f (Int.toNat pc)))) + IntKind.wrap .u32 (asN (fld 4 (f (Int.toNat pc)))))) + (0 : Int))) * 1) (Int.toNat
 (IntKind.wrap .i64 (IntKind.wrap .i64 (IntKind.wrap .u32 (vlI (o_rg fun a => rg a) (asN (fld 2 (f (Int.toNat pc)))) + IntKind.wrap .u32 (asN (fld 4 (f (Int.toNat
 pc)))))) + (0 : Int))) * 1) then bif decide (Int.toNat (IntKind.wrap .i64 (IntKind.wrap .i64 (IntKind.wrap .u32 (vlI (o_rg fun a => rg a) (asN (fld 2 (f (Int.toNat
 pc)))) + IntKind.wrap .u32 (asN (fld 4 (f (Int.toNat pc)))))) + (0 : Int))) < nm) then bif decide (Int.toNat (IntKind.wrap .i64 (IntKind.wrap .i64 (IntKind.wrap
 .u32 (vlI (o_rg fun a => rg a) (asN (fld 2 (f (Int.toNat pc)))) + IntKind.wrap .u32 (asN (fld 4 (f (Int.toNat pc)))))) + (0 : Int))) < nm) then bif decide (nw ≤
 nw) then bif decide (pl nw 1 * 24 ≤ 140737488355328) then A (XSt.mk [(20, .int .i64 (IntKind.wrap .i64 ((↑k : Int) + (1 : Int)))), (19, .int .i64 bd), (6, .ptr 5
 [] 0), (5, .ptr 4 [] 0), (4, .ptr 1 [] 0)] [(11, some (.tab (pl nw 1) 3 fun i => .agg 3 [.int .i64 (bif decide (i < nw) then asN (fld 0 (wf i)) else IntKind.wrap
 .i64 (IntKind.wrap .u32 (vlI (o_rg fun a => rg a) (asN (fld 2 (f (Int.toNat pc)))) + IntKind.wrap .u32 (asN (fld 4 (f (Int.toNat pc))))))), .int .i64 (bif decide
 (i < nw) then asN (fld 1 (wf i)) else (1 : Int)), .int .u32 (bif decide (i < nw) then asN (fld 2 (wf i)) else bitsI .and .u32 (vlI (o_rg fun a => rg a) (asN (fld
 3 (f (Int.toNat pc))))) (255 : Int))])), (10, some (.agg 3 [.int .i64 (IntKind.wrap .i64 (IntKind.wrap .u32 (vlI (o_rg fun a => rg a) (asN (fld 2 (f (Int.toNat pc))))
 + IntKind.wrap .u32 (asN (fld 4 (f (Int.toNat pc))))))), .int .i64 1, .int .u32 (bitsI .and .u32 (vlI (o_rg fun a => rg a) (asN (fld 3 (f (Int.toNat pc))))) (255
 : Int))])), (9, some (.agg 3 [.int .i64 (IntKind.wrap .i64 (IntKind.wrap .u32 (vlI (o_rg fun a => rg a) (asN (fld 2 (f (Int.toNat pc)))) + IntKind.wrap .u32 (asN
 (fld 4 (f (Int.toNat pc))))))), .int .i64 1, .int .u32 (bitsI .and .u32 (vlI (o_rg fun a => rg a) (asN (fld 3 (f (Int.toNat pc))))) (255 : Int))])), (8, some (.agg
 5 [.int .i64 (asN (fld 0 (f (Int.toNat pc)))), .int .i64 (asN (fld 1 (f (Int.toNat pc)))), .int .i64 (asN (fld 2 (f (Int.toNat pc)))), .int .i64 (asN (fld 3 (f (Int.toNat
 pc)))), .int .i64 (asN (fld 4 (f (Int.toNat pc))))])), (7, some (.agg 5 [.int .i64 (asN (fld 0 (f (Int.toNat pc)))), .int .i64 (asN (fld 1 (f (Int.toNat pc)))),
 .int .i64 (asN (fld 2 (f (Int.toNat pc)))), .int .i64 (asN (fld 3 (f (Int.toNat pc)))), .int .i64 (asN (fld 4 (f (Int.toNat pc))))])), (6, none), (5, some (.agg
 5 [.agg 3 [.row x 5 n (o_in fun a => f a), .int .i64 sz, .row y 1 m (o_by fun a => d a)], .ptr 4 [] 0, .int .i64 (IntKind.wrap .i64 (pc + (1 : Int)))])), (4, some
 (.agg 23 [.int .i64 0, .agg 3 [.int .i64 0, .int .i64 0, .int .i64 0], .int .i64 (IntKind.wrap .i64 (st + (1 : Int))), .tab 16 1 (o_rg fun a => rg a), .sl 3 [] 0
 0 nm 1, .sl 11 [] 0 0 (pl nw 1) 3])), (3, some (.tab nm 1 fun j => .int .u8 (bif Nat.beq j (Int.toNat (IntKind.wrap .i64 (IntKind.wrap .i64 (IntKind.wrap .u32 (vlI
 (o_rg fun a => rg a) (asN (fld 2 (f (Int.toNat pc)))) + IntKind.wrap .u32 (asN (fld 4 (f (Int.toNat pc)))))) + (0 : Int)))) then IntKind.wrap .u8 (Int.fdiv (bitsI
 .and .u32 (vlI (o_rg fun a => rg a) (asN (fld 3 (f (Int.toNat pc))))) (255 : Int)) (1 : Int)) else asN (mm j)))), (1, some (.agg 23 [.int .i64 0, .agg 3 [.int .i64
 0, .int .i64 0, .int .i64 0], .int .i64 0, .tab 16 1 fun x => .int .u32 0, .row true 0 0 fun x => .unk, .row true 0 0 fun x => .unk])), (0, some (.agg 3 [.row x
 5 n (o_in fun a => f a), .int .i64 sz, .row y 1 m (o_by fun a => d a)]))] 12) else False else False else False else False else False else False else False else False
 else False else False else False else False else False else False else False else False else False else False else False else False else False else False else False
else
 bif decide (nm ≤ nm) then bif decide (nw ≤ nw) then con (.agg 23 [.int .i64 3, .agg 3 [.int .i64 0, .int .i64 0, .int .i64 0], .int .i64 st, .tab 16 1 (o_rg fun
 a => rg a), .row false 1 nm fun i => .int .u8 (asN (mm i)), .row false 3 nw fun i => .agg 3 [.int .i64 (asN (fld 0 (wf i))), .int .i64 (asN (fld 1 (wf i))), .int
 .u32 (asN (fld 2 (wf i)))]]) = r else False else False) := by kernel_rfl
theorem r_rn_52 (x : Bool) (n : Nat) (f : Nat → XV) (sz : Int) (y : Bool) (m : Nat) (d : Nat → XV) (st : Int) (rg : Nat → XV) (nm : Nat) (mm : Nat → XV) (nw : Nat) (wf : Nat → XV) (pc bd : Int) (k : Nat) (r : AV) (A : XSt → Prop) : (goS Try.prog (TQs 2) [(.cell 4 true 23)] r (.run c_seq_Run_l1) [.lp c_seq_Run_l1 A, .blk 0, .seq c_seq_Run_p1] (sRun x n f sz y m d st rg nm mm nw wf pc bd k)) = (bif decide ((↑k : Int) < bd) then bif bif decide (pc < 0) then true else !decide (pc < 0) then bif bif decide (pc < 0) then true else decide (pc ≥ (↑n : Int))
 then bif decide (nm ≤ nm) then bif decide (nw ≤ nw) then con (.agg 23 [.int .i64 2, .agg 3 [.int .i64 4, .int .i64 st, .int .i64 pc], .int .i64 st, .tab 16 1 (o_rg
 fun a => rg a), .row false 1 nm fun i => .int .u8 (asN (mm i)), .row false 3 nw fun i => .agg 3 [.int .i64 (asN (fld 0 (wf i))), .int .i64 (asN (fld 1 (wf i))),
 .int .u32 (asN (fld 2 (wf i)))]]) = r else False else False else bif decide (0 ≤ pc) then bif decide (pc < (↑n : Int)) then bif decide (fmI (asN (fld 0 (f (Int.toNat
 pc)))) = 5) then bif decide (szI (asN (fld 0 (f (Int.toNat pc)))) = 2) then bif decide (nm ≤ nm) then bif decide (nw ≤ nw) then bif decide (0 ≤ asN (fld 2 (f (Int.toNat
 pc)))) then bif decide (asN (fld 2 (f (Int.toNat pc))) ≤ 15) then bif decide ¬chkI (2 : Int) (IntKind.wrap .u32 (vlI (o_rg fun a => rg a) (asN (fld 2 (f (Int.toNat
 pc)))) + IntKind.wrap .u32 (asN (fld 4 (f (Int.toNat pc)))))) (↑nm : Int) = (0 : Int) then bif decide ¬chkI (2 : Int) (IntKind.wrap .u32 (vlI (o_rg fun a => rg a)
 (asN (fld 2 (f (Int.toNat pc)))) + IntKind.wrap .u32 (asN (fld 4 (f (Int.toNat pc)))))) (↑nm : Int) = (0 : Int) then bif decide (nm ≤ nm) then bif decide (nw ≤ nw)
 then con (.agg 23 [.int .i64 2, .agg 3 [.int .i64 (chkI (2 : Int) (IntKind.wrap .u32 (vlI (o_rg fun a => rg a) (asN (fld 2 (f (Int.toNat pc)))) + IntKind.wrap .u32
 (asN (fld 4 (f (Int.toNat pc)))))) (↑nm : Int)), .int .i64 st, .int .i64 pc], .int .i64 st, .tab 16 1 (o_rg fun a => rg a), .row false 1 nm fun i => .int .u8 (asN
 (mm i)), .row false 3 nw fun i => .agg 3 [.int .i64 (asN (fld 0 (wf i))), .int .i64 (asN (fld 1 (wf i))), .int .u32 (asN (fld 2 (wf i)))]]) = r else False else False
 else A (XSt.mk [(20, .int .i64 (IntKind.wrap .i64 ((↑k : Int) + (1 : Int)))), (19, .int .i64 bd), (6, .ptr 5 [] 0), (5, .ptr 4 [] 0), (4, .ptr 1 [] 0)] [(8, some
 (.agg 5 [.int .i64 (asN (fld 0 (f (Int.toNat pc)))), .int .i64 (asN (fld 1 (f (Int.toNat pc)))), .int .i64 (asN (fld 2 (f (Int.toNat pc)))), .int .i64 (asN (fld
 3 (f (Int.toNat pc)))), .int .i64 (asN (fld 4 (f (Int.toNat pc))))])), (7, some (.agg 5 [.int .i64 (asN (fld 0 (f (Int.toNat pc)))), .int .i64 (asN (fld 1 (f (Int.toNat
 pc)))), .int .i64 (asN (fld 2 (f (Int.toNat pc)))), .int .i64 (asN (fld 3 (f (Int.toNat pc)))), .int .i64 (asN (fld 4 (f (Int.toNat pc))))])), (6, some (.tab nw
 3 (o_wr fun a => wf a))), (5, some (.agg 5 [.agg 3 [.row x 5 n (o_in fun a => f a), .int .i64 sz, .row y 1 m (o_by fun a => d a)], .ptr 4 [] 0, .int .i64 (IntKind.wrap
 .i64 (pc + (1 : Int)))])), (4, some (.agg 23 [.int .i64 0, .agg 3 [.int .i64 0, .int .i64 0, .int .i64 0], .int .i64 (IntKind.wrap .i64 (st + (1 : Int))), .tab 16
 1 (o_rg fun a => rg a), .sl 3 [] 0 0 nm 1, .sl 6 [] 0 0 nw 3])), (3, some (.tab nm 1 (o_by fun a => mm a))), (1, some (.agg 23 [.int .i64 0, .agg 3 [.int .i64 0,
 .int .i64 0, .int .i64 0], .int .i64 0, .tab 16 1 fun x => .int .u32 0, .row true 0 0 fun x => .unk, .row true 0 0 fun x => .unk])), (0, some (.agg 3 [.row x 5 n
 (o_in fun a => f a), .int .i64 sz, .row y 1 m (o_by fun a => d a)]))] 9) else bif decide (fmI (asN (fld 0 (f (Int.toNat pc)))) = 5) then bif decide (nm ≤ nm) then
 bif decide (nw ≤ nw) then bif decide (0 ≤ asN (fld 3 (f (Int.toNat pc)))) then bif decide (asN (fld 3 (f (Int.toNat pc))) ≤ 15) then bif bif decide (IntKind.wrap
 .i64 (IntKind.wrap .u32 (vlI (o_rg fun a => rg a) (asN (fld 2 (f (Int.toNat pc)))) + IntKind.wrap .u32 (asN (fld 4 (f (Int.toNat pc)))))) < (0 : Int)) then true
 else !decide (IntKind.wrap .i64 (IntKind.wrap .u32 (vlI (o_rg fun a => rg a) (asN (fld 2 (f (Int.toNat pc)))) + IntKind.wrap .u32 (asN (fld 4 (f (Int.toNat pc))))))
 < (0 : Int)) then bif bif bif decide (IntKind.wrap .i64 (IntKind.wrap .u32 (vlI (o_rg fun a => rg a) (asN (fld 2 (f (Int.toNat pc)))) + IntKind.wrap .u32 (asN (fld
 4 (f (Int.toNat pc)))))) < (0 : Int)) then true else decide (IntKind.wrap .i64 (IntKind.wrap .u32 (vlI (o_rg fun a => rg a) (asN (fld 2 (f (Int.toNat pc)))) + IntKind.wrap
 .u32 (asN (fld 4 (f (Int.toNat pc)))))) > (4294967295 : Int)) then true else !bif decide (IntKind.wrap .i64 (IntKind.wrap .u32 (vlI (o_rg fun a => rg a) (asN (fld
 2 (f (Int.toNat pc)))) + IntKind.wrap .u32 (asN (fld 4 (f (Int.toNat pc)))))) < (0 : Int)) then true else decide (IntKind.wrap .i64 (IntKind.wrap .u32 (vlI (o_rg
 fun a => rg a) (asN (fld 2 (f (Int.toNat pc)))) + IntKind.wrap .u32 (asN (fld 4 (f (Int.toNat pc)))))) > (4294967295 : Int)) then bif bif bif decide (IntKind.wrap
 .i64 (IntKind.wrap .u32 (vlI (o_rg fun a => rg a) (asN (fld 2 (f (Int.toNat pc)))) + IntKind.wrap .u32 (asN (fld 4 (f (Int.toNat pc)))))) < (0 : Int)) then true
 else decide (IntKind.wrap .i64 (IntKind.wrap .u32 (vlI (o_rg fun a => rg a) (asN (fld 2 (f (Int.toNat pc)))) + IntKind.wrap .u32 (asN (fld 4 (f (Int.toNat pc))))))
 > (4294967295 : Int)) then true else decide ¬chkI (2 : Int) (IntKind.wrap .u32 (IntKind.wrap .i64 (IntKind.wrap .u32 (vlI (o_rg fun a => rg a) (asN (fld 2 (f (Int.toNat
 pc)))) + IntKind.wrap .u32 (asN (fld 4 (f (Int.toNat pc)))))))) (↑nm : Int) = (0 : Int) then bif decide (nw ≤ nw) then bif decide (pl nw 1 * 24 ≤ 140737488355328)
 then A (XSt.mk [(20, .int .i64 (IntKind.wrap .i64 ((↑k : Int) + (1 : Int)))), (19, .int .i64 bd), (6, .ptr 5 [] 0), (5, .ptr 4 [] 0), (4, .ptr 1 [] 0)] [(11, some
 (.tab (pl nw 1) 3 fun i => .agg 3 [.int .i64 (bif decide (i < nw) then asN (fld 0 (wf i)) else IntKind.wrap .i64 (IntKind.wrap .u32 (vlI (o_rg fun a => rg a) (asN
 (fld 2 (f (Int.toNat pc)))) + IntKind.wrap .u32 (asN (fld 4 (f (Int.toNat pc))))))), .int .i64 (bif decide (i < nw) then asN (fld 1 (wf i)) else (2 : Int)), .int
 .u32 (bif decide (i < nw) then asN (fld 2 (wf i)) else bitsI .and .u32 (vlI (o_rg fun a => rg a) (asN (fld 3 (f (Int.toNat pc))))) (65535 : Int))])), (10, some (.agg
 3 [.int .i64 (IntKind.wrap .i64 (IntKind.wrap .u32 (vlI (o_rg fun a => rg a) (asN (fld 2 (f (Int.toNat pc)))) + IntKind.wrap .u32 (asN (fld 4 (f (Int.toNat pc))))))),
 .int .i64 2, .int .u32 (bitsI .and .u32 (vlI (o_rg fun a => rg a) (asN (fld 3 (f (Int.toNat pc))))) (65535 : Int))])), (9, some (.agg 3 [.int .i64 (IntKind.wrap
 .i64 (IntKind.wrap .u32 (vlI (o_rg fun a => rg a) (asN (fld 2 (f (Int.toNat pc)))) + IntKind.wrap .u32 (asN (fld 4 (f (Int.toNat pc))))))), .int .i64 2, .int .u32
 (bitsI .and .u32 (vlI (o_rg fun a => rg a) (asN (fld 3 (f (Int.toNat pc))))) (65535 : Int))])), (8, some (.agg 5 [.int .i64 (asN (fld 0 (f (Int.toNat pc)))), .int
 .i64 (asN (fld 1 (f (Int.toNat pc)))), .int .i64 (asN (fld 2 (f (Int.toNat pc)))), .int .i64 (asN (fld 3 (f (Int.toNat pc)))), .int .i64 (asN (fld 4 (f (Int.toNat
 pc))))])), (7, some (.agg 5 [.int .i64 (asN (fld 0 (f (Int.toNat pc)))), .int .i64 (asN (fld 1 (f (Int.toNat pc)))), .int .i64 (asN (fld 2 (f (Int.toNat pc)))),
 .int .i64 (asN (fld 3 (f (Int.toNat pc)))), .int .i64 (asN (fld 4 (f (Int.toNat pc))))])), (6, none), (5, some (.agg 5 [.agg 3 [.row x 5 n (o_in fun a => f a), .int
 .i64 sz, .row y 1 m (o_by fun a => d a)], .ptr 4 [] 0, .int .i64 (IntKind.wrap .i64 (pc + (1 : Int)))])), (4, some (.agg 23 [.int .i64 0, .agg 3 [.int .i64 0, .int
 .i64 0, .int .i64 0], .int .i64 (IntKind.wrap .i64 (st + (1 : Int))), .tab 16 1 (o_rg fun a => rg a), .sl 3 [] 0 0 nm 1, .sl 11 [] 0 0 (pl nw 1) 3])), (3, some (.tab
 nm 1 (o_by fun a => mm a))), (1, some (.agg 23 [.int .i64 0, .agg 3 [.int .i64 0, .int .i64 0, .int .i64 0], .int .i64 0, .tab 16 1 fun x => .int .u32 0, .row true
 0 0 fun x => .unk, .row true 0 0 fun x => .unk])), (0, some (.agg 3 [.row x 5 n (o_in fun a => f a), .int .i64 sz, .row y 1 m (o_by fun a => d a)]))] 12) else False
 else False else bif decide ((0 : Int) ≤ IntKind.wrap .i64 (IntKind.wrap .i64 (IntKind.wrap .u32 (vlI (o_rg fun a => rg a) (asN (fld 2 (f (Int.toNat pc)))) + IntKind.wrap
 .u32 (asN (fld 4 (f (Int.toNat pc)))))) + (0 : Int))) then bif decide (IntKind.wrap .i64 (IntKind.wrap .i64 (IntKind.wrap .u32 (vlI (o_rg fun a => rg a) (asN (fld
 2 (f (Int.toNat pc)))) + IntKind.wrap .u32 (asN (fld 4 (f (Int.toNat pc)))))) + (0 : Int)) < (↑nm : Int)) then bif Nat.beq (Int.toNat (IntKind.wrap .i64 (IntKind.wrap
 .i64 (IntKind.wrap .u32 (vlI (o_rg fun a => rg a) (asN (fld 2 (f (Int.toNat pc)))) + IntKind.wrap .u32 (asN (fld 4 (f (Int.toNat pc)))))) + (0 : Int))) * 1) (Int.toNat
 (IntKind.wrap .i64 (IntKind.wrap .i64 (IntKind.wrap .u32 (vlI (o_rg fun a => rg a) (asN (fld 2 (f (Int.toNat pc)))) + IntKind.wrap .u32 (asN (fld 4 (f (Int.toNat
 pc)))))) + (0 : Int))) * 1) then bif decide (Int.toNat (IntKind.wrap .i64 (IntKind.wrap .i64 (IntKind.wrap .u32 (vlI (o_rg fun a => rg a) (asN (fld 2 (f (Int.toNat
 pc)))) + IntKind.wrap .u32 (asN (fld 4 (f (Int.toNat pc)))))) + (0 : Int))) < nm) then bif decide (Int.toNat (IntKind.wrap .i64 (IntKind.wrap .i64 (IntKind.wrap
 .u32 (vlI (o_rg fun a => rg a) (asN (fld 2 (f (Int.toNat pc)))) + IntKind.wrap .u32 (asN (fld 4 (f (Int.toNat pc)))))) + (0 : Int))) < nm) then bif decide ((0 :
 Int) ≤ IntKind.wrap .i64 (IntKind.wrap .i64 (IntKind.wrap .u32 (vlI (o_rg fun a => rg a) (asN (fld 2 (f (Int.toNat pc)))) + IntKind.wrap .u32 (asN (fld 4 (f (Int.toNat
 pc)))))) + (1 : Int))) then bif decide (IntKind.wrap .i64 (IntKind.wrap .i64 (IntKind.wrap .u32 (vlI (o_rg fun a => rg a) (asN (fld 2 (f (Int.toNat pc)))) + IntKind.wrap
 .u32 (asN (fld 4 (f (Int.toNat pc)))))) + (1 : Int)) < (↑nm : Int)) then bif Nat.beq (Int.toNat (IntKind.wrap .i64 (IntKind.wrap .i64 (IntKind.wrap .u32 (vlI (o_rg
 fun a => rg a) (asN (fld 2 (f (Int.toNat pc)))) + IntKind.wrap .u32 (asN (fld 4 (f (Int.toNat pc)))))) + (1 : Int))) * 1) (Int.toNat (IntKind.wrap .i64 (IntKind.wrap
 .i64 (IntKind.wrap .u32 (vlI (o_rg fun a => rg a) (asN (fld 2 (f (Int.toNat pc)))) + IntKind.wrap .u32 (asN (fld 4 (f (Int.toNat pc)))))) + (1 : Int))) * 1) then
 bif decide (Int.toNat (IntKind.wrap .i64 (IntKind.wrap .i64 (IntKind.wrap .u32 (vlI (o_rg fun a => rg a) (asN (fld 2 (f (Int.toNat pc)))) + IntKind.wrap .u32 (asN
 (fld 4 (f (Int.toNat pc)))))) + (1 : Int))) < nm) then bif decide (Int.toNat (IntKind.wrap .i64 (IntKind.wrap .i64 (IntKind.wrap .u32 (vlI (o_rg fun a => rg a) (asN
 (fld 2 (f (Int.toNat pc)))) + IntKind.wrap .u32 (asN (fld 4 (f (Int.toNat pc)))))) + (1 : Int))) < nm) then bif decide (nw ≤ nw) then bif decide (pl nw 1 * 24 ≤
 140737488355328) then A (XSt.mk [(20, .int .i64 (IntKind.wrap .i64 ((↑k : Int) + (1 : Int)))), (19, .int .i64 bd), (6, .ptr 5 [] 0), (5, .ptr 4 [] 0), (4, .ptr 1
 [] 0)] [(11, some (.tab (pl nw 1) 3 fun i => .agg 3 [.int .i64 (bif decide (i < nw) then asN (fld 0 (wf i)) else IntKind.wrap .i64 (IntKind.wrap .u32 (vlI (o_rg
 fun a => rg a) (asN (fld 2 (f (Int.toNat pc)))) + IntKind.wrap .u32 (asN (fld 4 (f (Int.toNat pc))))))), .int .i64 (bif decide (i < nw) then asN (fld 1 (wf i)) else
 (2 : Int)), .int .u32 (bif decide (i < nw) then asN (fld 2 (wf i)) else bitsI .and .u32 (vlI (o_rg fun a => rg a) (asN (fld 3 (f (Int.toNat pc))))) (65535 : Int))])),
 (10, some (.agg 3 [.int .i64 (IntKind.wrap .i64 (IntKind.wrap .u32 (vlI (o_rg fun a => rg a) (asN (fld 2 (f (Int.toNat pc)))) + IntKind.wrap .u32 (asN (fld 4 (f
 (Int.toNat pc))))))), .int .i64 2, .int .u32 (bitsI .and .u32 (vlI (o_rg fun a => rg a) (asN (fld 3 (f (Int.toNat pc))))) (65535 : Int))])), (9, some (.agg 3 [.int
 .i64 (IntKind.wrap .i64 (IntKind.wrap .u32 (vlI (o_rg fun a => rg a) (asN (fld 2 (f (Int.toNat pc)))) + IntKind.wrap .u32 (asN (fld 4 (f (Int.toNat pc))))))), .int
 .i64 2, .int .u32 (bitsI .and .u32 (vlI (o_rg fun a => rg a) (asN (fld 3 (f (Int.toNat pc))))) (65535 : Int))])), (8, some (.agg 5 [.int .i64 (asN (fld 0 (f (Int.toNat
 pc)))), .int .i64 (asN (fld 1 (f (Int.toNat pc)))), .int .i64 (asN (fld 2 (f (Int.toNat pc)))), .int .i64 (asN (fld 3 (f (Int.toNat pc)))), .int .i64 (asN (fld 4
 (f (Int.toNat pc))))])), (7, some (.agg 5 [.int .i64 (asN (fld 0 (f (Int.toNat pc)))), .int .i64 (asN (fld 1 (f (Int.toNat pc)))), .int .i64 (asN (fld 2 (f (Int.toNat
 pc)))), .int .i64 (asN (fld 3 (f (Int.toNat pc)))), .int .i64 (asN (fld 4 (f (Int.toNat pc))))])), (6, none), (5, some (.agg 5 [.agg 3 [.row x 5 n (o_in fun a =>
 f a), .int .i64 sz, .row y 1 m (o_by fun a => d a)], .ptr 4 [] 0, .int .i64 (IntKind.wrap .i64 (pc + (1 : Int)))])), (4, some (.agg 23 [.int .i64 0, .agg 3 [.int
 .i64 0, .int .i64 0, .int .i64 0], .int .i64 (IntKind.wrap .i64 (st + (1 : Int))), .tab 16 1 (o_rg fun a => rg a), .sl 3 [] 0 0 nm 1, .sl 11 [] 0 0 (pl nw 1) 3])),
 (3, some (.tab nm 1 fun j => .int .u8 (bif Nat.beq j (Int.toNat (IntKind.wrap .i64 (IntKind.wrap .i64 (IntKind.wrap .u32 (vlI (o_rg fun a => rg a) (asN (fld 2 (f
 (Int.toNat pc)))) + IntKind.wrap .u32 (asN (fld 4 (f (Int.toNat pc)))))) + (1 : Int)))) then IntKind.wrap .u8 (Int.fdiv (bitsI .and .u32 (vlI (o_rg fun a => rg a)
 (asN (fld 3 (f (Int.toNat pc))))) (65535 : Int)) (256 : Int)) else bif Nat.beq j (Int.toNat (IntKind.wrap .i64 (IntKind.wrap .i64 (IntKind.wrap .u32 (vlI (o_rg fun
 a => rg a) (asN (fld 2 (f (Int.toNat pc)))) + IntKind.wrap .u32 (asN (fld 4 (f (Int.toNat pc)))))) + (0 : Int)))) then IntKind.wrap .u8 (Int.fdiv (bitsI .and .u32
 (vlI (o_rg fun a => rg a) (asN (fld 3 (f (Int.toNat pc))))) (65535 : Int)) (1 : Int)) else asN (mm j)))), (1, some (.agg 23 [.int .i64 0, .agg 3 [.int .i64 0, .int
 .i64 0, .int .i64 0], .int .i64 0, .tab 16 1 fun x => .int .u32 0, .row true 0 0 fun x => .unk, .row true 0 0 fun x => .unk])), (0, some (.agg 3 [.row x 5 n (o_in
 fun a => f a), .int .i64 sz, .row y 1 m (o_by fun a => d a)]))] 12) else False else False else False else False else False else False else False else False else
 False else False else False else False else False else False else False else False else False else False else False else False else False else False else False else
 False else False else False else False else False
else bif decide (nm ≤ nm) then bif decide (nw ≤ nw) then con (.agg 23 [.int .i64 3, .agg 3 [.int .i64 0, .int .i64
 0, .int .i64 0], .int .i64 st, .tab 16 1 (o_rg fun a => rg a), .row false 1 nm fun i => .int .u8 (asN (mm i)), .row false 3 nw fun i => .agg 3 [.int .i64 (asN (fld
 0 (wf i))), .int .i64 (asN (fld 1 (wf i))), .int .u32 (asN (fld 2 (wf i)))]]) = r else False else False) := by kernel_rfl
theorem r_rn_54 (x : Bool) (n : Nat) (f : Nat → XV) (sz : Int) (y : Bool) (m : Nat) (d : Nat → XV) (st : Int) (rg : Nat → XV) (nm : Nat) (mm : Nat → XV) (nw : Nat) (wf : Nat → XV) (pc bd : Int) (k : Nat) (r : AV) (A : XSt → Prop) : (goS Try.prog (TQs 4) [(.cell 4 true 23)] r (.run c_seq_Run_l1) [.lp c_seq_Run_l1 A, .blk 0, .seq c_seq_Run_p1] (sRun x n f sz y m d st rg nm mm nw wf pc bd k)) = (bif decide ((↑k : Int) < bd) then bif bif decide (pc < 0) then true else !decide (pc < 0) then bif bif decide (pc < 0) then true else decide (pc ≥ (↑n : Int))
 then bif decide (nm ≤ nm) then bif decide (nw ≤ nw) then con (.agg 23 [.int .i64 2, .agg 3 [.int .i64 4, .int .i64 st, .int .i64 pc], .int .i64 st, .tab 16 1 (o_rg
 fun a => rg a), .row false 1 nm fun i => .int .u8 (asN (mm i)), .row false 3 nw fun i => .agg 3 [.int .i64 (asN (fld 0 (wf i))), .int .i64 (asN (fld 1 (wf i))),
 .int .u32 (asN (fld 2 (wf i)))]]) = r else False else False else bif decide (0 ≤ pc) then bif decide (pc < (↑n : Int)) then bif decide (fmI (asN (fld 0 (f (Int.toNat
 pc)))) = 5) then bif decide (szI (asN (fld 0 (f (Int.toNat pc)))) = 4) then bif decide (nm ≤ nm) then bif decide (nw ≤ nw) then bif decide (0 ≤ asN (fld 2 (f (Int.toNat
 pc)))) then bif decide (asN (fld 2 (f (Int.toNat pc))) ≤ 15) then bif decide ¬chkI (4 : Int) (IntKind.wrap .u32 (vlI (o_rg fun a => rg a) (asN (fld 2 (f (Int.toNat
 pc)))) + IntKind.wrap .u32 (asN (fld 4 (f (Int.toNat pc)))))) (↑nm : Int) = (0 : Int) then bif decide ¬chkI (4 : Int) (IntKind.wrap .u32 (vlI (o_rg fun a => rg a)
 (asN (fld 2 (f (Int.toNat pc)))) + IntKind.wrap .u32 (asN (fld 4 (f (Int.toNat pc)))))) (↑nm : Int) = (0 : Int) then bif decide (nm ≤ nm) then bif decide (nw ≤ nw)
 then con (.agg 23 [.int .i64 2, .agg 3 [.int .i64 (chkI (4 : Int) (IntKind.wrap .u32 (vlI (o_rg fun a => rg a) (asN (fld 2 (f (Int.toNat pc)))) + IntKind.wrap .u32
 (asN (fld 4 (f (Int.toNat pc)))))) (↑nm : Int)), .int .i64 st, .int .i64 pc], .int .i64 st, .tab 16 1 (o_rg fun a => rg a), .row false 1 nm fun i => .int .u8 (asN
 (mm i)), .row false 3 nw fun i => .agg 3 [.int .i64 (asN (fld 0 (wf i))), .int .i64 (asN (fld 1 (wf i))), .int .u32 (asN (fld 2 (wf i)))]]) = r else False else False
 else A (XSt.mk [(20, .int .i64 (IntKind.wrap .i64 ((↑k : Int) + (1 : Int)))), (19, .int .i64 bd), (6, .ptr 5 [] 0), (5, .ptr 4 [] 0), (4, .ptr 1 [] 0)] [(8, some
 (.agg 5 [.int .i64 (asN (fld 0 (f (Int.toNat pc)))), .int .i64 (asN (fld 1 (f (Int.toNat pc)))), .int .i64 (asN (fld 2 (f (Int.toNat pc)))), .int .i64 (asN (fld
 3 (f (Int.toNat pc)))), .int .i64 (asN (fld 4 (f (Int.toNat pc))))])), (7, some (.agg 5 [.int .i64 (asN (fld 0 (f (Int.toNat pc)))), .int .i64 (asN (fld 1 (f (Int.toNat
 pc)))), .int .i64 (asN (fld 2 (f (Int.toNat pc)))), .int .i64 (asN (fld 3 (f (Int.toNat pc)))), .int .i64 (asN (fld 4 (f (Int.toNat pc))))])), (6, some (.tab nw
 3 (o_wr fun a => wf a))), (5, some (.agg 5 [.agg 3 [.row x 5 n (o_in fun a => f a), .int .i64 sz, .row y 1 m (o_by fun a => d a)], .ptr 4 [] 0, .int .i64 (IntKind.wrap
 .i64 (pc + (1 : Int)))])), (4, some (.agg 23 [.int .i64 0, .agg 3 [.int .i64 0, .int .i64 0, .int .i64 0], .int .i64 (IntKind.wrap .i64 (st + (1 : Int))), .tab 16
 1 (o_rg fun a => rg a), .sl 3 [] 0 0 nm 1, .sl 6 [] 0 0 nw 3])), (3, some (.tab nm 1 (o_by fun a => mm a))), (1, some (.agg 23 [.int .i64 0, .agg 3 [.int .i64 0,
 .int .i64 0, .int .i64 0], .int .i64 0, .tab 16 1 fun x => .int .u32 0, .row true 0 0 fun x => .unk, .row true 0 0 fun x => .unk])), (0, some (.agg 3 [.row x 5 n
 (o_in fun a => f a), .int .i64 sz, .row y 1 m (o_by fun a => d a)]))] 9) else bif decide (fmI (asN (fld 0 (f (Int.toNat pc)))) = 5) then bif decide (nm ≤ nm) then
 bif decide (nw ≤ nw) then bif decide (0 ≤ asN (fld 3 (f (Int.toNat pc)))) then bif decide (asN (fld 3 (f (Int.toNat pc))) ≤ 15) then bif bif decide (IntKind.wrap
 .i64 (IntKind.wrap .u32 (vlI (o_rg fun a => rg a) (asN (fld 2 (f (Int.toNat pc)))) + IntKind.wrap .u32 (asN (fld 4 (f (Int.toNat pc)))))) < (0 : Int)) then true
 else !decide (IntKind.wrap .i64 (IntKind.wrap .u32 (vlI (o_rg fun a => rg a) (asN (fld 2 (f (Int.toNat pc)))) + IntKind.wrap .u32 (asN (fld 4 (f (Int.toNat pc))))))
 < (0 : Int)) then bif bif bif decide (IntKind.wrap .i64 (IntKind.wrap .u32 (vlI (o_rg fun a => rg a) (asN (fld 2 (f (Int.toNat pc)))) + IntKind.wrap .u32 (asN (fld
 4 (f (Int.toNat pc)))))) < (0 : Int)) then true else decide (IntKind.wrap .i64 (IntKind.wrap .u32 (vlI (o_rg fun a => rg a) (asN (fld 2 (f (Int.toNat pc)))) + IntKind.wrap
 .u32 (asN (fld 4 (f (Int.toNat pc)))))) > (4294967295 : Int)) then true else !bif decide (IntKind.wrap .i64 (IntKind.wrap .u32 (vlI (o_rg fun a => rg a) (asN (fld
 2 (f (Int.toNat pc)))) + IntKind.wrap .u32 (asN (fld 4 (f (Int.toNat pc)))))) < (0 : Int)) then true else decide (IntKind.wrap .i64 (IntKind.wrap .u32 (vlI (o_rg
 fun a => rg a) (asN (fld 2 (f (Int.toNat pc)))) + IntKind.wrap .u32 (asN (fld 4 (f (Int.toNat pc)))))) > (4294967295 : Int)) then bif bif bif decide (IntKind.wrap
 .i64 (IntKind.wrap .u32 (vlI (o_rg fun a => rg a) (asN (fld 2 (f (Int.toNat pc)))) + IntKind.wrap .u32 (asN (fld 4 (f (Int.toNat pc)))))) < (0 : Int)) then true
 else decide (IntKind.wrap .i64 (IntKind.wrap .u32 (vlI (o_rg fun a => rg a) (asN (fld 2 (f (Int.toNat pc)))) + IntKind.wrap .u32 (asN (fld 4 (f (Int.toNat pc))))))
 > (4294967295 : Int)) then true else decide ¬chkI (4 : Int) (IntKind.wrap .u32 (IntKind.wrap .i64 (IntKind.wrap .u32 (vlI (o_rg fun a => rg a) (asN (fld 2 (f (Int.toNat
 pc)))) + IntKind.wrap .u32 (asN (fld 4 (f (Int.toNat pc)))))))) (↑nm : Int) = (0 : Int) then bif decide (nw ≤ nw) then bif decide (pl nw 1 * 24 ≤ 140737488355328)
 then A (XSt.mk [(20, .int .i64 (IntKind.wrap .i64 ((↑k : Int) + (1 : Int)))), (19, .int .i64 bd), (6, .ptr 5 [] 0), (5, .ptr 4 [] 0), (4, .ptr 1 [] 0)] [(11, some
 (.tab (pl nw 1) 3 fun i => .agg 3 [.int .i64 (bif decide (i < nw) then asN (fld 0 (wf i)) else IntKind.wrap .i64 (IntKind.wrap .u32 (vlI (o_rg fun a => rg a) (asN
 (fld 2 (f (Int.toNat pc)))) + IntKind.wrap .u32 (asN (fld 4 (f (Int.toNat pc))))))), .int .i64 (bif decide (i < nw) then asN (fld 1 (wf i)) else (4 : Int)), .int
 .u32 (bif decide (i < nw) then asN (fld 2 (wf i)) else bitsI .and .u32 (vlI (o_rg fun a => rg a) (asN (fld 3 (f (Int.toNat pc))))) (4294967295 : Int))])), (10, some
 (.agg 3 [.int .i64 (IntKind.wrap .i64 (IntKind.wrap .u32 (vlI (o_rg fun a => rg a) (asN (fld 2 (f (Int.toNat pc)))) + IntKind.wrap .u32 (asN (fld 4 (f (Int.toNat
 pc))))))), .int .i64 4, .int .u32 (bitsI .and .u32 (vlI (o_rg fun a => rg a) (asN (fld 3 (f (Int.toNat pc))))) (4294967295 : Int))])), (9, some (.agg 3 [.int .i64
 (IntKind.wrap .i64 (IntKind.wrap .u32 (vlI (o_rg fun a => rg a) (asN (fld 2 (f (Int.toNat pc)))) + IntKind.wrap .u32 (asN (fld 4 (f (Int.toNat pc))))))), .int .i64
 4, .int .u32 (bitsI .and .u32 (vlI (o_rg fun a => rg a) (asN (fld 3 (f (Int.toNat pc))))) (4294967295 : Int))])), (8, some (.agg 5 [.int .i64 (asN (fld 0 (f (Int.toNat
 pc)))), .int .i64 (asN (fld 1 (f (Int.toNat pc)))), .int .i64 (asN (fld 2 (f (Int.toNat pc)))), .int .i64 (asN (fld 3 (f (Int.toNat pc)))), .int .i64 (asN (fld 4
 (f (Int.toNat pc))))])), (7, some (.agg 5 [.int .i64 (asN (fld 0 (f (Int.toNat pc)))), .int .i64 (asN (fld 1 (f (Int.toNat pc)))), .int .i64 (asN (fld 2 (f (Int.toNat
 pc)))), .int .i64 (asN (fld 3 (f (Int.toNat pc)))), .int .i64 (asN (fld 4 (f (Int.toNat pc))))])), (6, none), (5, some (.agg 5 [.agg 3 [.row x 5 n (o_in fun a =>
 f a), .int .i64 sz, .row y 1 m (o_by fun a => d a)], .ptr 4 [] 0, .int .i64 (IntKind.wrap .i64 (pc + (1 : Int)))])), (4, some (.agg 23 [.int .i64 0, .agg 3 [.int
 .i64 0, .int .i64 0, .int .i64 0], .int .i64 (IntKind.wrap .i64 (st + (1 : Int))), .tab 16 1 (o_rg fun a => rg a), .sl 3 [] 0 0 nm 1, .sl 11 [] 0 0 (pl nw 1) 3])),
 (3, some (.tab nm 1 (o_by fun a => mm a))), (1, some (.agg 23 [.int .i64 0, .agg 3 [.int .i64 0, .int .i64 0, .int .i64 0], .int .i64 0, .tab 16 1 fun x => .int
 .u32 0, .row true 0 0 fun x => .unk, .row true 0 0 fun x => .unk])), (0, some (.agg 3 [.row x 5 n (o_in fun a => f a), .int .i64 sz, .row y 1 m (o_by fun a => d
 a)]))] 12) else False else False else bif decide ((0 : Int) ≤ IntKind.wrap .i64 (IntKind.wrap .i64 (IntKind.wrap .u32 (vlI (o_rg fun a => rg a) (asN (fld 2 (f (Int.toNat
 pc)))) + IntKind.wrap .u32 (asN (fld 4 (f (Int.toNat pc)))))) + (0 : Int))) then bif decide (IntKind.wrap .i64 (IntKind.wrap .i64 (IntKind.wrap .u32 (vlI (o_rg fun
 a => rg a) (asN (fld 2 (f (Int.toNat pc)))) + IntKind.wrap .u32 (asN (fld 4 (f (Int.toNat pc)))))) + (0 : Int)) < (↑nm : Int)) then bif Nat.beq (Int.toNat (IntKind.wrap
 .i64 (IntKind.wrap .i64 (IntKind.wrap .u32 (vlI (o_rg fun a => rg a) (asN (fld 2 (f (Int.toNat pc)))) + IntKind.wrap .u32 (asN (fld 4 (f (Int.toNat pc)))))) + (0
 : Int))) * 1) (Int.toNat (IntKind.wrap .i64 (IntKind.wrap .i64 (IntKind.wrap .u32 (vlI (o_rg fun a => rg a) (asN (fld 2 (f (Int.toNat pc)))) + IntKind.wrap .u32
 (asN (fld 4 (f (Int.toNat pc)))))) + (0 : Int))) * 1) then bif decide (Int.toNat (IntKind.wrap .i64 (IntKind.wrap .i64 (IntKind.wrap .u32 (vlI (o_rg fun a => rg
 a) (asN (fld 2 (f (Int.toNat pc)))) + IntKind.wrap .u32 (asN (fld 4 (f (Int.toNat pc)))))) + (0 : Int))) < nm) then bif decide (Int.toNat (IntKind.wrap .i64 (IntKind.wrap
 .i64 (IntKind.wrap .u32 (vlI (o_rg fun a => rg a) (asN (fld 2 (f (Int.toNat pc)))) + IntKind.wrap .u32 (asN (fld 4 (f (Int.toNat pc)))))) + (0 : Int))) < nm) then
 bif decide ((0 : Int) ≤ IntKind.wrap .i64 (IntKind.wrap .i64 (IntKind.wrap .u32 (vlI (o_rg fun a => rg a) (asN (fld 2 (f (Int.toNat pc)))) + IntKind.wrap .u32 (asN
 (fld 4 (f (Int.toNat pc)))))) + (1 : Int))) then bif decide (IntKind.wrap .i64 (IntKind.wrap .i64 (IntKind.wrap .u32 (vlI (o_rg fun a => rg a) (asN (fld 2 (f (Int.toNat
 pc)))) + IntKind.wrap .u32 (asN (fld 4 (f (Int.toNat pc)))))) + (1 : Int)) < (↑nm : Int)) then bif Nat.beq (Int.toNat (IntKind.wrap .i64 (IntKind.wrap .i64 (IntKind.wrap
 .u32 (vlI (o_rg fun a => rg a) (asN (fld 2 (f (Int.toNat pc)))) + IntKind.wrap .u32 (asN (fld 4 (f (Int.toNat pc)))))) + (1 : Int))) * 1) (Int.toNat (IntKind.wrap
 .i64 (IntKind.wrap .i64 (IntKind.wrap .u32 (vlI (o_rg fun a => rg a) (asN (fld 2 (f (Int.toNat pc)))) + IntKind.wrap .u32 (asN (fld 4 (f (Int.toNat pc)))))) + (1
 : Int))) * 1) then bif decide (Int.toNat (IntKind.wrap .i64 (IntKind.wrap .i64 (IntKind.wrap .u32 (vlI (o_rg fun a => rg a) (asN (fld 2 (f (Int.toNat pc)))) + IntKind.wrap
 .u32 (asN (fld 4 (f (Int.toNat pc)))))) + (1 : Int))) < nm) then bif decide (Int.toNat (IntKind.wrap .i64 (IntKind.wrap .i64 (IntKind.wrap .u32 (vlI (o_rg fun a
 => rg a) (asN (fld 2 (f (Int.toNat pc)))) + IntKind.wrap .u32 (asN (fld 4 (f (Int.toNat pc)))))) + (1 : Int))) < nm) then bif decide ((0 : Int) ≤ IntKind.wrap .i64
 (IntKind.wrap .i64 (IntKind.wrap .u32 (vlI (o_rg fun a => rg a) (asN (fld 2 (f (Int.toNat pc)))) + IntKind.wrap .u32 (asN (fld 4 (f (Int.toNat pc)))))) + (2 : Int)))
 then bif decide (IntKind.wrap .i64 (IntKind.wrap .i64 (IntKind.wrap .u32 (vlI (o_rg fun a => rg a) (asN (fld 2 (f (Int.toNat pc)))) + IntKind.wrap .u32 (asN (fld
 4 (f (Int.toNat pc)))))) + (2 : Int)) < (↑nm : Int)) then bif Nat.beq (Int.toNat (IntKind.wrap .i64 (IntKind.wrap .i64 (IntKind.wrap .u32 (vlI (o_rg fun a => rg
 a) (asN (fld 2 (f (Int.toNat pc)))) + IntKind.wrap .u32 (asN (fld 4 (f (Int.toNat pc)))))) + (2 : Int))) * 1) (Int.toNat (IntKind.wrap .i64 (IntKind.wrap .i64 (IntKind.wrap
 .u32 (vlI (o_rg fun a => rg a) (asN (fld 2 (f (Int.toNat pc)))) + IntKind.wrap .u32 (asN (fld 4 (f (Int.toNat pc)))))) + (2 : Int))) * 1) then bif decide (Int.toNat
 (IntKind.wrap .i64 (IntKind.wrap .i64 (IntKind.wrap .u32 (vlI (o_rg fun a => rg a) (asN (fld 2 (f (Int.toNat pc)))) + IntKind.wrap .u32 (asN (fld 4 (f (Int.toNat
 pc)))))) + (2 : Int))) < nm) then bif decide (Int.toNat (IntKind.wrap .i64 (IntKind.wrap .i64 (IntKind.wrap .u32 (vlI (o_rg fun a => rg a) (asN (fld 2 (f (Int.toNat
 pc)))) + IntKind.wrap .u32 (asN (fld 4 (f (Int.toNat pc)))))) + (2 : Int))) < nm) then bif decide ((0 : Int) ≤ IntKind.wrap .i64 (IntKind.wrap .i64 (IntKind.wrap
 .u32 (vlI (o_rg fun a => rg a) (asN (fld 2 (f (Int.toNat pc)))) + IntKind.wrap .u32 (asN (fld 4 (f (Int.toNat pc)))))) + (3 : Int))) then bif decide (IntKind.wrap
 .i64 (IntKind.wrap .i64 (IntKind.wrap .u32 (vlI (o_rg fun a => rg a) (asN (fld 2 (f (Int.toNat pc)))) + IntKind.wrap .u32 (asN (fld 4 (f (Int.toNat pc)))))) + (3
 : Int)) < (↑nm : Int)) then bif Nat.beq (Int.toNat (IntKind.wrap .i64 (IntKind.wrap .i64 (IntKind.wrap .u32 (vlI (o_rg fun a => rg a) (asN (fld 2 (f (Int.toNat pc))))
 + IntKind.wrap .u32 (asN (fld 4 (f (Int.toNat pc)))))) + (3 : Int))) * 1) (Int.toNat (IntKind.wrap .i64 (IntKind.wrap .i64 (IntKind.wrap .u32 (vlI (o_rg fun a =>
 rg a) (asN (fld 2 (f (Int.toNat pc)))) + IntKind.wrap .u32 (asN (fld 4 (f (Int.toNat pc)))))) + (3 : Int))) * 1) then bif decide (Int.toNat (IntKind.wrap .i64 (IntKind.wrap
 .i64 (IntKind.wrap .u32 (vlI (o_rg fun a => rg a) (asN (fld 2 (f (Int.toNat pc)))) + IntKind.wrap .u32 (asN (fld 4 (f (Int.toNat pc)))))) + (3 : Int))) < nm) then
 bif decide (Int.toNat (IntKind.wrap .i64 (IntKind.wrap .i64 (IntKind.wrap .u32 (vlI (o_rg fun a => rg a) (asN (fld 2 (f (Int.toNat pc)))) + IntKind.wrap .u32 (asN
 (fld 4 (f (Int.toNat pc)))))) + (3 : Int))) < nm) then bif decide (nw ≤ nw) then bif decide (pl nw 1 * 24 ≤ 140737488355328) then A (XSt.mk [(20, .int .i64 (IntKind.wrap
 .i64 ((↑k : Int) + (1 : Int)))), (19, .int .i64 bd), (6, .ptr 5 [] 0), (5, .ptr 4 [] 0), (4, .ptr 1 [] 0)] [(11, some (.tab (pl nw 1) 3 fun i => .agg 3 [.int .i64
 (bif decide (i < nw) then asN (fld 0 (wf i)) else IntKind.wrap .i64 (IntKind.wrap .u32 (vlI (o_rg fun a => rg a) (asN (fld 2 (f (Int.toNat pc)))) + IntKind.wrap
 .u32 (asN (fld 4 (f (Int.toNat pc))))))), .int .i64 (bif decide (i < nw) then asN (fld 1 (wf i)) else (4 : Int)), .int .u32 (bif decide (i < nw) then asN (fld 2
 (wf i)) else bitsI .and .u32 (vlI (o_rg fun a => rg a) (asN (fld 3 (f (Int.toNat pc))))) (4294967295 : Int))])), (10, some (.agg 3 [.int .i64 (IntKind.wrap .i64
 (IntKind.wrap .u32 (vlI (o_rg fun a => rg a) (asN (fld 2 (f (Int.toNat pc)))) + IntKind.wrap .u32 (asN (fld 4 (f (Int.toNat pc))))))), .int .i64 4, .int .u32 (bitsI
 .and .u32 (vlI (o_rg fun a => rg a) (asN (fld 3 (f (Int.toNat pc))))) (4294967295 : Int))])), (9, some (.agg 3 [.int .i64 (IntKind.wrap .i64 (IntKind.wrap .u32 (vlI
 (o_rg fun a => rg a) (asN (fld 2 (f (Int.toNat pc)))) + IntKind.wrap .u32 (asN (fld 4 (f (Int.toNat pc))))))), .int .i64 4, .int .u32 (bitsI .and .u32 (vlI (o_rg
 fun a => rg a) (asN (fld 3 (f (Int.toNat pc))))) (4294967295 : Int))])), (8, some (.agg 5 [.int .i64 (asN (fld 0 (f (Int.toNat pc)))), .int .i64 (asN (fld 1 (f (Int.toNat
 pc)))), .int .i64 (asN (fld 2 (f (Int.toNat pc)))), .int .i64 (asN (fld 3 (f (Int.toNat pc)))), .int .i64 (asN (fld 4 (f (Int.toNat pc))))])), (7, some (.agg 5 [.int
 .i64 (asN (fld 0 (f (Int.toNat pc)))), .int .i64 (asN (fld 1 (f (Int.toNat pc)))), .int .i64 (asN (fld 2 (f (Int.toNat pc)))), .int .i64 (asN (fld 3 (f (Int.toNat
 pc)))), .int .i64 (asN (fld 4 (f (Int.toNat pc))))])), (6, none), (5, some (.agg 5 [.agg 3 [.row x 5 n (o_in fun a => f a), .int .i64 sz, .row y 1 m (o_by fun a
 => d a)], .ptr 4 [] 0, .int .i64 (IntKind.wrap .i64 (pc + (1 : Int)))])), (4, some (.agg 23 [.int .i64 0, .agg 3 [.int .i64 0, .int .i64 0, .int .i64 0], .int .i64
 (IntKind.wrap .i64 (st + (1 : Int))), .tab 16 1 (o_rg fun a => rg a), .sl 3 [] 0 0 nm 1, .sl 11 [] 0 0 (pl nw 1) 3])), (3, some (.tab nm 1 fun j => .int .u8 (bif
 Nat.beq j (Int.toNat (IntKind.wrap .i64 (IntKind.wrap .i64 (IntKind.wrap .u32 (vlI (o_rg fun a => rg a) (asN (fld 2 (f (Int.toNat pc)))) + IntKind.wrap .u32 (asN
 (fld 4 (f (Int.toNat pc)))))) + (3 : Int)))) then IntKind.wrap .u8 (Int.fdiv (bitsI .and .u32 (vlI (o_rg fun a => rg a) (asN (fld 3 (f (Int.toNat pc))))) (4294967295
 : Int)) (16777216 : Int)) else bif Nat.beq j (Int.toNat (IntKind.wrap .i64 (IntKind.wrap .i64 (IntKind.wrap .u32 (vlI (o_rg fun a => rg a) (asN (fld 2 (f (Int.toNat
 pc)))) + IntKind.wrap .u32 (asN (fld 4 (f (Int.toNat pc)))))) + (2 : Int)))) then IntKind.wrap .u8 (Int.fdiv (bitsI .and .u32 (vlI (o_rg fun a => rg a) (asN (fld
 3 (f (Int.toNat pc))))) (4294967295 : Int)) (65536 : Int)) else bif Nat.beq j (Int.toNat (IntKind.wrap .i64 (IntKind.wrap .i64 (IntKind.wrap .u32 (vlI (o_rg fun
 a => rg a) (asN (fld 2 (f (Int.toNat pc)))) + IntKind.wrap .u32 (asN (fld 4 (f (Int.toNat pc)))))) + (1 : Int)))) then IntKind.wrap .u8 (Int.fdiv (bitsI .and .u32
 (vlI (o_rg fun a => rg a) (asN (fld 3 (f (Int.toNat pc))))) (4294967295 : Int)) (256 : Int)) else bif Nat.beq j (Int.toNat (IntKind.wrap .i64 (IntKind.wrap .i64
 (IntKind.wrap .u32 (vlI (o_rg fun a => rg a) (asN (fld 2 (f (Int.toNat pc)))) + IntKind.wrap .u32 (asN (fld 4 (f (Int.toNat pc)))))) + (0 : Int)))) then IntKind.wrap
 .u8 (Int.fdiv (bitsI .and .u32 (vlI (o_rg fun a => rg a) (asN (fld 3 (f (Int.toNat pc))))) (4294967295 : Int)) (1 : Int)) else asN (mm j)))), (1, some (.agg 23 [.int
 .i64 0, .agg 3 [.int .i64 0, .int .i64 0, .int .i64 0], .int .i64 0, .tab 16 1 fun x => .int .u32 0, .row true 0 0 fun x => .unk, .row true 0 0 fun x => .unk])),
 (0, some (.agg 3 [.row x 5 n (o_in fun a => f a), .int .i64 sz, .row y 1 m (o_by fun a => d a)]))] 12) else False else False else False else False else False else
 False else False else False else False else False else False else False else False else False else False else False else False else False else False else False else
 False else False else False else False else False else False else False else False else False else False else False else False else False else False else False else
 False else False else False
else bif decide (nm ≤ nm) then bif decide (nw ≤ nw) then con (.agg 23 [.int .i64 3, .agg 3 [.int .i64 0, .int .i64 0, .int .i64 0], .int
 .i64 st, .tab 16 1 (o_rg fun a => rg a), .row false 1 nm fun i => .int .u8 (asN (mm i)), .row false 3 nw fun i => .agg 3 [.int .i64 (asN (fld 0 (wf i))), .int .i64
 (asN (fld 1 (wf i))), .int .u32 (asN (fld 2 (wf i)))]]) = r else False else False) := by kernel_rfl
end Go.Proofs.Ytmfbaglhmiadjaa

