/- Texts put together. -/
import Derived.Test.YtbemlndjdbopeaaPk4
/- Numbers of scripts, and the filling of places, of plain lists. -/
namespace Go.Proofs.Ytbemlndjdbopeaa
open Go.Ra
set_option linter.unusedVariables false
set_option linter.unusedSimpArgs false
/-- A number of a script. -/
def nthF (l : List Int) (i most : Int) : Int := if l.length = 0 ∨ i < 0 ∨ most < 1 then 0 else Int.tmod (bitsI .and .i64 (ix l (i.toNat % l.length)) 1073741823) most
def nthS : List XV → Option ((XV → Prop) → Prop) := skOf (fun q : List Int × Int × Int => [e_row 1 e_i64 q.1, .int .i64 q.2.1, .int .i64 q.2.2]) (fun q => q.1.length ≤ 1000000) (fun q => nthF q.1 q.2.1 q.2.2) (fun y => .int .i64 y)
def latF (s : Script) (i most : Int) : Int := 1 + nthF s.lats i most
def pickF (s : Script) (i n : Int) : Int := nthF s.picks i n
def Script.ok (s : Script) : Prop := s.lats.length ≤ 1000000 ∧ s.picks.length ≤ 1000000
def latS : List XV → Option ((XV → Prop) → Prop) := skOf (fun q : Script × Int × Int => [e_Script q.1, .int .i64 q.2.1, .int .i64 q.2.2]) (fun q => q.1.lats.length ≤ 1000000) (fun q => latF q.1 q.2.1 q.2.2) (fun y => .int .i64 y)
def picS : List XV → Option ((XV → Prop) → Prop) := skOf (fun q : Script × Int × Int => [e_Script q.1, .int .i64 q.2.1, .int .i64 q.2.2]) (fun q => q.1.picks.length ≤ 1000000) (fun q => pickF q.1 q.2.1 q.2.2) (fun y => .int .i64 y)
def TN1 : Tab := mkT2 qq (cl_banks ++ cl_ref15) [] [] [] []
def TN2 : Tab := mkT2 qq (cl_banks ++ cl_ref15) [] [] [(40, nthS)] []
theorem TN1ok : TabOk Try.prog TN1 := mkT2_ok (clok_banks.app clok_ref15) trivial trivial trivial trivial
theorem r_nth (l : List Int) (i most : Int) (r : XV) : (quietGo TN1 80 (callI TN1 80 20) 40 [e_row 1 e_i64 l, .int .i64 i, .int .i64 most] (fun v => ResLe v r)) = (let q1 : Bool := decide ((↑(List.length l) : Int) = 0);
let q2 : Bool := !q1;
let q3 : Bool := bif q1 then true else decide (i < 0);
bif bif q1 then true else
 q2 then bif bif q3 then true else !q3 then bif bif q3 then true else decide (most < 1) then ResLe (.int .i64 0) r else bif q2 then bif decide (0 ≤ Int.tmod i (↑(List.length
 l) : Int)) then bif decide (Int.tmod i (↑(List.length l) : Int) < (↑(List.length l) : Int)) then bif !decide (most = 0) then ResLe (.int .i64 (Int.tmod (bitsI .and
 .i64 (ix l (Int.toNat (Int.tmod i (↑(List.length l) : Int)))) (1073741823 : Int)) most)) r else False else False else False else False else False
else False) :=
 by kernel_rfl
theorem r_lat (s : Script) (i most : Int) (r : XV) : (quietGo TN2 80 (callI TN2 80 20) 24 [e_Script s, .int .i64 i, .int .i64 most] (fun v => ResLe v r)) = (∃ (s_1 : List Int × Int × Int), ArgsLe [e_row 1 e_i64 (Script.lats s), .int .i64 i, .int .i64 most] [e_row 1 e_i64 (Prod.fst s_1), .int .i64 (Prod.fst (Prod.snd
 s_1)), .int .i64 (Prod.snd (Prod.snd s_1))] ∧ PreIs (List.length (Prod.fst s_1) ≤ 1000000) ∧ ∀ (y : Int), y = nthF (Prod.fst s_1) (Prod.fst (Prod.snd s_1)) (Prod.snd
 (Prod.snd s_1)) → ResLe (.int .i64 (IntKind.wrap .i64 ((1 : Int) + y))) r) := by kernel_rfl
theorem r_pic (s : Script) (i most : Int) (r : XV) : (quietGo TN2 80 (callI TN2 80 20) 26 [e_Script s, .int .i64 i, .int .i64 most] (fun v => ResLe v r)) = (∃ (s_1 : List Int × Int × Int), ArgsLe [e_row 1 e_i64 (Script.picks s), .int .i64 i, .int .i64 most] [e_row 1 e_i64 (Prod.fst s_1), .int .i64 (Prod.fst (Prod.snd
 s_1)), .int .i64 (Prod.snd (Prod.snd s_1))] ∧ PreIs (List.length (Prod.fst s_1) ≤ 1000000) ∧ ∀ (y : Int), y = nthF (Prod.fst s_1) (Prod.fst (Prod.snd s_1)) (Prod.snd
 (Prod.snd s_1)) → ResLe (.int .i64 y) r) := by kernel_rfl
theorem r_rlat (s : Script) (i most : Int) (r : XV) : (quietGo TN2 80 (callI TN2 80 20) 25 [e_Script s, .int .i64 i, .int .i64 most] (fun v => ResLe v r)) = (let q1 : Bool := decide ((↑(List.length (Script.lats s)) : Int) = 0);
let q2 : Bool := !q1;
let q3 : Bool := !decide (most = 0);
bif decide (most < 1) then ResLe
 (.int .i64 1) r
else bif bif q1 then true else q2 then bif bif q1 then true else decide (i < 0) then bif q3 then ResLe (.int .i64 (IntKind.wrap .i64 ((1 : Int) +
 Int.tmod (0 : Int) most))) r else False else bif q2 then bif decide (0 ≤ Int.tmod i (↑(List.length (Script.lats s)) : Int)) then bif decide (Int.tmod i (↑(List.length
 (Script.lats s)) : Int) < (↑(List.length (Script.lats s)) : Int)) then bif q3 then ResLe (.int .i64 (IntKind.wrap .i64 ((1 : Int) + Int.tmod (bitsI .and .i64 (ix
 (Script.lats s) (Int.toNat (Int.tmod i (↑(List.length (Script.lats s)) : Int)))) (1073741823 : Int)) most))) r else False else False else False else False else False)
 := by kernel_rfl
theorem r_rpic (s : Script) (i most : Int) (r : XV) : (quietGo TN2 80 (callI TN2 80 20) 27 [e_Script s, .int .i64 i, .int .i64 most] (fun v => ResLe v r)) = (let q1 : Bool := decide ((↑(List.length (Script.picks s)) : Int) = 0);
let q2 : Bool := !q1;
let q3 : Bool := !decide (most = 0);
bif decide (most < 1) then
 ResLe (.int .i64 0) r
else bif bif q1 then true else q2 then bif bif q1 then true else decide (i < 0) then bif q3 then ResLe (.int .i64 (Int.tmod (0 : Int) most))
 r else False else bif q2 then bif decide (0 ≤ Int.tmod i (↑(List.length (Script.picks s)) : Int)) then bif decide (Int.tmod i (↑(List.length (Script.picks s)) :
 Int) < (↑(List.length (Script.picks s)) : Int)) then bif q3 then ResLe (.int .i64 (Int.tmod (bitsI .and .i64 (ix (Script.picks s) (Int.toNat (Int.tmod i (↑(List.length
 (Script.picks s)) : Int)))) (1073741823 : Int)) most)) r else False else False else False else False else False) := by kernel_rfl
theorem resI {k : IntKind} {x y : Int} (h : x = y) : ResLe (.int k x) (.int k y) := by rw [h]; exact .rfl
theorem tmod_len {l : List Int} {i : Int} (h0 : ¬ l.length = 0) (h1 : ¬ i < 0) : 0 ≤ Int.tmod i (l.length : Int) ∧ Int.tmod i (l.length : Int) < (l.length : Int) ∧ (Int.tmod i (l.length : Int)).toNat = i.toNat % l.length := by
  obtain ⟨j, rfl⟩ := Int.eq_ofNat_of_zero_le (show 0 ≤ i by omega)
  have e1 : Int.tmod (j : Int) (l.length : Int) = ((j % l.length : Nat) : Int) := rfl
  have e2 := Nat.mod_lt j (show 0 < l.length by omega)
  rw [e1]
  refine ⟨Int.natCast_nonneg _, by omega, rfl⟩
theorem sk_nth : SkOk Try.prog (40, nthS) := skOf_ok fun ⟨l, i, most⟩ h => by
  show Pure _ _ (cons [e_row 1 e_i64 l, .int .i64 i, .int .i64 most]) (con (.int .i64 (nthF l i most)))
  refine pureR (u := 80) (k := 20) mix TN1ok ?_
  refine Eq.mpr (r_nth l i most _) ?_
  have zz : ((l.length : Int) = 0) ↔ l.length = 0 := by omega
  unfold nthF
  by_cases g0 : l.length = 0
  · simp [g0, zz]; exact .rfl
  by_cases g1 : i < 0
  · simp [g0, g1, zz]; exact .rfl
  by_cases g2 : most < 1
  · simp [g0, g1, g2, zz]; exact .rfl
  obtain ⟨t1, t2, t3⟩ := tmod_len g0 g1
  have g3 : ¬ most = 0 := by omega
  rw [if_neg (by omega)]
  simp only [g0, g1, g2, g3, zz, t1, t2, t3, decide_true, decide_false, cond_true, cond_false, allN_true, Nat.le_refl, Int.toNat_natCast, Nat.beq_refl, pk_and, pk_or, Bool.not_true, Bool.not_false, not_true_eq_false, not_false_eq_true, Bool.and_true, Bool.true_and, Bool.and_self, ge_iff_le, Int.le_refl, if_true, if_false, reduceCtorEq, eq_self, BEq.rfl]
  exact .rfl
theorem and30 (x : Int) : ∃ K : Nat, K ≤ 1073741823 ∧ bitsI .and .i64 x 1073741823 = (K : Int) := by
  refine ⟨(BitVec.ofInt 64 x).toNat &&& 1073741823, Nat.and_le_right, ?_⟩
  show IntKind.i64.wrap (((BitVec.ofInt 64 x) &&& (BitVec.ofInt 64 1073741823)).toNat : Int) = _
  have h : (BitVec.ofInt 64 x).toNat &&& 1073741823 ≤ 1073741823 := Nat.and_le_right
  rw [BitVec.toNat_and, show (BitVec.ofInt 64 1073741823).toNat = 1073741823 from rfl]
  exact wrap_i64 (by omega) (by omega)
theorem nth_rng (l : List Int) (i : Int) {most : Int} (h : 1 ≤ most) : 0 ≤ nthF l i most ∧ nthF l i most < most ∧ nthF l i most ≤ 1073741823 := by
  unfold nthF
  split
  · omega
  · obtain ⟨K, h1, h2⟩ := and30 (ix l (i.toNat % l.length))
    rw [h2, Int.tmod_eq_emod_of_nonneg (by omega)]
    have m1 := Int.emod_nonneg (K : Int) (show most ≠ 0 by omega)
    have m2 := Int.emod_lt_of_pos (K : Int) (show 0 < most by omega)
    have m3 : (K : Int) % most ≤ K := by
      by_cases g : (K : Int) < most
      · rw [Int.emod_eq_of_lt (by omega) g]; exact Int.le_refl _
      · omega
    omega
theorem nth_bnd (l : List Int) (i most : Int) : 0 ≤ nthF l i most ∧ nthF l i most ≤ 1073741823 := by
  by_cases h : 1 ≤ most
  · have := nth_rng l i h; omega
  · unfold nthF; rw [if_pos (by omega)]; omega
theorem pick_rng (s : Script) (i : Int) {n : Int} (h : 1 ≤ n) : 0 ≤ pickF s i n ∧ pickF s i n < n := by
  have := nth_rng s.picks i h
  unfold pickF; omega
theorem TN2ok : TabOk Try.prog TN2 := mkT2_ok (clok_banks.app clok_ref15) trivial trivial ⟨sk_nth, trivial⟩ trivial
theorem sk_lat : SkOk Try.prog (24, latS) := skOf_ok fun ⟨s, i, most⟩ h => by
  show Pure _ _ (cons [e_Script s, .int .i64 i, .int .i64 most]) (con (.int .i64 (latF s i most)))
  refine pureR (u := 80) (k := 20) mix TN2ok ?_
  refine Eq.mpr (r_lat s i most _) ?_
  refine ⟨(s.lats, i, most), .rfl, ⟨h⟩, ?_⟩
  intro y hy
  replace hy : y = nthF s.lats i most := hy
  subst hy
  have := nth_bnd s.lats i most
  exact resI (wrap_i64 (by omega) (by omega))
theorem sk_pick : SkOk Try.prog (26, picS) := skOf_ok fun ⟨s, i, most⟩ h => by
  show Pure _ _ (cons [e_Script s, .int .i64 i, .int .i64 most]) (con (.int .i64 (pickF s i most)))
  refine pureR (u := 80) (k := 20) mix TN2ok ?_
  refine Eq.mpr (r_pic s i most _) ?_
  refine ⟨(s.picks, i, most), .rfl, ⟨h⟩, ?_⟩
  intro y hy
  rw [hy]; exact .rfl
theorem sk_rlat : SkOk Try.prog (25, latS) := skOf_ok fun ⟨s, i, most⟩ h => by
  show Pure _ _ (cons [e_Script s, .int .i64 i, .int .i64 most]) (con (.int .i64 (latF s i most)))
  refine pureR (u := 80) (k := 20) mix TN2ok ?_
  refine Eq.mpr (r_rlat s i most _) ?_
  have zz : ((s.lats.length : Int) = 0) ↔ s.lats.length = 0 := by omega
  have bb := nth_bnd s.lats i most
  unfold latF
  unfold nthF at bb ⊢
  by_cases g2 : most < 1
  · simp only [g2, or_true, if_true, decide_true, decide_false, cond_true, cond_false, allN_true, Nat.le_refl, Int.toNat_natCast, Nat.beq_refl, pk_and, pk_or, Bool.not_true, Bool.not_false, not_true_eq_false, not_false_eq_true, Bool.and_true, Bool.true_and, Bool.and_self, ge_iff_le, Int.le_refl, if_true, if_false, reduceCtorEq, eq_self, BEq.rfl]; exact .rfl
  have g3 : ¬ most = 0 := by omega
  by_cases g0 : s.lats.length = 0
  · simp only [g0, g2, g3, zz, true_or, if_true, decide_true, decide_false, cond_true, cond_false, allN_true, Nat.le_refl, Int.toNat_natCast, Nat.beq_refl, pk_and, pk_or, Bool.not_true, Bool.not_false, not_true_eq_false, not_false_eq_true, Bool.and_true, Bool.true_and, Bool.and_self, ge_iff_le, Int.le_refl, if_true, if_false, reduceCtorEq, eq_self, BEq.rfl]
    exact resI (by rw [Int.zero_tmod]; rfl)
  by_cases g1 : i < 0
  · simp only [g0, g1, g2, g3, zz, true_or, or_true, if_true, decide_true, decide_false, cond_true, cond_false, allN_true, Nat.le_refl, Int.toNat_natCast, Nat.beq_refl, pk_and, pk_or, Bool.not_true, Bool.not_false, not_true_eq_false, not_false_eq_true, Bool.and_true, Bool.true_and, Bool.and_self, ge_iff_le, Int.le_refl, if_true, if_false, reduceCtorEq, eq_self, BEq.rfl]
    exact resI (by rw [Int.zero_tmod]; rfl)
  obtain ⟨t1, t2, t3⟩ := tmod_len g0 g1
  rw [if_neg (by omega)] at bb ⊢
  simp only [g0, g1, g2, g3, zz, t1, t2, t3, decide_true, decide_false, cond_true, cond_false, allN_true, Nat.le_refl, Int.toNat_natCast, Nat.beq_refl, pk_and, pk_or, Bool.not_true, Bool.not_false, not_true_eq_false, not_false_eq_true, Bool.and_true, Bool.true_and, Bool.and_self, ge_iff_le, Int.le_refl, if_true, if_false, reduceCtorEq, eq_self, BEq.rfl]
  exact resI (wrap_i64 (by omega) (by omega))
theorem sk_rpick : SkOk Try.prog (27, picS) := skOf_ok fun ⟨s, i, most⟩ h => by
  show Pure _ _ (cons [e_Script s, .int .i64 i, .int .i64 most]) (con (.int .i64 (pickF s i most)))
  refine pureR (u := 80) (k := 20) mix TN2ok ?_
  refine Eq.mpr (r_rpic s i most _) ?_
  have zz : ((s.picks.length : Int) = 0) ↔ s.picks.length = 0 := by omega
  unfold pickF nthF
  by_cases g2 : most < 1
  · simp only [g2, or_true, if_true, decide_true, decide_false, cond_true, cond_false, allN_true, Nat.le_refl, Int.toNat_natCast, Nat.beq_refl, pk_and, pk_or, Bool.not_true, Bool.not_false, not_true_eq_false, not_false_eq_true, Bool.and_true, Bool.true_and, Bool.and_self, ge_iff_le, Int.le_refl, if_true, if_false, reduceCtorEq, eq_self, BEq.rfl]; exact .rfl
  have g3 : ¬ most = 0 := by omega
  by_cases g0 : s.picks.length = 0
  · simp only [g0, g2, g3, zz, true_or, if_true, decide_true, decide_false, cond_true, cond_false, allN_true, Nat.le_refl, Int.toNat_natCast, Nat.beq_refl, pk_and, pk_or, Bool.not_true, Bool.not_false, not_true_eq_false, not_false_eq_true, Bool.and_true, Bool.true_and, Bool.and_self, ge_iff_le, Int.le_refl, if_true, if_false, reduceCtorEq, eq_self, BEq.rfl]
    exact resI (by rw [Int.zero_tmod])
  by_cases g1 : i < 0
  · simp only [g0, g1, g2, g3, zz, true_or, or_true, if_true, decide_true, decide_false, cond_true, cond_false, allN_true, Nat.le_refl, Int.toNat_natCast, Nat.beq_refl, pk_and, pk_or, Bool.not_true, Bool.not_false, not_true_eq_false, not_false_eq_true, Bool.and_true, Bool.true_and, Bool.and_self, ge_iff_le, Int.le_refl, if_true, if_false, reduceCtorEq, eq_self, BEq.rfl]
    exact resI (by rw [Int.zero_tmod])
  obtain ⟨t1, t2, t3⟩ := tmod_len g0 g1
  rw [if_neg (by omega)]
  simp only [g0, g1, g2, g3, zz, t1, t2, t3, decide_true, decide_false, cond_true, cond_false, allN_true, Nat.le_refl, Int.toNat_natCast, Nat.beq_refl, pk_and, pk_or, Bool.not_true, Bool.not_false, not_true_eq_false, not_false_eq_true, Bool.and_true, Bool.true_and, Bool.and_self, ge_iff_le, Int.le_refl, if_true, if_false, reduceCtorEq, eq_self, BEq.rfl]
  exact .rfl
end Go.Proofs.Ytbemlndjdbopeaa

/- The filling of places. -/
namespace Go.Proofs.Ytbemlndjdbopeaa
open Go.Ra
set_option linter.unusedVariables false
set_option linter.unusedSimpArgs false
def TN3 : Tab := mkT2 qq (cl_slots ++ cl_slices ++ cl_ref15) [] (gl_slices ++ gl_ref15) [] []
/-- Is a place of that tag, and not full? -/
def opnB (tag : Int) (s : Slot) : Bool := decide (s.tag = tag) && !s.full
def ixsS : List XV → Option ((XV → Prop) → Prop) := skOf (fun p : List Slot × Int => [e_row 3 e_Slot p.1, .clo 76 [.fptr (.int .i64 p.2)]]) (fun p => p.1.length ≤ 1000000) (fun p => idxF (opnB p.2) p.1) (fun y => .int .i64 y)
def TN4 : Tab := mkT2 qq (cl_slots ++ cl_slices ++ cl_ref15) [] (gl_slices ++ gl_ref15) [(75, ixsS)] []
/-- The first place of a tag that is not full is filled. -/
def fillF (l : List Slot) (tag w : Int) : List Slot × Bool := if idxF (opnB tag) l < 0 then (l, false) else (l.set (idxF (opnB tag) l).toNat ⟨(ix l (idxF (opnB tag) l).toNat).tag, true, w⟩, true)
def filS : List XV → Option ((XV → Prop) → Prop) := skOf (fun p : List Slot × Int × Int => [e_row 3 e_Slot p.1, .int .i64 p.2.1, .int .u32 p.2.2]) (fun p => p.1.length ≤ 1000000) (fun p => fillF p.1 p.2.1 p.2.2) (fun y => .tup [e_row 3 e_Slot y.1, .bool y.2])
def flSt (l : List Slot) (tag w : Int) (i : Nat) : XSt := ⟨[(8, .int .i64 i), (2, .int .u32 w), (1, .int .i64 tag), (0, .sl 0 [] 0 0 l.length 3)], [(0, some (.tab l.length 3 (fun i => e_Slot (ix l i))))], 1⟩
theorem TN3ok : TabOk Try.prog TN3 := mkT2_ok ((clok_slots.app clok_slices).app clok_ref15) trivial (glok_slices.app glok_ref15) trivial trivial
theorem r_ixs0 (l : List Slot) (tag : Int) (r : XV) : (goQ Try.prog TN3 [(.tmp 4)] r (.run c_slices_IndexFunc_Slot_Slot) [] ⟨envX 0 [e_row 3 e_Slot l, .clo 76 [.fptr (.int .i64 tag)]], [], 0⟩) = (LoopAt (Ok Try.prog (Tab.q TN3)) c_slices_IndexFunc_Slot_Slot_l1 (XSt.mk [(8, .int .i64 0), (7, .int .i64 (↑(List.length l) : Int)), (4, .int .i64 0), (0, e_row
 3 e_Slot l), (1, .clo 76 [.fptr (.int .i64 tag)])] [] 0) [Frm.blk 0, Frm.seq c_slices_IndexFunc_Slot_Slot_p1] (finQR [AR.tmp 4] r)) := by kernel_rfl
theorem r_ixs1 (l : List Slot) (tag : Int) (i : Nat) (r : XV) (A : XSt → Prop) : (goQ Try.prog TN3 [(.tmp 4)] r (.run c_slices_IndexFunc_Slot_Slot_l1) [.lp c_slices_IndexFunc_Slot_Slot_l1 A, .blk 0, .seq c_slices_IndexFunc_Slot_Slot_p1] ⟨[(0, e_row 3 e_Slot l), (1, .clo 76 [.fptr (.int .i64 tag)]), (8, .int .i64 i), (7, .int .i64 l.length)], [], 0⟩) = (let q1 : Bool := decide ((↑i : Int) < (↑(List.length l) : Int));
let q2 : Bool := decide (Slot.tag (ix l i) = tag);
bif q1 then bif q1 then bif bif q2 then q2
 else true then bif bif q2 then !Slot.full (ix l i) else false then ResLe (.int .i64 (↑i : Int)) r else A (XSt.mk [(8, .int .i64 (IntKind.wrap .i64 ((↑i : Int) +
 (1 : Int)))), (0, e_row 3 e_Slot l), (1, .clo 76 [.fptr (.int .i64 tag)]), (7, .int .i64 (↑(List.length l) : Int))] [] 0) else False else False
else ResLe (.int
 .i64 (-1 : Int)) r) := by kernel_rfl
theorem r_fil (l : List Slot) (tag w : Int) (r : XV) : (quietGo TN4 80 (callI TN4 80 20) 70 [e_row 3 e_Slot l, .int .i64 tag, .int .u32 w] (fun v => ResLe v r)) = (let q1 : Nat := List.length l * 16;
let q2 : Bool := decide (List.length l ≤ List.length l);
let q3 : Int → Bool := fun y => decide (0 ≤ y);
let q4 : Int → Bool
 := fun y => decide (y < (↑(List.length l) : Int));
let q5 : Int → Nat := fun y => Int.toNat y * 3;
let q6 : Int → Nat := fun y => pl (q5 y) 1;
let q7 : Int → Bool
 := fun y => decide (Int.toNat y < List.length l);
let q8 : Int → Nat := fun y => pl (q5 y) 2;
bif decide (q1 ≤ 140737488355328) then bif allN (fun i => true) (List.length
 l) then bif q2 then ∃ (s : List Slot × Int), ArgsLe [e_row 3 e_Slot l, .clo 76 [.fptr (.int .i64 tag)]] [e_row 3 e_Slot (Prod.fst s), .clo 76 [.fptr (.int .i64 (Prod.snd
 s))]] ∧ PreIs (List.length (Prod.fst s) ≤ 1000000) ∧ ∀ (y : Int), y = idxF (opnB (Prod.snd s)) (Prod.fst s) → bif decide (y < 0) then bif q2 then ResLe (.tup [e_row
 3 e_Slot l, .bool false]) r else False else bif q3 y then bif q4 y then bif Nat.beq (q6 y) (q6 y) then bif q7 y then bif q7 y then bif q3 y then bif q4 y then bif
 Nat.beq (q8 y) (q8 y) then bif q7 y then bif q7 y then bif q2 then ResLe (.tup [.row false 3 (List.length l) fun i => .agg 3 [.int .i64 (bif Nat.beq i (Int.toNat
 y) then bif Nat.beq (Int.toNat y) (Int.toNat y) then Slot.tag (ix l (Int.toNat y)) else Slot.tag (ix l (Int.toNat y)) else bif Nat.beq i (Int.toNat y) then Slot.tag
 (ix l (Int.toNat y)) else Slot.tag (ix l i)), .bool (bif Nat.beq i (Int.toNat y) then bif Nat.beq (Int.toNat y) (Int.toNat y) then true else Slot.full (ix l (Int.toNat
 y)) else bif Nat.beq i (Int.toNat y) then true else Slot.full (ix l i)), .int .u32 (bif Nat.beq i (Int.toNat y) then w else bif Nat.beq i (Int.toNat y) then Slot.val
 (ix l (Int.toNat y)) else Slot.val (ix l i))], .bool true]) r else False else False else False else False else False else False else False else False else False
 else False else False else False else False
else False) := by kernel_rfl
theorem r_rfil0 (l : List Slot) (tag w : Int) (r : XV) : (goQ Try.prog TN3 [(.tmp 6), (.tmp 7)] r (.run c_ref15_Fill) [] ⟨envX 0 [e_row 3 e_Slot l, .int .i64 tag, .int .u32 w], [], 0⟩) = (let q1 : Nat := List.length l * 16;
bif decide (q1 ≤ 140737488355328) then bif allN (fun i => true) (List.length l) then LoopAt (Ok Try.prog (Tab.q TN3)) c_ref15_Fill_l1
 (XSt.mk [(8, .int .i64 0), (0, .sl 0 [] 0 0 (List.length l) 3), (7, .bool false), (6, .row true 0 0 fun x => .unk), (1, .int .i64 tag), (2, .int .u32 w)] [(0, some
 (.tab (List.length l) 3 fun i => e_Slot (ix l i)))] 1) [Frm.blk 0, Frm.seq c_ref15_Fill_p1] (finQR [AR.tmp 6, AR.tmp 7] r) else False
else False) := by kernel_rfl 

theorem r_rfil1 (l : List Slot) (tag w : Int) (i : Nat) (r : XV) (A : XSt → Prop) : (goQ Try.prog TN3 [(.tmp 6), (.tmp 7)] r (.run c_ref15_Fill_l1) [.lp c_ref15_Fill_l1 A, .blk 0, .seq c_ref15_Fill_p1] (flSt l tag w i)) = (let q1 : Bool := decide ((↑i : Int) < (↑(List.length l) : Int));
let q2 : Nat := i * 3;
let q3 : Nat := pl q2 0;
let q4 : Bool := decide (i < List.length l);
let
 q5 : Bool := decide (Slot.tag (ix l i) = tag);
let q6 : Bool := !q5;
let q7 : Nat := pl q2 1;
let q8 : Bool := Nat.beq q7 q7;
let q9 : Nat := pl q2 2;
let q10 :
 Bool := decide (List.length l ≤ List.length l);
bif q1 then bif q1 then bif Nat.beq q3 q3 then bif q4 then bif bif q1 then true else q6 then bif bif q8 then true
 else q6 then bif bif q4 then true else q6 then bif bif q5 then q5 else true then bif bif q5 then !Slot.full (ix l i) else false then bif q1 then bif q8 then bif
 q4 then bif q4 then bif q1 then bif Nat.beq q9 q9 then bif q4 then bif q4 then bif q10 then ResLe (.tup [.row false 3 (List.length l) fun i_1 => .agg 3 [.int .i64
 (bif Nat.beq i_1 i then bif Nat.beq i i then Slot.tag (ix l i) else Slot.tag (ix l i) else bif Nat.beq i_1 i then Slot.tag (ix l i) else Slot.tag (ix l i_1)), .bool
 (bif Nat.beq i_1 i then bif Nat.beq i i then true else Slot.full (ix l i) else bif Nat.beq i_1 i then true else Slot.full (ix l i_1)), .int .u32 (bif Nat.beq i_1
 i then w else bif Nat.beq i_1 i then Slot.val (ix l i) else Slot.val (ix l i_1))], .bool true]) r else False else False else False else False else False else False
 else False else False else False else A (XSt.mk [(8, .int .i64 (IntKind.wrap .i64 ((↑i : Int) + (1 : Int)))), (2, .int .u32 w), (1, .int .i64 tag), (0, .sl 0 []
 0 0 (List.length l) 3)] [(0, some (.tab (List.length l) 3 fun i => e_Slot (ix l i)))] 1) else False else False else False else False else False else False else False
else
 bif q10 then ResLe (.tup [e_row 3 e_Slot l, .bool false]) r else False) := by kernel_rfl
theorem idxF_rng {α : Type} {p : α → Bool} {l : List α} (h : ¬ idxF p l < 0) : 0 ≤ idxF p l ∧ idxF p l < l.length ∧ (idxF p l).toNat < l.length := by
  unfold idxF at h ⊢
  split
  · rename_i ha
    have h2 := List.findIdx_lt_length.2 (List.any_eq_true.1 ha)
    omega
  · rename_i ha
    rw [if_neg ha] at h
    omega
theorem sk_ixs : SkOk Try.prog (75, ixsS) := skOf_ok fun ⟨l, tag⟩ h => by
  have hl : l.length ≤ 1000000 := h
  show Pure _ _ (cons [e_row 3 e_Slot l, .clo 76 [.fptr (.int .i64 tag)]]) (con (.int .i64 (idxF (opnB tag) l)))
  refine pureQ mix TN3ok t_slices_IndexFunc_Slot_Slot (Nat.le_of_ble_eq_true rfl) ?_
  refine Eq.mpr (r_ixs0 l tag _) ?_
  refine loopQ mix TN3ok (fun i : Nat => ⟨[(0, e_row 3 e_Slot l), (1, .clo 76 [.fptr (.int .i64 tag)]), (8, .int .i64 i), (7, .int .i64 l.length)], [], 0⟩) (fun i => i ≤ l.length ∧ ∀ j, j < i → opnB tag (ix l j) = false) (fun i => l.length - i) 0 ⟨Nat.zero_le _, fun j hj => by omega⟩ (.of (weakX ⟨rfl, rfl, rfl, rfl, trivial⟩ trivial (Nat.le_refl _))) ?_
  rintro i ⟨hi, hp⟩
  refine Eq.mpr (r_ixs1 l tag i _ _) ?_
  by_cases hlt : i < l.length
  · have h1 : (i : Int) < (l.length : Int) := by omega
    have w1 : IntKind.i64.wrap ((i : Int) + 1) = ((i + 1 : Nat) : Int) := wrap_i64 (by omega) (by omega)
    have e1 : opnB tag (ix l i) = bif decide ((ix l i).tag = tag) then !(ix l i).full else false := by
      unfold opnB; cases decide ((ix l i).tag = tag) <;> rfl
    simp only [g1, g2, g3, g4, g5, g6, g7, allN_true, cond_true, Nat.le_refl, decide_true, pl_eq, h1, w1]
    simp only [← e1]
    refine cnd2 (fun h => ?_) (fun h => ?_)
    · rw [idxF_some hlt h hp]; exact .rfl
    · refine ⟨i + 1, ⟨hlt, fun j hj => ?_⟩, .of (weakX ⟨rfl, rfl, rfl, rfl, trivial⟩ trivial (Nat.le_refl _)), by omega⟩
      by_cases hji : j = i
      · subst hji; exact h
      · exact hp j (by omega)
  · have h1 : ¬ (i : Int) < (l.length : Int) := by omega
    simp only [h1, decide_false, cond_false]
    rw [idxF_none fun j hj => hp j (by omega)]
    exact .rfl
theorem TN4ok : TabOk Try.prog TN4 := mkT2_ok ((clok_slots.app clok_slices).app clok_ref15) trivial (glok_slices.app glok_ref15) ⟨sk_ixs, trivial⟩ trivial
theorem fil_lq {l : List Slot} {k : Nat} {w : Int} (hk : k < l.length) {f : Nat → XV} (h1 : con (f k) = con (e_Slot ⟨(ix l k).tag, true, w⟩)) (h2 : ∀ i, i < l.length → ¬ i = k → con (f i) = con (e_Slot (ix l i))) : ResLe (.tup [.row false 3 l.length f, .bool true]) (.tup [e_row 3 e_Slot (l.set k ⟨(ix l k).tag, true, w⟩), .bool true]) := by
  refine ⟨lq_tup (lqs_cons (lq_erow (by simp) (.inl rfl) fun i hi => ?_) (lqs_cons (.refl _) lqs_nil))⟩
  rw [ix_set]
  by_cases he : i = k
  · rw [if_pos ⟨he, hk⟩, he, h1]; exact .refl _
  · rw [if_neg (fun h => he h.1), h2 i hi he]; exact .refl _
theorem sk_fill : SkOk Try.prog (70, filS) := skOf_ok fun ⟨l, tag, w⟩ h => by
  have hl : l.length ≤ 1000000 := h
  show Pure _ _ (cons [e_row 3 e_Slot l, .int .i64 tag, .int .u32 w]) (con (.tup [e_row 3 e_Slot (fillF l tag w).1, .bool (fillF l tag w).2]))
  refine pureR (u := 80) (k := 20) mix TN4ok ?_
  refine Eq.mpr (r_fil l tag w _) ?_
  have hb : l.length * 16 ≤ 140737488355328 := by omega
  simp only [hb, g1, g2, g3, g4, g5, g6, g7, allN_true, cond_true, Nat.le_refl, decide_true, pl_eq]
  refine ⟨(l, tag), .rfl, ⟨hl⟩, ?_⟩
  intro y hy
  replace hy : y = idxF (opnB tag) l := hy
  unfold fillF
  rw [← hy]
  by_cases hn : y < 0
  · simp only [hn, decide_true, cond_true, if_true]
    exact .rfl
  · obtain ⟨b1, b2, b3⟩ := idxF_rng (p := opnB tag) (l := l) (by rw [← hy]; exact hn)
    rw [← hy] at b1 b2 b3
    simp only [hn, b1, b2, b3, Nat.beq_refl, decide_true, decide_false, cond_true, cond_false, if_false]
    refine fil_lq b3 ?_ fun i hi he => ?_
    · simp only [Nat.beq_refl, cond_true]; rfl
    · simp only [beq_ne he, cond_false]; rfl
theorem sk_rfill : SkOk Try.prog (62, filS) := skOf_ok fun ⟨l, tag, w⟩ h => by
  have hl : l.length ≤ 1000000 := h
  show Pure _ _ (cons [e_row 3 e_Slot l, .int .i64 tag, .int .u32 w]) (con (.tup [e_row 3 e_Slot (fillF l tag w).1, .bool (fillF l tag w).2]))
  refine pureQ mix TN3ok t_ref15_Fill (Nat.le_of_ble_eq_true rfl) ?_
  refine Eq.mpr (r_rfil0 l tag w _) ?_
  have hb : l.length * 16 ≤ 140737488355328 := by omega
  simp only [hb, g1, g2, g3, g4, g5, g6, g7, allN_true, cond_true, Nat.le_refl, decide_true, pl_eq]
  refine loopQ mix TN3ok (fun i : Nat => flSt l tag w i) (fun i => i ≤ l.length ∧ ∀ j, j < i → opnB tag (ix l j) = false) (fun i => l.length - i) 0 ⟨Nat.zero_le _, fun j hj => by omega⟩ (.of (weakX ⟨rfl, rfl, rfl, rfl, trivial⟩ ⟨rfl, trivial⟩ (Nat.le_refl _))) ?_
  rintro i ⟨hi, hp⟩
  refine Eq.mpr (r_rfil1 l tag w i _ _) ?_
  by_cases hlt : i < l.length
  · have h1 : (i : Int) < (l.length : Int) := by omega
    have w1 : IntKind.i64.wrap ((i : Int) + 1) = ((i + 1 : Nat) : Int) := wrap_i64 (by omega) (by omega)
    have e1 : opnB tag (ix l i) = bif decide ((ix l i).tag = tag) then !(ix l i).full else false := by
      unfold opnB; cases decide ((ix l i).tag = tag) <;> rfl
    simp only [g1, g2, g3, g4, g5, g6, g7, allN_true, cond_true, Nat.le_refl, decide_true, pl_eq, h1, hlt, w1, Nat.beq_refl]
    simp only [← e1]
    refine cnd2 (fun h => ?_) (fun h => ?_)
    · unfold fillF
      rw [idxF_some hlt h hp, if_neg (by omega), Int.toNat_natCast]
      refine fil_lq hlt ?_ fun j hj he => ?_
      · simp only [Nat.beq_refl, cond_true]; rfl
      · simp only [beq_ne he, cond_false]; rfl
    · refine ⟨i + 1, ⟨hlt, fun j hj => ?_⟩, .of (weakX ⟨rfl, rfl, rfl, rfl, trivial⟩ ⟨rfl, trivial⟩ (Nat.le_refl _)), by omega⟩
      by_cases hji : j = i
      · subst hji; exact h
      · exact hp j (by omega)
  · have h1 : ¬ (i : Int) < (l.length : Int) := by omega
    simp only [h1, g1, g2, g3, g4, g5, g6, g7, allN_true, cond_true, Nat.le_refl, decide_true, pl_eq, decide_false, cond_false]
    unfold fillF
    rw [idxF_none fun j hj => hp j (by omega)]
    exact .rfl
end Go.Proofs.Ytbemlndjdbopeaa

/- What ends requests, plainly; banks. -/
namespace Go.Proofs.Ytbemlndjdbopeaa
open Go.Ra
set_option linter.unusedVariables false
set_option linter.unusedSimpArgs false
/-- Which bank an address has. -/
def bnkI (a n : Int) : Int := if a < 0 ∨ n < 1 then 0 else a / 4 % n
def bnkSp : List XV → Option (List Bool × XV)
  | [.int .i64 a, .int .i64 n] => some ([decide (a ≤ 9223372036854775807)], .int .i64 (bnkI a n))
  | _ => none
def loadF (m : List Int) (op a : Int) : Int := loadI m.length (fun i => e_u8 (ix m i)) op a
/-- What a load has. -/
def ldF (x : Stt) (r : Req) : Int := if 0 ≤ r.addr ∧ r.addr ≤ 4294967295 then loadF x.mem r.op r.addr else 0
/-- A request is done. -/
def doneF (x : Stt) (r : Req) : Stt :=
  if r.store then { x with mem := stoF x.mem ⟨r.addr, r.size, r.val⟩, writes := x.writes ++ [⟨r.addr, r.size, r.val⟩], saq := x.saq.tail }
  else if r.reg < 0 then { x with ldq := (fillF x.ldq r.tag (ldF x r)).1 }
  else if 1 ≤ r.reg ∧ r.reg ≤ 15 then { x with a := { x.a with regs := fun i => bif Nat.beq i r.reg.toNat then ldF x r else x.a.regs i, ready := fun i => bif Nat.beq i r.reg.toNat then IntKind.i64.wrap (x.cycle + 1) else x.a.ready i } }
  else x
/-- A cycle of a request. -/
def endS (p : Stt × List Req) (r : Req) : Stt × List Req :=
  if r.left > 0 then (if r.left = 1 then (doneF p.1 r, p.2) else (p.1, p.2 ++ [{ r with left := r.left - 1 }])) else (p.1, p.2 ++ [r])
def endL (l : List Req) (p : Stt × List Req) : Stt × List Req := l.foldl endS p
def endF (x : Stt) : Stt := { (endL x.table (x, [])).1 with table := (endL x.table (x, [])).2 }
def TE0 : Tab := mkT2 qq (cl_banks ++ cl_ref15) [] [] [] []
def zSd : XV := .agg 38 [.tab 16 1 (fun _ => .int .u32 0), .tab 16 1 (fun _ => .int .i64 0), .agg 3 [.int .i64 0, .int .i64 0, .int .i64 0], .int .i64 0, .bool false, .int .i64 0]
def zNil : XV := .row true 0 0 (fun _ => .unk)
def zX : XV := .agg 92 [.int .i64 0, zSd, zSd, zNil, zNil, zNil, zNil, zNil, zNil, zNil, zNil, zNil, .agg 3 [.int .i64 0, .int .i64 0, .int .i64 0], .int .i64 0, .int .i64 0, .int .i64 0]
def e_tb {α : Type} [Inhabited α] (es : Nat) (en : α → XV) (l : List α) : XV := .tab l.length es (fun i => en (ix l i))
/-- A state whose rows are own memory. -/
def bxO (x : Stt) : XV := .agg 92 [.int .i64 x.cycle, e_Side x.a, e_Side x.e, .sl 4 [] 0 0 x.ldq.length 3, .sl 7 [] 0 0 x.sdq.length 1, .sl 8 [] 0 0 x.aeq.length 1, .sl 9 [] 0 0 x.abq.length 1, .sl 10 [] 0 0 x.ebq.length 1, .sl 5 [] 0 0 x.saq.length 5, .sl 6 [] 0 0 x.table.length 8, .sl 11 [] 0 0 x.mem.length 1, .sl 12 [] 0 0 x.writes.length 3, e_Trp x.trap, .int .i64 x.lats, .int .i64 x.picks, .int .i64 x.tags]
def layO (c : Cfg) (s : Script) (x : Stt) : List (Nat × Option XV) := [(14, some (e_Script s)), (13, some (e_Cfg c)), (12, some (e_tb 3 e_Wr x.writes)), (11, some (e_tb 1 e_u8 x.mem)), (10, some (e_tb 1 e_bool x.ebq)), (9, some (e_tb 1 e_bool x.abq)), (8, some (e_tb 1 e_u32 x.aeq)), (7, some (e_tb 1 e_u32 x.sdq)), (6, some (e_tb 8 e_Req x.table)), (5, some (e_tb 5 e_Entry x.saq)), (4, some (e_tb 3 e_Slot x.ldq)), (3, some zX), (2, some (bxO x))]
/-- A state of which memory and writes are own memory. -/
def bxE (x : Stt) : XV := .agg 92 [.int .i64 x.cycle, e_Side x.a, e_Side x.e, e_row 3 e_Slot x.ldq, e_row 1 e_u32 x.sdq, e_row 1 e_u32 x.aeq, e_row 1 e_bool x.abq, e_row 1 e_bool x.ebq, e_row 5 e_Entry x.saq, e_row 8 e_Req x.table, .sl 11 [] 0 0 x.mem.length 1, .sl 16 [] 0 0 x.writes.length 3, e_Trp x.trap, .int .i64 x.lats, .int .i64 x.picks, .int .i64 x.tags]
def enSt (c : Cfg) (s : Script) (l : List Req) (x : Stt) (left : List Req) (i : Nat) : XSt := ⟨[(10, .int .i64 i), (9, .int .i64 l.length), (8, e_row 8 e_Req l), (2, .sl 15 [] 0 0 left.length 8), (0, .ptr 2 [] 0)], [(16, some (e_tb 3 e_Wr x.writes)), (15, some (e_tb 8 e_Req left)), (14, some (e_Script s)), (13, some (e_Cfg c)), (11, some (e_tb 1 e_u8 x.mem)), (3, some zX), (2, some (bxE x))], 17⟩
def TE1 : Tab := mkT2 qq (cl_banks ++ cl_ref15) [(69, loadSp)] [] [(70, filS)] [(68, wrG)]
theorem TE0ok : TabOk Try.prog TE0 := mkT2_ok (clok_banks.app clok_ref15) trivial trivial trivial trivial
theorem r_bnk1 (a n : Int) (K : XV → Prop) : (quietGo TE0 80 (callI TE0 80 20) 22 [.int .i64 a, .int .i64 n] K) = (let q1 : Bool := decide (a < 0);
bif bif q1 then true else !q1 then bif bif q1 then true else decide (n < 1) then K (.int .i64 0) else bif !decide (n = 0) then
 K (.int .i64 (Int.tmod (IntKind.wrap .i64 (Int.tdiv a (4 : Int))) n)) else False
else False) := by kernel_rfl
theorem r_bnk2 (a n : Int) (K : XV → Prop) : (quietGo TE0 80 (callI TE0 80 20) 23 [.int .i64 a, .int .i64 n] K) = (let q1 : Bool := decide (a < 0);
bif bif q1 then true else !q1 then bif bif q1 then true else decide (n < 1) then K (.int .i64 0) else bif !decide (n = 0) then
 K (.int .i64 (Int.tmod (IntKind.wrap .i64 (Int.tdiv a (4 : Int))) n)) else False
else False) := by kernel_rfl
theorem r_end0 (c : Cfg) (s : Script) (x : Stt) (v : XV) (τ : XSt) : (goG Try.prog TE1 [] 15 v τ (.run c_banks_end) [] ⟨envX 0 [.ptr 2 [] 0], layO c s x, 15⟩) = (let q1 : XV := .sl 6 [] 0 0 (List.length (Stt.table x)) 8;
let q2 : XV := .row true 0 0 fun x => .unk;
let q3 : List XV := [.int .i64 0, .int .i64 0, .int .i64
 0];
let q4 : XV := .agg 3 q3;
let q5 : XV := .agg 38 [.tab 16 1 fun x => .int .u32 0, .tab 16 1 fun x => .int .i64 0, q4, .int .i64 0, .bool false, .int .i64 0];
LoopAt
 (Ok Try.prog (Tab.q TE1)) c_banks_end_l1 (XSt.mk [(10, .int .i64 0), (9, .int .i64 (↑(List.length (Stt.table x)) : Int)), (8, q1), (2, q2), (0, .ptr 2 [] 0)] [(14,
 some (e_Script s)), (13, some (e_Cfg c)), (12, some (e_tb 3 e_Wr (Stt.writes x))), (11, some (e_tb 1 e_u8 (Stt.mem x))), (10, some (e_tb 1 e_bool (Stt.ebq x))),
 (9, some (e_tb 1 e_bool (Stt.abq x))), (8, some (e_tb 1 e_u32 (Stt.aeq x))), (7, some (e_tb 1 e_u32 (Stt.sdq x))), (6, some (e_tb 8 e_Req (Stt.table x))), (5, some
 (e_tb 5 e_Entry (Stt.saq x))), (4, some (e_tb 3 e_Slot (Stt.ldq x))), (3, some (.agg 92 (.int .i64 0 :: q5 :: q5 :: q2 :: q2 :: q2 :: q2 :: q2 :: q2 :: q2 :: q2
 :: q2 :: q4 :: q3))), (2, some (.agg 92 [.int .i64 (Stt.cycle x), e_Side (Stt.a x), e_Side (Stt.e x), .sl 4 [] 0 0 (List.length (Stt.ldq x)) 3, .sl 7 [] 0 0 (List.length
 (Stt.sdq x)) 1, .sl 8 [] 0 0 (List.length (Stt.aeq x)) 1, .sl 9 [] 0 0 (List.length (Stt.abq x)) 1, .sl 10 [] 0 0 (List.length (Stt.ebq x)) 1, .sl 5 [] 0 0 (List.length
 (Stt.saq x)) 5, q1, .sl 11 [] 0 0 (List.length (Stt.mem x)) 1, .sl 12 [] 0 0 (List.length (Stt.writes x)) 3, e_Trp (Stt.trap x), .int .i64 (Stt.lats x), .int .i64
 (Stt.picks x), .int .i64 (Stt.tags x)]))] 15) [Frm.blk 0, Frm.seq c_banks_end_p1] (finGR [] 15 v τ)) := by kernel_rfl
theorem r_end1 (c : Cfg) (s : Script) (l : List Req) (x : Stt) (left : List Req) (i : Nat) (v : XV) (τ : XSt) (A : XSt → Prop) : (goG Try.prog TE1 [] 15 v τ (.run c_banks_end_l1) [.lp c_banks_end_l1 A, .blk 0, .seq c_banks_end_p1] (enSt c s l x left i)) = (let q1 : Bool := decide ((↑i : Int) < (↑(List.length l) : Int));
let q2 : Int := IntKind.wrap .i64 (Req.left (ix l i) - (1 : Int));
let q3 : XV := .sl 11 []
 0 0 (List.length (Stt.mem x)) 1;
let q4 : XV := .agg 3 [.int .i64 (Req.addr (ix l i)), .int .i64 (Req.size (ix l i)), .int .u32 (Req.val (ix l i))];
let q5 : XV
 := .ptr 2 [] 0;
let q6 : XV := .agg 8 [.bool (Req.store (ix l i)), .int .i64 (Req.op (ix l i)), .int .i64 (Req.addr (ix l i)), .int .i64 (Req.size (ix l i)), .int
 .u32 (Req.val (ix l i)), .int .i64 q2, .int .i64 (Req.reg (ix l i)), .int .i64 (Req.tag (ix l i))];
let q7 : List XV := [.int .i64 0, .int .i64 0, .int .i64 0];
let
 q8 : XV := .agg 3 q7;
let q9 : XV := .agg 38 [.tab 16 1 fun x => .int .u32 0, .tab 16 1 fun x => .int .i64 0, q8, .int .i64 0, .bool false, .int .i64 0];
let q10
 : XV := .row true 0 0 fun x => .unk;
let q11 : XV := .agg 92 (.int .i64 0 :: q9 :: q9 :: q10 :: q10 :: q10 :: q10 :: q10 :: q10 :: q10 :: q10 :: q10 :: q8 :: q7);
let
 q12 : List XV := [e_Trp (Stt.trap x), .int .i64 (Stt.lats x), .int .i64 (Stt.picks x), .int .i64 (Stt.tags x)];
let q13 : List XV := q3 :: .sl 16 [] 0 0 (List.length
 (Stt.writes x)) 3 :: q12;
let q14 : List XV := e_row 1 e_u32 (Stt.sdq x) :: e_row 1 e_u32 (Stt.aeq x) :: e_row 1 e_bool (Stt.abq x) :: e_row 1 e_bool (Stt.ebq x)
 :: e_row 5 e_Entry (Stt.saq x) :: e_row 8 e_Req (Stt.table x) :: q13;
let q15 : List XV := e_Side (Stt.e x) :: e_row 3 e_Slot (Stt.ldq x) :: q14;
let q16 : List
 (Nat × Option XV) := [(14, some (e_Script s)), (13, some (e_Cfg c)), (11, some (e_tb 1 e_u8 (Stt.mem x))), (3, some q11), (2, some (.agg 92 (.int .i64 (Stt.cycle
 x) :: e_Side (Stt.a x) :: q15)))];
let q17 : List (Nat × Option XV) := (18, some q6) :: (17, some q6) :: (16, some (e_tb 3 e_Wr (Stt.writes x))) :: (15, some (e_tb
 8 e_Req left)) :: q16;
let q18 : XV := .int .i64 (IntKind.wrap .i64 ((↑i : Int) + (1 : Int)));
let q19 : XV := .sl 15 [] 0 0 (List.length left) 8;
let q20 : List
 (Nat × XV) := [(0, q5)];
let q21 : List (Nat × XV) := (9, .int .i64 (↑(List.length l) : Int)) :: (8, e_row 8 e_Req l) :: (2, q19) :: q20;
let q22 : List (Nat × XV)
 := (10, q18) :: q21;
let q23 : Nat → Bool := fun i => decide (i < List.length (Stt.writes x));
let q24 : XV := .tab (pl (List.length (Stt.writes x)) 1) 3 fun i_1
 => .agg 3 [.int .i64 (bif q23 i_1 then Wr.addr (ix (Stt.writes x) i_1) else Req.addr (ix l i)), .int .i64 (bif q23 i_1 then Wr.size (ix (Stt.writes x) i_1) else
 Req.size (ix l i)), .int .u32 (bif q23 i_1 then Wr.val (ix (Stt.writes x) i_1) else Req.val (ix l i))];
let q25 : List XV := e_row 8 e_Req (Stt.table x) :: q3 ::
 .sl 21 [] 0 0 (pl (List.length (Stt.writes x)) 1) 3 :: q12;
let q26 : Bool := decide (Req.addr (ix l i) ≥ 0);
let q27 : Int := IntKind.wrap .u32 (Req.addr (ix l
 (Int.toNat (↑i : Int))));
let q28 : Bool := decide (Req.reg (ix l i) < 0);
let q29 : Int := loadI (List.length (Stt.mem x)) (fun i => e_u8 (ix (Stt.mem x) i)) (Req.op
 (ix l i)) (IntKind.wrap .u32 (Req.addr (ix l i)));
let q30 : List Slot × Int × Int → List XV := fun (s : List Slot × Int × Int) => [e_row 3 e_Slot (Prod.fst s),
 .int .i64 (Prod.fst (Prod.snd s)), .int .u32 (Prod.snd (Prod.snd s))];
let q31 : List Slot × Bool → XSt := fun (y : List Slot × Bool) => XSt.mk q22 [(18, some q6),
 (17, some q6), (16, some (e_tb 3 e_Wr (Stt.writes x))), (15, some (e_tb 8 e_Req left)), (14, some (e_Script s)), (13, some (e_Cfg c)), (11, some (e_tb 1 e_u8 (Stt.mem
 x))), (3, some q11), (2, some (.agg 92 (.int .i64 (Stt.cycle x) :: e_Side (Stt.a x) :: e_Side (Stt.e x) :: e_row 3 e_Slot (Prod.fst y) :: q14)))] 19;
let q32 : Bool
 := decide (Req.reg (ix l i) ≥ 1);
let q33 : Bool := bif q32 then q32 else true;
let q34 : Bool := bif q32 then decide (Req.reg (ix l i) ≤ 15) else false;
let q35
 : Bool := decide (0 ≤ Req.reg (ix l i));
let q36 : Bool := decide (Req.reg (ix l i) < 16);
let q37 : Nat := Int.toNat (Req.reg (ix l i)) * 1;
let q38 : Nat := pl
 1 q37;
let q39 : Bool := Nat.beq q38 q38;
let q40 : Bool := decide (Int.toNat (Req.reg (ix l i)) < 16);
let q41 : Nat := pl 17 q37;
let q42 : Bool := Nat.beq q41
 q41;
let q43 : List XV := [.tab 16 1 fun j => .int .i64 (bif Nat.beq j (Int.toNat (Req.reg (ix l i))) then IntKind.wrap .i64 (Stt.cycle x + (1 : Int)) else Side.ready
 (Stt.a x) j), e_Pos (Side.pos (Stt.a x)), .int .i64 (Side.wait (Stt.a x)), .bool (Side.halted (Stt.a x)), .int .i64 (Side.done (Stt.a x))];
let q44 : XSt := XSt.mk
 q22 q17 19;
let q45 : Bool := decide (List.length left ≤ List.length left);
let q46 : Bool := decide (pl (List.length left) 1 * 64 ≤ 140737488355328);
let q47 :
 List (Nat × XV) := (10, q18) :: (2, .sl 18 [] 0 0 (pl (List.length left) 1) 8) :: (9, .int .i64 (↑(List.length l) : Int)) :: (8, e_row 8 e_Req l) :: q20;
let q48
 : Nat → Bool := fun i => decide (i < List.length left);
let q49 : Nat → XV := fun i_1 => .bool (bif q48 i_1 then Req.store (ix left i_1) else Req.store (ix l i));
let
 q50 : Nat → XV := fun i_1 => .int .i64 (bif q48 i_1 then Req.op (ix left i_1) else Req.op (ix l i));
let q51 : Nat → XV := fun i_1 => .int .i64 (bif q48 i_1 then
 Req.addr (ix left i_1) else Req.addr (ix l i));
let q52 : Nat → XV := fun i_1 => .int .i64 (bif q48 i_1 then Req.size (ix left i_1) else Req.size (ix l i));
let
 q53 : Nat → XV := fun i_1 => .int .u32 (bif q48 i_1 then Req.val (ix left i_1) else Req.val (ix l i));
let q54 : Nat → List XV := fun i_1 => [.int .i64 (bif q48
 i_1 then Req.reg (ix left i_1) else Req.reg (ix l i)), .int .i64 (bif q48 i_1 then Req.tag (ix left i_1) else Req.tag (ix l i))];
let q55 : List (Nat × Option XV)
 := (16, some (e_tb 3 e_Wr (Stt.writes x))) :: (15, none) :: q16;
bif q1 then bif q1 then bif decide (Req.left (ix l i) > 0) then bif decide (q2 = 0) then bif Req.store
 (ix l i) then ∃ (s_1 : List Int × Wr), ArgsLe [q3, q4] [.sl 11 [] 0 0 (List.length (Prod.fst s_1)) 1, e_Wr (Prod.snd s_1)] ∧ MemIs (XSt.mk [(16, q4), (15, q3), (14,
 .ptr 2 [10] 84), (13, q5), (12, q5), (4, .ptr 19 [] 0), (11, q4), (10, .int .u32 (Req.val (ix l i))), (9, .ptr 18 [4] 4), (8, .int .i64 (Req.size (ix l i))), (7,
 .ptr 18 [3] 3), (6, .int .i64 (Req.addr (ix l i))), (5, .ptr 18 [2] 2), (3, .ptr 18 [] 0), (0, q5), (1, q6)] ((19, some q4) :: q17) 20) (XSt.mk [] [(11, some (e_mem
 (Prod.fst s_1)))] 20) ∧ PreIs (List.length (Prod.fst s_1) ≤ 1000000) ∧ ∀ (y : List Int), y = stoF (Prod.fst s_1) (Prod.snd s_1) → bif decide (List.length (Stt.writes
 x) ≤ List.length (Stt.writes x)) then bif decide (pl (List.length (Stt.writes x)) 1 * 24 ≤ 140737488355328) then bif decide ((↑(List.length (Stt.saq x)) : Int) >
 0) then bif decide (1 ≤ (↑(List.length (Stt.saq x)) : Int)) then A (XSt.mk q22 [(21, some q24), (20, none), (11, some (e_mem y)), (19, some q4), (18, some q6), (17,
 some q6), (16, none), (15, some (e_tb 8 e_Req left)), (14, some (e_Script s)), (13, some (e_Cfg c)), (11, some (e_tb 1 e_u8 (Stt.mem x))), (3, some q11), (2, some
 (.agg 92 (.int .i64 (Stt.cycle x) :: e_Side (Stt.a x) :: e_Side (Stt.e x) :: e_row 3 e_Slot (Stt.ldq x) :: e_row 1 e_u32 (Stt.sdq x) :: e_row 1 e_u32 (Stt.aeq x)
 :: e_row 1 e_bool (Stt.abq x) :: e_row 1 e_bool (Stt.ebq x) :: (.row false 5 (List.length (Stt.saq x) - 1) fun i => e_Entry (ix (Stt.saq x) (pl 1 i))) :: q25)))]
 22) else False else A (XSt.mk q22 [(21, some q24), (20, none), (11, some (e_mem y)), (19, some q4), (18, some q6), (17, some q6), (16, none), (15, some (e_tb 8 e_Req
 left)), (14, some (e_Script s)), (13, some (e_Cfg c)), (11, some (e_tb 1 e_u8 (Stt.mem x))), (3, some q11), (2, some (.agg 92 (.int .i64 (Stt.cycle x) :: e_Side
 (Stt.a x) :: e_Side (Stt.e x) :: e_row 3 e_Slot (Stt.ldq x) :: e_row 1 e_u32 (Stt.sdq x) :: e_row 1 e_u32 (Stt.aeq x) :: e_row 1 e_bool (Stt.abq x) :: e_row 1 e_bool
 (Stt.ebq x) :: e_row 5 e_Entry (Stt.saq x) :: q25)))] 22) else False else False else bif bif q26 then q26 else true then bif bif q26 then decide (Req.addr (ix l
 i) ≤ 4294967295) else false then bif decide (List.length (Stt.mem x) ≤ List.length (Stt.mem x)) then bif decide (List.length (Stt.mem x) ≤ 1099511627776) then bif
 allN (fun i => true) (List.length (Stt.mem x)) then bif rngB (List.length (Stt.mem x)) fun i => e_u8 (ix (Stt.mem x) i) then bif decide (0 ≤ IntKind.wrap .u32 (Req.addr
 (ix l i))) then bif decide (IntKind.wrap .u32 (Req.addr (ix l i)) ≤ 4294967295) then bif q28 then ∃ (s : List Slot × Int × Int), ArgsLe [e_row 3 e_Slot (Stt.ldq
 x), .int .i64 (Req.tag (ix l i)), .int .u32 q29] (q30 s) ∧ PreIs (List.length (Prod.fst s) ≤ 1000000) ∧ ∀ (y : List Slot × Bool), y = fillF (Prod.fst s) (Prod.fst
 (Prod.snd s)) (Prod.snd (Prod.snd s)) → A (q31 y) else bif q33 then bif q34 then bif q35 then bif q36 then bif q39 then bif q40 then bif q40 then bif q35 then bif
 q36 then bif q42 then bif q40 then bif q40 then A (XSt.mk q22 [(18, some q6), (17, some q6), (16, some (e_tb 3 e_Wr (Stt.writes x))), (15, some (e_tb 8 e_Req left)),
 (14, some (e_Script s)), (13, some (e_Cfg c)), (11, some (e_tb 1 e_u8 (Stt.mem x))), (3, some q11), (2, some (.agg 92 (.int .i64 (Stt.cycle x) :: .agg 38 ((.tab
 16 1 fun j => .int .u32 (bif Nat.beq j (Int.toNat (Req.reg (ix l i))) then q29 else Side.regs (Stt.a x) j)) :: q43) :: q15)))] 19) else False else False else False
 else False else False else False else False else False else False else False else A q44 else False else False else False else False else False else False else False
 else bif q28 then ∃ (s : List Slot × Int × Int), ArgsLe [e_row 3 e_Slot (Stt.ldq x), .int .i64 (Req.tag (ix l i)), .int .u32 0] (q30 s) ∧ PreIs (List.length (Prod.fst
 s) ≤ 1000000) ∧ ∀ (y : List Slot × Bool), y = fillF (Prod.fst s) (Prod.fst (Prod.snd s)) (Prod.snd (Prod.snd s)) → A (q31 y) else bif q33 then bif q34 then bif q35
 then bif q36 then bif q39 then bif q40 then bif q40 then bif q35 then bif q36 then bif q42 then bif q40 then bif q40 then A (XSt.mk q22 [(18, some q6), (17, some
 q6), (16, some (e_tb 3 e_Wr (Stt.writes x))), (15, some (e_tb 8 e_Req left)), (14, some (e_Script s)), (13, some (e_Cfg c)), (11, some (e_tb 1 e_u8 (Stt.mem x))),
 (3, some q11), (2, some (.agg 92 (.int .i64 (Stt.cycle x) :: .agg 38 ((.tab 16 1 fun j => .int .u32 (bif Nat.beq j (Int.toNat (Req.reg (ix l i))) then (0 : Int)
 else Side.regs (Stt.a x) j)) :: q43) :: q15)))] 19) else False else False else False else False else False else False else False else False else False else False
 else A q44 else False else False else bif q45 then bif q46 then A (XSt.mk q47 ((18, some (.tab (pl (List.length left) 1) 8 fun i => .agg 8 (q49 i :: q50 i :: q51
 i :: q52 i :: q53 i :: .int .i64 (bif q48 i then Req.left (ix left i) else q2) :: q54 i))) :: (17, some q6) :: q55) 19) else False else False else bif q45 then bif
 q46 then A (XSt.mk q47 ((18, some (.tab (pl (List.length left) 1) 8 fun i_1 => .agg 8 (q49 i_1 :: q50 i_1 :: q51 i_1 :: q52 i_1 :: q53 i_1 :: .int .i64 (bif q48
 i_1 then Req.left (ix left i_1) else Req.left (ix l i)) :: q54 i_1))) :: (17, some (e_Req (ix l i))) :: q55) 19) else False else False else False
else EndAt 15 (.tup
 []) (XSt.mk ((40, .ptr 2 [9] 83) :: (39, q5) :: (38, q19) :: (37, q5) :: (11, .bool q1) :: (10, .int .i64 (↑i : Int)) :: q21) [(16, some (e_tb 3 e_Wr (Stt.writes
 x))), (15, some (e_tb 8 e_Req left)), (14, some (e_Script s)), (13, some (e_Cfg c)), (11, some (e_tb 1 e_u8 (Stt.mem x))), (3, some q11), (2, some (.agg 92 (.int
 .i64 (Stt.cycle x) :: e_Side (Stt.a x) :: e_Side (Stt.e x) :: e_row 3 e_Slot (Stt.ldq x) :: e_row 1 e_u32 (Stt.sdq x) :: e_row 1 e_u32 (Stt.aeq x) :: e_row 1 e_bool
 (Stt.abq x) :: e_row 1 e_bool (Stt.ebq x) :: e_row 5 e_Entry (Stt.saq x) :: q19 :: q13)))] 17) v τ) := by kernel_rfl
end Go.Proofs.Ytbemlndjdbopeaa

/- What a request that is done leaves, plainly. -/
namespace Go.Proofs.Ytbemlndjdbopeaa
open Go.Ra
set_option linter.unusedVariables false
set_option linter.unusedSimpArgs false
theorem done_st {x : Stt} {r : Req} (h : r.store = true) : doneF x r = { x with mem := stoF x.mem ⟨r.addr, r.size, r.val⟩, writes := x.writes ++ [⟨r.addr, r.size, r.val⟩], saq := x.saq.tail } := by
  unfold doneF; rw [if_pos h]
theorem done_ldq {x : Stt} {r : Req} (h : r.store = false) (h2 : r.reg < 0) : doneF x r = { x with ldq := (fillF x.ldq r.tag (ldF x r)).1 } := by
  unfold doneF; rw [if_neg (by rw [h]; simp), if_pos h2]
theorem done_reg {x : Stt} {r : Req} (h : r.store = false) (h2 : 1 ≤ r.reg ∧ r.reg ≤ 15) : doneF x r = { x with a := { x.a with regs := fun i => bif Nat.beq i r.reg.toNat then ldF x r else x.a.regs i, ready := fun i => bif Nat.beq i r.reg.toNat then IntKind.i64.wrap (x.cycle + 1) else x.a.ready i } } := by
  unfold doneF; rw [if_neg (by rw [h]; simp), if_neg (by omega), if_pos h2]
theorem done_no {x : Stt} {r : Req} (h : r.store = false) (h1 : ¬ r.reg < 0) (h2 : ¬ (1 ≤ r.reg ∧ r.reg ≤ 15)) : doneF x r = x := by
  unfold doneF; rw [if_neg (by rw [h]; simp), if_neg h1, if_neg h2]
theorem sto_len {m : List Int} {w : Wr} : (stoF m w).length = m.length := tabL_len
theorem fill_len {l : List Slot} {t w : Int} : (fillF l t w).1.length = l.length := by
  unfold fillF; split <;> simp
theorem sto_u8 {m : List Int} {w : Wr} (h : ∀ x ∈ m, u8R x) : ∀ x ∈ stoF m w, u8R x := fun x hx => by
  obtain ⟨j, hj, rfl⟩ := List.mem_iff_getElem.1 hx
  rw [← ix_lt hj]
  rw [sto_len] at hj
  unfold stoF
  rw [ix_tabL hj]
  show u8R (bif _ then _ else _)
  cases (okW m.length w.addr w.size && (decide (w.addr.toNat ≤ j) && decide (j < w.addr.toNat + w.size.toNat))) with
  | true => rw [cond_true]; unfold u8R; omega
  | false => rw [cond_false]; exact h _ (ix_mem hj)
theorem ext_u32 {op w : Int} (h : 0 ≤ w ∧ w ≤ 4294967295) : u32R (extI op w) := by
  unfold extI u32R
  repeat' split
  all_goals omega
theorem load_u32 {m : List Int} {op a : Int} (hm : ∀ x ∈ m, u8R x) (hl : m.length ≤ 1000000) (ha : 0 ≤ a) (ha2 : a ≤ 4294967295) : u32R (loadF m op a) := by
  unfold loadF loadI
  split
  · rename_i h
    refine ext_u32 ?_
    have hs := sz_load h.1 h.2.1
    obtain ⟨h1, _⟩ := chk_in hs ha ha2 (by omega) h.2.2
    have hb := wrd_bd (n := m.length) (f := fun i => e_u8 (ix m i)) (fun i hi => hm _ (ix_mem hi)) a.toNat (szI op).toNat (by omega)
    have : (2 : Int) ^ (8 * (szI op).toNat) ≤ 4294967296 := by
      rcases hs with e | e | e <;> rw [e] <;> decide
    omega
  · unfold u32R; omega
theorem ld_u32 {x : Stt} {r : Req} (hm : ∀ y ∈ x.mem, u8R y) (hl : x.mem.length ≤ 1000000) : u32R (ldF x r) := by
  unfold ldF
  split
  · rename_i h; exact load_u32 hm hl h.1 h.2
  · unfold u32R; omega
theorem w64_rng (x : Int) : i64R (IntKind.i64.wrap x) := by
  rw [IntKind.wrap_i64]
  unfold i64R
  omega
theorem done_wf {x : Stt} {r : Req} (hx : x.wf) (hr : r.wf) (hm : x.mem.length ≤ 1000000) (hb : x.writes.length ≤ 1000000) : (doneF x r).wf := by
  obtain ⟨a1, a2, a3, a4, a5, a6, a7, a8, a9, a10, a11, a12, a13⟩ := hx
  have hld := ld_u32 (r := r) a11.1 hm
  by_cases hs : r.store = true
  · rw [done_st hs]
    refine ⟨a1, a2, a3, a4, a5, a6, a7, a8, ⟨fun y hy => a9.1 y (List.mem_of_mem_tail hy), ?_⟩, a10, ⟨sto_u8 a11.1, ?_⟩, ⟨fun y hy => ?_, ?_⟩, a13⟩
    · have := a9.2
      show x.saq.tail.length * 32 ≤ _
      rw [List.length_tail]; omega
    · show (stoF _ _).length * 1 ≤ _
      rw [sto_len]; exact a11.2
    · rcases List.mem_append.1 hy with hy | hy
      · exact a12.1 y hy
      · obtain rfl := List.mem_singleton.1 hy
        exact ⟨hr.2.1, hr.2.2.1, hr.2.2.2.1⟩
    · show (x.writes ++ [_]).length * 24 ≤ _
      rw [app_len]; omega
  · have hs : r.store = false := by simpa using hs
    by_cases h1 : r.reg < 0
    · rw [done_ldq hs h1]
      refine ⟨a1, a2, a3, ⟨?_, ?_⟩, a5, a6, a7, a8, a9, a10, a11, a12, a13⟩
      · show ∀ y ∈ (fillF x.ldq r.tag (ldF x r)).1, y.wf
        unfold fillF
        split
        · exact a4.1
        · rename_i hn
          obtain ⟨_, _, b3⟩ := idxF_rng hn
          intro y hy
          rcases List.mem_or_eq_of_mem_set hy with hy | rfl
          · exact a4.1 y hy
          · exact ⟨(a4.1 _ (ix_mem b3)).1, hld⟩
      · show (fillF x.ldq r.tag (ldF x r)).1.length * 16 ≤ _
        rw [fill_len]; exact a4.2
    · by_cases h2 : 1 ≤ r.reg ∧ r.reg ≤ 15
      · rw [done_reg hs h2]
        refine ⟨a1, ⟨fun i hi => ?_, fun i hi => ?_, a2.2.2⟩, a3, a4, a5, a6, a7, a8, a9, a10, a11, a12, a13⟩
        · show u32R (bif Nat.beq i r.reg.toNat then ldF x r else x.a.regs i)
          cases Nat.beq i r.reg.toNat with
          | true => exact hld
          | false => exact a2.1 i hi
        · show i64R (bif Nat.beq i r.reg.toNat then IntKind.i64.wrap (x.cycle + 1) else x.a.ready i)
          cases Nat.beq i r.reg.toNat with
          | true => exact w64_rng _
          | false => exact a2.2.1 i hi
      · rw [done_no hs h1 h2]
        exact ⟨a1, a2, a3, a4, a5, a6, a7, a8, a9, a10, a11, a12, a13⟩
/-- What stays as it is while requests end. -/
def EInv (x0 : Stt) (i : Nat) (p : Stt × List Req) : Prop := p.1.wf ∧ p.1.ldq.length = x0.ldq.length ∧ p.1.sdq = x0.sdq ∧ p.1.aeq = x0.aeq ∧ p.1.abq = x0.abq ∧ p.1.ebq = x0.ebq ∧ p.1.saq.length ≤ x0.saq.length ∧ p.1.table = x0.table ∧ p.1.mem.length = x0.mem.length ∧ p.1.writes.length + p.2.length ≤ x0.writes.length + i ∧ p.1.lats = x0.lats ∧ p.1.picks = x0.picks ∧ ∀ r ∈ p.2, r.wf
theorem endS_inv {x0 : Stt} {i : Nat} {p : Stt × List Req} {r : Req} (h : EInv x0 i p) (hr : r.wf) (hm : x0.mem.length ≤ 1000000) (hb : x0.writes.length + i ≤ 1000000) : EInv x0 (i + 1) (endS p r) := by
  obtain ⟨a1, a2, a3, a4, a5, a6, a7, a8, a9, a10, a11, a12, a13⟩ := h
  have keep : ∀ q : Req, q.wf → EInv x0 (i + 1) (p.1, p.2 ++ [q]) := fun q hq => ⟨a1, a2, a3, a4, a5, a6, a7, a8, a9, by show p.1.writes.length + (p.2 ++ [q]).length ≤ _; rw [app_len]; omega, a11, a12, fun y hy => by
    rcases List.mem_append.1 hy with hy | hy
    · exact a13 y hy
    · obtain rfl := List.mem_singleton.1 hy; exact hq⟩
  unfold endS
  split
  · split
    · have hw := done_wf a1 hr (by omega) (by omega)
      by_cases hs : r.store = true
      · rw [done_st hs] at hw ⊢
        exact ⟨hw, a2, a3, a4, a5, a6, by show x0.saq.length ≥ p.1.saq.tail.length; rw [List.length_tail]; omega, a8, by show (stoF _ _).length = _; rw [sto_len]; exact a9, by show (p.1.writes ++ [_]).length + p.2.length ≤ _; rw [app_len]; omega, a11, a12, a13⟩
      · have hs : r.store = false := by simpa using hs
        by_cases h1 : r.reg < 0
        · rw [done_ldq hs h1] at hw ⊢
          exact ⟨hw, by show (fillF _ _ _).1.length = _; rw [fill_len]; exact a2, a3, a4, a5, a6, a7, a8, a9, by show p.1.writes.length + p.2.length ≤ _; omega, a11, a12, a13⟩
        · by_cases h2 : 1 ≤ r.reg ∧ r.reg ≤ 15
          · rw [done_reg hs h2] at hw ⊢
            exact ⟨hw, a2, a3, a4, a5, a6, a7, a8, a9, by show p.1.writes.length + p.2.length ≤ _; omega, a11, a12, a13⟩
          · rw [done_no hs h1 h2]
            exact ⟨a1, a2, a3, a4, a5, a6, a7, a8, a9, by show p.1.writes.length + p.2.length ≤ _; omega, a11, a12, a13⟩
    · rename_i hp _
      exact keep _ ⟨hr.1, hr.2.1, hr.2.2.1, hr.2.2.2.1, (by
        have := hr.2.2.2.2.1
        show i64R (r.left - 1)
        unfold i64R at this ⊢
        omega), hr.2.2.2.2.2.1, hr.2.2.2.2.2.2⟩
  · exact keep _ hr
theorem endL_step {l : List Req} {p : Stt × List Req} {i : Nat} (h : i < l.length) : endL (l.take (i + 1)) p = endS (endL (l.take i) p) (ix l i) := by
  unfold endL
  rw [List.take_succ_eq_append_getElem h, List.foldl_append, ix_lt h]
  rfl
theorem endL_inv {x0 : Stt} (hw : x0.wf) (hm : x0.mem.length ≤ 1000000) (hb : x0.writes.length + x0.table.length ≤ 1000000) : ∀ {i : Nat}, i ≤ x0.table.length → EInv x0 i (endL (x0.table.take i) (x0, []))
  | 0, _ => ⟨hw, rfl, rfl, rfl, rfl, rfl, Nat.le_refl _, rfl, rfl, Nat.le_refl _, rfl, rfl, fun r hr => by cases hr⟩
  | i + 1, h => by
    rw [endL_step h]
    exact endS_inv (endL_inv hw hm hb (Nat.le_of_succ_le h)) (hw.2.2.2.2.2.2.2.2.2.1.1 _ (ix_mem h)) hm (by omega)
end Go.Proofs.Ytbemlndjdbopeaa

/- The loop that ends requests. -/
namespace Go.Proofs.Ytbemlndjdbopeaa
open Go.Ra
set_option linter.unusedVariables false
set_option linter.unusedSimpArgs false
/-- A state of which the table is own memory. -/
def bxT (x : Stt) : XV := .agg 92 [.int .i64 x.cycle, e_Side x.a, e_Side x.e, e_row 3 e_Slot x.ldq, e_row 1 e_u32 x.sdq, e_row 1 e_u32 x.aeq, e_row 1 e_bool x.abq, e_row 1 e_bool x.ebq, e_row 5 e_Entry x.saq, .sl 15 [] 0 0 x.table.length 8, e_row 1 e_u8 x.mem, e_row 3 e_Wr x.writes, e_Trp x.trap, .int .i64 x.lats, .int .i64 x.picks, .int .i64 x.tags]
def layT (c : Cfg) (s : Script) (x : Stt) : List (Nat × Option XV) := [(15, some (e_tb 8 e_Req x.table)), (14, some (e_Script s)), (13, some (e_Cfg c)), (3, some zX), (2, some (bxT x))]
theorem TE1ok : TabOk Try.prog TE1 := mkT2_ok (clok_banks.app clok_ref15) ⟨sp_load, trivial⟩ trivial ⟨sk_fill, trivial⟩ ⟨gk_write, trivial⟩
theorem k_apT {α : Type} [Inhabited α] {κ : Nat → Option Nat} {es : Nat} {f : Nat → XV} {en : α → XV} {l : List α} {x : α} (h1 : ∀ i, i < l.length → con (f i) = con (en (ix l i))) (h2 : con (f l.length) = con (en x)) : leK κ (con (.tab (l.length + 1) es f)) (con (e_tb es en (l ++ [x]))) := by
  unfold e_tb
  rw [app_len]
  exact k_app h1 h2 rfl
def enMid (c : Cfg) (s : Script) (x : Stt) : XSt := ⟨[(10, .int .i64 0), (9, .int .i64 x.table.length), (8, e_row 8 e_Req x.table), (2, zNil), (0, .ptr 2 [] 0)], [(14, some (e_Script s)), (13, some (e_Cfg c)), (12, some (e_tb 3 e_Wr x.writes)), (11, some (e_tb 1 e_u8 x.mem)), (3, some zX), (2, some (.agg 92 [.int .i64 x.cycle, e_Side x.a, e_Side x.e, e_row 3 e_Slot x.ldq, e_row 1 e_u32 x.sdq, e_row 1 e_u32 x.aeq, e_row 1 e_bool x.abq, e_row 1 e_bool x.ebq, e_row 5 e_Entry x.saq, e_row 8 e_Req x.table, .sl 11 [] 0 0 x.mem.length 1, .sl 12 [] 0 0 x.writes.length 3, e_Trp x.trap, .int .i64 x.lats, .int .i64 x.picks, .int .i64 x.tags]))], 15⟩
/-- As it begins. -/
theorem end_in {c : Cfg} {s : Script} {x : Stt} : WeakE 15 (XSt.st ⟨[(10, .int .i64 0), (9, .int .i64 x.table.length), (8, .sl 6 [] 0 0 x.table.length 8), (2, zNil), (0, .ptr 2 [] 0)], layO c s x, 15⟩) (enSt c s x.table x [] 0).st := by
  refine (WeakE.frz (frz_env (L := [4, 5, 6, 7, 8, 9, 10]) (σ := ⟨[(10, .int .i64 0), (9, .int .i64 x.table.length), (8, .sl 6 [] 0 0 x.table.length 8), (2, zNil), (0, .ptr 2 [] 0)], layO c s x, 15⟩) (τ := enMid c s x) rfl ⟨rfl, .same, rfl, .same, rfl, fz_row rfl rfl, rfl, .same, rfl, .same, trivial⟩
    ⟨rfl, .same, rfl, .same, rfl, .same, rfl, .same, rfl, .same, rfl, .agg (.cons .same (.cons .same (.cons .same (.cons (fz_row rfl rfl) (.cons (fz_row rfl rfl) (.cons (fz_row rfl rfl) (.cons (fz_row rfl rfl) (.cons (fz_row rfl rfl) (.cons (fz_row rfl rfl) (.cons (fz_row rfl rfl) (.cons .same (.cons .same (.cons .same (.cons .same (.cons .same (.cons .same .nil)))))))))))))))), trivial⟩)).trans ?_
  exact weakM [(0, 0), (1, 1), (2, 2), (3, 3), (4, 4), (5, 5), (6, 6), (7, 7), (8, 8), (9, 9), (10, 10), (11, 11), (12, 12), (13, 13), (14, 14), (16, 12)] rfl rfl rfl rfl rfl ⟨(k_is rfl rfl), (k_is rfl rfl), (k_is rfl rfl), k_nil rfl, .ptr rfl, trivial⟩ ⟨(k_is rfl rfl), ⟨8, rfl⟩, (k_is rfl rfl), (k_is rfl rfl), (k_is rfl rfl), (k_is rfl rfl), .agg (.cons (k_is rfl rfl) (.cons (k_is rfl rfl) (.cons (k_is rfl rfl) (.cons (k_is rfl rfl) (.cons (k_is rfl rfl) (.cons (k_is rfl rfl) (.cons (k_is rfl rfl) (.cons (k_is rfl rfl) (.cons (k_is rfl rfl) (.cons (k_is rfl rfl) (.cons (.sl rfl) (.cons (.sl rfl) (.cons (k_is rfl rfl) (.cons (k_is rfl rfl) (.cons (k_is rfl rfl) (.cons (k_is rfl rfl) .nil)))))))))))))))), trivial⟩
/-- As it ends. -/
theorem end_out {c : Cfg} {s : Script} {x : Stt} {l : List Req} : EndAt 15 (.tup []) ⟨[], [(16, some (e_tb 3 e_Wr x.writes)), (15, some (e_tb 8 e_Req l)), (14, some (e_Script s)), (13, some (e_Cfg c)), (11, some (e_tb 1 e_u8 x.mem)), (3, some zX), (2, some (.agg 92 [.int .i64 x.cycle, e_Side x.a, e_Side x.e, e_row 3 e_Slot x.ldq, e_row 1 e_u32 x.sdq, e_row 1 e_u32 x.aeq, e_row 1 e_bool x.abq, e_row 1 e_bool x.ebq, e_row 5 e_Entry x.saq, .sl 15 [] 0 0 l.length 8, .sl 11 [] 0 0 x.mem.length 1, .sl 16 [] 0 0 x.writes.length 3, e_Trp x.trap, .int .i64 x.lats, .int .i64 x.picks, .int .i64 x.tags]))], 17⟩ (.tup []) ⟨[], layT c s { x with table := l }, 17⟩ :=
  ⟨.frz (frz_env (L := [11, 16]) rfl ⟨rfl, .same, trivial⟩ ⟨rfl, .same, rfl, .same, rfl, .same, rfl, .same, rfl, .agg (.cons .same (.cons .same (.cons .same (.cons .same (.cons .same (.cons .same (.cons .same (.cons .same (.cons .same (.cons .same (.cons (fz_row rfl rfl) (.cons (fz_row rfl rfl) (.cons .same (.cons .same (.cons .same (.cons .same .nil)))))))))))))))), trivial⟩)⟩
theorem gen_end {c : Cfg} {s : Script} {x : Stt} (ho : x.ok) (hb : x.writes.length + x.table.length ≤ 1000000) : Gen Try.prog 59 (cons [.ptr 2 [] 0]) (XSt.st ⟨[], layO c s x, 15⟩) (con (.tup [])) (XSt.st ⟨[], layT c s (endF x), 17⟩) := by
  have hw : x.wf := ho.1
  have hm0 : x.mem.length ≤ 1000000 := ho.2.2.2.2.2.2.2.2.1
  have hl0 : x.table.length ≤ 1000000 := ho.2.2.2.2.2.2.2.1
  have hq0 : x.ldq.length ≤ 1000000 := ho.2.1
  have hr0 : ∀ r ∈ x.table, r.wf := hw.2.2.2.2.2.2.2.2.2.1.1
  refine genG mix TE1ok t_banks_end (Nat.le_of_ble_eq_true rfl) (σ := ⟨[], layO c s x, 15⟩) ?_
  refine Eq.mpr (r_end0 c s x _ _) ?_
  refine loopG mix TE1ok (fun i : Nat => enSt c s x.table (endL (x.table.take i) (x, [])).1 (endL (x.table.take i) (x, [])).2 i) (fun i => i ≤ x.table.length) (fun i => x.table.length - i) 0 (Nat.zero_le _) end_in ?_
  intro i hi
  replace hi : i ≤ x.table.length := hi
  have inv := endL_inv hw hm0 hb hi
  have stp := fun h : i < x.table.length => endL_step (p := (x, [])) h
  have hend : i = x.table.length → endF x = { (endL (x.table.take i) (x, [])).1 with table := (endL (x.table.take i) (x, [])).2 } := fun h => by
    unfold endF
    rw [h, List.take_length]
  generalize endL (x.table.take i) (x, []) = p at inv stp hend ⊢
  obtain ⟨X, L⟩ := p
  obtain ⟨iw, i2, i3, i4, i5, i6, i7, i8, i9, i10, _⟩ := inv
  simp only at iw i2 i3 i4 i5 i6 i7 i8 i9 i10 stp ⊢
  refine Eq.mpr (r_end1 c s x.table X L i _ _ _) ?_
  by_cases hlt : i < x.table.length
  case neg =>
    have h1 : ¬ (i : Int) < (x.table.length : Int) := by omega
    simp only [h1, decide_false, cond_false]
    rw [hend (by omega)]
    exact ⟨end_out.out⟩
  have h1 : (i : Int) < (x.table.length : Int) := by omega
  have w1 : IntKind.i64.wrap ((i : Int) + 1) = ((i + 1 : Nat) : Int) := wrap_i64 (by omega) (by omega)
  have hr : (ix x.table i).wf := hr0 _ (ix_mem hlt)
  replace stp := stp hlt
  have hu : rngB X.mem.length (fun i => e_u8 (ix X.mem i)) = true := rngB_iff.2 fun i hi => iw.2.2.2.2.2.2.2.2.2.2.1.1 _ (ix_mem hi)
  have nx : ∀ {τ : XSt} (p' : Stt × List Req), endS (X, L) (ix x.table i) = p' → WeakE 15 τ.st (enSt c s x.table p'.1 p'.2 (i + 1)).st → ∃ j, j ≤ x.table.length ∧ WeakE 15 τ.st (enSt c s x.table (endL (x.table.take j) (x, [])).1 (endL (x.table.take j) (x, [])).2 j).st ∧ x.table.length - j < x.table.length - i := fun p' hp hk => ⟨i + 1, hlt, by rw [stp, hp]; exact hk, by omega⟩
  have wl : IntKind.i64.wrap ((ix x.table i).left - 1) = (ix x.table i).left - 1 ∨ ¬ (ix x.table i).left > 0 := by
    by_cases h : (ix x.table i).left > 0
    · have := hr.2.2.2.2.1
      exact .inl (wrap_i64 (by omega) (by unfold i64R at this; omega))
    · exact .inr h
  generalize hri : ix x.table i = r at hr stp nx wl ⊢
  have b1 : X.writes.length ≤ X.writes.length := Nat.le_refl _
  have b2 : (X.writes.length + 1) * 24 ≤ 140737488355328 := by omega
  have b3 : (L.length + 1) * 64 ≤ 140737488355328 := by omega
  have b4 : X.mem.length ≤ 1099511627776 := by omega
  simp only [h1, w1, hri, decide_true, cond_true, Int.toNat_natCast, Nat.le_refl, pl_eq, b2, b3, b4, hu, allN_true]
  by_cases hl : r.left > 0
  case neg =>
    simp only [hl, decide_false, cond_false]
    refine nx (X, L ++ [r]) (by unfold endS; rw [if_neg hl]) ?_
    exact weakM [(0, 0), (1, 1), (2, 2), (3, 3), (4, 4), (5, 5), (6, 6), (7, 7), (8, 8), (9, 9), (10, 10), (11, 11), (12, 12), (13, 13), (14, 14), (15, 18), (16, 16)] rfl rfl rfl rfl rfl ⟨(k_is rfl rfl), (k_is rfl rfl), (k_is rfl rfl), (by show leK _ (.sl 18 [] 0 0 (L.length + 1) 8) (.sl 15 [] 0 0 (L ++ [_]).length 8); rw [app_len]; exact .sl rfl), .ptr rfl, trivial⟩ ⟨(k_is rfl rfl), (k_apT (fun j hj => by simp only [hj, decide_true, cond_true]; rfl) (by simp; rfl)), (k_is rfl rfl), (k_is rfl rfl), (k_is rfl rfl), (k_is rfl rfl), .agg (.cons (k_is rfl rfl) (.cons (k_is rfl rfl) (.cons (k_is rfl rfl) (.cons (k_is rfl rfl) (.cons (k_is rfl rfl) (.cons (k_is rfl rfl) (.cons (k_is rfl rfl) (.cons (k_is rfl rfl) (.cons (k_is rfl rfl) (.cons (k_is rfl rfl) (.cons (.sl rfl) (.cons (.sl rfl) (.cons (k_is rfl rfl) (.cons (k_is rfl rfl) (.cons (k_is rfl rfl) (.cons (k_is rfl rfl) .nil)))))))))))))))), trivial⟩
  obtain wl := wl.resolve_right (fun h => h hl)
  simp only [hl, wl, decide_true, cond_true]
  by_cases h1l : r.left = 1
  case neg =>
    have hz : ¬ r.left - 1 = 0 := by omega
    simp only [hz, decide_false, cond_false]
    refine nx (X, L ++ [{ r with left := r.left - 1 }]) (by unfold endS; rw [if_pos hl, if_neg h1l]) ?_
    exact weakM [(0, 0), (1, 1), (2, 2), (3, 3), (4, 4), (5, 5), (6, 6), (7, 7), (8, 8), (9, 9), (10, 10), (11, 11), (12, 12), (13, 13), (14, 14), (15, 18), (16, 16)] rfl rfl rfl rfl rfl ⟨(k_is rfl rfl), (k_is rfl rfl), (k_is rfl rfl), (by show leK _ (.sl 18 [] 0 0 (L.length + 1) 8) (.sl 15 [] 0 0 (L ++ [_]).length 8); rw [app_len]; exact .sl rfl), .ptr rfl, trivial⟩ ⟨(k_is rfl rfl), (k_apT (fun j hj => by simp only [hj, decide_true, cond_true]; rfl) (by simp; rfl)), (k_is rfl rfl), (k_is rfl rfl), (k_is rfl rfl), (k_is rfl rfl), .agg (.cons (k_is rfl rfl) (.cons (k_is rfl rfl) (.cons (k_is rfl rfl) (.cons (k_is rfl rfl) (.cons (k_is rfl rfl) (.cons (k_is rfl rfl) (.cons (k_is rfl rfl) (.cons (k_is rfl rfl) (.cons (k_is rfl rfl) (.cons (k_is rfl rfl) (.cons (.sl rfl) (.cons (.sl rfl) (.cons (k_is rfl rfl) (.cons (k_is rfl rfl) (.cons (k_is rfl rfl) (.cons (k_is rfl rfl) .nil)))))))))))))))), trivial⟩
  have hz : r.left - 1 = 0 := by omega
  have ed : endS (X, L) r = (doneF X r, L) := by unfold endS; rw [if_pos hl, if_pos h1l]
  simp only [hz, decide_true, cond_true]
  cases hs : r.store with
  | true =>
    simp only [cond_true]
    refine ⟨(X.mem, ⟨r.addr, r.size, r.val⟩), .rfl, memIs ⟨rfl, trivial⟩ (Nat.le_refl _), ⟨by show X.mem.length ≤ 1000000; omega⟩, ?_⟩
    intro y hy
    replace hy : y = stoF X.mem ⟨r.addr, r.size, r.val⟩ := hy
    subst hy
    have wsl : leK (kap [(0, 0), (1, 1), (2, 2), (3, 3), (4, 4), (5, 5), (6, 6), (7, 7), (8, 8), (9, 9), (10, 10), (11, 11), (12, 12), (13, 13), (14, 14), (15, 15), (16, 21)]) (.sl 21 [] 0 0 (X.writes.length + 1) 3) (.sl 16 [] 0 0 (X.writes ++ [(⟨r.addr, r.size, r.val⟩ : Wr)]).length 3) := by rw [app_len]; exact .sl rfl
    have msl : leK (kap [(0, 0), (1, 1), (2, 2), (3, 3), (4, 4), (5, 5), (6, 6), (7, 7), (8, 8), (9, 9), (10, 10), (11, 11), (12, 12), (13, 13), (14, 14), (15, 15), (16, 21)]) (.sl 11 [] 0 0 X.mem.length 1) (.sl 11 [] 0 0 (stoF X.mem ⟨r.addr, r.size, r.val⟩).length 1) := by rw [sto_len]; exact .sl rfl
    by_cases hq : X.saq.length = 0
    · have q1 : ¬ (X.saq.length : Int) > 0 := by omega
      have e : X.saq.tail = X.saq := by rw [List.eq_nil_of_length_eq_zero hq]; rfl
      have ssl : leK (kap [(0, 0), (1, 1), (2, 2), (3, 3), (4, 4), (5, 5), (6, 6), (7, 7), (8, 8), (9, 9), (10, 10), (11, 11), (12, 12), (13, 13), (14, 14), (15, 15), (16, 21)]) (con (e_row 5 e_Entry X.saq)) (con (e_row 5 e_Entry X.saq.tail)) := by rw [e]; exact k_is rfl rfl
      simp only [q1, decide_false, cond_false]
      refine nx (doneF X r, L) ed ?_
      rw [done_st hs]
      exact weakM [(0, 0), (1, 1), (2, 2), (3, 3), (4, 4), (5, 5), (6, 6), (7, 7), (8, 8), (9, 9), (10, 10), (11, 11), (12, 12), (13, 13), (14, 14), (15, 15), (16, 21)] rfl rfl rfl rfl rfl ⟨(k_is rfl rfl), (k_is rfl rfl), (k_is rfl rfl), .sl rfl, .ptr rfl, trivial⟩ ⟨(k_apT (fun j hj => by simp only [hj, decide_true, cond_true]; rfl) (by simp; rfl)), (k_is rfl rfl), (k_is rfl rfl), (k_is rfl rfl), (k_is rfl rfl), (k_is rfl rfl), .agg (.cons (k_is rfl rfl) (.cons (k_is rfl rfl) (.cons (k_is rfl rfl) (.cons (k_is rfl rfl) (.cons (k_is rfl rfl) (.cons (k_is rfl rfl) (.cons (k_is rfl rfl) (.cons (k_is rfl rfl) (.cons ssl (.cons (k_is rfl rfl) (.cons msl (.cons wsl (.cons (k_is rfl rfl) (.cons (k_is rfl rfl) (.cons (k_is rfl rfl) (.cons (k_is rfl rfl) .nil)))))))))))))))), trivial⟩
    · have q1 : (X.saq.length : Int) > 0 := by omega
      have q2 : 1 ≤ (X.saq.length : Int) := by omega
      have ssl : leK (kap [(0, 0), (1, 1), (2, 2), (3, 3), (4, 4), (5, 5), (6, 6), (7, 7), (8, 8), (9, 9), (10, 10), (11, 11), (12, 12), (13, 13), (14, 14), (15, 15), (16, 21)]) (con (.row false 5 (X.saq.length - 1) fun i => e_Entry (ix X.saq (1 + i)))) (con (e_row 5 e_Entry X.saq.tail)) := k_row (by simp) (.inl rfl) fun i hi => by rw [ix_tail, Nat.add_comm]
      simp only [q1, q2, decide_true, cond_true]
      refine nx (doneF X r, L) ed ?_
      rw [done_st hs]
      exact weakM [(0, 0), (1, 1), (2, 2), (3, 3), (4, 4), (5, 5), (6, 6), (7, 7), (8, 8), (9, 9), (10, 10), (11, 11), (12, 12), (13, 13), (14, 14), (15, 15), (16, 21)] rfl rfl rfl rfl rfl ⟨(k_is rfl rfl), (k_is rfl rfl), (k_is rfl rfl), .sl rfl, .ptr rfl, trivial⟩ ⟨(k_apT (fun j hj => by simp only [hj, decide_true, cond_true]; rfl) (by simp; rfl)), (k_is rfl rfl), (k_is rfl rfl), (k_is rfl rfl), (k_is rfl rfl), (k_is rfl rfl), .agg (.cons (k_is rfl rfl) (.cons (k_is rfl rfl) (.cons (k_is rfl rfl) (.cons (k_is rfl rfl) (.cons (k_is rfl rfl) (.cons (k_is rfl rfl) (.cons (k_is rfl rfl) (.cons (k_is rfl rfl) (.cons ssl (.cons (k_is rfl rfl) (.cons msl (.cons wsl (.cons (k_is rfl rfl) (.cons (k_is rfl rfl) (.cons (k_is rfl rfl) (.cons (k_is rfl rfl) .nil)))))))))))))))), trivial⟩
  | false =>
    simp only [cond_false]
    by_cases hg : r.addr ≥ 0 ∧ r.addr ≤ 4294967295
    · obtain ⟨g1, g2⟩ := hg
      have gw : IntKind.u32.wrap r.addr = r.addr := wrap_u32 (by omega) (by omega)
      have g3 : (0 : Int) ≤ r.addr := g1
      have hd : ldF X r = loadI X.mem.length (fun i => e_u8 (ix X.mem i)) r.op r.addr := by unfold ldF loadF; rw [if_pos ⟨g1, g2⟩]
      simp only [g1, g2, g3, gw, decide_true, cond_true]
      by_cases hn : r.reg < 0
      · simp only [hn, decide_true, cond_true]
        refine ⟨(X.ldq, r.tag, loadI X.mem.length (fun i => e_u8 (ix X.mem i)) r.op r.addr), .rfl, ⟨by show X.ldq.length ≤ 1000000; omega⟩, ?_⟩
        intro y hy
        replace hy : y = fillF X.ldq r.tag (loadI X.mem.length (fun i => e_u8 (ix X.mem i)) r.op r.addr) := hy
        rw [← hd] at hy
        subst hy
        refine nx (doneF X r, L) ed ?_
        rw [done_ldq hs hn]
        exact weakM [(0, 0), (1, 1), (2, 2), (3, 3), (4, 4), (5, 5), (6, 6), (7, 7), (8, 8), (9, 9), (10, 10), (11, 11), (12, 12), (13, 13), (14, 14), (15, 15), (16, 16)] rfl rfl rfl rfl rfl ⟨(k_is rfl rfl), (k_is rfl rfl), (k_is rfl rfl), .sl rfl, .ptr rfl, trivial⟩ ⟨(k_is rfl rfl), (k_is rfl rfl), (k_is rfl rfl), (k_is rfl rfl), (k_is rfl rfl), (k_is rfl rfl), .agg (.cons (k_is rfl rfl) (.cons (k_is rfl rfl) (.cons (k_is rfl rfl) (.cons (k_is rfl rfl) (.cons (k_is rfl rfl) (.cons (k_is rfl rfl) (.cons (k_is rfl rfl) (.cons (k_is rfl rfl) (.cons (k_is rfl rfl) (.cons (k_is rfl rfl) (.cons (.sl rfl) (.cons (.sl rfl) (.cons (k_is rfl rfl) (.cons (k_is rfl rfl) (.cons (k_is rfl rfl) (.cons (k_is rfl rfl) .nil)))))))))))))))), trivial⟩
      · by_cases hk : 1 ≤ r.reg ∧ r.reg ≤ 15
        · have k1 : r.reg ≥ 1 := hk.1
          have k2 : r.reg ≤ 15 := hk.2
          have k3 : 0 ≤ r.reg := by omega
          have k4 : r.reg < 16 := by omega
          have k5 : r.reg.toNat < 16 := by omega
          simp only [hn, k1, k2, k3, k4, k5, Nat.beq_refl, decide_true, decide_false, cond_true, cond_false]
          refine nx (doneF X r, L) ed ?_
          rw [done_reg hs hk, hd]
          exact weakM [(0, 0), (1, 1), (2, 2), (3, 3), (4, 4), (5, 5), (6, 6), (7, 7), (8, 8), (9, 9), (10, 10), (11, 11), (12, 12), (13, 13), (14, 14), (15, 15), (16, 16)] rfl rfl rfl rfl rfl ⟨(k_is rfl rfl), (k_is rfl rfl), (k_is rfl rfl), .sl rfl, .ptr rfl, trivial⟩ ⟨(k_is rfl rfl), (k_is rfl rfl), (k_is rfl rfl), (k_is rfl rfl), (k_is rfl rfl), (k_is rfl rfl), .agg (.cons (k_is rfl rfl) (.cons (k_is rfl rfl) (.cons (k_is rfl rfl) (.cons (k_is rfl rfl) (.cons (k_is rfl rfl) (.cons (k_is rfl rfl) (.cons (k_is rfl rfl) (.cons (k_is rfl rfl) (.cons (k_is rfl rfl) (.cons (k_is rfl rfl) (.cons (.sl rfl) (.cons (.sl rfl) (.cons (k_is rfl rfl) (.cons (k_is rfl rfl) (.cons (k_is rfl rfl) (.cons (k_is rfl rfl) .nil)))))))))))))))), trivial⟩
        · have kz : (bif decide (r.reg ≥ 1) then decide (r.reg ≤ 15) else false) = false := by
            by_cases k1 : r.reg ≥ 1
            · have k2 : ¬ r.reg ≤ 15 := fun h => hk ⟨k1, h⟩
              simp [k1, k2]
            · simp [k1]
          simp only [hn, kz, Ra.g2, decide_false, cond_false, cond_true]
          refine nx (doneF X r, L) ed ?_
          rw [done_no hs hn hk]
          exact weakM [(0, 0), (1, 1), (2, 2), (3, 3), (4, 4), (5, 5), (6, 6), (7, 7), (8, 8), (9, 9), (10, 10), (11, 11), (12, 12), (13, 13), (14, 14), (15, 15), (16, 16)] rfl rfl rfl rfl rfl ⟨(k_is rfl rfl), (k_is rfl rfl), (k_is rfl rfl), .sl rfl, .ptr rfl, trivial⟩ ⟨(k_is rfl rfl), (k_is rfl rfl), (k_is rfl rfl), (k_is rfl rfl), (k_is rfl rfl), (k_is rfl rfl), .agg (.cons (k_is rfl rfl) (.cons (k_is rfl rfl) (.cons (k_is rfl rfl) (.cons (k_is rfl rfl) (.cons (k_is rfl rfl) (.cons (k_is rfl rfl) (.cons (k_is rfl rfl) (.cons (k_is rfl rfl) (.cons (k_is rfl rfl) (.cons (k_is rfl rfl) (.cons (.sl rfl) (.cons (.sl rfl) (.cons (k_is rfl rfl) (.cons (k_is rfl rfl) (.cons (k_is rfl rfl) (.cons (k_is rfl rfl) .nil)))))))))))))))), trivial⟩
    · have gz : (bif decide (r.addr ≥ 0) then decide (r.addr ≤ 4294967295) else false) = false := by
        by_cases g1 : r.addr ≥ 0
        · have g2 : ¬ r.addr ≤ 4294967295 := fun h => hg ⟨g1, h⟩
          simp [g1, g2]
        · simp [g1]
      have hd : ldF X r = 0 := by unfold ldF; rw [if_neg (by omega)]
      simp only [gz, Ra.g2, cond_false, cond_true]
      by_cases hn : r.reg < 0
      · simp only [hn, decide_true, cond_true]
        refine ⟨(X.ldq, r.tag, 0), .rfl, ⟨by show X.ldq.length ≤ 1000000; omega⟩, ?_⟩
        intro y hy
        replace hy : y = fillF X.ldq r.tag (0) := hy
        rw [← hd] at hy
        subst hy
        refine nx (doneF X r, L) ed ?_
        rw [done_ldq hs hn]
        exact weakM [(0, 0), (1, 1), (2, 2), (3, 3), (4, 4), (5, 5), (6, 6), (7, 7), (8, 8), (9, 9), (10, 10), (11, 11), (12, 12), (13, 13), (14, 14), (15, 15), (16, 16)] rfl rfl rfl rfl rfl ⟨(k_is rfl rfl), (k_is rfl rfl), (k_is rfl rfl), .sl rfl, .ptr rfl, trivial⟩ ⟨(k_is rfl rfl), (k_is rfl rfl), (k_is rfl rfl), (k_is rfl rfl), (k_is rfl rfl), (k_is rfl rfl), .agg (.cons (k_is rfl rfl) (.cons (k_is rfl rfl) (.cons (k_is rfl rfl) (.cons (k_is rfl rfl) (.cons (k_is rfl rfl) (.cons (k_is rfl rfl) (.cons (k_is rfl rfl) (.cons (k_is rfl rfl) (.cons (k_is rfl rfl) (.cons (k_is rfl rfl) (.cons (.sl rfl) (.cons (.sl rfl) (.cons (k_is rfl rfl) (.cons (k_is rfl rfl) (.cons (k_is rfl rfl) (.cons (k_is rfl rfl) .nil)))))))))))))))), trivial⟩
      · by_cases hk : 1 ≤ r.reg ∧ r.reg ≤ 15
        · have k1 : r.reg ≥ 1 := hk.1
          have k2 : r.reg ≤ 15 := hk.2
          have k3 : 0 ≤ r.reg := by omega
          have k4 : r.reg < 16 := by omega
          have k5 : r.reg.toNat < 16 := by omega
          simp only [hn, k1, k2, k3, k4, k5, Nat.beq_refl, decide_true, decide_false, cond_true, cond_false]
          refine nx (doneF X r, L) ed ?_
          rw [done_reg hs hk, hd]
          exact weakM [(0, 0), (1, 1), (2, 2), (3, 3), (4, 4), (5, 5), (6, 6), (7, 7), (8, 8), (9, 9), (10, 10), (11, 11), (12, 12), (13, 13), (14, 14), (15, 15), (16, 16)] rfl rfl rfl rfl rfl ⟨(k_is rfl rfl), (k_is rfl rfl), (k_is rfl rfl), .sl rfl, .ptr rfl, trivial⟩ ⟨(k_is rfl rfl), (k_is rfl rfl), (k_is rfl rfl), (k_is rfl rfl), (k_is rfl rfl), (k_is rfl rfl), .agg (.cons (k_is rfl rfl) (.cons (k_is rfl rfl) (.cons (k_is rfl rfl) (.cons (k_is rfl rfl) (.cons (k_is rfl rfl) (.cons (k_is rfl rfl) (.cons (k_is rfl rfl) (.cons (k_is rfl rfl) (.cons (k_is rfl rfl) (.cons (k_is rfl rfl) (.cons (.sl rfl) (.cons (.sl rfl) (.cons (k_is rfl rfl) (.cons (k_is rfl rfl) (.cons (k_is rfl rfl) (.cons (k_is rfl rfl) .nil)))))))))))))))), trivial⟩
        · have kz : (bif decide (r.reg ≥ 1) then decide (r.reg ≤ 15) else false) = false := by
            by_cases k1 : r.reg ≥ 1
            · have k2 : ¬ r.reg ≤ 15 := fun h => hk ⟨k1, h⟩
              simp [k1, k2]
            · simp [k1]
          simp only [hn, kz, Ra.g2, decide_false, cond_false, cond_true]
          refine nx (doneF X r, L) ed ?_
          rw [done_no hs hn hk]
          exact weakM [(0, 0), (1, 1), (2, 2), (3, 3), (4, 4), (5, 5), (6, 6), (7, 7), (8, 8), (9, 9), (10, 10), (11, 11), (12, 12), (13, 13), (14, 14), (15, 15), (16, 16)] rfl rfl rfl rfl rfl ⟨(k_is rfl rfl), (k_is rfl rfl), (k_is rfl rfl), .sl rfl, .ptr rfl, trivial⟩ ⟨(k_is rfl rfl), (k_is rfl rfl), (k_is rfl rfl), (k_is rfl rfl), (k_is rfl rfl), (k_is rfl rfl), .agg (.cons (k_is rfl rfl) (.cons (k_is rfl rfl) (.cons (k_is rfl rfl) (.cons (k_is rfl rfl) (.cons (k_is rfl rfl) (.cons (k_is rfl rfl) (.cons (k_is rfl rfl) (.cons (k_is rfl rfl) (.cons (k_is rfl rfl) (.cons (k_is rfl rfl) (.cons (.sl rfl) (.cons (.sl rfl) (.cons (k_is rfl rfl) (.cons (k_is rfl rfl) (.cons (k_is rfl rfl) (.cons (k_is rfl rfl) .nil)))))))))))))))), trivial⟩

end Go.Proofs.Ytbemlndjdbopeaa

/- The beginning of requests of a bank. -/
namespace Go.Proofs.Ytbemlndjdbopeaa
open Go.Ra
set_option linter.unusedVariables false
set_option linter.unusedSimpArgs false
/-- Does a request wait for a bank? -/
def isWt (c : Cfg) (bank : Int) (r : Req) : Bool := decide (bnkI r.addr c.banks = bank) && decide (r.left = 0)
/-- Has a bank begun it? -/
def isBz (c : Cfg) (bank : Int) (r : Req) : Bool := decide (bnkI r.addr c.banks = bank) && decide (r.left > 0)
def waitK (c : Cfg) (bank : Int) (l : List Req) (k : Nat) : List Int := ((List.range k).filter (fun j => isWt c bank (ix l j))).map (fun j : Nat => (j : Int))
/-- Which of those that wait. -/
def whichF (s : Script) (x : Stt) (w : List Int) : Nat := (ix w (if w.length > 1 then pickF s x.picks w.length else 0).toNat).toNat
/-- A bank begins a request, if one can. -/
def begF (c : Cfg) (s : Script) (x : Stt) (bank : Int) : Stt :=
  if x.table.any (isBz c bank) then x else
  if (waitK c bank x.table x.table.length).length = 0 then x else
  { x with picks := if (waitK c bank x.table x.table.length).length > 1 then IntKind.i64.wrap (x.picks + 1) else x.picks, lats := IntKind.i64.wrap (x.lats + 1),
           table := x.table.set (whichF s x (waitK c bank x.table x.table.length)) { ix x.table (whichF s x (waitK c bank x.table x.table.length)) with left := latF s x.lats c.lat } }
def TG0 : Tab := mkT2 qq (cl_banks ++ cl_ref15) [(22, bnkSp)] [] [(24, latS), (26, picS)] []
def bgSt (c : Cfg) (s : Script) (x : Stt) (bank : Int) (w : List Int) (i : Nat) : XSt := ⟨[(17, .int .i64 i), (16, .int .i64 x.table.length), (15, .sl 15 [] 0 0 x.table.length 8), (8, .sl 19 [] 0 0 w.length 1), (5, .ptr 18 [] 0), (4, .ptr 17 [] 0), (3, .int .i64 bank), (2, .ptr 2 [] 0)], [(19, some (e_tb 1 e_i64 w)), (18, some (e_Script s)), (17, some (e_Cfg c)), (15, some (e_tb 8 e_Req x.table)), (14, some (e_Script s)), (13, some (e_Cfg c)), (3, some zX), (2, some (bxT x))], 20⟩
theorem r_beg0 (c : Cfg) (s : Script) (x : Stt) (bank : Int) (v : XV) (τ : XSt) : (goG Try.prog TG0 [] 17 v τ (.run c_banks_begin) [] ⟨envX 0 [e_Cfg c, e_Script s, .ptr 2 [] 0, .int .i64 bank], layT c s x, 17⟩) = (let q1 : XV := .sl 15 [] 0 0 (List.length (Stt.table x)) 8;
let q2 : XV := .row true 0 0 fun x => .unk;
let q3 : List XV := [.int .i64 0, .int .i64 0, .int .i64
 0];
let q4 : XV := .agg 3 q3;
let q5 : XV := .agg 38 [.tab 16 1 fun x => .int .u32 0, .tab 16 1 fun x => .int .i64 0, q4, .int .i64 0, .bool false, .int .i64 0];
LoopAt
 (Ok Try.prog (Tab.q TG0)) c_banks_begin_l1 (XSt.mk [(17, .int .i64 0), (16, .int .i64 (↑(List.length (Stt.table x)) : Int)), (15, q1), (8, q2), (5, .ptr 18 [] 0),
 (4, .ptr 17 [] 0), (2, .ptr 2 [] 0), (3, .int .i64 bank)] [(18, some (e_Script s)), (17, some (e_Cfg c)), (15, some (e_tb 8 e_Req (Stt.table x))), (14, some (e_Script
 s)), (13, some (e_Cfg c)), (3, some (.agg 92 (.int .i64 0 :: q5 :: q5 :: q2 :: q2 :: q2 :: q2 :: q2 :: q2 :: q2 :: q2 :: q2 :: q4 :: q3))), (2, some (.agg 92 [.int
 .i64 (Stt.cycle x), e_Side (Stt.a x), e_Side (Stt.e x), e_row 3 e_Slot (Stt.ldq x), e_row 1 e_u32 (Stt.sdq x), e_row 1 e_u32 (Stt.aeq x), e_row 1 e_bool (Stt.abq
 x), e_row 1 e_bool (Stt.ebq x), e_row 5 e_Entry (Stt.saq x), q1, e_row 1 e_u8 (Stt.mem x), e_row 3 e_Wr (Stt.writes x), e_Trp (Stt.trap x), .int .i64 (Stt.lats x),
 .int .i64 (Stt.picks x), .int .i64 (Stt.tags x)]))] 19) [Frm.blk 0, Frm.seq c_banks_begin_p1] (finGR [] 17 v τ)) := by kernel_rfl
theorem r_beg1 (c : Cfg) (s : Script) (x : Stt) (bank : Int) (w : List Int) (i : Nat) (v : XV) (τ : XSt) (A : XSt → Prop) : (goG Try.prog TG0 [] 17 v τ (.run c_banks_begin_l1) [.lp c_banks_begin_l1 A, .blk 0, .seq c_banks_begin_p1] (bgSt c s x bank w i)) = (let q1 : Bool := decide ((↑i : Int) < (↑(List.length (Stt.table x)) : Int));
let q2 : Nat := i * 8;
let q3 : Req := ix (Stt.table x) (pl 0 (Int.toNat (↑i : Int)));
let
 q4 : Int := Req.addr q3;
let q5 : Int := bnkI q4 (Cfg.banks c);
let q6 : Bool := decide ¬bnkI (Req.addr (ix (Stt.table x) i)) (Cfg.banks c) = bank;
let q7 : XV :=
 .int .i64 (IntKind.wrap .i64 ((↑i : Int) + (1 : Int)));
let q8 : XV := .sl 15 [] 0 0 (List.length (Stt.table x)) 8;
let q9 : XV := .sl 19 [] 0 0 (List.length w)
 1;
let q10 : XV := .ptr 2 [] 0;
let q11 : List (Nat × XV) := [(5, .ptr 18 [] 0), (4, .ptr 17 [] 0), (3, .int .i64 bank), (2, q10)];
let q12 : List (Nat × XV) :=
 (16, .int .i64 (↑(List.length (Stt.table x)) : Int)) :: (15, q8) :: (8, q9) :: q11;
let q13 : List XV := [.int .i64 0, .int .i64 0, .int .i64 0];
let q14 : XV :=
 .agg 3 q13;
let q15 : XV := .agg 38 [.tab 16 1 fun x => .int .u32 0, .tab 16 1 fun x => .int .i64 0, q14, .int .i64 0, .bool false, .int .i64 0];
let q16 : XV :=
 .row true 0 0 fun x => .unk;
let q17 : XV := .agg 92 (.int .i64 0 :: q15 :: q15 :: q16 :: q16 :: q16 :: q16 :: q16 :: q16 :: q16 :: q16 :: q16 :: q14 :: q13);
let
 q18 : List XV := [.int .i64 (Stt.picks x), .int .i64 (Stt.tags x)];
let q19 : List (Nat × Option XV) := [(18, some (e_Script s)), (17, some (e_Cfg c)), (15, some
 (e_tb 8 e_Req (Stt.table x))), (14, some (e_Script s)), (13, some (e_Cfg c)), (3, some q17), (2, some (.agg 92 (.int .i64 (Stt.cycle x) :: e_Side (Stt.a x) :: e_Side
 (Stt.e x) :: e_row 3 e_Slot (Stt.ldq x) :: e_row 1 e_u32 (Stt.sdq x) :: e_row 1 e_u32 (Stt.aeq x) :: e_row 1 e_bool (Stt.abq x) :: e_row 1 e_bool (Stt.ebq x) ::
 e_row 5 e_Entry (Stt.saq x) :: q8 :: e_row 1 e_u8 (Stt.mem x) :: e_row 3 e_Wr (Stt.writes x) :: e_Trp (Stt.trap x) :: .int .i64 (Stt.lats x) :: q18)))];
let q20
 : List (Nat × Option XV) := (19, some (e_tb 1 e_i64 w)) :: q19;
let q21 : List (Nat × Option XV) := (20, some (e_Req (ix (Stt.table x) i))) :: q20;
let q22 : XSt
 := XSt.mk ((17, q7) :: q12) q21 21;
let q23 : Int := Req.left q3;
let q24 : Bool := decide (Req.left (ix (Stt.table x) i) > 0);
let q25 : List (Nat × XV) := (18,
 .bool q1) :: (17, .int .i64 (↑i : Int)) :: q12;
let q26 : Bool := decide ((↑(List.length w) : Int) = 0);
let q27 : XV := .bool q26;
let q28 : List (Nat × XV) :=
 (40, q27) :: (43, q27) :: (42, .int .i64 (↑(List.length w) : Int)) :: (41, q9) :: (11, .int .i64 0) :: q25;
let q29 : Bool := decide ((↑(List.length w) : Int) >
 1);
let q30 : Script × Int × Int → List XV := fun (s : Script × Int × Int) => [e_Script (Prod.fst s), .int .i64 (Prod.fst (Prod.snd s)), .int .i64 (Prod.snd (Prod.snd
 s))];
let q31 : Int → Nat := fun y => Int.toNat y * 1;
let q32 : List XV := [e_Script s, .int .i64 (Stt.lats x), .int .i64 (Cfg.lat c)];
let q33 : Script × Int ×
 Int → Int := fun (s : Script × Int × Int) => latF (Prod.fst s) (Prod.fst (Prod.snd s)) (Prod.snd (Prod.snd s));
let q34 : Int → Int := fun y => ix w (pl 0 (Int.toNat
 y));
let q35 : Int → Nat := fun y => Int.toNat (ix w (Int.toNat y)) * 8;
let q36 : Int → Nat := fun y => pl (q35 y) 5;
let q37 : Int → Bool := fun y => decide (Int.toNat
 (ix w (Int.toNat y)) < List.length (Stt.table x));
let q38 : XV := .ptr 2 [13] 89;
let q39 : XV := .int .i64 (IntKind.wrap .i64 (Stt.lats x + (1 : Int)));
let q40
 : XV := .ptr 17 [9] 9;
let q41 : XV := .ptr 2 [9] 83;
let q42 : XV := .ptr 2 [14] 90;
let q43 : XV := .int .i64 (IntKind.wrap .i64 (Stt.picks x + (1 : Int)));
let
 q44 : XV := .bool q29;
let q45 : List (Nat × XV) := (44, q44) :: (47, q44) :: (46, .int .i64 (↑(List.length w) : Int)) :: (45, q9) :: q28;
let q46 : Int → Req :=
 fun y => ix (Stt.table x) (Int.toNat (ix w (Int.toNat y)));
let q47 : Nat := pl 0 (Int.toNat (0 : Int));
let q48 : Int := ix w q47;
let q49 : Nat := Int.toNat (ix
 w 0) * 8;
let q50 : Nat := pl q49 5;
let q51 : Bool := decide (Int.toNat (ix w 0) < List.length (Stt.table x));
let q52 : Nat → Bool := fun j => Nat.beq j (Int.toNat
 (ix w 0));
let q53 : Req := ix (Stt.table x) (Int.toNat (ix w 0));
bif q1 then bif q1 then bif Nat.beq q2 q2 then bif decide (i < List.length (Stt.table x)) then
 bif decide (Req.addr (ix (Stt.table x) i) ≤ 9223372036854775807) then bif q6 then A q22 else bif q24 then EndAt 17 (.tup []) (XSt.mk ((31, .bool q24) :: (30, .int
 .i64 (Req.left (ix (Stt.table x) i))) :: (29, .ptr 20 [5] 5) :: (28, .bool q6) :: (27, .int .i64 bank) :: (26, .int .i64 (bnkI (Req.addr (ix (Stt.table x) i)) (Cfg.banks
 c))) :: (25, .int .i64 (Cfg.banks c)) :: (24, .ptr 17 [6] 6) :: (23, .int .i64 (Req.addr (ix (Stt.table x) i))) :: (22, .ptr 20 [2] 2) :: (9, .int .i64 (↑i : Int))
 :: (10, .ptr 20 [] 0) :: (21, e_Req (ix (Stt.table x) i)) :: (20, .ptr 15 [i] q2) :: (19, .int .i64 (↑i : Int)) :: q25) q21 21) v τ else bif decide (Req.left (ix
 (Stt.table x) i) = 0) then bif decide (List.length w ≤ List.length w) then bif decide (pl (List.length w) 1 * 8 ≤ 140737488355328) then A (XSt.mk ((17, q7) :: (8,
 .sl 21 [] 0 0 (pl (List.length w) 1) 1) :: (16, .int .i64 (↑(List.length (Stt.table x)) : Int)) :: (15, q8) :: q11) ((21, some (.tab (pl (List.length w) 1) 1 fun
 i_1 => .int .i64 (bif decide (i_1 < List.length w) then ix w i_1 else (↑i : Int)))) :: (20, some (e_Req (ix (Stt.table x) i))) :: (19, none) :: q19) 22) else False
 else False else A q22 else False else False else False else False
else bif q26 then EndAt 17 (.tup []) (XSt.mk q28 q20 20) v τ else bif q29 then ∃ (s_1 : Script
 × Int × Int), ArgsLe [e_Script s, .int .i64 (Stt.picks x), .int .i64 (↑(List.length w) : Int)] (q30 s_1) ∧ PreIs (List.length (Script.picks (Prod.fst s_1)) ≤ 1000000)
 ∧ ∀ (y : Int), y = pickF (Prod.fst s_1) (Prod.fst (Prod.snd s_1)) (Prod.snd (Prod.snd s_1)) → bif decide (0 ≤ y) then bif decide (y < (↑(List.length w) : Int)) then
 bif Nat.beq (q31 y) (q31 y) then bif decide (Int.toNat y < List.length w) then ∃ (s_2 : Script × Int × Int), ArgsLe q32 (q30 s_2) ∧ PreIs (List.length (Script.lats
 (Prod.fst s_2)) ≤ 1000000) ∧ ∀ (y_1 : Int), y_1 = q33 s_2 → bif decide (0 ≤ ix w (Int.toNat y)) then bif decide (ix w (Int.toNat y) < (↑(List.length (Stt.table x))
 : Int)) then bif Nat.beq (q36 y) (q36 y) then bif q37 y then bif q37 y then EndAt 17 (.tup []) (XSt.mk ((87, q38) :: (86, q10) :: (85, q39) :: (84, .int .i64 (Stt.lats
 x)) :: (83, q38) :: (82, q10) :: (81, q10) :: (80, .ptr 15 [Int.toNat (ix w (Int.toNat y)), 5] (q36 y)) :: (79, .ptr 15 [Int.toNat (ix w (Int.toNat y))] (q35 y))
 :: (78, .int .i64 y_1) :: (77, .int .i64 (Cfg.lat c)) :: (76, q40) :: (75, .int .i64 (Stt.lats x)) :: (74, q38) :: (73, q10) :: (72, q10) :: (71, e_Script s) ::
 (70, e_i64 (ix w (Int.toNat y))) :: (69, .ptr 19 [Int.toNat y] (q31 y)) :: (68, .int .i64 y) :: (67, q9) :: (66, q8) :: (65, q41) :: (64, q10) :: (63, q10) :: (62,
 q42) :: (61, q10) :: (60, q43) :: (59, .int .i64 (Stt.picks x)) :: (58, q42) :: (57, q10) :: (56, q10) :: (11, .int .i64 y) :: (55, .int .i64 y) :: (54, .int .i64
 (↑(List.length w) : Int)) :: (53, q9) :: (52, .int .i64 (Stt.picks x)) :: (51, q42) :: (50, q10) :: (49, q10) :: (48, e_Script s) :: q45) [(19, some (e_tb 1 e_i64
 w)), (18, some (e_Script s)), (17, some (e_Cfg c)), (15, some (.tab (List.length (Stt.table x)) 8 fun j => .agg 8 [.bool (bif Nat.beq j (Int.toNat (ix w (Int.toNat
 y))) then Req.store (q46 y) else Req.store (ix (Stt.table x) j)), .int .i64 (bif Nat.beq j (Int.toNat (ix w (Int.toNat y))) then Req.op (q46 y) else Req.op (ix (Stt.table
 x) j)), .int .i64 (bif Nat.beq j (Int.toNat (ix w (Int.toNat y))) then Req.addr (q46 y) else Req.addr (ix (Stt.table x) j)), .int .i64 (bif Nat.beq j (Int.toNat
 (ix w (Int.toNat y))) then Req.size (q46 y) else Req.size (ix (Stt.table x) j)), .int .u32 (bif Nat.beq j (Int.toNat (ix w (Int.toNat y))) then Req.val (q46 y) else
 Req.val (ix (Stt.table x) j)), .int .i64 (bif Nat.beq j (Int.toNat (ix w (Int.toNat y))) then y_1 else Req.left (ix (Stt.table x) j)), .int .i64 (bif Nat.beq j (Int.toNat
 (ix w (Int.toNat y))) then Req.reg (q46 y) else Req.reg (ix (Stt.table x) j)), .int .i64 (bif Nat.beq j (Int.toNat (ix w (Int.toNat y))) then Req.tag (q46 y) else
 Req.tag (ix (Stt.table x) j))])), (14, some (e_Script s)), (13, some (e_Cfg c)), (3, some q17), (2, some (.agg 92 [.int .i64 (Stt.cycle x), e_Side (Stt.a x), e_Side
 (Stt.e x), e_row 3 e_Slot (Stt.ldq x), e_row 1 e_u32 (Stt.sdq x), e_row 1 e_u32 (Stt.aeq x), e_row 1 e_bool (Stt.abq x), e_row 1 e_bool (Stt.ebq x), e_row 5 e_Entry
 (Stt.saq x), q8, e_row 1 e_u8 (Stt.mem x), e_row 3 e_Wr (Stt.writes x), e_Trp (Stt.trap x), q39, q43, .int .i64 (Stt.tags x)]))] 20) v τ else False else False else
 False else False else False else False else False else False else False else bif decide (0 < (↑(List.length w) : Int)) then bif decide (0 < List.length w) then ∃
 (s_1 : Script × Int × Int), ArgsLe q32 (q30 s_1) ∧ PreIs (List.length (Script.lats (Prod.fst s_1)) ≤ 1000000) ∧ ∀ (y : Int), y = q33 s_1 → bif decide (0 ≤ ix w 0)
 then bif decide (ix w 0 < (↑(List.length (Stt.table x)) : Int)) then bif Nat.beq q50 q50 then bif q51 then bif q51 then EndAt 17 (.tup []) (XSt.mk ((87, q38) ::
 (86, q10) :: (85, q39) :: (84, .int .i64 (Stt.lats x)) :: (83, q38) :: (82, q10) :: (81, q10) :: (80, .ptr 15 [Int.toNat (ix w 0), 5] q50) :: (79, .ptr 15 [Int.toNat
 (ix w 0)] q49) :: (78, .int .i64 y) :: (77, .int .i64 (Cfg.lat c)) :: (76, q40) :: (75, .int .i64 (Stt.lats x)) :: (74, q38) :: (73, q10) :: (72, q10) :: (71, e_Script
 s) :: (70, e_i64 (ix w 0)) :: (69, .ptr 19 [0] 0) :: (68, .int .i64 0) :: (67, q9) :: (66, q8) :: (65, q41) :: (64, q10) :: (63, q10) :: q45) [(19, some (e_tb 1
 e_i64 w)), (18, some (e_Script s)), (17, some (e_Cfg c)), (15, some (.tab (List.length (Stt.table x)) 8 fun j => .agg 8 [.bool (bif q52 j then Req.store q53 else
 Req.store (ix (Stt.table x) j)), .int .i64 (bif q52 j then Req.op q53 else Req.op (ix (Stt.table x) j)), .int .i64 (bif q52 j then Req.addr q53 else Req.addr (ix
 (Stt.table x) j)), .int .i64 (bif q52 j then Req.size q53 else Req.size (ix (Stt.table x) j)), .int .u32 (bif q52 j then Req.val q53 else Req.val (ix (Stt.table
 x) j)), .int .i64 (bif q52 j then y else Req.left (ix (Stt.table x) j)), .int .i64 (bif q52 j then Req.reg q53 else Req.reg (ix (Stt.table x) j)), .int .i64 (bif
 q52 j then Req.tag q53 else Req.tag (ix (Stt.table x) j))])), (14, some (e_Script s)), (13, some (e_Cfg c)), (3, some q17), (2, some (.agg 92 (.int .i64 (Stt.cycle
 x) :: e_Side (Stt.a x) :: e_Side (Stt.e x) :: e_row 3 e_Slot (Stt.ldq x) :: e_row 1 e_u32 (Stt.sdq x) :: e_row 1 e_u32 (Stt.aeq x) :: e_row 1 e_bool (Stt.abq x)
 :: e_row 1 e_bool (Stt.ebq x) :: e_row 5 e_Entry (Stt.saq x) :: q8 :: e_row 1 e_u8 (Stt.mem x) :: e_row 3 e_Wr (Stt.writes x) :: e_Trp (Stt.trap x) :: q39 :: q18)))]
 20) v τ else False else False else False else False else False else False else False) := by kernel_rfl
end Go.Proofs.Ytbemlndjdbopeaa

/- A bank begins a request. -/
namespace Go.Proofs.Ytbemlndjdbopeaa
open Go.Ra
set_option linter.unusedVariables false
set_option linter.unusedSimpArgs false
theorem sp_bnk1 : SpOk Try.prog (22, bnkSp) := fun args nd v h hn => by
  simp only [bnkSp] at h
  split at h
  · simp only [Option.some.injEq, Prod.mk.injEq] at h
    obtain ⟨rfl, rfl⟩ := h
    simp only [allT_cons, decide_eq_true_eq] at hn
    rename_i a n
    have h := hn.1
    refine pureX (u := 80) (k := 20) mix TE0ok ?_
    refine Eq.mpr (r_bnk1 a n _) ?_
    unfold bnkI
    by_cases g1 : a < 0
    · simp [g1]
    by_cases g2 : n < 1
    · simp [g1, g2]
    have g3 : ¬ n = 0 := by omega
    rw [if_neg (by omega)]
    simp only [g1, g2, g3, decide_true, decide_false, cond_true, cond_false, allN_true, Nat.le_refl, Int.toNat_natCast, Nat.beq_refl, pk_and, pk_or, Bool.not_true, Bool.not_false, not_true_eq_false, not_false_eq_true, Bool.and_true, Bool.true_and, Bool.and_self, ge_iff_le, Int.le_refl, if_true, if_false, reduceCtorEq, eq_self, BEq.rfl]
    refine conI ?_
    rw [Int.tdiv_eq_ediv_of_nonneg (by omega), wrap_i64 (x := a / 4) (by omega) (by omega), Int.tmod_eq_emod_of_nonneg (by omega)]
  · cases h
theorem sp_bnk2 : SpOk Try.prog (23, bnkSp) := fun args nd v h hn => by
  simp only [bnkSp] at h
  split at h
  · simp only [Option.some.injEq, Prod.mk.injEq] at h
    obtain ⟨rfl, rfl⟩ := h
    simp only [allT_cons, decide_eq_true_eq] at hn
    rename_i a n
    have h := hn.1
    refine pureX (u := 80) (k := 20) mix TE0ok ?_
    refine Eq.mpr (r_bnk2 a n _) ?_
    unfold bnkI
    by_cases g1 : a < 0
    · simp [g1]
    by_cases g2 : n < 1
    · simp [g1, g2]
    have g3 : ¬ n = 0 := by omega
    rw [if_neg (by omega)]
    simp only [g1, g2, g3, decide_true, decide_false, cond_true, cond_false, allN_true, Nat.le_refl, Int.toNat_natCast, Nat.beq_refl, pk_and, pk_or, Bool.not_true, Bool.not_false, not_true_eq_false, not_false_eq_true, Bool.and_true, Bool.true_and, Bool.and_self, ge_iff_le, Int.le_refl, if_true, if_false, reduceCtorEq, eq_self, BEq.rfl]
    refine conI ?_
    rw [Int.tdiv_eq_ediv_of_nonneg (by omega), wrap_i64 (x := a / 4) (by omega) (by omega), Int.tmod_eq_emod_of_nonneg (by omega)]
  · cases h
theorem TG0ok : TabOk Try.prog TG0 := mkT2_ok (clok_banks.app clok_ref15) ⟨sp_bnk1, trivial⟩ trivial ⟨sk_lat, sk_pick, trivial⟩ trivial
theorem wait_mem {c : Cfg} {b : Int} {l : List Req} {k : Nat} {x : Int} (h : x ∈ waitK c b l k) : 0 ≤ x ∧ x < k := by
  unfold waitK at h
  obtain ⟨j, hj, rfl⟩ := List.mem_map.1 h
  have := List.mem_range.1 (List.mem_filter.1 hj).1
  omega
theorem wait_step {c : Cfg} {b : Int} {l : List Req} {k : Nat} : waitK c b l (k + 1) = if isWt c b (ix l k) then waitK c b l k ++ [(k : Int)] else waitK c b l k := by
  unfold waitK
  rw [List.range_succ, List.filter_append, List.map_append]
  by_cases h : isWt c b (ix l k) = true
  · simp [h]
  · have h : isWt c b (ix l k) = false := by simpa using h
    simp [h]
theorem wait_len {c : Cfg} {b : Int} {l : List Req} {k : Nat} : (waitK c b l k).length ≤ k := by
  unfold waitK
  rw [List.length_map]
  have := List.length_filter_le (fun j => isWt c b (ix l j)) (List.range k)
  rw [List.length_range] at this
  exact this
theorem bg_fin {c : Cfg} {s : Script} {x : Stt} {k : Nat} {lt la pi : Int} {w : XV} {f : Nat → XV} (hk : k < x.table.length) (h1 : con (f k) = con (e_Req { ix x.table k with left := lt })) (h2 : ∀ j, j < x.table.length → ¬ j = k → con (f j) = con (e_Req (ix x.table j))) : EndAt 17 (.tup []) ⟨[], [(19, some w), (18, some (e_Script s)), (17, some (e_Cfg c)), (15, some (.tab x.table.length 8 f)), (14, some (e_Script s)), (13, some (e_Cfg c)), (3, some zX), (2, some (.agg 92 [.int .i64 x.cycle, e_Side x.a, e_Side x.e, e_row 3 e_Slot x.ldq, e_row 1 e_u32 x.sdq, e_row 1 e_u32 x.aeq, e_row 1 e_bool x.abq, e_row 1 e_bool x.ebq, e_row 5 e_Entry x.saq, .sl 15 [] 0 0 x.table.length 8, e_row 1 e_u8 x.mem, e_row 3 e_Wr x.writes, e_Trp x.trap, .int .i64 la, .int .i64 pi, .int .i64 x.tags]))], 20⟩ (.tup []) ⟨[], layT c s { x with lats := la, picks := pi, table := x.table.set k { ix x.table k with left := lt } }, 17⟩ := by
  have hl : (x.table.set k { ix x.table k with left := lt }).length = x.table.length := List.length_set
  have e1 : con (.tab x.table.length 8 f) = con (e_tb 8 e_Req (x.table.set k { ix x.table k with left := lt })) := by
    unfold e_tb
    rw [hl]
    refine con_tabC fun j hj => ?_
    rw [ix_set]
    by_cases he : j = k
    · rw [if_pos ⟨he, hk⟩, he, h1]
    · rw [if_neg (fun h => he h.1), h2 j hj he]
  have e2 : ∀ n, n = x.table.length → con (.agg 92 [.int .i64 x.cycle, e_Side x.a, e_Side x.e, e_row 3 e_Slot x.ldq, e_row 1 e_u32 x.sdq, e_row 1 e_u32 x.aeq, e_row 1 e_bool x.abq, e_row 1 e_bool x.ebq, e_row 5 e_Entry x.saq, .sl 15 [] 0 0 x.table.length 8, e_row 1 e_u8 x.mem, e_row 3 e_Wr x.writes, e_Trp x.trap, .int .i64 la, .int .i64 pi, .int .i64 x.tags]) = con (.agg 92 [.int .i64 x.cycle, e_Side x.a, e_Side x.e, e_row 3 e_Slot x.ldq, e_row 1 e_u32 x.sdq, e_row 1 e_u32 x.aeq, e_row 1 e_bool x.abq, e_row 1 e_bool x.ebq, e_row 5 e_Entry x.saq, .sl 15 [] 0 0 n 8, e_row 1 e_u8 x.mem, e_row 3 e_Wr x.writes, e_Trp x.trap, .int .i64 la, .int .i64 pi, .int .i64 x.tags]) := fun n hn => by rw [hn]
  exact ⟨.ofL (weakT ⟨le_is rfl, trivial⟩ ⟨congrArg some e1, rfl, rfl, rfl, congrArg some (e2 _ hl), trivial⟩ (Nat.le_refl _) rfl)⟩
theorem beg_in {c : Cfg} {s : Script} {x : Stt} {bank : Int} : WeakE 19 (XSt.st ⟨[(17, .int .i64 0), (16, .int .i64 x.table.length), (15, .sl 15 [] 0 0 x.table.length 8), (8, zNil), (5, .ptr 18 [] 0), (4, .ptr 17 [] 0), (2, .ptr 2 [] 0), (3, .int .i64 bank)], (18, some (e_Script s)) :: (17, some (e_Cfg c)) :: layT c s x, 19⟩) (bgSt c s x bank [] 0).st :=
  weakM [(0, 0), (1, 1), (2, 2), (3, 3), (4, 4), (5, 5), (6, 6), (7, 7), (8, 8), (9, 9), (10, 10), (11, 11), (12, 12), (13, 13), (14, 14), (15, 15), (16, 16), (17, 17), (18, 18)] rfl rfl rfl rfl rfl ⟨(k_is rfl rfl), (k_is rfl rfl), .sl rfl, k_nil rfl, .ptr rfl, .ptr rfl, (k_is rfl rfl), .ptr rfl, trivial⟩ ⟨⟨1, rfl⟩, (k_is rfl rfl), (k_is rfl rfl), (k_is rfl rfl), (k_is rfl rfl), (k_is rfl rfl), (k_is rfl rfl), .agg (.cons (k_is rfl rfl) (.cons (k_is rfl rfl) (.cons (k_is rfl rfl) (.cons (k_is rfl rfl) (.cons (k_is rfl rfl) (.cons (k_is rfl rfl) (.cons (k_is rfl rfl) (.cons (k_is rfl rfl) (.cons (k_is rfl rfl) (.cons (.sl rfl) (.cons (k_is rfl rfl) (.cons (k_is rfl rfl) (.cons (k_is rfl rfl) (.cons (k_is rfl rfl) (.cons (k_is rfl rfl) (.cons (k_is rfl rfl) .nil)))))))))))))))), trivial⟩
theorem gen_beg {c : Cfg} {s : Script} {x : Stt} {bank : Int} (hl0 : x.table.length ≤ 1000000) (hr0 : ∀ r ∈ x.table, r.wf) (hs : s.lats.length ≤ 1000000 ∧ s.picks.length ≤ 1000000) : Gen Try.prog 60 (cons [e_Cfg c, e_Script s, .ptr 2 [] 0, .int .i64 bank]) (XSt.st ⟨[], layT c s x, 17⟩) (con (.tup [])) (XSt.st ⟨[], layT c s (begF c s x bank), 17⟩) := by
  refine genG mix TG0ok t_banks_begin (Nat.le_of_ble_eq_true rfl) (σ := ⟨[], layT c s x, 17⟩) ?_
  refine Eq.mpr (r_beg0 c s x bank _ _) ?_
  refine loopG mix TG0ok (fun i : Nat => bgSt c s x bank (waitK c bank x.table i) i) (fun i => i ≤ x.table.length ∧ ∀ j, j < i → isBz c bank (ix x.table j) = false) (fun i => x.table.length - i) 0 ⟨Nat.zero_le _, fun j hj => by omega⟩ beg_in ?_
  rintro i ⟨hi, hp⟩
  have stp : waitK c bank x.table (i + 1) = _ := wait_step
  have hwl := wait_len (c := c) (b := bank) (l := x.table) (k := i)
  have hwm : ∀ m, m < (waitK c bank x.table i).length → 0 ≤ ix (waitK c bank x.table i) m ∧ ix (waitK c bank x.table i) m < i := fun m hm => wait_mem (ix_mem hm)
  have hfin : i = x.table.length → waitK c bank x.table i = waitK c bank x.table x.table.length := fun h => by rw [h]
  generalize waitK c bank x.table i = w at stp hwl hwm hfin ⊢
  refine Eq.mpr (r_beg1 c s x bank w i _ _ _) ?_
  by_cases hlt : i < x.table.length
  · have h1 : (i : Int) < (x.table.length : Int) := by omega
    have w1 : IntKind.i64.wrap ((i : Int) + 1) = ((i + 1 : Nat) : Int) := wrap_i64 (by omega) (by omega)
    have hr : (ix x.table i).wf := hr0 _ (ix_mem hlt)
    have nx : ∀ {τ : XSt} (w' : List Int), w' = waitK c bank x.table (i + 1) → isBz c bank (ix x.table i) = false → WeakE 19 τ.st (bgSt c s x bank w' (i + 1)).st → ∃ j, (j ≤ x.table.length ∧ ∀ k, k < j → isBz c bank (ix x.table k) = false) ∧ WeakE 19 τ.st (bgSt c s x bank (waitK c bank x.table j) j).st ∧ x.table.length - j < x.table.length - i := fun w' hw hz hk => ⟨i + 1, ⟨hlt, fun j hj => by
      by_cases hji : j = i
      · subst hji; exact hz
      · exact hp j (by omega)⟩, by rw [← hw]; exact hk, by omega⟩
    have bad : isBz c bank (ix x.table i) = true → begF c s x bank = x := fun h => by
      unfold begF
      rw [if_pos (List.any_eq_true.2 ⟨_, ix_mem hlt, h⟩)]
    have b2 : (w.length + 1) * 8 ≤ 140737488355328 := by omega
    have ha : (ix x.table i).addr ≤ 9223372036854775807 := hr.2.1.2
    simp only [h1, hlt, w1, b2, ha, decide_true, cond_true, Int.toNat_natCast, Nat.le_refl, pl_eq, Nat.beq_refl]
    by_cases hb : bnkI (ix x.table i).addr c.banks = bank
    case neg =>
      simp only [hb, not_false_eq_true, decide_true, cond_true]
      refine nx w (by rw [stp, if_neg (by simp [isWt, hb])]) (by simp [isBz, hb]) ?_
      exact .ofL (weakT ⟨le_is rfl, le_is rfl, le_is rfl, le_is rfl, le_is rfl, le_is rfl, le_is rfl, le_is rfl, trivial⟩ ⟨rfl, rfl, rfl, rfl, rfl, rfl, rfl, rfl, trivial⟩ (Nat.le_succ _) rfl)
    simp only [hb, not_true_eq_false, decide_false, cond_false]
    by_cases hg : (ix x.table i).left > 0
    · simp only [hg, decide_true, cond_true]
      rw [bad (by simp [isBz, hb]; exact hg)]
      exact ⟨.ofL (weakT ⟨le_is rfl, trivial⟩ ⟨rfl, rfl, rfl, rfl, rfl, trivial⟩ (Nat.le_refl _) rfl)⟩
    have nb : isBz c bank (ix x.table i) = false := by simp [isBz, hb]; omega
    simp only [hg, decide_false, cond_false]
    by_cases hz : (ix x.table i).left = 0
    · simp only [hz, decide_true, cond_true]
      refine nx (w ++ [(i : Int)]) (by rw [stp, if_pos (by simp [isWt, hb, hz])]) nb ?_
      exact weakM [(0, 0), (1, 1), (2, 2), (3, 3), (4, 4), (5, 5), (6, 6), (7, 7), (8, 8), (9, 9), (10, 10), (11, 11), (12, 12), (13, 13), (14, 14), (15, 15), (16, 16), (17, 17), (18, 18), (19, 21)] rfl rfl rfl rfl rfl ⟨(k_is rfl rfl), (k_is rfl rfl), .sl rfl, (by show leK _ (.sl 21 [] 0 0 (w.length + 1) 1) (.sl 19 [] 0 0 (w ++ [_]).length 1); rw [app_len]; exact .sl rfl), .ptr rfl, .ptr rfl, (k_is rfl rfl), .ptr rfl, trivial⟩ ⟨(k_apT (fun j hj => by simp only [hj, decide_true, cond_true]; rfl) (by simp; rfl)), (k_is rfl rfl), (k_is rfl rfl), (k_is rfl rfl), (k_is rfl rfl), (k_is rfl rfl), (k_is rfl rfl), .agg (.cons (k_is rfl rfl) (.cons (k_is rfl rfl) (.cons (k_is rfl rfl) (.cons (k_is rfl rfl) (.cons (k_is rfl rfl) (.cons (k_is rfl rfl) (.cons (k_is rfl rfl) (.cons (k_is rfl rfl) (.cons (k_is rfl rfl) (.cons (.sl rfl) (.cons (k_is rfl rfl) (.cons (k_is rfl rfl) (.cons (k_is rfl rfl) (.cons (k_is rfl rfl) (.cons (k_is rfl rfl) (.cons (k_is rfl rfl) .nil)))))))))))))))), trivial⟩
    · simp only [hz, decide_false, cond_false]
      refine nx w (by rw [stp, if_neg (by simp [isWt, hb, hz])]) nb ?_
      exact .ofL (weakT ⟨le_is rfl, le_is rfl, le_is rfl, le_is rfl, le_is rfl, le_is rfl, le_is rfl, le_is rfl, trivial⟩ ⟨rfl, rfl, rfl, rfl, rfl, rfl, rfl, rfl, trivial⟩ (Nat.le_succ _) rfl)
  · have h1 : ¬ (i : Int) < (x.table.length : Int) := by omega
    obtain rfl : i = x.table.length := by omega
    have na : ¬ x.table.any (isBz c bank) = true := fun h => by
      obtain ⟨y, hy, hb⟩ := List.any_eq_true.1 h
      obtain ⟨j, hj, rfl⟩ := List.mem_iff_getElem.1 hy
      have := hp j hj
      rw [ix_lt hj, hb] at this
      cases this
    have ef : begF c s x bank = if w.length = 0 then x else { x with picks := if w.length > 1 then IntKind.i64.wrap (x.picks + 1) else x.picks, lats := IntKind.i64.wrap (x.lats + 1), table := x.table.set (whichF s x w) { ix x.table (whichF s x w) with left := latF s x.lats c.lat } } := by
      unfold begF
      rw [if_neg na, ← hfin rfl]
    rw [ef]
    simp only [h1, decide_false, cond_false]
    by_cases hz : w.length = 0
    · have hz' : (w.length : Int) = 0 := by omega
      rw [if_pos hz]
      simp only [hz', decide_true, cond_true]
      exact ⟨.ofL (weakT ⟨le_is rfl, trivial⟩ ⟨rfl, rfl, rfl, rfl, rfl, trivial⟩ (Nat.le_refl _) rfl)⟩
    have hz' : ¬ (w.length : Int) = 0 := by omega
    rw [if_neg hz]
    simp only [hz', decide_false, cond_false]
    by_cases hm : w.length > 1
    · have hm' : (w.length : Int) > 1 := by omega
      simp only [hm', hm, decide_true, cond_true, if_true]
      refine ⟨(s, x.picks, (w.length : Int)), .rfl, ⟨hs.2⟩, ?_⟩
      intro y hy
      replace hy : y = pickF s x.picks w.length := hy
      have hyr := pick_rng s x.picks (n := (w.length : Int)) (by omega)
      rw [← hy] at hyr
      have y1 : 0 ≤ y := hyr.1
      have y2 : y < (w.length : Int) := hyr.2
      have y3 : y.toNat < w.length := by omega
      simp only [y1, y2, y3, decide_true, cond_true, Nat.beq_refl]
      refine ⟨(s, x.lats, c.lat), .rfl, ⟨hs.1⟩, ?_⟩
      intro z hz2
      replace hz2 : z = latF s x.lats c.lat := hz2
      obtain ⟨k1, k2⟩ := hwm y.toNat y3
      have k3 : (ix w y.toNat).toNat < x.table.length := by omega
      simp only [k1, k2, k3, decide_true, cond_true, Nat.beq_refl]
      have hwh : whichF s x w = (ix w y.toNat).toNat := by
        unfold whichF
        rw [if_pos hm, ← hy]
      rw [hwh, ← hz2]
      refine ⟨(bg_fin (c := c) (s := s) (w := e_tb 1 e_i64 w) k3 ?_ fun j hj he => ?_).out⟩
      · simp only [Nat.beq_refl, cond_true]; rfl
      · simp only [beq_ne he, cond_false]; rfl
    · have hm' : ¬ (w.length : Int) > 1 := by omega
      have y2 : (0 : Int) < (w.length : Int) := by omega
      have y3 : 0 < w.length := by omega
      simp only [hm', hm, y2, y3, decide_true, decide_false, cond_true, cond_false, if_false]
      refine ⟨(s, x.lats, c.lat), .rfl, ⟨hs.1⟩, ?_⟩
      intro z hz2
      replace hz2 : z = latF s x.lats c.lat := hz2
      obtain ⟨k1, k2⟩ := hwm 0 y3
      have k3 : (ix w 0).toNat < x.table.length := by omega
      simp only [k1, k2, k3, decide_true, cond_true, Nat.beq_refl]
      have hwh : whichF s x w = (ix w 0).toNat := by
        unfold whichF
        rw [if_neg hm]; rfl
      rw [hwh, ← hz2]
      refine ⟨(bg_fin (c := c) (s := s) (w := e_tb 1 e_i64 w) k3 ?_ fun j hj he => ?_).out⟩
      · simp only [Nat.beq_refl, cond_true]; rfl
      · simp only [beq_ne he, cond_false]; rfl
end Go.Proofs.Ytbemlndjdbopeaa

/- A cycle of the banks, by the program. -/
namespace Go.Proofs.Ytbemlndjdbopeaa
open Go.Ra
set_option linter.unusedVariables false
set_option linter.unusedSimpArgs false
/-- The first so many banks. -/
def bgK (c : Cfg) (s : Script) (x : Stt) : Nat → Stt
  | 0 => x
  | k + 1 => begF c s (bgK c s x k) (k : Int)
/-- A cycle of the banks. -/
def advF (c : Cfg) (s : Script) (x : Stt) : Stt := if 1 ≤ c.banks ∧ c.banks ≤ 16 ∧ 1 ≤ c.lat ∧ c.lat ≤ 1000 then bgK c s (endF x) c.banks.toNat else x
def endG : List XV → XSt → Option ((XV → XSt → Prop) → Prop) := gkOf (fun q : Cfg × Script × Stt => [.ptr 2 [] 0]) (fun q => ⟨[], layO q.1 q.2.1 q.2.2, 15⟩) (fun q => q.2.2.ok ∧ q.2.2.writes.length + q.2.2.table.length ≤ 1000000) (fun q => (q.1, q.2.1, endF q.2.2)) (fun y => .tup []) (fun y => ⟨[], layT y.1 y.2.1 y.2.2, 17⟩)
def begG : List XV → XSt → Option ((XV → XSt → Prop) → Prop) := gkOf (fun q : Cfg × Script × Stt × Int => [e_Cfg q.1, e_Script q.2.1, .ptr 2 [] 0, .int .i64 q.2.2.2]) (fun q => ⟨[], layT q.1 q.2.1 q.2.2.1, 17⟩) (fun q => q.2.2.1.table.length ≤ 1000000 ∧ (∀ r ∈ q.2.2.1.table, r.wf) ∧ q.2.1.lats.length ≤ 1000000 ∧ q.2.1.picks.length ≤ 1000000) (fun q => (q.1, q.2.1, begF q.1 q.2.1 q.2.2.1 q.2.2.2)) (fun y => .tup []) (fun y => ⟨[], layT y.1 y.2.1 y.2.2, 17⟩)
def TMv : Tab := mkT2 qq cl_banks [] [] [] [(59, endG), (60, begG)]
def lay0 (x : Stt) : List (Nat × Option XV) := [(12, some (e_tb 3 e_Wr x.writes)), (11, some (e_tb 1 e_u8 x.mem)), (10, some (e_tb 1 e_bool x.ebq)), (9, some (e_tb 1 e_bool x.abq)), (8, some (e_tb 1 e_u32 x.aeq)), (7, some (e_tb 1 e_u32 x.sdq)), (6, some (e_tb 8 e_Req x.table)), (5, some (e_tb 5 e_Entry x.saq)), (4, some (e_tb 3 e_Slot x.ldq)), (3, some zX), (2, some (bxO x))]
def layF (x : Stt) : List (Nat × Option XV) := [(3, some zX), (2, some (e_Stt x))]
def mvSt (c : Cfg) (s : Script) (x : Stt) (n : Int) (k : Nat) : XSt := ⟨[(29, .int .i64 k), (28, .int .i64 n), (4, .ptr 14 [] 0), (3, .ptr 13 [] 0), (2, .ptr 2 [] 0)], layT c s x, 17⟩
def movG : List XV → XSt → Option ((XV → XSt → Prop) → Prop) := gkOf (fun q : Cfg × Script × Stt => [e_Cfg q.1, e_Script q.2.1, .ptr 2 [] 0]) (fun q => ⟨[], lay0 q.2.2, 13⟩) (fun q => q.2.2.ok ∧ q.2.2.writes.length + q.2.2.table.length ≤ 1000000 ∧ q.2.1.lats.length ≤ 1000000 ∧ q.2.1.picks.length ≤ 1000000) (fun q => advF q.1 q.2.1 q.2.2) (fun y => .tup []) (fun y => ⟨[], layF y, 17⟩)
def TAd : Tab := mkT2 qq cl_banks [] gl_slices [] [(49, movG)]
theorem r_mov0 (c : Cfg) (s : Script) (x : Stt) (v : XV) (τ : XSt) : (goG Try.prog TMv [] 13 v τ (.run c_banks_Move) [] ⟨envX 0 [e_Cfg c, e_Script s, .ptr 2 [] 0], lay0 x, 13⟩) = (let q1 : Bool := decide (Cfg.banks c < 1);
let q2 : Bool := !q1;
let q3 : Bool := decide (Cfg.banks c > 16);
let q4 : Bool := bif q1 then true else q3;
let q5
 : Bool := !q4;
let q6 : Bool := decide (Cfg.lat c < 1);
let q7 : Bool := bif q4 then true else q6;
let q8 : Bool := !q7;
let q9 : Bool := decide (Cfg.lat c > 1000);
let
 q10 : Bool := bif q7 then true else q9;
let q11 : XV := .ptr 13 [9] 9;
let q12 : XV := .bool q7;
let q13 : XV := .bool q4;
let q14 : XV := .ptr 13 [6] 6;
let q15
 : XV := .bool q1;
let q16 : XV := .ptr 14 [] 0;
let q17 : XV := .ptr 13 [] 0;
let q18 : XV := .ptr 2 [] 0;
let q19 : List (Nat × XV) := [(2, q18)];
let q20 : List
 (Nat × XV) := (24, .bool q10) :: (23, .opt q8 (.bool q9)) :: (22, .opt q8 (.int .i64 (Cfg.lat c))) :: (21, .opt q8 q11) :: (20, q12) :: (19, q12) :: (18, .opt q5
 (.bool q6)) :: (17, .opt q5 (.int .i64 (Cfg.lat c))) :: (16, .opt q5 q11) :: (15, q13) :: (14, q13) :: (13, .opt q2 (.bool q3)) :: (12, .opt q2 (.int .i64 (Cfg.banks
 c))) :: (11, .opt q2 q14) :: (10, q15) :: (9, q15) :: (8, .int .i64 (Cfg.banks c)) :: (7, q14) :: (4, q16) :: (3, q17) :: (0, e_Cfg c) :: (1, e_Script s) :: q19;
let
 q21 : List XV := [.int .i64 0, .int .i64 0, .int .i64 0];
let q22 : XV := .agg 3 q21;
let q23 : XV := .agg 38 [.tab 16 1 fun x => .int .u32 0, .tab 16 1 fun x =>
 .int .i64 0, q22, .int .i64 0, .bool false, .int .i64 0];
let q24 : XV := .row true 0 0 fun x => .unk;
let q25 : XV := .agg 92 (.int .i64 0 :: q23 :: q23 :: q24
 :: q24 :: q24 :: q24 :: q24 :: q24 :: q24 :: q24 :: q24 :: q22 :: q21);
let q26 : List (Nat × Option XV) := [(14, some (e_Script s)), (13, some (e_Cfg c)), (12,
 some (e_tb 3 e_Wr (Stt.writes x))), (11, some (e_tb 1 e_u8 (Stt.mem x))), (10, some (e_tb 1 e_bool (Stt.ebq x))), (9, some (e_tb 1 e_bool (Stt.abq x))), (8, some
 (e_tb 1 e_u32 (Stt.aeq x))), (7, some (e_tb 1 e_u32 (Stt.sdq x))), (6, some (e_tb 8 e_Req (Stt.table x))), (5, some (e_tb 5 e_Entry (Stt.saq x))), (4, some (e_tb
 3 e_Slot (Stt.ldq x))), (3, some q25), (2, some (.agg 92 [.int .i64 (Stt.cycle x), e_Side (Stt.a x), e_Side (Stt.e x), .sl 4 [] 0 0 (List.length (Stt.ldq x)) 3,
 .sl 7 [] 0 0 (List.length (Stt.sdq x)) 1, .sl 8 [] 0 0 (List.length (Stt.aeq x)) 1, .sl 9 [] 0 0 (List.length (Stt.abq x)) 1, .sl 10 [] 0 0 (List.length (Stt.ebq
 x)) 1, .sl 5 [] 0 0 (List.length (Stt.saq x)) 5, .sl 6 [] 0 0 (List.length (Stt.table x)) 8, .sl 11 [] 0 0 (List.length (Stt.mem x)) 1, .sl 12 [] 0 0 (List.length
 (Stt.writes x)) 3, e_Trp (Stt.trap x), .int .i64 (Stt.lats x), .int .i64 (Stt.picks x), .int .i64 (Stt.tags x)]))];
let q27 : List XV := [q18];
let q28 : Cfg × Script
 × Stt → XV := fun (s : Cfg × Script × Stt) => e_tb 8 e_Req (Stt.table (Prod.snd (Prod.snd s)));
let q29 : Cfg × Script × Stt → XV := fun (s : Cfg × Script × Stt)
 => .int .i64 (Stt.cycle (Prod.snd (Prod.snd s)));
let q30 : Cfg × Script × Stt → Nat := fun (s : Cfg × Script × Stt) => List.length (Stt.table (Prod.snd (Prod.snd
 s)));
let q31 : Cfg × Script × Stt → Nat := fun (s : Cfg × Script × Stt) => List.length (Stt.writes (Prod.snd (Prod.snd s)));
let q32 : Cfg × Script × Stt → List
 XV := fun (s : Cfg × Script × Stt) => [e_Trp (Stt.trap (Prod.snd (Prod.snd s))), .int .i64 (Stt.lats (Prod.snd (Prod.snd s))), .int .i64 (Stt.picks (Prod.snd (Prod.snd
 s))), .int .i64 (Stt.tags (Prod.snd (Prod.snd s)))];
bif bif q1 then true else q2 then bif bif q4 then true else q5 then bif bif q7 then true else q8 then bif q10
 then EndAt 13 (.tup []) (XSt.mk q20 q26 15) v τ else ∃ (s : Cfg × Script × Stt), ArgsLe q27 q27 ∧ MemIs (XSt.mk ((25, q18) :: q20) q26 15) (XSt.mk [] [(14, some
 (e_Script (Prod.fst (Prod.snd s)))), (13, some (e_Cfg (Prod.fst s))), (12, some (e_tb 3 e_Wr (Stt.writes (Prod.snd (Prod.snd s))))), (11, some (e_tb 1 e_u8 (Stt.mem
 (Prod.snd (Prod.snd s))))), (10, some (e_tb 1 e_bool (Stt.ebq (Prod.snd (Prod.snd s))))), (9, some (e_tb 1 e_bool (Stt.abq (Prod.snd (Prod.snd s))))), (8, some (e_tb
 1 e_u32 (Stt.aeq (Prod.snd (Prod.snd s))))), (7, some (e_tb 1 e_u32 (Stt.sdq (Prod.snd (Prod.snd s))))), (6, some (q28 s)), (5, some (e_tb 5 e_Entry (Stt.saq (Prod.snd
 (Prod.snd s))))), (4, some (e_tb 3 e_Slot (Stt.ldq (Prod.snd (Prod.snd s))))), (3, some q25), (2, some (.agg 92 (q29 s :: e_Side (Stt.a (Prod.snd (Prod.snd s)))
 :: e_Side (Stt.e (Prod.snd (Prod.snd s))) :: .sl 4 [] 0 0 (List.length (Stt.ldq (Prod.snd (Prod.snd s)))) 3 :: .sl 7 [] 0 0 (List.length (Stt.sdq (Prod.snd (Prod.snd
 s)))) 1 :: .sl 8 [] 0 0 (List.length (Stt.aeq (Prod.snd (Prod.snd s)))) 1 :: .sl 9 [] 0 0 (List.length (Stt.abq (Prod.snd (Prod.snd s)))) 1 :: .sl 10 [] 0 0 (List.length
 (Stt.ebq (Prod.snd (Prod.snd s)))) 1 :: .sl 5 [] 0 0 (List.length (Stt.saq (Prod.snd (Prod.snd s)))) 5 :: .sl 6 [] 0 0 (q30 s) 8 :: .sl 11 [] 0 0 (List.length (Stt.mem
 (Prod.snd (Prod.snd s)))) 1 :: .sl 12 [] 0 0 (q31 s) 3 :: q32 s)))] 15) ∧ PreIs (Stt.ok (Prod.snd (Prod.snd s)) ∧ q31 s + q30 s ≤ 1000000) ∧ ∀ (y : Cfg × Script
 × Stt), y = (Prod.fst s, Prod.fst (Prod.snd s), endF (Prod.snd (Prod.snd s))) → LoopAt (Ok Try.prog (Tab.q TMv)) c_banks_Move_l1 (XSt.mk ((29, .int .i64 0) :: (28,
 .int .i64 (Cfg.banks (Prod.fst y))) :: (4, q16) :: (3, q17) :: q19) [(15, some (q28 y)), (14, some (e_Script (Prod.fst (Prod.snd y)))), (13, some (e_Cfg (Prod.fst
 y))), (3, some q25), (2, some (.agg 92 (q29 y :: e_Side (Stt.a (Prod.snd (Prod.snd y))) :: e_Side (Stt.e (Prod.snd (Prod.snd y))) :: e_row 3 e_Slot (Stt.ldq (Prod.snd
 (Prod.snd y))) :: e_row 1 e_u32 (Stt.sdq (Prod.snd (Prod.snd y))) :: e_row 1 e_u32 (Stt.aeq (Prod.snd (Prod.snd y))) :: e_row 1 e_bool (Stt.abq (Prod.snd (Prod.snd
 y))) :: e_row 1 e_bool (Stt.ebq (Prod.snd (Prod.snd y))) :: e_row 5 e_Entry (Stt.saq (Prod.snd (Prod.snd y))) :: .sl 15 [] 0 0 (q30 y) 8 :: e_row 1 e_u8 (Stt.mem
 (Prod.snd (Prod.snd y))) :: e_row 3 e_Wr (Stt.writes (Prod.snd (Prod.snd y))) :: q32 y)))] 17) [Frm.blk 0] (finGR [] 13 v τ) else False else False
else False) :=
 by kernel_rfl
theorem r_mov1 (c : Cfg) (s : Script) (x : Stt) (n : Int) (k : Nat) (v : XV) (τ : XSt) (A : XSt → Prop) : (goG Try.prog TMv [] 13 v τ (.run c_banks_Move_l1) [.lp c_banks_Move_l1 A, .blk 0] (mvSt c s x n k)) = (let q1 : Bool := decide ((↑k : Int) < n);
let q2 : XV := .ptr 2 [] 0;
let q3 : Cfg × Script × Stt × Int → Script := fun (s : Cfg × Script × Stt × Int) => Prod.fst
 (Prod.snd s);
let q4 : Cfg × Script × Stt × Int → XV := fun (s : Cfg × Script × Stt × Int) => e_Script (q3 s);
let q5 : Cfg × Script × Stt × Int → Int := fun (s
 : Cfg × Script × Stt × Int) => Prod.snd (Prod.snd (Prod.snd s));
let q6 : List (Nat × XV) := [(28, .int .i64 n), (4, .ptr 14 [] 0), (3, .ptr 13 [] 0), (2, q2)];
let
 q7 : List (Nat × XV) := (30, .bool q1) :: (29, .int .i64 (↑k : Int)) :: q6;
let q8 : List XV := [.int .i64 0, .int .i64 0, .int .i64 0];
let q9 : XV := .agg 3 q8;
let
 q10 : XV := .agg 38 [.tab 16 1 fun x => .int .u32 0, .tab 16 1 fun x => .int .i64 0, q9, .int .i64 0, .bool false, .int .i64 0];
let q11 : XV := .row true 0 0 fun
 x => .unk;
let q12 : XV := .agg 92 (.int .i64 0 :: q10 :: q10 :: q11 :: q11 :: q11 :: q11 :: q11 :: q11 :: q11 :: q11 :: q11 :: q9 :: q8);
let q13 : List (Nat ×
 Option XV) := [(15, some (e_tb 8 e_Req (Stt.table x))), (14, some (e_Script s)), (13, some (e_Cfg c)), (3, some q12), (2, some (.agg 92 [.int .i64 (Stt.cycle x),
 e_Side (Stt.a x), e_Side (Stt.e x), e_row 3 e_Slot (Stt.ldq x), e_row 1 e_u32 (Stt.sdq x), e_row 1 e_u32 (Stt.aeq x), e_row 1 e_bool (Stt.abq x), e_row 1 e_bool
 (Stt.ebq x), e_row 5 e_Entry (Stt.saq x), .sl 15 [] 0 0 (List.length (Stt.table x)) 8, e_row 1 e_u8 (Stt.mem x), e_row 3 e_Wr (Stt.writes x), e_Trp (Stt.trap x),
 .int .i64 (Stt.lats x), .int .i64 (Stt.picks x), .int .i64 (Stt.tags x)]))];
let q14 : Cfg × Script × Stt × Int → Stt := fun (s : Cfg × Script × Stt × Int) => Prod.fst
 (Prod.snd (Prod.snd s));
let q15 : Cfg × Script × Stt × Int → List Req := fun (s : Cfg × Script × Stt × Int) => Stt.table (q14 s);
let q16 : Cfg × Script × Stt ×
 Int → Nat := fun (s : Cfg × Script × Stt × Int) => List.length (q15 s);
bif q1 then ∃ (s_1 : Cfg × Script × Stt × Int), ArgsLe [e_Cfg c, e_Script s, q2, .int .i64
 (↑k : Int)] [e_Cfg (Prod.fst s_1), q4 s_1, q2, .int .i64 (q5 s_1)] ∧ MemIs (XSt.mk ((35, .int .i64 (↑k : Int)) :: (34, q2) :: (33, e_Script s) :: (32, e_Cfg c) ::
 (6, .int .i64 (↑k : Int)) :: (31, .int .i64 (↑k : Int)) :: q7) q13 17) (XSt.mk [] [(15, some (e_tb 8 e_Req (q15 s_1))), (14, some (q4 s_1)), (13, some (e_Cfg (Prod.fst
 s_1))), (3, some q12), (2, some (.agg 92 [.int .i64 (Stt.cycle (q14 s_1)), e_Side (Stt.a (q14 s_1)), e_Side (Stt.e (q14 s_1)), e_row 3 e_Slot (Stt.ldq (q14 s_1)),
 e_row 1 e_u32 (Stt.sdq (q14 s_1)), e_row 1 e_u32 (Stt.aeq (q14 s_1)), e_row 1 e_bool (Stt.abq (q14 s_1)), e_row 1 e_bool (Stt.ebq (q14 s_1)), e_row 5 e_Entry (Stt.saq
 (q14 s_1)), .sl 15 [] 0 0 (q16 s_1) 8, e_row 1 e_u8 (Stt.mem (q14 s_1)), e_row 3 e_Wr (Stt.writes (q14 s_1)), e_Trp (Stt.trap (q14 s_1)), .int .i64 (Stt.lats (q14
 s_1)), .int .i64 (Stt.picks (q14 s_1)), .int .i64 (Stt.tags (q14 s_1))]))] 17) ∧ PreIs (q16 s_1 ≤ 1000000 ∧ (∀ (r : Req), r ∈ q15 s_1 → Req.wf r) ∧ List.length (Script.lats
 (q3 s_1)) ≤ 1000000 ∧ List.length (Script.picks (q3 s_1)) ≤ 1000000) ∧ ∀ (y : Cfg × Script × Stt), y = (Prod.fst s_1, q3 s_1, begF (Prod.fst s_1) (q3 s_1) (q14 s_1)
 (q5 s_1)) → A (XSt.mk ((29, .int .i64 (IntKind.wrap .i64 ((↑k : Int) + (1 : Int)))) :: q6) [(15, some (e_tb 8 e_Req (Stt.table (Prod.snd (Prod.snd y))))), (14, some
 (e_Script (Prod.fst (Prod.snd y)))), (13, some (e_Cfg (Prod.fst y))), (3, some q12), (2, some (.agg 92 [.int .i64 (Stt.cycle (Prod.snd (Prod.snd y))), e_Side (Stt.a
 (Prod.snd (Prod.snd y))), e_Side (Stt.e (Prod.snd (Prod.snd y))), e_row 3 e_Slot (Stt.ldq (Prod.snd (Prod.snd y))), e_row 1 e_u32 (Stt.sdq (Prod.snd (Prod.snd y))),
 e_row 1 e_u32 (Stt.aeq (Prod.snd (Prod.snd y))), e_row 1 e_bool (Stt.abq (Prod.snd (Prod.snd y))), e_row 1 e_bool (Stt.ebq (Prod.snd (Prod.snd y))), e_row 5 e_Entry
 (Stt.saq (Prod.snd (Prod.snd y))), .sl 15 [] 0 0 (List.length (Stt.table (Prod.snd (Prod.snd y)))) 8, e_row 1 e_u8 (Stt.mem (Prod.snd (Prod.snd y))), e_row 3 e_Wr
 (Stt.writes (Prod.snd (Prod.snd y))), e_Trp (Stt.trap (Prod.snd (Prod.snd y))), .int .i64 (Stt.lats (Prod.snd (Prod.snd y))), .int .i64 (Stt.picks (Prod.snd (Prod.snd
 y))), .int .i64 (Stt.tags (Prod.snd (Prod.snd y)))]))] 17)
else EndAt 13 (.tup []) (XSt.mk q7 q13 17) v τ) := by kernel_rfl
theorem r_adv (c : Cfg) (s : Script) (x : Stt) (r : XV) : (goQ Try.prog TAd [(.cell 6 .true 92)] r (.run c_banks_Advance) [] ⟨envX 0 [e_Cfg c, e_Script s, e_Stt x], [], 0⟩) = (let q1 : Nat := List.length (Stt.ldq x) * 16;
let q2 : Nat := List.length (Stt.saq x) * 32;
let q3 : Nat := List.length (Stt.table x) * 64;
let q4 : Nat := List.length
 (Stt.sdq x) * 4;
let q5 : Nat := List.length (Stt.aeq x) * 4;
let q6 : Nat := List.length (Stt.abq x) * 1;
let q7 : Nat := List.length (Stt.ebq x) * 1;
let q8 :
 Nat := List.length (Stt.mem x) * 1;
let q9 : Nat := List.length (Stt.writes x) * 24;
let q10 : XV := .ptr 2 [] 0;
let q11 : List XV := [q10];
let q12 : XV := .ptr
 2 [11] 85;
let q13 : XV := .ptr 2 [10] 84;
let q14 : XV := .sl 12 [] 0 0 (List.length (Stt.writes x)) 3;
let q15 : XV := .sl 11 [] 0 0 (List.length (Stt.mem x))
 1;
let q16 : XV := .ptr 2 [7] 81;
let q17 : XV := .ptr 2 [6] 80;
let q18 : XV := .ptr 2 [5] 79;
let q19 : XV := .ptr 2 [4] 78;
let q20 : XV := .sl 10 [] 0 0 (List.length
 (Stt.ebq x)) 1;
let q21 : XV := .sl 9 [] 0 0 (List.length (Stt.abq x)) 1;
let q22 : XV := .sl 8 [] 0 0 (List.length (Stt.aeq x)) 1;
let q23 : XV := .sl 7 [] 0 0
 (List.length (Stt.sdq x)) 1;
let q24 : XV := .ptr 2 [9] 83;
let q25 : XV := .ptr 2 [8] 82;
let q26 : XV := .ptr 2 [3] 77;
let q27 : XV := .sl 6 [] 0 0 (List.length
 (Stt.table x)) 8;
let q28 : XV := .sl 5 [] 0 0 (List.length (Stt.saq x)) 5;
let q29 : XV := .sl 4 [] 0 0 (List.length (Stt.ldq x)) 3;
let q30 : List XV := [.int
 .i64 0, .int .i64 0, .int .i64 0];
let q31 : XV := .agg 3 q30;
let q32 : XV := .agg 38 [.tab 16 1 fun x => .int .u32 0, .tab 16 1 fun x => .int .i64 0, q31, .int
 .i64 0, .bool false, .int .i64 0];
let q33 : XV := .row true 0 0 fun x => .unk;
let q34 : XV := .agg 92 (.int .i64 0 :: q32 :: q32 :: q33 :: q33 :: q33 :: q33 ::
 q33 :: q33 :: q33 :: q33 :: q33 :: q31 :: q30);
let q35 : Cfg × Script × Stt → Nat := fun (s : Cfg × Script × Stt) => List.length (Stt.table (Prod.snd (Prod.snd
 s)));
let q36 : Cfg × Script × Stt → Nat := fun (s : Cfg × Script × Stt) => List.length (Stt.writes (Prod.snd (Prod.snd s)));
bif decide (q1 ≤ 140737488355328) then
 bif allN (fun i => true) (List.length (Stt.ldq x)) then bif decide (q2 ≤ 140737488355328) then bif allN (fun i => true) (List.length (Stt.saq x)) then bif decide
 (q3 ≤ 140737488355328) then bif allN (fun i => true) (List.length (Stt.table x)) then bif decide (q4 ≤ 140737488355328) then bif allN (fun i => true) (List.length
 (Stt.sdq x)) then bif decide (q5 ≤ 140737488355328) then bif allN (fun i => true) (List.length (Stt.aeq x)) then bif decide (q6 ≤ 140737488355328) then bif allN
 (fun i => true) (List.length (Stt.abq x)) then bif decide (q7 ≤ 140737488355328) then bif allN (fun i => true) (List.length (Stt.ebq x)) then bif decide (q8 ≤ 140737488355328)
 then bif allN (fun i => true) (List.length (Stt.mem x)) then bif decide (q9 ≤ 140737488355328) then bif allN (fun i => true) (List.length (Stt.writes x)) then ∃
 (s_1 : Cfg × Script × Stt), ArgsLe (e_Cfg c :: e_Script s :: q11) (e_Cfg (Prod.fst s_1) :: e_Script (Prod.fst (Prod.snd s_1)) :: q11) ∧ MemIs (XSt.mk [(44, e_Script
 s), (43, e_Cfg c), (42, q12), (41, q13), (40, q14), (39, e_row 3 e_Wr (Stt.writes x)), (38, q12), (37, q15), (36, e_row 1 e_u8 (Stt.mem x)), (35, q13), (34, q16),
 (33, q17), (32, q18), (31, q19), (30, q20), (29, e_row 1 e_bool (Stt.ebq x)), (28, q16), (27, q21), (26, e_row 1 e_bool (Stt.abq x)), (25, q17), (24, q22), (23,
 e_row 1 e_u32 (Stt.aeq x)), (22, q18), (21, q23), (20, e_row 1 e_u32 (Stt.sdq x)), (19, q19), (18, q24), (17, q25), (16, q26), (15, q27), (14, e_row 8 e_Req (Stt.table
 x)), (13, q24), (12, q28), (11, e_row 5 e_Entry (Stt.saq x)), (10, q25), (9, q29), (8, e_row 3 e_Slot (Stt.ldq x)), (7, q26), (6, .ptr 3 [] 0), (5, q10), (4, .ptr
 1 [] 0), (3, .ptr 0 [] 0), (0, e_Cfg c), (1, e_Script s), (2, e_Stt x)] [(12, some (.tab (List.length (Stt.writes x)) 3 fun i => e_Wr (ix (Stt.writes x) i))), (11,
 some (.tab (List.length (Stt.mem x)) 1 fun i => e_u8 (ix (Stt.mem x) i))), (10, some (.tab (List.length (Stt.ebq x)) 1 fun i => e_bool (ix (Stt.ebq x) i))), (9,
 some (.tab (List.length (Stt.abq x)) 1 fun i => e_bool (ix (Stt.abq x) i))), (8, some (.tab (List.length (Stt.aeq x)) 1 fun i => e_u32 (ix (Stt.aeq x) i))), (7,
 some (.tab (List.length (Stt.sdq x)) 1 fun i => e_u32 (ix (Stt.sdq x) i))), (6, some (.tab (List.length (Stt.table x)) 8 fun i => e_Req (ix (Stt.table x) i))), (5,
 some (.tab (List.length (Stt.saq x)) 5 fun i => e_Entry (ix (Stt.saq x) i))), (4, some (.tab (List.length (Stt.ldq x)) 3 fun i => e_Slot (ix (Stt.ldq x) i))), (3,
 some q34), (2, some (.agg 92 [.int .i64 (Stt.cycle x), e_Side (Stt.a x), e_Side (Stt.e x), q29, q23, q22, q21, q20, q28, q27, q15, q14, e_Trp (Stt.trap x), .int
 .i64 (Stt.lats x), .int .i64 (Stt.picks x), .int .i64 (Stt.tags x)])), (1, some (e_Script s)), (0, some (e_Cfg c))] 13) (XSt.mk [] [(12, some (e_tb 3 e_Wr (Stt.writes
 (Prod.snd (Prod.snd s_1))))), (11, some (e_tb 1 e_u8 (Stt.mem (Prod.snd (Prod.snd s_1))))), (10, some (e_tb 1 e_bool (Stt.ebq (Prod.snd (Prod.snd s_1))))), (9, some
 (e_tb 1 e_bool (Stt.abq (Prod.snd (Prod.snd s_1))))), (8, some (e_tb 1 e_u32 (Stt.aeq (Prod.snd (Prod.snd s_1))))), (7, some (e_tb 1 e_u32 (Stt.sdq (Prod.snd (Prod.snd
 s_1))))), (6, some (e_tb 8 e_Req (Stt.table (Prod.snd (Prod.snd s_1))))), (5, some (e_tb 5 e_Entry (Stt.saq (Prod.snd (Prod.snd s_1))))), (4, some (e_tb 3 e_Slot
 (Stt.ldq (Prod.snd (Prod.snd s_1))))), (3, some q34), (2, some (.agg 92 [.int .i64 (Stt.cycle (Prod.snd (Prod.snd s_1))), e_Side (Stt.a (Prod.snd (Prod.snd s_1))),
 e_Side (Stt.e (Prod.snd (Prod.snd s_1))), .sl 4 [] 0 0 (List.length (Stt.ldq (Prod.snd (Prod.snd s_1)))) 3, .sl 7 [] 0 0 (List.length (Stt.sdq (Prod.snd (Prod.snd
 s_1)))) 1, .sl 8 [] 0 0 (List.length (Stt.aeq (Prod.snd (Prod.snd s_1)))) 1, .sl 9 [] 0 0 (List.length (Stt.abq (Prod.snd (Prod.snd s_1)))) 1, .sl 10 [] 0 0 (List.length
 (Stt.ebq (Prod.snd (Prod.snd s_1)))) 1, .sl 5 [] 0 0 (List.length (Stt.saq (Prod.snd (Prod.snd s_1)))) 5, .sl 6 [] 0 0 (q35 s_1) 8, .sl 11 [] 0 0 (List.length (Stt.mem
 (Prod.snd (Prod.snd s_1)))) 1, .sl 12 [] 0 0 (q36 s_1) 3, e_Trp (Stt.trap (Prod.snd (Prod.snd s_1))), .int .i64 (Stt.lats (Prod.snd (Prod.snd s_1))), .int .i64 (Stt.picks
 (Prod.snd (Prod.snd s_1))), .int .i64 (Stt.tags (Prod.snd (Prod.snd s_1)))]))] 13) ∧ PreIs (Stt.ok (Prod.snd (Prod.snd s_1)) ∧ q36 s_1 + q35 s_1 ≤ 1000000 ∧ List.length
 (Script.lats (Prod.fst (Prod.snd s_1))) ≤ 1000000 ∧ List.length (Script.picks (Prod.fst (Prod.snd s_1))) ≤ 1000000) ∧ ∀ (y : Stt), y = advF (Prod.fst s_1) (Prod.fst
 (Prod.snd s_1)) (Prod.snd (Prod.snd s_1)) → ResLe (e_Stt y) r else False else False else False else False else False else False else False else False else False
 else False else False else False else False else False else False else False else False
else False) := by kernel_rfl
/-- What stays as it is when a bank begins. -/
def BInv (x y : Stt) : Prop := y.wf ∧ y.ldq = x.ldq ∧ y.sdq = x.sdq ∧ y.aeq = x.aeq ∧ y.abq = x.abq ∧ y.ebq = x.ebq ∧ y.saq = x.saq ∧ y.table.length = x.table.length ∧ y.mem = x.mem ∧ y.writes = x.writes ∧ y.a = x.a ∧ y.e = x.e ∧ y.trap = x.trap ∧ y.tags = x.tags ∧ y.cycle = x.cycle
theorem BInv.refl {x : Stt} (h : x.wf) : BInv x x := ⟨h, rfl, rfl, rfl, rfl, rfl, rfl, rfl, rfl, rfl, rfl, rfl, rfl, rfl, rfl⟩
theorem BInv.trans {x y z : Stt} (h : BInv x y) (k : BInv y z) : BInv x z := by
  obtain ⟨_, a2, a3, a4, a5, a6, a7, a8, a9, a10, a11, a12, a13, a14, a15⟩ := h
  obtain ⟨b1, b2, b3, b4, b5, b6, b7, b8, b9, b10, b11, b12, b13, b14, b15⟩ := k
  exact ⟨b1, b2.trans a2, b3.trans a3, b4.trans a4, b5.trans a5, b6.trans a6, b7.trans a7, b8.trans a8, b9.trans a9, b10.trans a10, b11.trans a11, b12.trans a12, b13.trans a13, b14.trans a14, b15.trans a15⟩
theorem wait_all {c : Cfg} {b : Int} {l : List Req} {m : Nat} (h : m < (waitK c b l l.length).length) : 0 ≤ ix (waitK c b l l.length) m ∧ (ix (waitK c b l l.length) m).toNat < l.length := by
  have := wait_mem (ix_mem h)
  omega
theorem which_lt {c : Cfg} {s : Script} {x : Stt} {b : Int} (h : ¬ (waitK c b x.table x.table.length).length = 0) : whichF s x (waitK c b x.table x.table.length) < x.table.length := by
  unfold whichF
  split
  · rename_i hm
    have := pick_rng s x.picks (n := ((waitK c b x.table x.table.length).length : Int)) (by omega)
    exact (wait_all (by omega)).2
  · exact (wait_all (m := 0) (by omega)).2
theorem lat_i64 (s : Script) (i most : Int) : i64R (latF s i most) := by
  have := nth_bnd s.lats i most
  unfold latF i64R
  omega
theorem beg_inv {c : Cfg} {s : Script} {x : Stt} {b : Int} (hw : x.wf) : BInv x (begF c s x b) := by
  unfold begF
  split
  · exact .refl hw
  · split
    · exact .refl hw
    · rename_i hz
      obtain ⟨a1, a2, a3, a4, a5, a6, a7, a8, a9, a10, a11, a12, a13, a14, a15, a16⟩ := hw
      have hk := which_lt (s := s) hz
      generalize whichF s x (waitK c b x.table x.table.length) = k at hk ⊢
      refine ⟨⟨a1, a2, a3, a4, a5, a6, a7, a8, a9, ⟨fun y hy => ?_, ?_⟩, a11, a12, a13, w64_rng _, ?_, a16⟩, rfl, rfl, rfl, rfl, rfl, rfl, List.length_set, rfl, rfl, rfl, rfl, rfl, rfl, rfl⟩
      · rcases List.mem_or_eq_of_mem_set hy with hy | rfl
        · exact a10.1 y hy
        · have := a10.1 _ (ix_mem hk)
          exact ⟨this.1, this.2.1, this.2.2.1, this.2.2.2.1, lat_i64 _ _ _, this.2.2.2.2.2⟩
      · show (x.table.set k _).length * 64 ≤ _
        rw [List.length_set]; exact a10.2
      · show i64R (if _ then _ else _)
        split
        · exact w64_rng _
        · exact a15
theorem bgK_inv {c : Cfg} {s : Script} {x : Stt} (hw : x.wf) : ∀ k, BInv x (bgK c s x k)
  | 0 => .refl hw
  | k + 1 => (bgK_inv hw k).trans (beg_inv (bgK_inv hw k).1)
theorem end_inv {x : Stt} (hw : x.wf) (hm : x.mem.length ≤ 1000000) (hb : x.writes.length + x.table.length ≤ 1000000) : (endF x).wf ∧ (endF x).ldq.length = x.ldq.length ∧ (endF x).sdq = x.sdq ∧ (endF x).aeq = x.aeq ∧ (endF x).abq = x.abq ∧ (endF x).ebq = x.ebq ∧ (endF x).saq.length ≤ x.saq.length ∧ (endF x).mem.length = x.mem.length ∧ (endF x).writes.length + (endF x).table.length ≤ x.writes.length + x.table.length := by
  have h := endL_inv hw hm hb (Nat.le_refl x.table.length)
  rw [List.take_length] at h
  unfold endF
  generalize endL x.table (x, []) = p at h ⊢
  obtain ⟨⟨a1, a2, a3, a4, a5, a6, a7, a8, a9, a10, a11, a12, a13⟩, b2, b3, b4, b5, b6, b7, b8, b9, b10, _, _, b11⟩ := h
  exact ⟨⟨a1, a2, a3, a4, a5, a6, a7, a8, a9, ⟨b11, by show p.2.length * 64 ≤ _; omega⟩, a11, a12, a13⟩, b2, b3, b4, b5, b6, b7, b9, b10⟩
/-- A state that is not too long, whatever is written. -/
def goodS (x : Stt) : Prop := x.ok ∧ x.writes.length + x.table.length ≤ 1000000
theorem end_good {x : Stt} (h : goodS x) : goodS (endF x) := by
  obtain ⟨ho, hb⟩ := h
  have hw : x.wf := ho.1
  obtain ⟨c1, c2, c3, c4, c5, c6, c7, c8, c9⟩ := end_inv hw ho.2.2.2.2.2.2.2.2.1 hb
  obtain ⟨_, b1, b2, b3, b4, b5, b6, b7, b8, b9⟩ := ho
  refine ⟨⟨c1, by omega, by rw [c3]; exact b2, by rw [c4]; exact b3, by rw [c5]; exact b4, by rw [c6]; exact b5, by omega, by omega, by omega, by omega⟩, by omega⟩
theorem binv_good {x y : Stt} (h : goodS x) (hb : BInv x y) : goodS y := by
  obtain ⟨⟨_, b1, b2, b3, b4, b5, b6, b7, b8, b9⟩, hl⟩ := h
  obtain ⟨c1, c2, c3, c4, c5, c6, c7, c8, c9, c10, _⟩ := hb
  exact ⟨⟨c1, by rw [c2]; exact b1, by rw [c3]; exact b2, by rw [c4]; exact b3, by rw [c5]; exact b4, by rw [c6]; exact b5, by rw [c7]; exact b6, by rw [c8]; exact b7, by rw [c9]; exact b8, by rw [c10]; exact b9⟩, by rw [c8, c10]; exact hl⟩
theorem adv_good {c : Cfg} {s : Script} {x : Stt} (h : goodS x) : goodS (advF c s x) := by
  unfold advF
  split
  · exact binv_good (end_good h) (bgK_inv (end_good h).1.1 _)
  · exact h
theorem gk_end : GkOk Try.prog qq (59, endG) := gkOf_ok (by decide) fun ⟨c, s, x⟩ h => gen_end h.1 h.2
theorem gk_beg : GkOk Try.prog qq (60, begG) := gkOf_ok (by decide) fun ⟨c, s, x, b⟩ h => gen_beg h.1 h.2.1 h.2.2
theorem TMvok : TabOk Try.prog TMv := mkT2_ok clok_banks trivial trivial trivial ⟨gk_end, gk_beg, trivial⟩
theorem mov_out {c : Cfg} {s : Script} {x : Stt} : EndAt 13 (.tup []) ⟨[], layT c s x, 17⟩ (.tup []) ⟨[], layF x, 17⟩ :=
  ⟨.frz (frz_env (L := [15]) rfl ⟨rfl, .same, trivial⟩ ⟨rfl, .same, rfl, .agg (.cons .same (.cons .same (.cons .same (.cons .same (.cons .same (.cons .same (.cons .same (.cons .same (.cons .same (.cons (fz_row rfl rfl) (.cons .same (.cons .same (.cons .same (.cons .same (.cons .same (.cons .same .nil)))))))))))))))), trivial⟩)⟩
theorem mov_out0 {c : Cfg} {s : Script} {x : Stt} : EndAt 13 (.tup []) ⟨[], layO c s x, 15⟩ (.tup []) ⟨[], layF x, 17⟩ :=
  ⟨(WeakE.frz (frz_env (L := [4, 5, 6, 7, 8, 9, 10, 11, 12]) (σ := ⟨[(0, .tup [])], layO c s x, 15⟩) (τ := ⟨[(0, .tup [])], layF x, 15⟩) rfl ⟨rfl, .same, trivial⟩ ⟨rfl, .same, rfl, .agg (.cons .same (.cons .same (.cons .same (.cons (fz_row rfl rfl) (.cons (fz_row rfl rfl) (.cons (fz_row rfl rfl) (.cons (fz_row rfl rfl) (.cons (fz_row rfl rfl) (.cons (fz_row rfl rfl) (.cons (fz_row rfl rfl) (.cons (fz_row rfl rfl) (.cons (fz_row rfl rfl) (.cons .same (.cons .same (.cons .same (.cons .same .nil)))))))))))))))), trivial⟩)).trans (.of (weakX (σ := ⟨[(0, .tup [])], layF x, 15⟩) (τ := ⟨[(0, .tup [])], layF x, 17⟩) ⟨rfl, trivial⟩ ⟨rfl, rfl, trivial⟩ (Nat.le_add_right 15 2)))⟩
theorem gen_mov {c : Cfg} {s : Script} {x : Stt} (hg : goodS x) (hs : s.lats.length ≤ 1000000 ∧ s.picks.length ≤ 1000000) : Gen Try.prog 49 (cons [e_Cfg c, e_Script s, .ptr 2 [] 0]) (XSt.st ⟨[], lay0 x, 13⟩) (con (.tup [])) (XSt.st ⟨[], layF (advF c s x), 17⟩) := by
  refine genG mix TMvok t_banks_Move (Nat.le_of_ble_eq_true rfl) (σ := ⟨[], lay0 x, 13⟩) ?_
  refine Eq.mpr (r_mov0 c s x _ _) ?_
  unfold advF
  by_cases hb : 1 ≤ c.banks ∧ c.banks ≤ 16 ∧ 1 ≤ c.lat ∧ c.lat ≤ 1000
  case neg =>
    have e : (bif (bif (bif decide (c.banks < 1) then true else decide (c.banks > 16)) then true else decide (c.lat < 1)) then true else decide (c.lat > 1000)) = true := by
      simp only [bor, Bool.or_eq_true, decide_eq_true_eq]
      omega
    simp only [g1, g2, g3, g4, g5, g6, g7, allN_true, cond_true, Nat.le_refl, decide_true, pl_eq, e]
    rw [if_neg hb]
    exact ⟨mov_out0.out⟩
  obtain ⟨h1, h2, h3, h4⟩ := hb
  have e : (bif (bif (bif decide (c.banks < 1) then true else decide (c.banks > 16)) then true else decide (c.lat < 1)) then true else decide (c.lat > 1000)) = false := by
    simp only [bor, Bool.or_eq_false_iff, decide_eq_false_iff_not]
    omega
  simp only [g1, g2, g3, g4, g5, g6, g7, allN_true, cond_true, Nat.le_refl, decide_true, pl_eq, e, cond_false]
  rw [if_pos ⟨h1, h2, h3, h4⟩]
  refine ⟨(c, s, x), .rfl, memIs ⟨rfl, rfl, rfl, rfl, rfl, rfl, rfl, rfl, rfl, rfl, rfl, rfl, rfl, trivial⟩ (Nat.le_refl _), ⟨hg⟩, ?_⟩
  intro y hy
  replace hy : y = (c, s, endF x) := hy
  subst hy
  have hge := end_good hg
  refine loopG mix TMvok (fun k : Nat => mvSt c s (bgK c s (endF x) k) c.banks k) (fun k => k ≤ c.banks.toNat) (fun k => c.banks.toNat - k) 0 (Nat.zero_le _) (.of (weakX ⟨rfl, rfl, rfl, rfl, rfl, trivial⟩ ⟨rfl, rfl, rfl, rfl, rfl, trivial⟩ (Nat.le_refl _))) ?_
  intro k hk
  replace hk : k ≤ c.banks.toNat := hk
  have hgk := binv_good hge (bgK_inv (c := c) (s := s) hge.1.1 k)
  refine Eq.mpr (r_mov1 c s _ c.banks k _ _ _) ?_
  by_cases hlt : k < c.banks.toNat
  · have g1 : (k : Int) < c.banks := by omega
    have w1 : IntKind.i64.wrap ((k : Int) + 1) = ((k + 1 : Nat) : Int) := wrap_i64 (by omega) (by omega)
    simp only [g1, w1, decide_true, cond_true]
    refine ⟨(c, s, bgK c s (endF x) k, (k : Int)), .rfl, memIs ⟨rfl, rfl, rfl, rfl, rfl, trivial⟩ (Nat.le_refl _), ⟨hgk.1.2.2.2.2.2.2.2.1, hgk.1.1.2.2.2.2.2.2.2.2.2.1.1, hs⟩, ?_⟩
    intro y hy
    replace hy : y = (c, s, bgK c s (endF x) (k + 1)) := hy
    subst hy
    exact ⟨k + 1, hlt, .of (weakX ⟨rfl, rfl, rfl, rfl, rfl, trivial⟩ ⟨rfl, rfl, rfl, rfl, rfl, trivial⟩ (Nat.le_refl _)), by omega⟩
  · have g1 : ¬ (k : Int) < c.banks := by omega
    obtain rfl : k = c.banks.toNat := by omega
    simp only [g1, decide_false, cond_false]
    exact ⟨mov_out.out⟩
theorem gk_mov : GkOk Try.prog qq (49, movG) := gkOf_ok (by decide) fun ⟨c, s, x⟩ h => gen_mov ⟨h.1, h.2.1⟩ h.2.2
theorem TAdok : TabOk Try.prog TAd := mkT2_ok clok_banks trivial glok_slices trivial ⟨gk_mov, trivial⟩
def avS : List XV → Option ((XV → Prop) → Prop) := skOf (fun q : Cfg × Script × Stt => [e_Cfg q.1, e_Script q.2.1, e_Stt q.2.2]) (fun q => goodS q.2.2 ∧ q.2.1.lats.length ≤ 1000000 ∧ q.2.1.picks.length ≤ 1000000) (fun q => advF q.1 q.2.1 q.2.2) (fun y => e_Stt y)
theorem okb {s : Stt} (h : s.ok) : s.ldq.length * 16 ≤ 140737488355328 ∧ s.sdq.length * 4 ≤ 140737488355328 ∧ s.aeq.length * 4 ≤ 140737488355328 ∧ s.abq.length * 1 ≤ 140737488355328 ∧ s.ebq.length * 1 ≤ 140737488355328 ∧ s.saq.length * 32 ≤ 140737488355328 ∧ s.table.length * 64 ≤ 140737488355328 ∧ s.mem.length * 1 ≤ 140737488355328 ∧ s.writes.length * 24 ≤ 140737488355328 := by
  obtain ⟨_, h⟩ := h
  omega
theorem sk_adv : SkOk Try.prog (28, avS) := skOf_ok fun ⟨c, s, x⟩ h => by
  obtain ⟨hg, hs⟩ : goodS x ∧ s.lats.length ≤ 1000000 ∧ s.picks.length ≤ 1000000 := h
  show Pure _ _ (cons [e_Cfg c, e_Script s, e_Stt x]) (con (e_Stt (advF c s x)))
  refine pureQ mix TAdok t_banks_Advance (Nat.le_of_ble_eq_true rfl) ?_
  refine Eq.mpr (r_adv c s x _) ?_
  obtain ⟨b1, b2, b3, b4, b5, b6, b7, b8, b9⟩ := okb hg.1
  simp only [b1, b2, b3, b4, b5, b6, b7, b8, b9, allN_true, Nat.le_refl, pl_eq, decide_true, cond_true]
  refine ⟨(c, s, x), .rfl, memIs ⟨rfl, rfl, rfl, rfl, rfl, rfl, rfl, rfl, rfl, rfl, rfl, trivial⟩ (Nat.le_refl _), ⟨hg.1, hg.2, hs⟩, ?_⟩
  intro y hy
  replace hy : y = advF c s x := hy
  rw [hy]
  exact .rfl
end Go.Proofs.Ytbemlndjdbopeaa

/- A cycle of the banks, as the document tells it: forms. -/
namespace Go.Proofs.Ytbemlndjdbopeaa
open Go.Ra
set_option linter.unusedVariables false
set_option linter.unusedSimpArgs false
def TR0 : Tab := mkT2 qq cl_ref15 [(32, loadSp), (61, stoSp), (23, bnkSp)] gl_ref15 [(62, filS), (25, latS), (27, picS)] []
def bxR (x : Stt) : XV := .agg 92 [.int .i64 x.cycle, e_Side x.a, e_Side x.e, e_row 3 e_Slot x.ldq, e_row 1 e_u32 x.sdq, e_row 1 e_u32 x.aeq, e_row 1 e_bool x.abq, e_row 1 e_bool x.ebq, e_row 5 e_Entry x.saq, e_row 8 e_Req x.table, e_row 1 e_u8 x.mem, .sl 16 [] 0 0 x.writes.length 3, e_Trp x.trap, .int .i64 x.lats, .int .i64 x.picks, .int .i64 x.tags]
def raSt (c : Cfg) (s : Script) (l : List Req) (x : Stt) (left : List Req) (i : Nat) : XSt := ⟨[(9, .int .i64 i), (8, e_row 8 e_Req l), (7, .sl 15 [] 0 0 left.length 8), (6, .ptr 3 [] 0), (5, .ptr 2 [] 0), (4, .ptr 1 [] 0), (3, .ptr 0 [] 0)], [(16, some (e_tb 3 e_Wr x.writes)), (15, some (e_tb 8 e_Req left)), (3, some zX), (2, some (bxR x)), (1, some (e_Script s)), (0, some (e_Cfg c))], 17⟩
/-- The banks begin: what waits is own memory. -/
def rbSt (c : Cfg) (s : Script) (l : List Req) (y : Stt) (k : Nat) : XSt := ⟨[(11, .int .i64 k), (7, .sl 15 [] 0 0 y.table.length 8), (6, .ptr 3 [] 0), (5, .ptr 2 [] 0), (4, .ptr 1 [] 0), (3, .ptr 0 [] 0)], [(15, some (e_tb 8 e_Req y.table)), (3, some zX), (2, some (e_Stt { y with table := l })), (1, some (e_Script s)), (0, some (e_Cfg c))], 17⟩
def rcSt (c : Cfg) (s : Script) (l : List Req) (y : Stt) (k : Int) (b : Bool) (w : List Int) (i : Nat) : XSt := ⟨[(14, .int .i64 i), (13, .sl 17 [] 0 0 w.length 1), (12, .bool b), (11, .int .i64 k), (7, .sl 15 [] 0 0 y.table.length 8), (6, .ptr 3 [] 0), (5, .ptr 2 [] 0), (4, .ptr 1 [] 0), (3, .ptr 0 [] 0)], [(17, some (e_tb 1 e_i64 w)), (15, some (e_tb 8 e_Req y.table)), (3, some zX), (2, some (e_Stt { y with table := l })), (1, some (e_Script s)), (0, some (e_Cfg c))], 18⟩
theorem r_ra0 (c : Cfg) (s : Script) (x : Stt) (r : XV) : (goQ Try.prog TR0 [(.cell 6 .true 92)] r (.run c_ref15_Advance) [] ⟨envX 0 [e_Cfg c, e_Script s, e_Stt x], [], 0⟩) = (let q1 : Nat := List.length (Stt.ldq x) * 16;
let q2 : Bool := decide (Cfg.banks c ≥ 1);
let q3 : Bool := !bif q2 then decide (Cfg.banks c ≤ 16) else false;
let
 q4 : Bool := decide (Cfg.lat c ≥ 1);
let q5 : Bool := decide (List.length (Stt.ldq x) ≤ List.length (Stt.ldq x));
let q6 : Bool := decide (List.length (Stt.sdq x)
 ≤ List.length (Stt.sdq x));
let q7 : Bool := decide (List.length (Stt.aeq x) ≤ List.length (Stt.aeq x));
let q8 : Bool := decide (List.length (Stt.abq x) ≤ List.length
 (Stt.abq x));
let q9 : Bool := decide (List.length (Stt.ebq x) ≤ List.length (Stt.ebq x));
let q10 : Bool := decide (List.length (Stt.saq x) ≤ List.length (Stt.saq
 x));
let q11 : Bool := decide (List.length (Stt.table x) ≤ List.length (Stt.table x));
let q12 : Bool := decide (List.length (Stt.mem x) ≤ List.length (Stt.mem x));
let
 q13 : Bool := decide (List.length (Stt.writes x) ≤ List.length (Stt.writes x));
let q14 : XV := .sl 12 [] 0 0 (List.length (Stt.table x)) 8;
let q15 : XV := .row
 true 0 0 fun x => .unk;
let q16 : XV := .agg 92 [.int .i64 (Stt.cycle x), e_Side (Stt.a x), e_Side (Stt.e x), .sl 6 [] 0 0 (List.length (Stt.ldq x)) 3, .sl 7 []
 0 0 (List.length (Stt.sdq x)) 1, .sl 8 [] 0 0 (List.length (Stt.aeq x)) 1, .sl 9 [] 0 0 (List.length (Stt.abq x)) 1, .sl 10 [] 0 0 (List.length (Stt.ebq x)) 1, .sl
 11 [] 0 0 (List.length (Stt.saq x)) 5, q14, .sl 13 [] 0 0 (List.length (Stt.mem x)) 1, .sl 14 [] 0 0 (List.length (Stt.writes x)) 3, e_Trp (Stt.trap x), .int .i64
 (Stt.lats x), .int .i64 (Stt.picks x), .int .i64 (Stt.tags x)];
let q17 : List XV := [.int .i64 0, .int .i64 0, .int .i64 0];
let q18 : XV := .agg 3 q17;
let q19
 : XV := .agg 38 [.tab 16 1 fun x => .int .u32 0, .tab 16 1 fun x => .int .i64 0, q18, .int .i64 0, .bool false, .int .i64 0];
bif decide (q1 ≤ 140737488355328) then
 bif allN (fun i => true) (List.length (Stt.ldq x)) then bif decide (List.length (Stt.sdq x) * 4 ≤ 140737488355328) then bif decide (List.length (Stt.aeq x) * 4 ≤
 140737488355328) then bif decide (List.length (Stt.abq x) * 1 ≤ 140737488355328) then bif decide (List.length (Stt.ebq x) * 1 ≤ 140737488355328) then bif decide
 (List.length (Stt.saq x) * 32 ≤ 140737488355328) then bif decide (List.length (Stt.table x) * 64 ≤ 140737488355328) then bif decide (List.length (Stt.mem x) * 1
 ≤ 140737488355328) then bif decide (List.length (Stt.writes x) * 24 ≤ 140737488355328) then bif bif q2 then q2 else true then bif !q3 then bif bif q4 then q4 else
 true then bif bif q3 then true else !bif q4 then decide (Cfg.lat c ≤ 1000) else false then bif q5 then bif q6 then bif q7 then bif q8 then bif q9 then bif q10 then
 bif q11 then bif q12 then bif q13 then ResLe (e_Stt x) r else False else False else False else False else False else False else False else False else False else
 LoopAt (Ok Try.prog (Tab.q TR0)) c_ref15_Advance_l1 (XSt.mk [(9, .int .i64 0), (8, q14), (7, q15), (6, .ptr 3 [] 0), (5, .ptr 2 [] 0), (4, .ptr 1 [] 0), (3, .ptr
 0 [] 0)] [(14, some (.tab (List.length (Stt.writes x)) 3 fun i => e_Wr (ix (Stt.writes x) i))), (13, some (.tab (List.length (Stt.mem x)) 1 fun i => e_u8 (ix (Stt.mem
 x) i))), (12, some (.tab (List.length (Stt.table x)) 8 fun i => e_Req (ix (Stt.table x) i))), (11, some (.tab (List.length (Stt.saq x)) 5 fun i => e_Entry (ix (Stt.saq
 x) i))), (10, some (.tab (List.length (Stt.ebq x)) 1 fun i => e_bool (ix (Stt.ebq x) i))), (9, some (.tab (List.length (Stt.abq x)) 1 fun i => e_bool (ix (Stt.abq
 x) i))), (8, some (.tab (List.length (Stt.aeq x)) 1 fun i => e_u32 (ix (Stt.aeq x) i))), (7, some (.tab (List.length (Stt.sdq x)) 1 fun i => e_u32 (ix (Stt.sdq x)
 i))), (6, some (.tab (List.length (Stt.ldq x)) 3 fun i => e_Slot (ix (Stt.ldq x) i))), (5, some q16), (4, some q16), (3, some (.agg 92 (.int .i64 0 :: q19 :: q19
 :: q15 :: q15 :: q15 :: q15 :: q15 :: q15 :: q15 :: q15 :: q15 :: q18 :: q17))), (2, some q16), (1, some (e_Script s)), (0, some (e_Cfg c))] 15) [Frm.blk 0, Frm.seq
 c_ref15_Advance_p4] (finQR [AR.cell 6 true 92] r) else False else bif q3 then bif q5 then bif q6 then bif q7 then bif q8 then bif q9 then bif q10 then bif q11 then
 bif q12 then bif q13 then ResLe (e_Stt x) r else False else False else False else False else False else False else False else False else False else False else False
 else False else False else False else False else False else False else False else False else False
else False) := by kernel_rfl
theorem r_ra1 (c : Cfg) (s : Script) (l : List Req) (x : Stt) (left : List Req) (i : Nat) (r : XV) (A : XSt → Prop) : (goQ Try.prog TR0 [(.cell 6 .true 92)] r (.run c_ref15_Advance_l1) [.lp c_ref15_Advance_l1 A, .blk 0, .seq c_ref15_Advance_p4] (raSt c s l x left i)) = (let q1 : Bool := decide ((↑i : Int) < (↑(List.length l) : Int));
let q2 : Int := IntKind.wrap .i64 (Req.left (ix l i) - (1 : Int));
let q3 : Bool := decide (List.length
 (Stt.mem x) ≤ 1099511627776);
let q4 : Nat := List.length (Stt.saq x) - 1;
let q5 : XV := .int .i64 (IntKind.wrap .i64 ((↑i : Int) + (1 : Int)));
let q6 : List (Nat
 × XV) := [(6, .ptr 3 [] 0), (5, .ptr 2 [] 0), (4, .ptr 1 [] 0), (3, .ptr 0 [] 0)];
let q7 : List (Nat × XV) := (7, .sl 15 [] 0 0 (List.length left) 8) :: q6;
let
 q8 : List (Nat × XV) := (9, q5) :: (8, e_row 8 e_Req l) :: q7;
let q9 : Nat → Bool := fun i => decide (i < List.length (Stt.writes x));
let q10 : XV := .tab (pl
 (List.length (Stt.writes x)) 1) 3 fun i_1 => .agg 3 [.int .i64 (bif q9 i_1 then Wr.addr (ix (Stt.writes x) i_1) else Req.addr (ix l i)), .int .i64 (bif q9 i_1 then
 Wr.size (ix (Stt.writes x) i_1) else Req.size (ix l i)), .int .u32 (bif q9 i_1 then Wr.val (ix (Stt.writes x) i_1) else Req.val (ix l i))];
let q11 : XV := .agg
 3 [.int .i64 (Req.addr (ix l i)), .int .i64 (Req.size (ix l i)), .int .u32 (Req.val (ix l i))];
let q12 : List XV := [e_Trp (Stt.trap x), .int .i64 (Stt.lats x),
 .int .i64 (Stt.picks x), .int .i64 (Stt.tags x)];
let q13 : List XV := e_row 8 e_Req (Stt.table x) :: .row false 1 (List.length (Stt.mem x)) (o_sto (okW (List.length
 (Stt.mem x)) (Req.addr (ix l i)) (Req.size (ix l i))) (fun i => e_u8 (ix (Stt.mem x) i)) (Int.toNat (Req.addr (ix l i))) (Int.toNat (Req.size (ix l i))) (Req.val
 (ix l i))) :: .sl 22 [] 0 0 (pl (List.length (Stt.writes x)) 1) 3 :: q12;
let q14 : XV := .agg 92 (.int .i64 (Stt.cycle x) :: e_Side (Stt.a x) :: e_Side (Stt.e x)
 :: e_row 3 e_Slot (Stt.ldq x) :: e_row 1 e_u32 (Stt.sdq x) :: e_row 1 e_u32 (Stt.aeq x) :: e_row 1 e_bool (Stt.abq x) :: e_row 1 e_bool (Stt.ebq x) :: .sl 23 []
 0 0 q4 5 :: q13);
let q15 : XV := .agg 8 [.bool (Req.store (ix l i)), .int .i64 (Req.op (ix l i)), .int .i64 (Req.addr (ix l i)), .int .i64 (Req.size (ix l i)),
 .int .u32 (Req.val (ix l i)), .int .i64 q2, .int .i64 (Req.reg (ix l i)), .int .i64 (Req.tag (ix l i))];
let q16 : List XV := [.int .i64 0, .int .i64 0, .int .i64
 0];
let q17 : XV := .agg 3 q16;
let q18 : XV := .agg 38 [.tab 16 1 fun x => .int .u32 0, .tab 16 1 fun x => .int .i64 0, q17, .int .i64 0, .bool false, .int .i64
 0];
let q19 : XV := .row true 0 0 fun x => .unk;
let q20 : XV := .agg 92 (.int .i64 0 :: q18 :: q18 :: q19 :: q19 :: q19 :: q19 :: q19 :: q19 :: q19 :: q19 :: q19
 :: q17 :: q16);
let q21 : List (Nat × Option XV) := [(1, some (e_Script s)), (0, some (e_Cfg c))];
let q22 : XV := .agg 92 (.int .i64 (Stt.cycle x) :: e_Side (Stt.a
 x) :: e_Side (Stt.e x) :: e_row 3 e_Slot (Stt.ldq x) :: e_row 1 e_u32 (Stt.sdq x) :: e_row 1 e_u32 (Stt.aeq x) :: e_row 1 e_bool (Stt.abq x) :: e_row 1 e_bool (Stt.ebq
 x) :: e_row 5 e_Entry (Stt.saq x) :: q13);
let q23 : Bool := decide (Req.addr (ix l i) ≥ 0);
let q24 : Int := IntKind.wrap .u32 (Req.addr (ix l (Int.toNat (↑i :
 Int))));
let q25 : Bool := decide (Req.reg (ix l i) < 0);
let q26 : Int := loadI (List.length (Stt.mem x)) (fun i => e_u8 (ix (Stt.mem x) i)) (Req.op (ix l i)) (IntKind.wrap
 .u32 (Req.addr (ix l i)));
let q27 : List Slot × Int × Int → List XV := fun (s : List Slot × Int × Int) => [e_row 3 e_Slot (Prod.fst s), .int .i64 (Prod.fst (Prod.snd
 s)), .int .u32 (Prod.snd (Prod.snd s))];
let q28 : List XV := e_row 1 e_u32 (Stt.sdq x) :: e_row 1 e_u32 (Stt.aeq x) :: e_row 1 e_bool (Stt.abq x) :: e_row 1 e_bool
 (Stt.ebq x) :: e_row 5 e_Entry (Stt.saq x) :: e_row 8 e_Req (Stt.table x) :: e_row 1 e_u8 (Stt.mem x) :: .sl 16 [] 0 0 (List.length (Stt.writes x)) 3 :: q12;
let
 q29 : List Slot × Bool → XV := fun (y : List Slot × Bool) => .agg 92 (.int .i64 (Stt.cycle x) :: e_Side (Stt.a x) :: e_Side (Stt.e x) :: e_row 3 e_Slot (Prod.fst
 y) :: q28);
let q30 : List Slot × Bool → XSt := fun (y : List Slot × Bool) => XSt.mk q8 ((20, some (q29 y)) :: (19, some q15) :: (18, some (q29 y)) :: (17, some
 q15) :: (16, some (e_tb 3 e_Wr (Stt.writes x))) :: (15, some (e_tb 8 e_Req left)) :: (3, some q20) :: (2, some (q29 y)) :: q21) 21;
let q31 : Bool := decide (Req.reg
 (ix l i) ≥ 1);
let q32 : Bool := bif q31 then q31 else true;
let q33 : Bool := bif q31 then decide (Req.reg (ix l i) ≤ 15) else false;
let q34 : Bool := decide (0
 ≤ Req.reg (ix l i));
let q35 : Bool := decide (Req.reg (ix l i) < 16);
let q36 : Nat := Int.toNat (Req.reg (ix l i)) * 1;
let q37 : Nat := pl 1 q36;
let q38 : Bool
 := Nat.beq q37 q37;
let q39 : Bool := decide (Int.toNat (Req.reg (ix l i)) < 16);
let q40 : Nat := pl 17 q36;
let q41 : Bool := Nat.beq q40 q40;
let q42 : List XV
 := [.tab 16 1 fun j => .int .i64 (bif Nat.beq j (Int.toNat (Req.reg (ix l i))) then IntKind.wrap .i64 (Stt.cycle x + (1 : Int)) else Side.ready (Stt.a x) j), e_Pos
 (Side.pos (Stt.a x)), .int .i64 (Side.wait (Stt.a x)), .bool (Side.halted (Stt.a x)), .int .i64 (Side.done (Stt.a x))];
let q43 : List XV := e_Side (Stt.e x) ::
 e_row 3 e_Slot (Stt.ldq x) :: q28;
let q44 : XV := .agg 92 (.int .i64 (Stt.cycle x) :: .agg 38 ((.tab 16 1 fun j => .int .u32 (bif Nat.beq j (Int.toNat (Req.reg
 (ix l i))) then q26 else Side.regs (Stt.a x) j)) :: q42) :: q43);
let q45 : XV := .agg 92 (.int .i64 (Stt.cycle x) :: e_Side (Stt.a x) :: q43);
let q46 : List (Nat
 × Option XV) := (3, some q20) :: (2, some q45) :: q21;
let q47 : List (Nat × Option XV) := (16, some (e_tb 3 e_Wr (Stt.writes x))) :: (15, some (e_tb 8 e_Req left))
 :: q46;
let q48 : XSt := XSt.mk q8 ((20, some q45) :: (19, some q15) :: (18, some q45) :: (17, some q15) :: q47) 21;
let q49 : XV := .agg 92 (.int .i64 (Stt.cycle
 x) :: .agg 38 ((.tab 16 1 fun j => .int .u32 (bif Nat.beq j (Int.toNat (Req.reg (ix l i))) then (0 : Int) else Side.regs (Stt.a x) j)) :: q42) :: q43);
let q50 :
 Bool := decide (List.length left ≤ List.length left);
let q51 : Bool := decide (pl (List.length left) 1 * 64 ≤ 140737488355328);
let q52 : List (Nat × XV) := (9,
 q5) :: (7, .sl 18 [] 0 0 (pl (List.length left) 1) 8) :: (8, e_row 8 e_Req l) :: q6;
let q53 : Nat → Bool := fun i => decide (i < List.length left);
let q54 : Nat
 → XV := fun i_1 => .bool (bif q53 i_1 then Req.store (ix left i_1) else Req.store (ix l i));
let q55 : Nat → XV := fun i_1 => .int .i64 (bif q53 i_1 then Req.op
 (ix left i_1) else Req.op (ix l i));
let q56 : Nat → XV := fun i_1 => .int .i64 (bif q53 i_1 then Req.addr (ix left i_1) else Req.addr (ix l i));
let q57 : Nat →
 XV := fun i_1 => .int .i64 (bif q53 i_1 then Req.size (ix left i_1) else Req.size (ix l i));
let q58 : Nat → XV := fun i_1 => .int .u32 (bif q53 i_1 then Req.val
 (ix left i_1) else Req.val (ix l i));
let q59 : Nat → List XV := fun i_1 => [.int .i64 (bif q53 i_1 then Req.reg (ix left i_1) else Req.reg (ix l i)), .int .i64
 (bif q53 i_1 then Req.tag (ix left i_1) else Req.tag (ix l i))];
let q60 : List (Nat × Option XV) := (16, some (e_tb 3 e_Wr (Stt.writes x))) :: (15, none) :: q46;
bif
 q1 then bif q1 then bif decide (Req.left (ix l i) > 0) then bif decide (q2 = 0) then bif Req.store (ix l i) then bif q3 then bif allN (fun i => true) (List.length
 (Stt.mem x)) then bif decide (List.length (Stt.writes x) ≤ List.length (Stt.writes x)) then bif decide (pl (List.length (Stt.writes x)) 1 * 24 ≤ 140737488355328)
 then bif decide ((↑(List.length (Stt.saq x)) : Int) > 0) then bif decide (1 ≤ (↑(List.length (Stt.saq x)) : Int)) then bif decide (q4 * 32 ≤ 140737488355328) then
 A (XSt.mk q8 ((23, some (.tab q4 5 fun i => e_Entry (ix (Stt.saq x) (pl 1 i)))) :: (22, some q10) :: (21, some q11) :: (20, some q14) :: (19, some q15) :: (18, some
 q14) :: (17, some q15) :: (16, none) :: (15, some (e_tb 8 e_Req left)) :: (3, some q20) :: (2, some q14) :: q21) 24) else False else False else A (XSt.mk q8 ((22,
 some q10) :: (21, some q11) :: (20, some q22) :: (19, some q15) :: (18, some q22) :: (17, some q15) :: (16, none) :: (15, some (e_tb 8 e_Req left)) :: (3, some q20)
 :: (2, some q22) :: q21) 23) else False else False else False else False else bif bif q23 then q23 else true then bif bif q23 then decide (Req.addr (ix l i) < 4294967296)
 else false then bif q3 then bif allN (fun i => true) (List.length (Stt.mem x)) then bif rngB (List.length (Stt.mem x)) fun i => e_u8 (ix (Stt.mem x) i) then bif
 decide (0 ≤ IntKind.wrap .u32 (Req.addr (ix l i))) then bif decide (IntKind.wrap .u32 (Req.addr (ix l i)) ≤ 4294967295) then bif q25 then ∃ (s : List Slot × Int
 × Int), ArgsLe [e_row 3 e_Slot (Stt.ldq x), .int .i64 (Req.tag (ix l i)), .int .u32 q26] (q27 s) ∧ PreIs (List.length (Prod.fst s) ≤ 1000000) ∧ ∀ (y : List Slot
 × Bool), y = fillF (Prod.fst s) (Prod.fst (Prod.snd s)) (Prod.snd (Prod.snd s)) → A (q30 y) else bif q32 then bif q33 then bif q34 then bif q35 then bif q38 then
 bif q39 then bif q39 then bif q34 then bif q35 then bif q41 then bif q39 then bif q39 then A (XSt.mk q8 ((20, some q44) :: (19, some q15) :: (18, some q44) :: (17,
 some q15) :: (16, some (e_tb 3 e_Wr (Stt.writes x))) :: (15, some (e_tb 8 e_Req left)) :: (3, some q20) :: (2, some q44) :: q21) 21) else False else False else False
 else False else False else False else False else False else False else False else A q48 else False else False else False else False else False else False else bif
 q25 then ∃ (s : List Slot × Int × Int), ArgsLe [e_row 3 e_Slot (Stt.ldq x), .int .i64 (Req.tag (ix l i)), .int .u32 0] (q27 s) ∧ PreIs (List.length (Prod.fst s)
 ≤ 1000000) ∧ ∀ (y : List Slot × Bool), y = fillF (Prod.fst s) (Prod.fst (Prod.snd s)) (Prod.snd (Prod.snd s)) → A (q30 y) else bif q32 then bif q33 then bif q34
 then bif q35 then bif q38 then bif q39 then bif q39 then bif q34 then bif q35 then bif q41 then bif q39 then bif q39 then A (XSt.mk q8 ((20, some q49) :: (19, some
 q15) :: (18, some q49) :: (17, some q15) :: (16, some (e_tb 3 e_Wr (Stt.writes x))) :: (15, some (e_tb 8 e_Req left)) :: (3, some q20) :: (2, some q49) :: q21) 21)
 else False else False else False else False else False else False else False else False else False else False else A q48 else False else False else bif q50 then
 bif q51 then A (XSt.mk q52 ((18, some (.tab (pl (List.length left) 1) 8 fun i => .agg 8 (q54 i :: q55 i :: q56 i :: q57 i :: q58 i :: .int .i64 (bif q53 i then Req.left
 (ix left i) else q2) :: q59 i))) :: (17, some q15) :: q60) 19) else False else False else bif q50 then bif q51 then A (XSt.mk q52 ((18, some (.tab (pl (List.length
 left) 1) 8 fun i_1 => .agg 8 (q54 i_1 :: q55 i_1 :: q56 i_1 :: q57 i_1 :: q58 i_1 :: .int .i64 (bif q53 i_1 then Req.left (ix left i_1) else Req.left (ix l i)) ::
 q59 i_1))) :: (17, some (e_Req (ix l i))) :: q60) 19) else False else False else False
else LoopAt (Ok Try.prog (Tab.q TR0)) c_ref15_Advance_l3 (XSt.mk ((11, .int
 .i64 0) :: q7) q47 17) [Frm.blk 2, Frm.seq c_ref15_Advance_p3] (finQR [AR.cell 6 true 92] r)) := by kernel_rfl
theorem r_ra3 (c : Cfg) (s : Script) (l : List Req) (y : Stt) (k : Nat) (r : XV) (A : XSt → Prop) : (goQ Try.prog TR0 [(.cell 6 .true 92)] r (.run c_ref15_Advance_l3) [.lp c_ref15_Advance_l3 A, .blk 2, .seq c_ref15_Advance_p3] (rbSt c s l y k)) = (let q1 : XV := .row true 0 0 fun x => .unk;
let q2 : List XV := [.int .i64 0, .int .i64 0, .int .i64 0];
let q3 : XV := .agg 3 q2;
let q4 : XV := .agg 38 [.tab
 16 1 fun x => .int .u32 0, .tab 16 1 fun x => .int .i64 0, q3, .int .i64 0, .bool false, .int .i64 0];
let q5 : Stt := Stt.mk (Stt.cycle y) (Stt.a y) (Stt.e y) (Stt.ldq
 y) (Stt.sdq y) (Stt.aeq y) (Stt.abq y) (Stt.ebq y) (Stt.saq y) l (Stt.mem y) (Stt.writes y) (Stt.trap y) (Stt.lats y) (Stt.picks y) (Stt.tags y);
bif decide ((↑k
 : Int) < Cfg.banks c) then LoopAt (Ok Try.prog (Tab.q TR0)) c_ref15_Advance_l2 (XSt.mk [(14, .int .i64 0), (13, q1), (12, .bool false), (11, .int .i64 (↑k : Int)),
 (7, .sl 15 [] 0 0 (List.length (Stt.table y)) 8), (6, .ptr 3 [] 0), (5, .ptr 2 [] 0), (4, .ptr 1 [] 0), (3, .ptr 0 [] 0)] [(15, some (e_tb 8 e_Req (Stt.table y))),
 (3, some (.agg 92 (.int .i64 0 :: q4 :: q4 :: q1 :: q1 :: q1 :: q1 :: q1 :: q1 :: q1 :: q1 :: q1 :: q3 :: q2))), (2, some (e_Stt q5)), (1, some (e_Script s)), (0,
 some (e_Cfg c))] 17) [Frm.blk 4, Frm.seq c_ref15_Advance_p1, Frm.blk 3, Frm.seq c_ref15_Advance_p2, Frm.lp c_ref15_Advance_l3 A, Frm.blk 2, Frm.seq c_ref15_Advance_p3]
 (finQR [AR.cell 6 true 92] r)
else bif decide (List.length (Stt.table y) ≤ List.length (Stt.table y)) then ResLe (.agg 92 [.int .i64 (Stt.cycle q5), e_Side (Stt.a
 q5), e_Side (Stt.e q5), e_row 3 e_Slot (Stt.ldq q5), e_row 1 e_u32 (Stt.sdq q5), e_row 1 e_u32 (Stt.aeq q5), e_row 1 e_bool (Stt.abq q5), e_row 1 e_bool (Stt.ebq
 q5), e_row 5 e_Entry (Stt.saq q5), e_row 8 e_Req (Stt.table y), e_row 1 e_u8 (Stt.mem q5), e_row 3 e_Wr (Stt.writes q5), e_Trp (Stt.trap q5), .int .i64 (Stt.lats
 q5), .int .i64 (Stt.picks q5), .int .i64 (Stt.tags q5)]) r else False) := by kernel_rfl
theorem r_ra2 (c : Cfg) (s : Script) (l : List Req) (y : Stt) (k : Int) (b : Bool) (w : List Int) (i : Nat) (r : XV) (A B : XSt → Prop) : (goQ Try.prog TR0 [(.cell 6 .true 92)] r (.run c_ref15_Advance_l2) [.lp c_ref15_Advance_l2 B, .blk 4, .seq c_ref15_Advance_p1, .blk 3, .seq c_ref15_Advance_p2, .lp c_ref15_Advance_l3 A, .blk 2, .seq c_ref15_Advance_p3] (rcSt c s l y k b w i)) = (let q1 : Bool := decide ((↑i : Int) < (↑(List.length (Stt.table y)) : Int));
let q2 : Nat := i * 8;
let q3 : Nat := pl q2 2;
let q4 : Bool := decide (i < List.length
 (Stt.table y));
let q5 : Req := ix (Stt.table y) (pl 0 (Int.toNat (↑i : Int)));
let q6 : Int := Req.addr q5;
let q7 : Int := bnkI q6 (Cfg.banks c);
let q8 : XV :=
 .int .i64 (IntKind.wrap .i64 ((↑i : Int) + (1 : Int)));
let q9 : XV := .sl 17 [] 0 0 (List.length w) 1;
let q10 : List (Nat × XV) := [(7, .sl 15 [] 0 0 (List.length
 (Stt.table y)) 8), (6, .ptr 3 [] 0), (5, .ptr 2 [] 0), (4, .ptr 1 [] 0), (3, .ptr 0 [] 0)];
let q11 : List (Nat × XV) := (11, .int .i64 k) :: q10;
let q12 : List
 (Nat × XV) := (12, .bool b) :: q11;
let q13 : List XV := [.int .i64 0, .int .i64 0, .int .i64 0];
let q14 : XV := .agg 3 q13;
let q15 : XV := .agg 38 [.tab 16 1
 fun x => .int .u32 0, .tab 16 1 fun x => .int .i64 0, q14, .int .i64 0, .bool false, .int .i64 0];
let q16 : XV := .row true 0 0 fun x => .unk;
let q17 : XV := .agg
 92 (.int .i64 0 :: q15 :: q15 :: q16 :: q16 :: q16 :: q16 :: q16 :: q16 :: q16 :: q16 :: q16 :: q14 :: q13);
let q18 : Stt := Stt.mk (Stt.cycle y) (Stt.a y) (Stt.e
 y) (Stt.ldq y) (Stt.sdq y) (Stt.aeq y) (Stt.abq y) (Stt.ebq y) (Stt.saq y) l (Stt.mem y) (Stt.writes y) (Stt.trap y) (Stt.lats y) (Stt.picks y) (Stt.tags y);
let
 q19 : List (Nat × Option XV) := [(1, some (e_Script s)), (0, some (e_Cfg c))];
let q20 : List (Nat × Option XV) := (15, some (e_tb 8 e_Req (Stt.table y))) :: (3,
 some q17) :: (2, some (e_Stt q18)) :: q19;
let q21 : List (Nat × Option XV) := (17, some (e_tb 1 e_i64 w)) :: q20;
let q22 : XSt := XSt.mk ((14, q8) :: (13, q9)
 :: q12) q21 18;
let q23 : Nat := pl q2 5;
let q24 : Bool := Nat.beq q23 q23;
let q25 : Int := Req.left q5;
let q26 : Bool := decide (Req.left (ix (Stt.table y) i)
 = 0);
let q27 : Bool := decide (List.length w ≤ List.length w);
let q28 : Bool := decide (pl (List.length w) 1 * 8 ≤ 140737488355328);
let q29 : XV := .sl 18 []
 0 0 (pl (List.length w) 1) 1;
let q30 : List (Nat × Option XV) := (18, some (.tab (pl (List.length w) 1) 1 fun i_1 => .int .i64 (bif decide (i_1 < List.length w)
 then ix w i_1 else (↑i : Int)))) :: (17, none) :: q20;
let q31 : List (Nat × XV) := (11, .int .i64 (IntKind.wrap .i64 (k + (1 : Int)))) :: q10;
let q32 : Int :=
 Stt.picks q18;
let q33 : XV := .int .i64 q32;
let q34 : Script × Int × Int → List XV := fun (s : Script × Int × Int) => [e_Script (Prod.fst s), .int .i64 (Prod.fst
 (Prod.snd s)), .int .i64 (Prod.snd (Prod.snd s))];
let q35 : Int → Nat := fun y => Int.toNat y * 1;
let q36 : Int := Stt.lats q18;
let q37 : List XV := [e_Script
 s, .int .i64 q36, .int .i64 (Cfg.lat c)];
let q38 : Script × Int × Int → Int := fun (s : Script × Int × Int) => latF (Prod.fst s) (Prod.fst (Prod.snd s)) (Prod.snd
 (Prod.snd s));
let q39 : Int → Int := fun y => ix w (pl 0 (Int.toNat y));
let q40 : Int → Nat := fun y => pl (Int.toNat (ix w (Int.toNat y)) * 8) 5;
let q41 : Int
 → Bool := fun y_1 => decide (Int.toNat (ix w (Int.toNat y_1)) < List.length (Stt.table y));
let q42 : Int → Req := fun y_1 => ix (Stt.table y) (Int.toNat (ix w (Int.toNat
 y_1)));
let q43 : XV := .int .i64 (Stt.cycle q18);
let q44 : XV := e_Side (Stt.a q18);
let q45 : XV := e_Side (Stt.e q18);
let q46 : XV := e_row 3 e_Slot (Stt.ldq
 q18);
let q47 : XV := e_row 1 e_u32 (Stt.sdq q18);
let q48 : XV := e_row 1 e_u32 (Stt.aeq q18);
let q49 : XV := e_row 1 e_bool (Stt.abq q18);
let q50 : XV := e_row
 1 e_bool (Stt.ebq q18);
let q51 : XV := e_row 5 e_Entry (Stt.saq q18);
let q52 : XV := e_row 8 e_Req (Stt.table q18);
let q53 : XV := e_row 1 e_u8 (Stt.mem q18);
let
 q54 : XV := e_row 3 e_Wr (Stt.writes q18);
let q55 : XV := e_Trp (Stt.trap q18);
let q56 : XV := .int .i64 (IntKind.wrap .i64 (q36 + (1 : Int)));
let q57 : List
 XV := [.int .i64 (Stt.tags q18)];
let q58 : Nat := pl 0 (Int.toNat (0 : Int));
let q59 : Int := ix w q58;
let q60 : Nat := pl (Int.toNat (ix w 0) * 8) 5;
let q61
 : Bool := decide (Int.toNat (ix w 0) < List.length (Stt.table y));
let q62 : Nat → Bool := fun j => Nat.beq j (Int.toNat (ix w 0));
let q63 : Req := ix (Stt.table
 y) (Int.toNat (ix w 0));
bif q1 then bif q1 then bif Nat.beq q3 q3 then bif q4 then bif decide (Req.addr (ix (Stt.table y) i) ≤ 9223372036854775807) then bif decide
 ¬bnkI (Req.addr (ix (Stt.table y) i)) (Cfg.banks c) = k then B q22 else bif q1 then bif q24 then bif q4 then bif decide (Req.left (ix (Stt.table y) i) > 0) then
 bif q1 then bif q24 then bif q4 then bif q26 then bif q27 then bif q28 then B (XSt.mk ((14, q8) :: (13, q29) :: (12, .bool true) :: q11) q30 19) else False else
 False else B (XSt.mk ((14, q8) :: (12, .bool true) :: (13, q9) :: q11) q21 18) else False else False else False else bif q1 then bif q24 then bif q4 then bif q26
 then bif q27 then bif q28 then B (XSt.mk ((14, q8) :: (13, q29) :: q12) q30 19) else False else False else B q22 else False else False else False else False else
 False else False else False else False else False else False
else bif bif b then true else !b then bif bif b then true else decide ((↑(List.length w) : Int) = 0)
 then A (XSt.mk q31 q21 18) else bif decide ((↑(List.length w) : Int) > 1) then ∃ (s_1 : Script × Int × Int), ArgsLe [e_Script s, q33, .int .i64 (↑(List.length w)
 : Int)] (q34 s_1) ∧ PreIs (List.length (Script.picks (Prod.fst s_1)) ≤ 1000000) ∧ ∀ (y_1 : Int), y_1 = pickF (Prod.fst s_1) (Prod.fst (Prod.snd s_1)) (Prod.snd (Prod.snd
 s_1)) → bif decide (0 ≤ y_1) then bif decide (y_1 < (↑(List.length w) : Int)) then bif Nat.beq (q35 y_1) (q35 y_1) then bif decide (Int.toNat y_1 < List.length w)
 then ∃ (s : Script × Int × Int), ArgsLe q37 (q34 s) ∧ PreIs (List.length (Script.lats (Prod.fst s)) ≤ 1000000) ∧ ∀ (y_2 : Int), y_2 = q38 s → bif decide (0 ≤ ix
 w (Int.toNat y_1)) then bif decide (ix w (Int.toNat y_1) < (↑(List.length (Stt.table y)) : Int)) then bif Nat.beq (q40 y_1) (q40 y_1) then bif q41 y_1 then bif q41
 y_1 then A (XSt.mk q31 ((17, some (e_tb 1 e_i64 w)) :: (15, some (.tab (List.length (Stt.table y)) 8 fun j => .agg 8 [.bool (bif Nat.beq j (Int.toNat (ix w (Int.toNat
 y_1))) then Req.store (q42 y_1) else Req.store (ix (Stt.table y) j)), .int .i64 (bif Nat.beq j (Int.toNat (ix w (Int.toNat y_1))) then Req.op (q42 y_1) else Req.op
 (ix (Stt.table y) j)), .int .i64 (bif Nat.beq j (Int.toNat (ix w (Int.toNat y_1))) then Req.addr (q42 y_1) else Req.addr (ix (Stt.table y) j)), .int .i64 (bif Nat.beq
 j (Int.toNat (ix w (Int.toNat y_1))) then Req.size (q42 y_1) else Req.size (ix (Stt.table y) j)), .int .u32 (bif Nat.beq j (Int.toNat (ix w (Int.toNat y_1))) then
 Req.val (q42 y_1) else Req.val (ix (Stt.table y) j)), .int .i64 (bif Nat.beq j (Int.toNat (ix w (Int.toNat y_1))) then y_2 else Req.left (ix (Stt.table y) j)), .int
 .i64 (bif Nat.beq j (Int.toNat (ix w (Int.toNat y_1))) then Req.reg (q42 y_1) else Req.reg (ix (Stt.table y) j)), .int .i64 (bif Nat.beq j (Int.toNat (ix w (Int.toNat
 y_1))) then Req.tag (q42 y_1) else Req.tag (ix (Stt.table y) j))])) :: (3, some q17) :: (2, some (.agg 92 (q43 :: q44 :: q45 :: q46 :: q47 :: q48 :: q49 :: q50 ::
 q51 :: q52 :: q53 :: q54 :: q55 :: q56 :: .int .i64 (IntKind.wrap .i64 (q32 + (1 : Int))) :: q57))) :: q19) 18) else False else False else False else False else
 False else False else False else False else False else bif decide (0 < (↑(List.length w) : Int)) then bif decide (0 < List.length w) then ∃ (s : Script × Int × Int),
 ArgsLe q37 (q34 s) ∧ PreIs (List.length (Script.lats (Prod.fst s)) ≤ 1000000) ∧ ∀ (y_1 : Int), y_1 = q38 s → bif decide (0 ≤ ix w 0) then bif decide (ix w 0 < (↑(List.length
 (Stt.table y)) : Int)) then bif Nat.beq q60 q60 then bif q61 then bif q61 then A (XSt.mk q31 ((17, some (e_tb 1 e_i64 w)) :: (15, some (.tab (List.length (Stt.table
 y)) 8 fun j => .agg 8 [.bool (bif q62 j then Req.store q63 else Req.store (ix (Stt.table y) j)), .int .i64 (bif q62 j then Req.op q63 else Req.op (ix (Stt.table
 y) j)), .int .i64 (bif q62 j then Req.addr q63 else Req.addr (ix (Stt.table y) j)), .int .i64 (bif q62 j then Req.size q63 else Req.size (ix (Stt.table y) j)), .int
 .u32 (bif q62 j then Req.val q63 else Req.val (ix (Stt.table y) j)), .int .i64 (bif q62 j then y_1 else Req.left (ix (Stt.table y) j)), .int .i64 (bif q62 j then
 Req.reg q63 else Req.reg (ix (Stt.table y) j)), .int .i64 (bif q62 j then Req.tag q63 else Req.tag (ix (Stt.table y) j))])) :: (3, some q17) :: (2, some (.agg 92
 (q43 :: q44 :: q45 :: q46 :: q47 :: q48 :: q49 :: q50 :: q51 :: q52 :: q53 :: q54 :: q55 :: q56 :: q33 :: q57))) :: q19) 18) else False else False else False else
 False else False else False else False else False) := by kernel_rfl
end Go.Proofs.Ytbemlndjdbopeaa

/- The document's loop that ends requests. -/
namespace Go.Proofs.Ytbemlndjdbopeaa
open Go.Ra
set_option linter.unusedVariables false
set_option linter.unusedSimpArgs false
theorem TR0ok : TabOk Try.prog TR0 := mkT2_ok clok_ref15 ⟨sp_rload, sp_rsto, sp_bnk2, trivial⟩ glok_ref15 ⟨sk_rfill, sk_rlat, sk_rpick, trivial⟩ trivial
def raBox (x : Stt) : XV := .agg 92 [.int .i64 x.cycle, e_Side x.a, e_Side x.e, .sl 6 [] 0 0 x.ldq.length 3, .sl 7 [] 0 0 x.sdq.length 1, .sl 8 [] 0 0 x.aeq.length 1, .sl 9 [] 0 0 x.abq.length 1, .sl 10 [] 0 0 x.ebq.length 1, .sl 11 [] 0 0 x.saq.length 5, .sl 12 [] 0 0 x.table.length 8, .sl 13 [] 0 0 x.mem.length 1, .sl 14 [] 0 0 x.writes.length 3, e_Trp x.trap, .int .i64 x.lats, .int .i64 x.picks, .int .i64 x.tags]
def raEnt (c : Cfg) (s : Script) (x : Stt) : XSt := ⟨[(9, .int .i64 0), (8, .sl 12 [] 0 0 x.table.length 8), (7, zNil), (6, .ptr 3 [] 0), (5, .ptr 2 [] 0), (4, .ptr 1 [] 0), (3, .ptr 0 [] 0)], [(14, some (e_tb 3 e_Wr x.writes)), (13, some (e_tb 1 e_u8 x.mem)), (12, some (e_tb 8 e_Req x.table)), (11, some (e_tb 5 e_Entry x.saq)), (10, some (e_tb 1 e_bool x.ebq)), (9, some (e_tb 1 e_bool x.abq)), (8, some (e_tb 1 e_u32 x.aeq)), (7, some (e_tb 1 e_u32 x.sdq)), (6, some (e_tb 3 e_Slot x.ldq)), (5, some (raBox x)), (4, some (raBox x)), (3, some zX), (2, some (raBox x)), (1, some (e_Script s)), (0, some (e_Cfg c))], 15⟩
def raMid (c : Cfg) (s : Script) (x : Stt) : XSt := ⟨[(9, .int .i64 0), (8, e_row 8 e_Req x.table), (7, zNil), (6, .ptr 3 [] 0), (5, .ptr 2 [] 0), (4, .ptr 1 [] 0), (3, .ptr 0 [] 0)], [(14, some (e_tb 3 e_Wr x.writes)), (3, some zX), (2, some (.agg 92 [.int .i64 x.cycle, e_Side x.a, e_Side x.e, e_row 3 e_Slot x.ldq, e_row 1 e_u32 x.sdq, e_row 1 e_u32 x.aeq, e_row 1 e_bool x.abq, e_row 1 e_bool x.ebq, e_row 5 e_Entry x.saq, e_row 8 e_Req x.table, e_row 1 e_u8 x.mem, .sl 14 [] 0 0 x.writes.length 3, e_Trp x.trap, .int .i64 x.lats, .int .i64 x.picks, .int .i64 x.tags])), (1, some (e_Script s)), (0, some (e_Cfg c))], 15⟩
theorem ra_in {c : Cfg} {s : Script} {x : Stt} : WeakE 15 (raEnt c s x).st (raSt c s x.table x [] 0).st := by
  refine (WeakE.frz (frz_env (L := [6, 7, 8, 9, 10, 11, 12, 13]) (σ := raEnt c s x) (τ := raMid c s x) rfl ⟨rfl, .same, rfl, fz_row rfl rfl, rfl, .same, rfl, .same, rfl, .same, rfl, .same, rfl, .same, trivial⟩ ⟨rfl, .same, rfl, .same, rfl, .agg (.cons .same (.cons .same (.cons .same (.cons (fz_row rfl rfl) (.cons (fz_row rfl rfl) (.cons (fz_row rfl rfl) (.cons (fz_row rfl rfl) (.cons (fz_row rfl rfl) (.cons (fz_row rfl rfl) (.cons (fz_row rfl rfl) (.cons (fz_row rfl rfl) (.cons .same (.cons .same (.cons .same (.cons .same (.cons .same .nil)))))))))))))))), rfl, .same, rfl, .same, trivial⟩)).trans ?_
  exact weakM [(0, 0), (1, 1), (2, 2), (3, 3), (4, 4), (5, 5), (6, 6), (7, 7), (8, 8), (9, 9), (10, 10), (11, 11), (12, 12), (13, 13), (14, 14), (16, 14)] rfl rfl rfl rfl rfl ⟨(k_is rfl rfl), (k_is rfl rfl), k_nil rfl, .ptr rfl, .ptr rfl, .ptr rfl, .ptr rfl, trivial⟩ ⟨(k_is rfl rfl), ⟨8, rfl⟩, (k_is rfl rfl), .agg (.cons (k_is rfl rfl) (.cons (k_is rfl rfl) (.cons (k_is rfl rfl) (.cons (k_is rfl rfl) (.cons (k_is rfl rfl) (.cons (k_is rfl rfl) (.cons (k_is rfl rfl) (.cons (k_is rfl rfl) (.cons (k_is rfl rfl) (.cons (k_is rfl rfl) (.cons (k_is rfl rfl) (.cons (.sl rfl) (.cons (k_is rfl rfl) (.cons (k_is rfl rfl) (.cons (k_is rfl rfl) (.cons (k_is rfl rfl) .nil)))))))))))))))), (k_is rfl rfl), (k_is rfl rfl), trivial⟩
theorem mem_k {κ : Nat → Option Nat} {m : List Int} {w : Wr} : leK κ (con (.row false 1 m.length (o_sto (okW m.length w.addr w.size) (fun i => e_u8 (ix m i)) w.addr.toNat w.size.toNat w.val))) (con (e_row 1 e_u8 (stoF m w))) := k_row sto_len.symm (.inl rfl) fun i hi => by
  unfold stoF
  rw [ix_tabL hi]
  rfl
theorem ra_loop {c : Cfg} {s : Script} {x : Stt} {r : XV} (ho : x.ok) (hb : x.writes.length + x.table.length ≤ 1000000)
    (hend : ∀ X L, (X, L) = endL x.table (x, []) → LoopAt (Ok Try.prog (Tab.q TR0)) c_ref15_Advance_l3 (XSt.mk [(11, .int .i64 0), (7, .sl 15 [] 0 0 L.length 8), (6, .ptr 3 [] 0), (5, .ptr 2 [] 0), (4, .ptr 1 [] 0), (3, .ptr 0 [] 0)] [(16, some (e_tb 3 e_Wr X.writes)), (15, some (e_tb 8 e_Req L)), (3, some zX), (2, some (bxR X)), (1, some (e_Script s)), (0, some (e_Cfg c))] 17) [Frm.blk 2, Frm.seq c_ref15_Advance_p3] (finQR [AR.cell 6 true 92] r)) :
    LoopAt (Ok Try.prog (Tab.q TR0)) c_ref15_Advance_l1 (raEnt c s x) [Frm.blk 0, Frm.seq c_ref15_Advance_p4] (finQR [AR.cell 6 true 92] r) := by
  have hw : x.wf := ho.1
  have hm0 : x.mem.length ≤ 1000000 := ho.2.2.2.2.2.2.2.2.1
  have hl0 : x.table.length ≤ 1000000 := ho.2.2.2.2.2.2.2.1
  have hs0 : x.saq.length ≤ 1000000 := ho.2.2.2.2.2.2.1
  have hq0 : x.ldq.length ≤ 1000000 := ho.2.1
  have hr0 : ∀ r ∈ x.table, r.wf := hw.2.2.2.2.2.2.2.2.2.1.1
  refine loopQ mix TR0ok (fun i : Nat => raSt c s x.table (endL (x.table.take i) (x, [])).1 (endL (x.table.take i) (x, [])).2 i) (fun i => i ≤ x.table.length) (fun i => x.table.length - i) 0 (Nat.zero_le _) ra_in ?_
  intro i hi
  replace hi : i ≤ x.table.length := hi
  have inv := endL_inv hw hm0 hb hi
  have stp := fun h : i < x.table.length => endL_step (p := (x, [])) h
  have hfin : i = x.table.length → endL (x.table.take i) (x, []) = endL x.table (x, []) := fun h => by rw [h, List.take_length]
  generalize endL (x.table.take i) (x, []) = p at inv stp hfin ⊢
  obtain ⟨X, L⟩ := p
  obtain ⟨iw, i2, i3, i4, i5, i6, i7, i8, i9, i10, _⟩ := inv
  simp only at iw i2 i3 i4 i5 i6 i7 i8 i9 i10 stp ⊢
  refine Eq.mpr (r_ra1 c s x.table X L i _ _) ?_
  by_cases hlt : i < x.table.length
  case neg =>
    have h1 : ¬ (i : Int) < (x.table.length : Int) := by omega
    simp only [h1, decide_false, cond_false]
    exact hend X L (hfin (by omega))
  have h1 : (i : Int) < (x.table.length : Int) := by omega
  have w1 : IntKind.i64.wrap ((i : Int) + 1) = ((i + 1 : Nat) : Int) := wrap_i64 (by omega) (by omega)
  have hr : (ix x.table i).wf := hr0 _ (ix_mem hlt)
  replace stp := stp hlt
  have hu : rngB X.mem.length (fun i => e_u8 (ix X.mem i)) = true := rngB_iff.2 fun i hi => iw.2.2.2.2.2.2.2.2.2.2.1.1 _ (ix_mem hi)
  have nx : ∀ {τ : XSt} (p' : Stt × List Req), endS (X, L) (ix x.table i) = p' → WeakE 15 τ.st (raSt c s x.table p'.1 p'.2 (i + 1)).st → ∃ j, j ≤ x.table.length ∧ WeakE 15 τ.st (raSt c s x.table (endL (x.table.take j) (x, [])).1 (endL (x.table.take j) (x, [])).2 j).st ∧ x.table.length - j < x.table.length - i := fun p' hp hk => ⟨i + 1, hlt, by rw [stp, hp]; exact hk, by omega⟩
  have wl : IntKind.i64.wrap ((ix x.table i).left - 1) = (ix x.table i).left - 1 ∨ ¬ (ix x.table i).left > 0 := by
    by_cases h : (ix x.table i).left > 0
    · have := hr.2.2.2.2.1
      exact .inl (wrap_i64 (by omega) (by unfold i64R at this; omega))
    · exact .inr h
  generalize hri : ix x.table i = r at hr stp nx wl ⊢
  have b1 : X.writes.length ≤ X.writes.length := Nat.le_refl _
  have b2 : (X.writes.length + 1) * 24 ≤ 140737488355328 := by omega
  have b3 : (L.length + 1) * 64 ≤ 140737488355328 := by omega
  have b4 : X.mem.length ≤ 1099511627776 := by omega
  have b5 : (X.saq.length - 1) * 32 ≤ 140737488355328 := by omega
  simp only [h1, w1, hri, decide_true, cond_true, Int.toNat_natCast, Nat.le_refl, pl_eq, b2, b3, b4, b5, hu, allN_true]
  by_cases hl : r.left > 0
  case neg =>
    simp only [hl, decide_false, cond_false]
    refine nx (X, L ++ [r]) (by unfold endS; rw [if_neg hl]) ?_
    exact weakM [(0, 0), (1, 1), (2, 2), (3, 3), (4, 4), (5, 5), (6, 6), (7, 7), (8, 8), (9, 9), (10, 10), (11, 11), (12, 12), (13, 13), (14, 14), (15, 18), (16, 16)] rfl rfl rfl rfl rfl ⟨(k_is rfl rfl), (k_is rfl rfl), (by show leK _ (.sl 18 [] 0 0 (L.length + 1) 8) (.sl 15 [] 0 0 (L ++ [_]).length 8); rw [app_len]; exact .sl rfl), .ptr rfl, .ptr rfl, .ptr rfl, .ptr rfl, trivial⟩ ⟨(k_is rfl rfl), (k_apT (fun j hj => by simp only [hj, decide_true, cond_true]; rfl) (by simp; rfl)), (k_is rfl rfl), .agg (.cons (k_is rfl rfl) (.cons (k_is rfl rfl) (.cons (k_is rfl rfl) (.cons (k_is rfl rfl) (.cons (k_is rfl rfl) (.cons (k_is rfl rfl) (.cons (k_is rfl rfl) (.cons (k_is rfl rfl) (.cons (k_is rfl rfl) (.cons (k_is rfl rfl) (.cons (k_is rfl rfl) (.cons (.sl rfl) (.cons (k_is rfl rfl) (.cons (k_is rfl rfl) (.cons (k_is rfl rfl) (.cons (k_is rfl rfl) .nil)))))))))))))))), (k_is rfl rfl), (k_is rfl rfl), trivial⟩
  obtain wl := wl.resolve_right (fun h => h hl)
  simp only [hl, wl, decide_true, cond_true]
  by_cases h1l : r.left = 1
  case neg =>
    have hz : ¬ r.left - 1 = 0 := by omega
    simp only [hz, decide_false, cond_false]
    refine nx (X, L ++ [{ r with left := r.left - 1 }]) (by unfold endS; rw [if_pos hl, if_neg h1l]) ?_
    exact weakM [(0, 0), (1, 1), (2, 2), (3, 3), (4, 4), (5, 5), (6, 6), (7, 7), (8, 8), (9, 9), (10, 10), (11, 11), (12, 12), (13, 13), (14, 14), (15, 18), (16, 16)] rfl rfl rfl rfl rfl ⟨(k_is rfl rfl), (k_is rfl rfl), (by show leK _ (.sl 18 [] 0 0 (L.length + 1) 8) (.sl 15 [] 0 0 (L ++ [_]).length 8); rw [app_len]; exact .sl rfl), .ptr rfl, .ptr rfl, .ptr rfl, .ptr rfl, trivial⟩ ⟨(k_is rfl rfl), (k_apT (fun j hj => by simp only [hj, decide_true, cond_true]; rfl) (by simp; rfl)), (k_is rfl rfl), .agg (.cons (k_is rfl rfl) (.cons (k_is rfl rfl) (.cons (k_is rfl rfl) (.cons (k_is rfl rfl) (.cons (k_is rfl rfl) (.cons (k_is rfl rfl) (.cons (k_is rfl rfl) (.cons (k_is rfl rfl) (.cons (k_is rfl rfl) (.cons (k_is rfl rfl) (.cons (k_is rfl rfl) (.cons (.sl rfl) (.cons (k_is rfl rfl) (.cons (k_is rfl rfl) (.cons (k_is rfl rfl) (.cons (k_is rfl rfl) .nil)))))))))))))))), (k_is rfl rfl), (k_is rfl rfl), trivial⟩
  have hz : r.left - 1 = 0 := by omega
  have ed : endS (X, L) r = (doneF X r, L) := by unfold endS; rw [if_pos hl, if_pos h1l]
  simp only [hz, decide_true, cond_true]
  cases hs : r.store with
  | true =>
    simp only [cond_true]
    have wsl : leK (kap [(0, 0), (1, 1), (2, 2), (3, 3), (4, 4), (5, 5), (6, 6), (7, 7), (8, 8), (9, 9), (10, 10), (11, 11), (12, 12), (13, 13), (14, 14), (15, 15), (16, 22)]) (.sl 22 [] 0 0 (X.writes.length + 1) 3) (.sl 16 [] 0 0 (X.writes ++ [(⟨r.addr, r.size, r.val⟩ : Wr)]).length 3) := by rw [app_len]; exact .sl rfl
    by_cases hq : X.saq.length = 0
    · have q1 : ¬ (X.saq.length : Int) > 0 := by omega
      have e : X.saq.tail = X.saq := by rw [List.eq_nil_of_length_eq_zero hq]; rfl
      have ssl : leK (kap [(0, 0), (1, 1), (2, 2), (3, 3), (4, 4), (5, 5), (6, 6), (7, 7), (8, 8), (9, 9), (10, 10), (11, 11), (12, 12), (13, 13), (14, 14), (15, 15), (16, 22)]) (con (e_row 5 e_Entry X.saq)) (con (e_row 5 e_Entry X.saq.tail)) := by rw [e]; exact k_is rfl rfl
      simp only [q1, decide_false, cond_false]
      refine nx (doneF X r, L) ed ?_
      rw [done_st hs]
      exact weakM [(0, 0), (1, 1), (2, 2), (3, 3), (4, 4), (5, 5), (6, 6), (7, 7), (8, 8), (9, 9), (10, 10), (11, 11), (12, 12), (13, 13), (14, 14), (15, 15), (16, 22)] rfl rfl rfl rfl rfl ⟨(k_is rfl rfl), (k_is rfl rfl), .sl rfl, .ptr rfl, .ptr rfl, .ptr rfl, .ptr rfl, trivial⟩ ⟨(k_apT (fun j hj => by simp only [hj, decide_true, cond_true]; rfl) (by simp; rfl)), (k_is rfl rfl), (k_is rfl rfl), .agg (.cons (k_is rfl rfl) (.cons (k_is rfl rfl) (.cons (k_is rfl rfl) (.cons (k_is rfl rfl) (.cons (k_is rfl rfl) (.cons (k_is rfl rfl) (.cons (k_is rfl rfl) (.cons (k_is rfl rfl) (.cons ssl (.cons (k_is rfl rfl) (.cons (mem_k (m := X.mem) (w := ⟨r.addr, r.size, r.val⟩)) (.cons wsl (.cons (k_is rfl rfl) (.cons (k_is rfl rfl) (.cons (k_is rfl rfl) (.cons (k_is rfl rfl) .nil)))))))))))))))), (k_is rfl rfl), (k_is rfl rfl), trivial⟩
    · have q1 : (X.saq.length : Int) > 0 := by omega
      have q2 : 1 ≤ (X.saq.length : Int) := by omega
      have ssl : leK (kap [(0, 0), (1, 1), (2, 2), (3, 3), (4, 4), (5, 5), (6, 6), (7, 7), (8, 8), (9, 9), (10, 10), (11, 11), (12, 12), (13, 13), (14, 14), (15, 15), (16, 22)]) (con (.row false 5 (X.saq.length - 1) fun i => e_Entry (ix X.saq (1 + i)))) (con (e_row 5 e_Entry X.saq.tail)) := k_row (by simp) (.inl rfl) fun i hi => by rw [ix_tail, Nat.add_comm]
      simp only [q1, q2, decide_true, cond_true]
      refine nx (doneF X r, L) ed ?_
      rw [done_st hs]
      refine WeakE.trans (τ := XSt.st ⟨[(9, .int .i64 ((i + 1 : Nat) : Int)), (8, e_row 8 e_Req x.table), (7, .sl 15 [] 0 0 L.length 8), (6, .ptr 3 [] 0), (5, .ptr 2 [] 0), (4, .ptr 1 [] 0), (3, .ptr 0 [] 0)], [(22, some (.tab (X.writes.length + 1) 3 fun j => .agg 3 [.int .i64 (bif decide (j < X.writes.length) then (ix X.writes j).addr else r.addr), .int .i64 (bif decide (j < X.writes.length) then (ix X.writes j).size else r.size), .int .u32 (bif decide (j < X.writes.length) then (ix X.writes j).val else r.val)])), (15, some (e_tb 8 e_Req L)), (3, some zX), (2, some (.agg 92 [.int .i64 X.cycle, e_Side X.a, e_Side X.e, e_row 3 e_Slot X.ldq, e_row 1 e_u32 X.sdq, e_row 1 e_u32 X.aeq, e_row 1 e_bool X.abq, e_row 1 e_bool X.ebq, .row false 5 (X.saq.length - 1) fun i => e_Entry (ix X.saq (1 + i)), e_row 8 e_Req X.table, .row false 1 X.mem.length (o_sto (okW X.mem.length r.addr r.size) (fun i => e_u8 (ix X.mem i)) r.addr.toNat r.size.toNat r.val), .sl 22 [] 0 0 (X.writes.length + 1) 3, e_Trp X.trap, .int .i64 X.lats, .int .i64 X.picks, .int .i64 X.tags])), (1, some (e_Script s)), (0, some (e_Cfg c))], 24⟩) (by
        refine WeakE.frz ?_
        refine frz_env (L := [23]) ?_ ?_ ?_
        · rfl
        · exact ⟨rfl, .same, rfl, .same, rfl, .same, rfl, .same, rfl, .same, rfl, .same, rfl, .same, trivial⟩
        · exact ⟨rfl, .same, rfl, .same, rfl, .same, rfl, .agg (.cons .same (.cons .same (.cons .same (.cons .same (.cons .same (.cons .same (.cons .same (.cons .same (.cons (fz_row rfl rfl) (.cons .same (.cons .same (.cons .same (.cons .same (.cons .same (.cons .same (.cons .same .nil)))))))))))))))), rfl, .same, rfl, .same, trivial⟩) ?_
      exact weakM [(0, 0), (1, 1), (2, 2), (3, 3), (4, 4), (5, 5), (6, 6), (7, 7), (8, 8), (9, 9), (10, 10), (11, 11), (12, 12), (13, 13), (14, 14), (15, 15), (16, 22)] rfl rfl rfl rfl rfl ⟨(k_is rfl rfl), (k_is rfl rfl), .sl rfl, .ptr rfl, .ptr rfl, .ptr rfl, .ptr rfl, trivial⟩ ⟨(k_apT (fun j hj => by simp only [hj, decide_true, cond_true]; rfl) (by simp; rfl)), (k_is rfl rfl), (k_is rfl rfl), .agg (.cons (k_is rfl rfl) (.cons (k_is rfl rfl) (.cons (k_is rfl rfl) (.cons (k_is rfl rfl) (.cons (k_is rfl rfl) (.cons (k_is rfl rfl) (.cons (k_is rfl rfl) (.cons (k_is rfl rfl) (.cons ssl (.cons (k_is rfl rfl) (.cons (mem_k (m := X.mem) (w := ⟨r.addr, r.size, r.val⟩)) (.cons wsl (.cons (k_is rfl rfl) (.cons (k_is rfl rfl) (.cons (k_is rfl rfl) (.cons (k_is rfl rfl) .nil)))))))))))))))), (k_is rfl rfl), (k_is rfl rfl), trivial⟩
  | false =>
    simp only [cond_false]
    by_cases hg : r.addr ≥ 0 ∧ r.addr ≤ 4294967295
    · obtain ⟨g1, g2⟩ := hg
      have gw : IntKind.u32.wrap r.addr = r.addr := wrap_u32 (by omega) (by omega)
      have g3 : (0 : Int) ≤ r.addr := g1
      have g4 : r.addr < 4294967296 := by omega
      have hd : ldF X r = loadI X.mem.length (fun i => e_u8 (ix X.mem i)) r.op r.addr := by unfold ldF loadF; rw [if_pos ⟨g1, g2⟩]
      simp only [g1, g2, g3, g4, gw, decide_true, cond_true]
      by_cases hn : r.reg < 0
      · simp only [hn, decide_true, cond_true]
        refine ⟨(X.ldq, r.tag, loadI X.mem.length (fun i => e_u8 (ix X.mem i)) r.op r.addr), .rfl, ⟨by show X.ldq.length ≤ 1000000; omega⟩, ?_⟩
        intro y hy
        replace hy : y = fillF X.ldq r.tag (loadI X.mem.length (fun i => e_u8 (ix X.mem i)) r.op r.addr) := hy
        rw [← hd] at hy
        subst hy
        refine nx (doneF X r, L) ed ?_
        rw [done_ldq hs hn]
        exact weakM [(0, 0), (1, 1), (2, 2), (3, 3), (4, 4), (5, 5), (6, 6), (7, 7), (8, 8), (9, 9), (10, 10), (11, 11), (12, 12), (13, 13), (14, 14), (15, 15), (16, 16)] rfl rfl rfl rfl rfl ⟨(k_is rfl rfl), (k_is rfl rfl), .sl rfl, .ptr rfl, .ptr rfl, .ptr rfl, .ptr rfl, trivial⟩ ⟨(k_is rfl rfl), (k_is rfl rfl), (k_is rfl rfl), .agg (.cons (k_is rfl rfl) (.cons (k_is rfl rfl) (.cons (k_is rfl rfl) (.cons (k_is rfl rfl) (.cons (k_is rfl rfl) (.cons (k_is rfl rfl) (.cons (k_is rfl rfl) (.cons (k_is rfl rfl) (.cons (k_is rfl rfl) (.cons (k_is rfl rfl) (.cons (k_is rfl rfl) (.cons (.sl rfl) (.cons (k_is rfl rfl) (.cons (k_is rfl rfl) (.cons (k_is rfl rfl) (.cons (k_is rfl rfl) .nil)))))))))))))))), (k_is rfl rfl), (k_is rfl rfl), trivial⟩
      · by_cases hk : 1 ≤ r.reg ∧ r.reg ≤ 15
        · have k1 : r.reg ≥ 1 := hk.1
          have k2 : r.reg ≤ 15 := hk.2
          have k3 : 0 ≤ r.reg := by omega
          have k4 : r.reg < 16 := by omega
          have k5 : r.reg.toNat < 16 := by omega
          simp only [hn, k1, k2, k3, k4, k5, Nat.beq_refl, decide_true, decide_false, cond_true, cond_false]
          refine nx (doneF X r, L) ed ?_
          rw [done_reg hs hk, hd]
          exact weakM [(0, 0), (1, 1), (2, 2), (3, 3), (4, 4), (5, 5), (6, 6), (7, 7), (8, 8), (9, 9), (10, 10), (11, 11), (12, 12), (13, 13), (14, 14), (15, 15), (16, 16)] rfl rfl rfl rfl rfl ⟨(k_is rfl rfl), (k_is rfl rfl), .sl rfl, .ptr rfl, .ptr rfl, .ptr rfl, .ptr rfl, trivial⟩ ⟨(k_is rfl rfl), (k_is rfl rfl), (k_is rfl rfl), .agg (.cons (k_is rfl rfl) (.cons (k_is rfl rfl) (.cons (k_is rfl rfl) (.cons (k_is rfl rfl) (.cons (k_is rfl rfl) (.cons (k_is rfl rfl) (.cons (k_is rfl rfl) (.cons (k_is rfl rfl) (.cons (k_is rfl rfl) (.cons (k_is rfl rfl) (.cons (k_is rfl rfl) (.cons (.sl rfl) (.cons (k_is rfl rfl) (.cons (k_is rfl rfl) (.cons (k_is rfl rfl) (.cons (k_is rfl rfl) .nil)))))))))))))))), (k_is rfl rfl), (k_is rfl rfl), trivial⟩
        · have kz : (bif decide (r.reg ≥ 1) then decide (r.reg ≤ 15) else false) = false := by
            by_cases k1 : r.reg ≥ 1
            · have k2 : ¬ r.reg ≤ 15 := fun h => hk ⟨k1, h⟩
              simp [k1, k2]
            · simp [k1]
          simp only [hn, kz, Ra.g2, decide_false, cond_false, cond_true]
          refine nx (doneF X r, L) ed ?_
          rw [done_no hs hn hk]
          exact weakM [(0, 0), (1, 1), (2, 2), (3, 3), (4, 4), (5, 5), (6, 6), (7, 7), (8, 8), (9, 9), (10, 10), (11, 11), (12, 12), (13, 13), (14, 14), (15, 15), (16, 16)] rfl rfl rfl rfl rfl ⟨(k_is rfl rfl), (k_is rfl rfl), .sl rfl, .ptr rfl, .ptr rfl, .ptr rfl, .ptr rfl, trivial⟩ ⟨(k_is rfl rfl), (k_is rfl rfl), (k_is rfl rfl), .agg (.cons (k_is rfl rfl) (.cons (k_is rfl rfl) (.cons (k_is rfl rfl) (.cons (k_is rfl rfl) (.cons (k_is rfl rfl) (.cons (k_is rfl rfl) (.cons (k_is rfl rfl) (.cons (k_is rfl rfl) (.cons (k_is rfl rfl) (.cons (k_is rfl rfl) (.cons (k_is rfl rfl) (.cons (.sl rfl) (.cons (k_is rfl rfl) (.cons (k_is rfl rfl) (.cons (k_is rfl rfl) (.cons (k_is rfl rfl) .nil)))))))))))))))), (k_is rfl rfl), (k_is rfl rfl), trivial⟩
    · have gz : (bif decide (r.addr ≥ 0) then decide (r.addr < 4294967296) else false) = false := by
        by_cases g1 : r.addr ≥ 0
        · have g2 : ¬ r.addr < 4294967296 := fun h => hg ⟨g1, by omega⟩
          simp [g1, g2]
        · simp [g1]
      have hd : ldF X r = 0 := by unfold ldF; rw [if_neg (by omega)]
      simp only [gz, Ra.g2, cond_false, cond_true]
      by_cases hn : r.reg < 0
      · simp only [hn, decide_true, cond_true]
        refine ⟨(X.ldq, r.tag, 0), .rfl, ⟨by show X.ldq.length ≤ 1000000; omega⟩, ?_⟩
        intro y hy
        replace hy : y = fillF X.ldq r.tag (0) := hy
        rw [← hd] at hy
        subst hy
        refine nx (doneF X r, L) ed ?_
        rw [done_ldq hs hn]
        exact weakM [(0, 0), (1, 1), (2, 2), (3, 3), (4, 4), (5, 5), (6, 6), (7, 7), (8, 8), (9, 9), (10, 10), (11, 11), (12, 12), (13, 13), (14, 14), (15, 15), (16, 16)] rfl rfl rfl rfl rfl ⟨(k_is rfl rfl), (k_is rfl rfl), .sl rfl, .ptr rfl, .ptr rfl, .ptr rfl, .ptr rfl, trivial⟩ ⟨(k_is rfl rfl), (k_is rfl rfl), (k_is rfl rfl), .agg (.cons (k_is rfl rfl) (.cons (k_is rfl rfl) (.cons (k_is rfl rfl) (.cons (k_is rfl rfl) (.cons (k_is rfl rfl) (.cons (k_is rfl rfl) (.cons (k_is rfl rfl) (.cons (k_is rfl rfl) (.cons (k_is rfl rfl) (.cons (k_is rfl rfl) (.cons (k_is rfl rfl) (.cons (.sl rfl) (.cons (k_is rfl rfl) (.cons (k_is rfl rfl) (.cons (k_is rfl rfl) (.cons (k_is rfl rfl) .nil)))))))))))))))), (k_is rfl rfl), (k_is rfl rfl), trivial⟩
      · by_cases hk : 1 ≤ r.reg ∧ r.reg ≤ 15
        · have k1 : r.reg ≥ 1 := hk.1
          have k2 : r.reg ≤ 15 := hk.2
          have k3 : 0 ≤ r.reg := by omega
          have k4 : r.reg < 16 := by omega
          have k5 : r.reg.toNat < 16 := by omega
          simp only [hn, k1, k2, k3, k4, k5, Nat.beq_refl, decide_true, decide_false, cond_true, cond_false]
          refine nx (doneF X r, L) ed ?_
          rw [done_reg hs hk, hd]
          exact weakM [(0, 0), (1, 1), (2, 2), (3, 3), (4, 4), (5, 5), (6, 6), (7, 7), (8, 8), (9, 9), (10, 10), (11, 11), (12, 12), (13, 13), (14, 14), (15, 15), (16, 16)] rfl rfl rfl rfl rfl ⟨(k_is rfl rfl), (k_is rfl rfl), .sl rfl, .ptr rfl, .ptr rfl, .ptr rfl, .ptr rfl, trivial⟩ ⟨(k_is rfl rfl), (k_is rfl rfl), (k_is rfl rfl), .agg (.cons (k_is rfl rfl) (.cons (k_is rfl rfl) (.cons (k_is rfl rfl) (.cons (k_is rfl rfl) (.cons (k_is rfl rfl) (.cons (k_is rfl rfl) (.cons (k_is rfl rfl) (.cons (k_is rfl rfl) (.cons (k_is rfl rfl) (.cons (k_is rfl rfl) (.cons (k_is rfl rfl) (.cons (.sl rfl) (.cons (k_is rfl rfl) (.cons (k_is rfl rfl) (.cons (k_is rfl rfl) (.cons (k_is rfl rfl) .nil)))))))))))))))), (k_is rfl rfl), (k_is rfl rfl), trivial⟩
        · have kz : (bif decide (r.reg ≥ 1) then decide (r.reg ≤ 15) else false) = false := by
            by_cases k1 : r.reg ≥ 1
            · have k2 : ¬ r.reg ≤ 15 := fun h => hk ⟨k1, h⟩
              simp [k1, k2]
            · simp [k1]
          simp only [hn, kz, Ra.g2, decide_false, cond_false, cond_true]
          refine nx (doneF X r, L) ed ?_
          rw [done_no hs hn hk]
          exact weakM [(0, 0), (1, 1), (2, 2), (3, 3), (4, 4), (5, 5), (6, 6), (7, 7), (8, 8), (9, 9), (10, 10), (11, 11), (12, 12), (13, 13), (14, 14), (15, 15), (16, 16)] rfl rfl rfl rfl rfl ⟨(k_is rfl rfl), (k_is rfl rfl), .sl rfl, .ptr rfl, .ptr rfl, .ptr rfl, .ptr rfl, trivial⟩ ⟨(k_is rfl rfl), (k_is rfl rfl), (k_is rfl rfl), .agg (.cons (k_is rfl rfl) (.cons (k_is rfl rfl) (.cons (k_is rfl rfl) (.cons (k_is rfl rfl) (.cons (k_is rfl rfl) (.cons (k_is rfl rfl) (.cons (k_is rfl rfl) (.cons (k_is rfl rfl) (.cons (k_is rfl rfl) (.cons (k_is rfl rfl) (.cons (k_is rfl rfl) (.cons (.sl rfl) (.cons (k_is rfl rfl) (.cons (k_is rfl rfl) (.cons (k_is rfl rfl) (.cons (k_is rfl rfl) .nil)))))))))))))))), (k_is rfl rfl), (k_is rfl rfl), trivial⟩
end Go.Proofs.Ytbemlndjdbopeaa

/- The document's cycle of the banks. -/
namespace Go.Proofs.Ytbemlndjdbopeaa
open Go.Ra
set_option linter.unusedVariables false
set_option linter.unusedSimpArgs false
theorem rb_in {c : Cfg} {s : Script} {X : Stt} {L : List Req} : WeakE 17 (XSt.st (XSt.mk [(11, .int .i64 0), (7, .sl 15 [] 0 0 L.length 8), (6, .ptr 3 [] 0), (5, .ptr 2 [] 0), (4, .ptr 1 [] 0), (3, .ptr 0 [] 0)] [(16, some (e_tb 3 e_Wr X.writes)), (15, some (e_tb 8 e_Req L)), (3, some zX), (2, some (bxR X)), (1, some (e_Script s)), (0, some (e_Cfg c))] 17)) (rbSt c s X.table { X with table := L } 0).st := by
  refine WeakE.frz ?_
  refine frz_env (L := [16]) ?_ ?_ ?_
  · rfl
  · exact ⟨rfl, .same, rfl, .same, rfl, .same, rfl, .same, rfl, .same, rfl, .same, trivial⟩
  · exact ⟨rfl, .same, rfl, .same, rfl, .agg (.cons .same (.cons .same (.cons .same (.cons .same (.cons .same (.cons .same (.cons .same (.cons .same (.cons .same (.cons .same (.cons .same (.cons (fz_row rfl rfl) (.cons .same (.cons .same (.cons .same (.cons .same .nil)))))))))))))))), rfl, .same, rfl, .same, trivial⟩
theorem rc_in {c : Cfg} {s : Script} {l : List Req} {y : Stt} {k : Int} : WeakE 17 (XSt.st (XSt.mk [(14, .int .i64 0), (13, zNil), (12, .bool false), (11, .int .i64 k), (7, .sl 15 [] 0 0 y.table.length 8), (6, .ptr 3 [] 0), (5, .ptr 2 [] 0), (4, .ptr 1 [] 0), (3, .ptr 0 [] 0)] [(15, some (e_tb 8 e_Req y.table)), (3, some zX), (2, some (e_Stt { y with table := l })), (1, some (e_Script s)), (0, some (e_Cfg c))] 17)) (rcSt c s l y k false [] 0).st :=
  weakM [(0, 0), (1, 1), (2, 2), (3, 3), (4, 4), (5, 5), (6, 6), (7, 7), (8, 8), (9, 9), (10, 10), (11, 11), (12, 12), (13, 13), (14, 14), (15, 15), (16, 16)] rfl rfl rfl rfl rfl ⟨(k_is rfl rfl), k_nil rfl, (k_is rfl rfl), (k_is rfl rfl), .sl rfl, .ptr rfl, .ptr rfl, .ptr rfl, .ptr rfl, trivial⟩ ⟨⟨1, rfl⟩, (k_is rfl rfl), (k_is rfl rfl), (k_is rfl rfl), (k_is rfl rfl), (k_is rfl rfl), trivial⟩
theorem rb_fin {c : Cfg} {s : Script} {l : List Req} {y : Stt} {k m : Nat} {lt la pi : Int} {w : XV} {f : Nat → XV} (hm : m < y.table.length) (h1 : con (f m) = con (e_Req { ix y.table m with left := lt })) (h2 : ∀ j, j < y.table.length → ¬ j = m → con (f j) = con (e_Req (ix y.table j))) :
    WeakE 17 (XSt.st (XSt.mk [(11, .int .i64 ((k + 1 : Nat) : Int)), (7, .sl 15 [] 0 0 y.table.length 8), (6, .ptr 3 [] 0), (5, .ptr 2 [] 0), (4, .ptr 1 [] 0), (3, .ptr 0 [] 0)] [(17, some w), (15, some (.tab y.table.length 8 f)), (3, some zX), (2, some (e_Stt { y with table := l, lats := la, picks := pi })), (1, some (e_Script s)), (0, some (e_Cfg c))] 18)) (rbSt c s l { y with lats := la, picks := pi, table := y.table.set m { ix y.table m with left := lt } } (k + 1)).st := by
  have hl : (y.table.set m { ix y.table m with left := lt }).length = y.table.length := List.length_set
  have e1 : con (.tab y.table.length 8 f) = con (e_tb 8 e_Req (y.table.set m { ix y.table m with left := lt })) := by
    unfold e_tb
    rw [hl]
    refine con_tabC fun j hj => ?_
    rw [ix_set]
    by_cases he : j = m
    · rw [if_pos ⟨he, hm⟩, he, h1]
    · rw [if_neg (fun h => he h.1), h2 j hj he]
  have e2 : ∀ n, n = y.table.length → con (.sl 15 [] 0 0 y.table.length 8) = con (.sl 15 [] 0 0 n 8) := fun n hn => by rw [hn]
  exact .ofL (weakT ⟨le_is rfl, le_is (e2 _ hl), le_is rfl, le_is rfl, le_is rfl, le_is rfl, trivial⟩ ⟨congrArg some e1, rfl, rfl, rfl, rfl, trivial⟩ (Nat.le_refl _) rfl)
theorem any_step {α : Type} [Inhabited α] {p : α → Bool} {l : List α} {i : Nat} (h : i < l.length) : (l.take (i + 1)).any p = ((l.take i).any p || p (ix l i)) := by
  rw [List.take_succ_eq_append_getElem h, List.any_append, ix_lt h]
  simp
theorem rc_loop {c : Cfg} {s : Script} {l : List Req} {y : Stt} {k : Nat} {r : XV} {A : XSt → Prop} (hl0 : y.table.length ≤ 1000000) (hr0 : ∀ r ∈ y.table, r.wf) (hs : s.lats.length ≤ 1000000 ∧ s.picks.length ≤ 1000000) (hk : (k : Int) ≤ 16)
    (hA : ∀ τ y', begF c s y (k : Int) = y' → WeakE 17 τ.st (rbSt c s l y' (k + 1)).st → A τ) :
    LoopAt (Ok Try.prog (Tab.q TR0)) c_ref15_Advance_l2 (XSt.mk [(14, .int .i64 0), (13, zNil), (12, .bool false), (11, .int .i64 k), (7, .sl 15 [] 0 0 y.table.length 8), (6, .ptr 3 [] 0), (5, .ptr 2 [] 0), (4, .ptr 1 [] 0), (3, .ptr 0 [] 0)] [(15, some (e_tb 8 e_Req y.table)), (3, some zX), (2, some (e_Stt { y with table := l })), (1, some (e_Script s)), (0, some (e_Cfg c))] 17) [Frm.blk 4, Frm.seq c_ref15_Advance_p1, Frm.blk 3, Frm.seq c_ref15_Advance_p2, Frm.lp c_ref15_Advance_l3 A, Frm.blk 2, Frm.seq c_ref15_Advance_p3] (finQR [AR.cell 6 true 92] r) := by
  refine loopQ mix TR0ok (fun i : Nat => rcSt c s l y k ((y.table.take i).any (isBz c k)) (waitK c k y.table i) i) (fun i => i ≤ y.table.length) (fun i => y.table.length - i) 0 (Nat.zero_le _) rc_in ?_
  intro i hi
  replace hi : i ≤ y.table.length := hi
  have stp : waitK c k y.table (i + 1) = _ := wait_step
  have hwl := wait_len (c := c) (b := (k : Int)) (l := y.table) (k := i)
  have hwm : ∀ m, m < (waitK c k y.table i).length → 0 ≤ ix (waitK c k y.table i) m ∧ ix (waitK c k y.table i) m < i := fun m hm => wait_mem (ix_mem hm)
  have hfin : i = y.table.length → waitK c k y.table i = waitK c k y.table y.table.length ∧ (y.table.take i).any (isBz c k) = y.table.any (isBz c k) := fun h => by rw [h, List.take_length]; exact ⟨rfl, rfl⟩
  have bst := fun h : i < y.table.length => any_step (p := isBz c k) h
  generalize waitK c k y.table i = w at stp hwl hwm hfin ⊢
  generalize (y.table.take i).any (isBz c k) = b at bst hfin ⊢
  refine Eq.mpr (r_ra2 c s l y k b w i _ _ _) ?_
  by_cases hlt : i < y.table.length
  · have h1 : (i : Int) < (y.table.length : Int) := by omega
    have w1 : IntKind.i64.wrap ((i : Int) + 1) = ((i + 1 : Nat) : Int) := wrap_i64 (by omega) (by omega)
    have hr : (ix y.table i).wf := hr0 _ (ix_mem hlt)
    replace bst := bst hlt
    have nx : ∀ {τ : XSt} (b' : Bool) (w' : List Int), b' = (y.table.take (i + 1)).any (isBz c k) → w' = waitK c k y.table (i + 1) → WeakE 17 τ.st (rcSt c s l y k b' w' (i + 1)).st → ∃ j, j ≤ y.table.length ∧ WeakE 17 τ.st (rcSt c s l y k ((y.table.take j).any (isBz c k)) (waitK c k y.table j) j).st ∧ y.table.length - j < y.table.length - i := fun b' w' hb hw hk => ⟨i + 1, hlt, by rw [← hb, ← hw]; exact hk, by omega⟩
    have b2 : (w.length + 1) * 8 ≤ 140737488355328 := by omega
    have ha : (ix y.table i).addr ≤ 9223372036854775807 := hr.2.1.2
    simp only [h1, hlt, w1, b2, ha, decide_true, cond_true, Int.toNat_natCast, Nat.le_refl, pl_eq, Nat.beq_refl]
    by_cases hb : bnkI (ix y.table i).addr c.banks = (k : Int)
    case neg =>
      simp only [hb, not_false_eq_true, decide_true, cond_true]
      refine nx b w (by rw [bst]; simp [isBz, hb]) (by rw [stp, if_neg (by simp [isWt, hb])]) ?_
      exact .of (weakX ⟨rfl, rfl, rfl, rfl, rfl, rfl, rfl, rfl, rfl, trivial⟩ ⟨rfl, rfl, rfl, rfl, rfl, rfl, trivial⟩ (Nat.le_refl _))
    simp only [hb, not_true_eq_false, decide_false, cond_false]
    by_cases hg : (ix y.table i).left > 0
    · have hz : ¬ (ix y.table i).left = 0 := by omega
      simp only [hg, hz, decide_true, decide_false, cond_true, cond_false]
      refine nx true w (by rw [bst]; simp [isBz, hb]; exact .inr hg) (by rw [stp, if_neg (by simp [isWt, hb, hz])]) ?_
      exact .of (weakX ⟨rfl, rfl, rfl, rfl, rfl, rfl, rfl, rfl, rfl, trivial⟩ ⟨rfl, rfl, rfl, rfl, rfl, rfl, trivial⟩ (Nat.le_refl _))
    have nb : isBz c k (ix y.table i) = false := by simp [isBz, hb]; omega
    simp only [hg, decide_false, cond_false]
    by_cases hz : (ix y.table i).left = 0
    · simp only [hz, decide_true, cond_true]
      refine nx b (w ++ [(i : Int)]) (by rw [bst, nb, Bool.or_false]) (by rw [stp, if_pos (by simp [isWt, hb, hz])]) ?_
      exact weakM [(0, 0), (1, 1), (2, 2), (3, 3), (4, 4), (5, 5), (6, 6), (7, 7), (8, 8), (9, 9), (10, 10), (11, 11), (12, 12), (13, 13), (14, 14), (15, 15), (16, 16), (17, 18)] rfl rfl rfl rfl rfl ⟨(k_is rfl rfl), (by show leK _ (.sl 18 [] 0 0 (w.length + 1) 1) (.sl 17 [] 0 0 (w ++ [_]).length 1); rw [app_len]; exact .sl rfl), (k_is rfl rfl), (k_is rfl rfl), .sl rfl, .ptr rfl, .ptr rfl, .ptr rfl, .ptr rfl, trivial⟩ ⟨(k_apT (fun j hj => by simp only [hj, decide_true, cond_true]; rfl) (by simp; rfl)), (k_is rfl rfl), (k_is rfl rfl), (k_is rfl rfl), (k_is rfl rfl), (k_is rfl rfl), trivial⟩
    · simp only [hz, decide_false, cond_false]
      refine nx b w (by rw [bst, nb, Bool.or_false]) (by rw [stp, if_neg (by simp [isWt, hb, hz])]) ?_
      exact .of (weakX ⟨rfl, rfl, rfl, rfl, rfl, rfl, rfl, rfl, rfl, trivial⟩ ⟨rfl, rfl, rfl, rfl, rfl, rfl, trivial⟩ (Nat.le_refl _))
  · have h1 : ¬ (i : Int) < (y.table.length : Int) := by omega
    obtain rfl : i = y.table.length := by omega
    obtain ⟨f1, f2⟩ := hfin rfl
    have wk : IntKind.i64.wrap ((k : Int) + 1) = ((k + 1 : Nat) : Int) := wrap_i64 (by omega) (by omega)
    have ef : begF c s y k = if b then y else if w.length = 0 then y else { y with picks := if w.length > 1 then IntKind.i64.wrap (y.picks + 1) else y.picks, lats := IntKind.i64.wrap (y.lats + 1), table := y.table.set (whichF s y w) { ix y.table (whichF s y w) with left := latF s y.lats c.lat } } := by
      unfold begF
      rw [← f1, ← f2]
    simp only [h1, wk, decide_false, cond_false]
    cases b with
    | true =>
      simp only [cond_true]
      refine hA _ y (by rw [ef]; rfl) ?_
      exact .ofL (weakT ⟨le_is rfl, le_is rfl, le_is rfl, le_is rfl, le_is rfl, le_is rfl, trivial⟩ ⟨rfl, rfl, rfl, rfl, rfl, trivial⟩ (Nat.le_refl _) rfl)
    | false =>
    rw [if_neg (by simp)] at ef
    simp only [cond_false, Bool.not_false, cond_true]
    by_cases hz : w.length = 0
    · have hz' : (w.length : Int) = 0 := by omega
      simp only [hz', decide_true, cond_true]
      refine hA _ y (by rw [ef, if_pos hz]) ?_
      exact .ofL (weakT ⟨le_is rfl, le_is rfl, le_is rfl, le_is rfl, le_is rfl, le_is rfl, trivial⟩ ⟨rfl, rfl, rfl, rfl, rfl, trivial⟩ (Nat.le_refl _) rfl)
    have hz' : ¬ (w.length : Int) = 0 := by omega
    rw [if_neg hz] at ef
    simp only [hz', decide_false, cond_false]
    by_cases hm : w.length > 1
    · have hm' : (w.length : Int) > 1 := by omega
      simp only [hm', decide_true, cond_true]
      refine ⟨(s, y.picks, (w.length : Int)), .rfl, ⟨hs.2⟩, ?_⟩
      intro u hu
      replace hu : u = pickF s y.picks w.length := hu
      have hyr := pick_rng s y.picks (n := (w.length : Int)) (by omega)
      rw [← hu] at hyr
      have y1 : 0 ≤ u := hyr.1
      have y2 : u < (w.length : Int) := hyr.2
      have y3 : u.toNat < w.length := by omega
      simp only [y1, y2, y3, decide_true, cond_true, Nat.beq_refl]
      refine ⟨(s, y.lats, c.lat), .rfl, ⟨hs.1⟩, ?_⟩
      intro z hz2
      replace hz2 : z = latF s y.lats c.lat := hz2
      obtain ⟨k1, k2⟩ := hwm u.toNat y3
      have k3 : (ix w u.toNat).toNat < y.table.length := by omega
      simp only [k1, k2, k3, decide_true, cond_true, Nat.beq_refl]
      have hwh : whichF s y w = (ix w u.toNat).toNat := by
        unfold whichF
        rw [if_pos hm, ← hu]
      rw [hwh, if_pos hm, ← hz2] at ef
      refine hA _ _ ef ?_
      refine rb_fin (c := c) (s := s) (l := l) (y := y) (k := k) (lt := z) (la := IntKind.i64.wrap (y.lats + 1)) (pi := IntKind.i64.wrap (y.picks + 1)) (w := e_tb 1 e_i64 w) k3 ?_ fun j hj he => ?_
      · simp only [Nat.beq_refl, cond_true]; rfl
      · simp only [beq_ne he, cond_false]; rfl
    · have hm' : ¬ (w.length : Int) > 1 := by omega
      have y2 : (0 : Int) < (w.length : Int) := by omega
      have y3 : 0 < w.length := by omega
      simp only [hm', y2, y3, decide_true, decide_false, cond_true, cond_false]
      refine ⟨(s, y.lats, c.lat), .rfl, ⟨hs.1⟩, ?_⟩
      intro z hz2
      replace hz2 : z = latF s y.lats c.lat := hz2
      obtain ⟨k1, k2⟩ := hwm 0 y3
      have k3 : (ix w 0).toNat < y.table.length := by omega
      simp only [k1, k2, k3, decide_true, cond_true, Nat.beq_refl]
      have hwh : whichF s y w = (ix w 0).toNat := by
        unfold whichF
        rw [if_neg hm]; rfl
      rw [hwh, if_neg hm, ← hz2] at ef
      refine hA _ _ ef ?_
      refine rb_fin (c := c) (s := s) (l := l) (y := y) (k := k) (lt := z) (la := IntKind.i64.wrap (y.lats + 1)) (pi := y.picks) (w := e_tb 1 e_i64 w) k3 ?_ fun j hj he => ?_
      · simp only [Nat.beq_refl, cond_true]; rfl
      · simp only [beq_ne he, cond_false]; rfl
theorem rb_loop {c : Cfg} {s : Script} {X : Stt} {L : List Req} (hg : goodS { X with table := L }) (hs : s.lats.length ≤ 1000000 ∧ s.picks.length ≤ 1000000) (h1 : 1 ≤ c.banks) (h2 : c.banks ≤ 16) :
    LoopAt (Ok Try.prog (Tab.q TR0)) c_ref15_Advance_l3 (XSt.mk [(11, .int .i64 0), (7, .sl 15 [] 0 0 L.length 8), (6, .ptr 3 [] 0), (5, .ptr 2 [] 0), (4, .ptr 1 [] 0), (3, .ptr 0 [] 0)] [(16, some (e_tb 3 e_Wr X.writes)), (15, some (e_tb 8 e_Req L)), (3, some zX), (2, some (bxR X)), (1, some (e_Script s)), (0, some (e_Cfg c))] 17) [Frm.blk 2, Frm.seq c_ref15_Advance_p3] (finQR [AR.cell 6 true 92] (e_Stt (bgK c s { X with table := L } c.banks.toNat))) := by
  refine loopQ mix TR0ok (fun k : Nat => rbSt c s X.table (bgK c s { X with table := L } k) k) (fun k => k ≤ c.banks.toNat) (fun k => c.banks.toNat - k) 0 (Nat.zero_le _) rb_in ?_
  intro k hk
  replace hk : k ≤ c.banks.toNat := hk
  have hgk := binv_good hg (bgK_inv (c := c) (s := s) hg.1.1 k)
  refine Eq.mpr (r_ra3 c s X.table _ k _ _) ?_
  by_cases hlt : k < c.banks.toNat
  · have g1 : (k : Int) < c.banks := by omega
    simp only [g1, decide_true, cond_true]
    exact rc_loop hgk.1.2.2.2.2.2.2.2.1 hgk.1.1.2.2.2.2.2.2.2.2.2.1.1 hs (by omega) fun τ y' hy hw => ⟨k + 1, hlt, by
      show WeakE 17 τ.st (rbSt c s X.table (begF c s (bgK c s { X with table := L } k) k) (k + 1)).st
      rw [hy]; exact hw, by omega⟩
  · have g1 : ¬ (k : Int) < c.banks := by omega
    obtain rfl : k = c.banks.toNat := by omega
    simp only [g1, decide_false, cond_false, Nat.le_refl, decide_true, cond_true]
    exact .rfl
theorem sk_radv : SkOk Try.prog (29, avS) := skOf_ok fun ⟨c, s, x⟩ h => by
  obtain ⟨hg, hs⟩ : goodS x ∧ s.lats.length ≤ 1000000 ∧ s.picks.length ≤ 1000000 := h
  show Pure _ _ (cons [e_Cfg c, e_Script s, e_Stt x]) (con (e_Stt (advF c s x)))
  refine pureQ mix TR0ok t_ref15_Advance (Nat.le_of_ble_eq_true rfl) ?_
  refine Eq.mpr (r_ra0 c s x _) ?_
  obtain ⟨b1, b2, b3, b4, b5, b6, b7, b8, b9⟩ := okb hg.1
  simp only [b1, b2, b3, b4, b5, b6, b7, b8, b9, allN_true, Nat.le_refl, pl_eq, decide_true, cond_true]
  unfold advF
  by_cases h1 : c.banks ≥ 1 ∧ c.banks ≤ 16
  · have e1 : (bif decide (c.banks ≥ 1) then decide (c.banks ≤ 16) else false) = true := by simp [h1.1, h1.2]
    have g1 : c.banks ≥ 1 := h1.1
    by_cases h2 : c.lat ≥ 1 ∧ c.lat ≤ 1000
    · have e2 : (bif decide (c.lat ≥ 1) then decide (c.lat ≤ 1000) else false) = true := by simp [h2.1, h2.2]
      simp only [e1, e2, Ra.g2, Bool.not_true, Bool.not_false, cond_true, cond_false]
      rw [if_pos (by omega)]
      refine ra_loop hg.1 hg.2 fun X L hXL => ?_
      have he : endF x = { X with table := L } := by unfold endF; rw [← hXL]
      rw [he]
      exact rb_loop (by rw [← he]; exact end_good hg) hs h1.1 h1.2
    · have e2 : (bif decide (c.lat ≥ 1) then decide (c.lat ≤ 1000) else false) = false := by
        by_cases k1 : c.lat ≥ 1
        · have k2 : ¬ c.lat ≤ 1000 := fun h => h2 ⟨k1, h⟩
          simp [k1, k2]
        · simp [k1]
      simp only [e1, e2, Ra.g2, Bool.not_true, Bool.not_false, cond_true, cond_false]
      rw [if_neg (by omega)]
      exact .rfl
  · have e1 : (bif decide (c.banks ≥ 1) then decide (c.banks ≤ 16) else false) = false := by
      by_cases k1 : c.banks ≥ 1
      · have k2 : ¬ c.banks ≤ 16 := fun h => h1 ⟨k1, h⟩
        simp [k1, k2]
      · simp [k1]
    simp only [e1, Ra.g2, Bool.not_true, Bool.not_false, cond_true, cond_false]
    rw [if_neg (by omega)]
    exact .rfl
end Go.Proofs.Ytbemlndjdbopeaa

/- When two states are one. -/
namespace Go.Proofs.Ytbemlndjdbopeaa
open Go.Ra
set_option linter.unusedVariables false
set_option linter.unusedSimpArgs false
def TC5 : Tab := mkT qq cl_ref15 [] gl_ref15
def wrdS : List XV → Option ((XV → Prop) → Prop) := skOf (fun p : List Int × List Int => [e_row 1 e_u32 p.1, e_row 1 e_u32 p.2]) (fun p => p.1.length ≤ 1000000) (fun p => decide (p.1 = p.2)) (fun y => .bool y)
def boolS : List XV → Option ((XV → Prop) → Prop) := skOf (fun p : List Bool × List Bool => [e_row 1 e_bool p.1, e_row 1 e_bool p.2]) (fun p => p.1.length ≤ 1000000) (fun p => decide (p.1 = p.2)) (fun y => .bool y)
def TC6 : Tab := mkT2 qq cl_ref15 [] gl_ref15 [(35, wrdS), (36, boolS)] []
def sideB (x y : Side) : Bool := allN (fun i => decide (x.regs i = y.regs i)) 16 && (allN (fun i => decide (x.ready i = y.ready i)) 16 && ((decide (x.pos.block = y.pos.block) && (decide (x.pos.index = y.pos.index) && (decide (x.pos.base = y.pos.base) && true))) && (decide (x.wait = y.wait) && ((x.halted == y.halted) && (decide (x.done = y.done) && true)))))
def trpB (x y : Trp) : Bool := decide (x.kind = y.kind) && (decide (x.step = y.step) && (decide (x.pc = y.pc) && true))
def hdB (a b : Stt) : Bool := decide (a.cycle = b.cycle) && (sideB a.a b.a && (sideB a.e b.e && (trpB a.trap b.trap && (decide (a.lats = b.lats) && (decide (a.picks = b.picks) && (decide (a.tags = b.tags) && (decide (a.mem = b.mem) && (decide ((a.ldq.length : Int) = b.ldq.length) && (decide ((a.saq.length : Int) = b.saq.length) && (decide ((a.table.length : Int) = b.table.length) && decide ((a.writes.length : Int) = b.writes.length)))))))))))
/-- Are two states one? -/
def sameF (a b : Stt) : Bool := hdB a b && (decide (a.ldq = b.ldq) && (decide (a.saq = b.saq) && (decide (a.table = b.table) && (decide (a.writes = b.writes) && (decide (a.sdq = b.sdq) && (decide (a.aeq = b.aeq) && (decide (a.abq = b.abq) && decide (a.ebq = b.ebq))))))))
def samS : List XV → Option ((XV → Prop) → Prop) := skOf (fun p : Stt × Stt => [e_Stt p.1, e_Stt p.2]) (fun p => p.1.ok ∧ p.2.ok) (fun p => sameF p.1 p.2) (fun y => .bool y)
def ssS (k : Nat) (i : Nat) (a b : Stt) : XSt := ⟨[(2, .ptr 0 [] 0), (3, .ptr 1 [] 0), (k, .int .i64 i)], [(1, some (e_Stt b)), (0, some (e_Stt a))], 2⟩
theorem TC5ok : TabOk Try.prog TC5 := mkT_ok clok_ref15 trivial glok_ref15
theorem r_w0 (l m : List Int) (r : XV) : (goQ Try.prog TC5 [(.tmp 4)] r (.run c_ref15_SameWords) [] ⟨envX 0 [e_row 1 e_u32 l, e_row 1 e_u32 m], [], 0⟩) = (bif decide ¬(↑(List.length l) : Int) = (↑(List.length m) : Int) then ResLe (.bool false) r
else LoopAt (Ok Try.prog (Tab.q TC5)) c_ref15_SameWords_l1 (XSt.mk
 [(5, .int .i64 0), (4, .bool false), (0, e_row 1 e_u32 l), (1, e_row 1 e_u32 m)] [] 0) [Frm.blk 0, Frm.seq c_ref15_SameWords_p1] (finQR [AR.tmp 4] r)) := by kernel_rfl 

theorem r_w1 (l m : List Int) (i : Nat) (r : XV) (A : XSt → Prop) : (goQ Try.prog TC5 [(.tmp 4)] r (.run c_ref15_SameWords_l1) [.lp c_ref15_SameWords_l1 A, .blk 0, .seq c_ref15_SameWords_p1] ⟨[(0, e_row 1 e_u32 l), (1, e_row 1 e_u32 m), (5, .int .i64 i)], [], 0⟩) = (let q1 : Bool := decide ((↑i : Int) < (↑(List.length l) : Int));
bif q1 then bif q1 then bif decide ((↑i : Int) < (↑(List.length m) : Int)) then bif decide ¬ix
 l i = ix m i then ResLe (.bool false) r else A (XSt.mk [(5, .int .i64 (IntKind.wrap .i64 ((↑i : Int) + (1 : Int)))), (0, e_row 1 e_u32 l), (1, e_row 1 e_u32 m)]
 [] 0) else False else False
else ResLe (.bool true) r) := by kernel_rfl
theorem r_b0 (l m : List Bool) (r : XV) : (goQ Try.prog TC5 [(.tmp 4)] r (.run c_ref15_SameBools) [] ⟨envX 0 [e_row 1 e_bool l, e_row 1 e_bool m], [], 0⟩) = (bif decide ¬(↑(List.length l) : Int) = (↑(List.length m) : Int) then ResLe (.bool false) r
else LoopAt (Ok Try.prog (Tab.q TC5)) c_ref15_SameBools_l1 (XSt.mk
 [(5, .int .i64 0), (4, .bool false), (0, e_row 1 e_bool l), (1, e_row 1 e_bool m)] [] 0) [Frm.blk 0, Frm.seq c_ref15_SameBools_p1] (finQR [AR.tmp 4] r)) := by kernel_rfl 

theorem r_b1 (l m : List Bool) (i : Nat) (r : XV) (A : XSt → Prop) : (goQ Try.prog TC5 [(.tmp 4)] r (.run c_ref15_SameBools_l1) [.lp c_ref15_SameBools_l1 A, .blk 0, .seq c_ref15_SameBools_p1] ⟨[(0, e_row 1 e_bool l), (1, e_row 1 e_bool m), (5, .int .i64 i)], [], 0⟩) = (let q1 : Bool := decide ((↑i : Int) < (↑(List.length l) : Int));
bif q1 then bif q1 then bif decide ((↑i : Int) < (↑(List.length m) : Int)) then bif !ix l i
 == ix m i then ResLe (.bool false) r else A (XSt.mk [(5, .int .i64 (IntKind.wrap .i64 ((↑i : Int) + (1 : Int)))), (0, e_row 1 e_bool l), (1, e_row 1 e_bool m)] []
 0) else False else False
else ResLe (.bool true) r) := by kernel_rfl
theorem sk_words : SkOk Try.prog (35, wrdS) := skOf_ok fun ⟨l, m⟩ h => by
  have hl : l.length ≤ 1000000 := h
  show Pure _ _ (cons [e_row 1 e_u32 l, e_row 1 e_u32 m]) (con (.bool (decide (l = m))))
  refine pureQ mix TC5ok t_ref15_SameWords (Nat.le_of_ble_eq_true rfl) ?_
  refine Eq.mpr (r_w0 l m _) ?_
  by_cases hn : l.length = m.length
  · have hn' : ¬ ¬ (l.length : Int) = (m.length : Int) := by omega
    simp only [hn', decide_false, cond_false]
    refine loopQ mix TC5ok (fun i : Nat => ⟨[(0, e_row 1 e_u32 l), (1, e_row 1 e_u32 m), (5, .int .i64 i)], [], 0⟩) (fun i => i ≤ l.length ∧ ∀ j, j < i → ix l j = ix m j) (fun i => l.length - i) 0 ⟨Nat.zero_le _, fun j hj => by omega⟩ (.of (weakX ⟨rfl, rfl, rfl, trivial⟩ trivial (Nat.le_refl _))) ?_
    rintro i ⟨hi, hp⟩
    refine Eq.mpr (r_w1 l m i _ _) ?_
    by_cases hlt : i < l.length
    · have h1 : (i : Int) < (l.length : Int) := by omega
      have h2 : (i : Int) < (m.length : Int) := by omega
      have w1 : IntKind.i64.wrap ((i : Int) + 1) = ((i + 1 : Nat) : Int) := wrap_i64 (by omega) (by omega)
      simp only [h1, h2, w1, decide_true, decide_false, cond_true, cond_false, allN_true, Nat.le_refl, Int.toNat_natCast, Nat.beq_refl, pk_and, pk_or, Bool.not_true, Bool.not_false, not_true_eq_false, not_false_eq_true, Bool.and_true, Bool.true_and, Bool.and_self, ge_iff_le, Int.le_refl, if_true, if_false, reduceCtorEq, eq_self, BEq.rfl]
      by_cases he : ix l i = ix m i
      · have he' : ¬ ¬ ix l i = ix m i := fun h => h he
        simp only [he', decide_true, decide_false, cond_true, cond_false, allN_true, Nat.le_refl, Int.toNat_natCast, Nat.beq_refl, pk_and, pk_or, Bool.not_true, Bool.not_false, not_true_eq_false, not_false_eq_true, Bool.and_true, Bool.true_and, Bool.and_self, ge_iff_le, Int.le_refl, if_true, if_false, reduceCtorEq, eq_self, BEq.rfl]
        refine ⟨i + 1, ⟨hlt, fun j hj => ?_⟩, .of (weakX ⟨rfl, rfl, rfl, trivial⟩ trivial (Nat.le_refl _)), by omega⟩
        by_cases hji : j = i
        · subst hji; exact he
        · exact hp j (by omega)
      · simp only [he, decide_true, decide_false, cond_true, cond_false, allN_true, Nat.le_refl, Int.toNat_natCast, Nat.beq_refl, pk_and, pk_or, Bool.not_true, Bool.not_false, not_true_eq_false, not_false_eq_true, Bool.and_true, Bool.true_and, Bool.and_self, ge_iff_le, Int.le_refl, if_true, if_false, reduceCtorEq, eq_self, BEq.rfl]
        rw [decide_eq_false fun e => he (by rw [e])]
        exact .rfl
    · have h1 : ¬ (i : Int) < (l.length : Int) := by omega
      simp only [h1, decide_true, decide_false, cond_true, cond_false, allN_true, Nat.le_refl, Int.toNat_natCast, Nat.beq_refl, pk_and, pk_or, Bool.not_true, Bool.not_false, not_true_eq_false, not_false_eq_true, Bool.and_true, Bool.true_and, Bool.and_self, ge_iff_le, Int.le_refl, if_true, if_false, reduceCtorEq, eq_self, BEq.rfl]
      rw [decide_eq_true (ix_ext hn fun j hj => hp j (by omega))]
      exact .rfl
  · have hn' : ¬ (l.length : Int) = (m.length : Int) := by omega
    simp only [hn', not_false_eq_true, decide_true, cond_true]
    rw [decide_eq_false fun e => hn (by rw [e])]
    exact .rfl
theorem sk_bools : SkOk Try.prog (36, boolS) := skOf_ok fun ⟨l, m⟩ h => by
  have hl : l.length ≤ 1000000 := h
  show Pure _ _ (cons [e_row 1 e_bool l, e_row 1 e_bool m]) (con (.bool (decide (l = m))))
  refine pureQ mix TC5ok t_ref15_SameBools (Nat.le_of_ble_eq_true rfl) ?_
  refine Eq.mpr (r_b0 l m _) ?_
  by_cases hn : l.length = m.length
  · have hn' : ¬ ¬ (l.length : Int) = (m.length : Int) := by omega
    simp only [hn', decide_false, cond_false]
    refine loopQ mix TC5ok (fun i : Nat => ⟨[(0, e_row 1 e_bool l), (1, e_row 1 e_bool m), (5, .int .i64 i)], [], 0⟩) (fun i => i ≤ l.length ∧ ∀ j, j < i → ix l j = ix m j) (fun i => l.length - i) 0 ⟨Nat.zero_le _, fun j hj => by omega⟩ (.of (weakX ⟨rfl, rfl, rfl, trivial⟩ trivial (Nat.le_refl _))) ?_
    rintro i ⟨hi, hp⟩
    refine Eq.mpr (r_b1 l m i _ _) ?_
    by_cases hlt : i < l.length
    · have h1 : (i : Int) < (l.length : Int) := by omega
      have h2 : (i : Int) < (m.length : Int) := by omega
      have w1 : IntKind.i64.wrap ((i : Int) + 1) = ((i + 1 : Nat) : Int) := wrap_i64 (by omega) (by omega)
      simp only [h1, h2, w1, decide_true, decide_false, cond_true, cond_false, allN_true, Nat.le_refl, Int.toNat_natCast, Nat.beq_refl, pk_and, pk_or, Bool.not_true, Bool.not_false, not_true_eq_false, not_false_eq_true, Bool.and_true, Bool.true_and, Bool.and_self, ge_iff_le, Int.le_refl, if_true, if_false, reduceCtorEq, eq_self, BEq.rfl]
      by_cases he : ix l i = ix m i
      · simp only [he, decide_true, decide_false, cond_true, cond_false, allN_true, Nat.le_refl, Int.toNat_natCast, Nat.beq_refl, pk_and, pk_or, Bool.not_true, Bool.not_false, not_true_eq_false, not_false_eq_true, Bool.and_true, Bool.true_and, Bool.and_self, ge_iff_le, Int.le_refl, if_true, if_false, reduceCtorEq, eq_self, BEq.rfl]
        refine ⟨i + 1, ⟨hlt, fun j hj => ?_⟩, .of (weakX ⟨rfl, rfl, rfl, trivial⟩ trivial (Nat.le_refl _)), by omega⟩
        by_cases hji : j = i
        · subst hji; exact he
        · exact hp j (by omega)
      · have he' : (ix l i == ix m i) = false := by simpa using he
        simp only [he', decide_true, decide_false, cond_true, cond_false, allN_true, Nat.le_refl, Int.toNat_natCast, Nat.beq_refl, pk_and, pk_or, Bool.not_true, Bool.not_false, not_true_eq_false, not_false_eq_true, Bool.and_true, Bool.true_and, Bool.and_self, ge_iff_le, Int.le_refl, if_true, if_false, reduceCtorEq, eq_self, BEq.rfl]
        rw [decide_eq_false fun e => he (by rw [e])]
        exact .rfl
    · have h1 : ¬ (i : Int) < (l.length : Int) := by omega
      simp only [h1, decide_true, decide_false, cond_true, cond_false, allN_true, Nat.le_refl, Int.toNat_natCast, Nat.beq_refl, pk_and, pk_or, Bool.not_true, Bool.not_false, not_true_eq_false, not_false_eq_true, Bool.and_true, Bool.true_and, Bool.and_self, ge_iff_le, Int.le_refl, if_true, if_false, reduceCtorEq, eq_self, BEq.rfl]
      rw [decide_eq_true (ix_ext hn fun j hj => hp j (by omega))]
      exact .rfl
  · have hn' : ¬ (l.length : Int) = (m.length : Int) := by omega
    simp only [hn', not_false_eq_true, decide_true, cond_true]
    rw [decide_eq_false fun e => hn (by rw [e])]
    exact .rfl
theorem TC6ok : TabOk Try.prog TC6 := mkT2_ok clok_ref15 trivial glok_ref15 ⟨sk_words, sk_bools, trivial⟩ trivial
theorem r_ss0 (a b : Stt) (r : XV) : (goQ Try.prog TC6 [(.tmp 4)] r (.run c_ref15_SameState) [] ⟨envX 0 [e_Stt a, e_Stt b], [], 0⟩) = (let q1 : Bool := decide ¬Stt.cycle a = Stt.cycle b;
let q2 : Bool := bif q1 then true
else !(allN (fun i => decide (Side.regs (Stt.a a) i = Side.regs (Stt.a
 b) i)) 16 && (allN (fun i => decide (Side.ready (Stt.a a) i = Side.ready (Stt.a b) i)) 16 && (decide (Pos.block (Side.pos (Stt.a a)) = Pos.block (Side.pos (Stt.a
 b))) && (decide (Pos.index (Side.pos (Stt.a a)) = Pos.index (Side.pos (Stt.a b))) && (decide (Pos.base (Side.pos (Stt.a a)) = Pos.base (Side.pos (Stt.a b))) && true))
 && (decide (Side.wait (Stt.a a) = Side.wait (Stt.a b)) && (Side.halted (Stt.a a) == Side.halted (Stt.a b) && (decide (Side.done (Stt.a a) = Side.done (Stt.a b))
 && true))))));
let q3 : Bool := bif q2 then true
else !(allN (fun i => decide (Side.regs (Stt.e a) i = Side.regs (Stt.e b) i)) 16 && (allN (fun i => decide (Side.ready
 (Stt.e a) i = Side.ready (Stt.e b) i)) 16 && (decide (Pos.block (Side.pos (Stt.e a)) = Pos.block (Side.pos (Stt.e b))) && (decide (Pos.index (Side.pos (Stt.e a))
 = Pos.index (Side.pos (Stt.e b))) && (decide (Pos.base (Side.pos (Stt.e a)) = Pos.base (Side.pos (Stt.e b))) && true)) && (decide (Side.wait (Stt.e a) = Side.wait
 (Stt.e b)) && (Side.halted (Stt.e a) == Side.halted (Stt.e b) && (decide (Side.done (Stt.e a) = Side.done (Stt.e b)) && true))))));
let q4 : Bool := bif q3 then
 true
else !(decide (Trp.kind (Stt.trap a) = Trp.kind (Stt.trap b)) && (decide (Trp.step (Stt.trap a) = Trp.step (Stt.trap b)) && (decide (Trp.pc (Stt.trap a) = Trp.pc
 (Stt.trap b)) && true)));
let q5 : Bool := bif q4 then true else decide ¬Stt.lats a = Stt.lats b;
let q6 : Bool := bif q5 then true else decide ¬Stt.picks a = Stt.picks
 b;
let q7 : Bool := bif q6 then true else decide ¬Stt.tags a = Stt.tags b;
let q8 : Bool := !q7;
let q9 : Bool := !q8;
let q10 : Bool := bif q7 then true else !strEq
 (List.length (Stt.mem a)) (fun i => ix (Stt.mem a) i) (List.length (Stt.mem b)) fun i => ix (Stt.mem b) i;
let q11 : Bool := bif q10 then true else decide ¬(↑(List.length
 (Stt.ldq a)) : Int) = (↑(List.length (Stt.ldq b)) : Int);
let q12 : Bool := bif q11 then true else decide ¬(↑(List.length (Stt.saq a)) : Int) = (↑(List.length (Stt.saq
 b)) : Int);
let q13 : Bool := bif q12 then true else decide ¬(↑(List.length (Stt.table a)) : Int) = (↑(List.length (Stt.table b)) : Int);
bif bif q1 then true else
 !q1 then bif bif q2 then true else !q2 then bif bif q3 then true else !q3 then bif bif q4 then true else !q4 then bif bif q5 then true else !q5 then bif bif q6 then
 true else !q6 then bif bif allN (fun i => true) (List.length (Stt.mem a)) then true else q9 then bif bif allN (fun i => true) (List.length (Stt.mem b)) then true
 else q9 then bif bif q7 then true else q8 then bif bif q10 then true else !q10 then bif bif q11 then true else !q11 then bif bif q12 then true else !q12 then bif
 bif q13 then true else !q13 then bif bif q13 then true else decide ¬(↑(List.length (Stt.writes a)) : Int) = (↑(List.length (Stt.writes b)) : Int) then ResLe (.bool
 false) r else LoopAt (Ok Try.prog (Tab.q TC6)) c_ref15_SameState_l1 (XSt.mk [(5, .int .i64 0), (4, .bool false), (3, .ptr 1 [] 0), (2, .ptr 0 [] 0)] [(1, some (e_Stt
 b)), (0, some (e_Stt a))] 2) [Frm.blk 0, Frm.seq c_ref15_SameState_p4] (finQR [AR.tmp 4] r) else False else False else False else False else False else False else
 False else False else False else False else False else False
else False) := by kernel_rfl
theorem r_ss1 (a b : Stt) (i : Nat) (r : XV) (A : XSt → Prop) : (goQ Try.prog TC6 [(.tmp 4)] r (.run c_ref15_SameState_l1) [.lp c_ref15_SameState_l1 A, .blk 0, .seq c_ref15_SameState_p4] (ssS 5 i a b)) = (let q1 : Bool := decide ((↑i : Int) < (↑(List.length (Stt.ldq a)) : Int));
let q2 : List (Nat × XV) := [(2, .ptr 0 [] 0), (3, .ptr 1 [] 0)];
let q3 : List (Nat
 × Option XV) := [(1, some (e_Stt b)), (0, some (e_Stt a))];
bif q1 then bif q1 then bif decide ((↑i : Int) < (↑(List.length (Stt.ldq b)) : Int)) then bif !(decide
 (Slot.tag (ix (Stt.ldq a) i) = Slot.tag (ix (Stt.ldq b) i)) && (Slot.full (ix (Stt.ldq a) i) == Slot.full (ix (Stt.ldq b) i) && (decide (Slot.val (ix (Stt.ldq a)
 i) = Slot.val (ix (Stt.ldq b) i)) && true))) then ResLe (.bool false) r else A (XSt.mk ((5, .int .i64 (IntKind.wrap .i64 ((↑i : Int) + (1 : Int)))) :: q2) q3 2)
 else False else False
else LoopAt (Ok Try.prog (Tab.q TC6)) c_ref15_SameState_l2 (XSt.mk ((6, .int .i64 0) :: q2) q3 2) [Frm.blk 2, Frm.seq c_ref15_SameState_p3]
 (finQR [AR.tmp 4] r)) := by kernel_rfl
theorem r_ss2 (a b : Stt) (i : Nat) (r : XV) (A : XSt → Prop) : (goQ Try.prog TC6 [(.tmp 4)] r (.run c_ref15_SameState_l2) [.lp c_ref15_SameState_l2 A, .blk 2, .seq c_ref15_SameState_p3] (ssS 6 i a b)) = (let q1 : Bool := decide ((↑i : Int) < (↑(List.length (Stt.saq a)) : Int));
let q2 : List (Nat × XV) := [(2, .ptr 0 [] 0), (3, .ptr 1 [] 0)];
let q3 : List (Nat
 × Option XV) := [(1, some (e_Stt b)), (0, some (e_Stt a))];
bif q1 then bif q1 then bif decide ((↑i : Int) < (↑(List.length (Stt.saq b)) : Int)) then bif !(decide
 (Entry.addr (ix (Stt.saq a) i) = Entry.addr (ix (Stt.saq b) i)) && (decide (Entry.size (ix (Stt.saq a) i) = Entry.size (ix (Stt.saq b) i)) && (decide (Entry.step
 (ix (Stt.saq a) i) = Entry.step (ix (Stt.saq b) i)) && (Entry.known (ix (Stt.saq a) i) == Entry.known (ix (Stt.saq b) i) && (decide (Entry.val (ix (Stt.saq a) i)
 = Entry.val (ix (Stt.saq b) i)) && true))))) then ResLe (.bool false) r else A (XSt.mk ((6, .int .i64 (IntKind.wrap .i64 ((↑i : Int) + (1 : Int)))) :: q2) q3 2)
 else False else False
else LoopAt (Ok Try.prog (Tab.q TC6)) c_ref15_SameState_l3 (XSt.mk ((7, .int .i64 0) :: q2) q3 2) [Frm.blk 4, Frm.seq c_ref15_SameState_p2]
 (finQR [AR.tmp 4] r)) := by kernel_rfl
theorem r_ss3 (a b : Stt) (i : Nat) (r : XV) (A : XSt → Prop) : (goQ Try.prog TC6 [(.tmp 4)] r (.run c_ref15_SameState_l3) [.lp c_ref15_SameState_l3 A, .blk 4, .seq c_ref15_SameState_p2] (ssS 7 i a b)) = (let q1 : Bool := decide ((↑i : Int) < (↑(List.length (Stt.table a)) : Int));
let q2 : List (Nat × XV) := [(2, .ptr 0 [] 0), (3, .ptr 1 [] 0)];
let q3 : List
 (Nat × Option XV) := [(1, some (e_Stt b)), (0, some (e_Stt a))];
bif q1 then bif q1 then bif decide ((↑i : Int) < (↑(List.length (Stt.table b)) : Int)) then bif
 !(Req.store (ix (Stt.table a) i) == Req.store (ix (Stt.table b) i) && (decide (Req.op (ix (Stt.table a) i) = Req.op (ix (Stt.table b) i)) && (decide (Req.addr (ix
 (Stt.table a) i) = Req.addr (ix (Stt.table b) i)) && (decide (Req.size (ix (Stt.table a) i) = Req.size (ix (Stt.table b) i)) && (decide (Req.val (ix (Stt.table a)
 i) = Req.val (ix (Stt.table b) i)) && (decide (Req.left (ix (Stt.table a) i) = Req.left (ix (Stt.table b) i)) && (decide (Req.reg (ix (Stt.table a) i) = Req.reg
 (ix (Stt.table b) i)) && (decide (Req.tag (ix (Stt.table a) i) = Req.tag (ix (Stt.table b) i)) && true)))))))) then ResLe (.bool false) r else A (XSt.mk ((7, .int
 .i64 (IntKind.wrap .i64 ((↑i : Int) + (1 : Int)))) :: q2) q3 2) else False else False
else LoopAt (Ok Try.prog (Tab.q TC6)) c_ref15_SameState_l4 (XSt.mk ((8, .int
 .i64 0) :: q2) q3 2) [Frm.blk 6, Frm.seq c_ref15_SameState_p1] (finQR [AR.tmp 4] r)) := by kernel_rfl
theorem r_ss4 (a b : Stt) (i : Nat) (r : XV) (A : XSt → Prop) : (goQ Try.prog TC6 [(.tmp 4)] r (.run c_ref15_SameState_l4) [.lp c_ref15_SameState_l4 A, .blk 6, .seq c_ref15_SameState_p1] (ssS 8 i a b)) = (let q1 : Bool := decide ((↑i : Int) < (↑(List.length (Stt.writes a)) : Int));
let q2 : List Int × List Int → List XV := fun (s : List Int × List Int) => [e_row
 1 e_u32 (Prod.fst s), e_row 1 e_u32 (Prod.snd s)];
let q3 : List Int × List Int → Bool := fun (s : List Int × List Int) => decide (Prod.fst s = Prod.snd s);
let
 q4 : List Bool × List Bool → List XV := fun (s : List Bool × List Bool) => [e_row 1 e_bool (Prod.fst s), e_row 1 e_bool (Prod.snd s)];
let q5 : List Bool × List
 Bool → Bool := fun (s : List Bool × List Bool) => decide (Prod.fst s = Prod.snd s);
bif q1 then bif q1 then bif decide ((↑i : Int) < (↑(List.length (Stt.writes b))
 : Int)) then bif !(decide (Wr.addr (ix (Stt.writes a) i) = Wr.addr (ix (Stt.writes b) i)) && (decide (Wr.size (ix (Stt.writes a) i) = Wr.size (ix (Stt.writes b)
 i)) && (decide (Wr.val (ix (Stt.writes a) i) = Wr.val (ix (Stt.writes b) i)) && true))) then ResLe (.bool false) r else A (XSt.mk [(8, .int .i64 (IntKind.wrap .i64
 ((↑i : Int) + (1 : Int)))), (2, .ptr 0 [] 0), (3, .ptr 1 [] 0)] [(1, some (e_Stt b)), (0, some (e_Stt a))] 2) else False else False
else ∃ (s : List Int × List Int),
 ArgsLe [e_row 1 e_u32 (Stt.sdq a), e_row 1 e_u32 (Stt.sdq b)] (q2 s) ∧ PreIs (List.length (Prod.fst s) ≤ 1000000) ∧ ∀ (y : Bool), y = q3 s → bif y then ∃ (s : List
 Int × List Int), ArgsLe [e_row 1 e_u32 (Stt.aeq a), e_row 1 e_u32 (Stt.aeq b)] (q2 s) ∧ PreIs (List.length (Prod.fst s) ≤ 1000000) ∧ ∀ (y_1 : Bool), y_1 = q3 s →
 bif bif y then y_1 else false then ∃ (s : List Bool × List Bool), ArgsLe [e_row 1 e_bool (Stt.abq a), e_row 1 e_bool (Stt.abq b)] (q4 s) ∧ PreIs (List.length (Prod.fst
 s) ≤ 1000000) ∧ ∀ (y_2 : Bool), y_2 = q5 s → bif bif bif y then y_1 else false then y_2 else false then ∃ (s : List Bool × List Bool), ArgsLe [e_row 1 e_bool (Stt.ebq
 a), e_row 1 e_bool (Stt.ebq b)] (q4 s) ∧ PreIs (List.length (Prod.fst s) ≤ 1000000) ∧ ∀ (y_3 : Bool), y_3 = q5 s → ResLe (.bool (bif bif bif y then y_1 else false
 then y_2 else false then y_3 else false)) r else bif !bif bif y then y_1 else false then y_2 else false then ResLe (.bool false) r else False else bif !bif y then
 y_1 else false then ResLe (.bool false) r else False else bif !y then ResLe (.bool false) r else False) := by kernel_rfl
theorem sideB_fold (x y : Side) : (allN (fun i => decide (x.regs i = y.regs i)) 16 && (allN (fun i => decide (x.ready i = y.ready i)) 16 && ((decide (x.pos.block = y.pos.block) && (decide (x.pos.index = y.pos.index) && (decide (x.pos.base = y.pos.base) && true))) && (decide (x.wait = y.wait) && ((x.halted == y.halted) && (decide (x.done = y.done) && true)))))) = sideB x y := rfl
theorem trpB_fold (x y : Trp) : (decide (x.kind = y.kind) && (decide (x.step = y.step) && (decide (x.pc = y.pc) && true))) = trpB x y := rfl
theorem byt_inj {a b : Int} (ha : u8R a) (hb : u8R b) (h : byt a = byt b) : a = b := by
  unfold byt at h
  have h1 := congrArg UInt8.toNat h
  unfold u8R at ha hb
  simp only [UInt8.toNat_ofNat'] at h1
  omega
theorem strEq_list {l m : List Int} (hl : ∀ x ∈ l, u8R x) (hm : ∀ x ∈ m, u8R x) : strEq l.length (fun i => ix l i) m.length (fun i => ix m i) = decide (l = m) := by
  rw [Bool.eq_iff_iff, decide_eq_true_iff]
  unfold strEq
  by_cases h : l.length = m.length
  · rw [show Nat.beq l.length m.length = true by rw [h]; exact Nat.beq_refl _, cond_true, allN_iff]
    constructor
    · intro h2
      refine ix_ext h fun i hi => ?_
      have h3 := h2 i hi
      simp only [decide_eq_true_eq] at h3
      exact byt_inj (hl _ (ix_mem hi)) (hm _ (ix_mem (by omega))) h3
    · rintro rfl i _
      simp
  · rw [beq_ne h, cond_false]
    constructor
    · intro h2; cases h2
    · rintro rfl; exact absurd rfl h
theorem slotB (x y : Slot) : (decide (x.tag = y.tag) && ((x.full == y.full) && (decide (x.val = y.val) && true))) = decide (x = y) := by
  obtain ⟨a, b, c⟩ := x
  obtain ⟨a', b', c'⟩ := y
  rw [Bool.eq_iff_iff]; simp
theorem entB (x y : Entry) : (decide (x.addr = y.addr) && (decide (x.size = y.size) && (decide (x.step = y.step) && ((x.known == y.known) && (decide (x.val = y.val) && true))))) = decide (x = y) := by
  obtain ⟨a, b, c, d, e⟩ := x
  obtain ⟨a', b', c', d', e'⟩ := y
  rw [Bool.eq_iff_iff]; simp
theorem reqB (x y : Req) : ((x.store == y.store) && (decide (x.op = y.op) && (decide (x.addr = y.addr) && (decide (x.size = y.size) && (decide (x.val = y.val) && (decide (x.left = y.left) && (decide (x.reg = y.reg) && (decide (x.tag = y.tag) && true)))))))) = decide (x = y) := by
  obtain ⟨a, b, c, d, e, f, g, h⟩ := x
  obtain ⟨a', b', c', d', e', f', g', h'⟩ := y
  rw [Bool.eq_iff_iff]; simp
theorem wrB (x y : Wr) : (decide (x.addr = y.addr) && (decide (x.size = y.size) && (decide (x.val = y.val) && true))) = decide (x = y) := by
  obtain ⟨a, b, c⟩ := x
  obtain ⟨a', b', c'⟩ := y
  rw [Bool.eq_iff_iff]; simp
theorem sameF_iff {a b : Stt} : sameF a b = true ↔ hdB a b = true ∧ a.ldq = b.ldq ∧ a.saq = b.saq ∧ a.table = b.table ∧ a.writes = b.writes ∧ a.sdq = b.sdq ∧ a.aeq = b.aeq ∧ a.abq = b.abq ∧ a.ebq = b.ebq := by
  simp only [sameF, Bool.and_eq_true, decide_eq_true_eq]
theorem not_same {a b : Stt} (h : ¬ (hdB a b = true ∧ a.ldq = b.ldq ∧ a.saq = b.saq ∧ a.table = b.table ∧ a.writes = b.writes ∧ a.sdq = b.sdq ∧ a.aeq = b.aeq ∧ a.abq = b.abq ∧ a.ebq = b.ebq)) : sameF a b = false := by
  rw [← Bool.not_eq_true, sameF_iff]; exact h
theorem sk_same : SkOk Try.prog (16, samS) := skOf_ok fun ⟨a, b⟩ h => by
  obtain ⟨ha, hb⟩ : a.ok ∧ b.ok := h
  show Pure _ _ (cons [e_Stt a, e_Stt b]) (con (.bool (sameF a b)))
  refine pureQ mix TC6ok t_ref15_SameState (Nat.le_of_ble_eq_true rfl) ?_
  refine Eq.mpr (r_ss0 a b _) ?_
  have hm : strEq a.mem.length (fun i => ix a.mem i) b.mem.length (fun i => ix b.mem i) = decide (a.mem = b.mem) := strEq_list ha.1.2.2.2.2.2.2.2.2.2.2.1.1 hb.1.2.2.2.2.2.2.2.2.2.2.1.1
  simp only [allN_true, pk_or, cond_true, sideB_fold, trpB_fold, hm]
  refine cnd2 (fun h => ?_) (fun h => ?_)
  · rw [not_same]
    · exact .rfl
    rintro ⟨h1, _⟩
    simp only [hdB, Bool.and_eq_true] at h1
    simp only [bor, Bool.or_eq_true, Bool.not_eq_true', decide_not] at h
    simp only [h1, Bool.true_eq_false, or_self] at h
  · have hd : hdB a b = true := by
      simp only [bor, Bool.or_eq_false_iff, Bool.not_eq_false', decide_not] at h
      simp only [hdB, h, Bool.and_self]
    have hd' := hd
    simp only [hdB, Bool.and_eq_true, decide_eq_true_eq] at hd'
    obtain ⟨_, _, _, _, _, _, _, _, n1, n2, n3, n4⟩ := hd'
    have m1 : a.ldq.length = b.ldq.length := by omega
    have m2 : a.saq.length = b.saq.length := by omega
    have m3 : a.table.length = b.table.length := by omega
    have m4 : a.writes.length = b.writes.length := by omega
    obtain ⟨_, o1, o2, o3, o4, o5, o6, o7, o8, o9⟩ := ha
    refine loopQ mix TC6ok (fun i : Nat => ssS 5 i a b) (fun i => i ≤ a.ldq.length ∧ ∀ j, j < i → ix a.ldq j = ix b.ldq j) (fun i => a.ldq.length - i) 0 ⟨Nat.zero_le _, fun j hj => by omega⟩ (.of (weakX ⟨rfl, rfl, rfl, trivial⟩ ⟨rfl, rfl, trivial⟩ (Nat.le_refl _))) ?_
    rintro i ⟨hi, hp⟩
    refine Eq.mpr (r_ss1 a b i _ _) ?_
    simp only [slotB]
    by_cases hlt : i < a.ldq.length
    · have h1 : (i : Int) < (a.ldq.length : Int) := by omega
      have h2 : (i : Int) < (b.ldq.length : Int) := by omega
      have w1 : IntKind.i64.wrap ((i : Int) + 1) = ((i + 1 : Nat) : Int) := wrap_i64 (by omega) (by omega)
      simp only [h1, h2, w1, decide_true, decide_false, cond_true, cond_false, allN_true, Nat.le_refl, Int.toNat_natCast, Nat.beq_refl, pk_and, pk_or, Bool.not_true, Bool.not_false, not_true_eq_false, not_false_eq_true, Bool.and_true, Bool.true_and, Bool.and_self, ge_iff_le, Int.le_refl, if_true, if_false, reduceCtorEq, eq_self, BEq.rfl]
      refine cnd2 (fun h => ?_) (fun h => ?_) <;> simp only [Bool.not_eq_true', Bool.not_eq_false', decide_eq_false_iff_not, decide_eq_true_eq] at h
      · rw [not_same fun e => h (by rw [e.2.1])]; exact .rfl
      · refine ⟨i + 1, ⟨hlt, fun j hj => ?_⟩, .of (weakX ⟨rfl, rfl, rfl, trivial⟩ ⟨rfl, rfl, trivial⟩ (Nat.le_refl _)), by omega⟩
        by_cases hji : j = i
        · subst hji; exact h
        · exact hp j (by omega)
    have h1 : ¬ (i : Int) < (a.ldq.length : Int) := by omega
    simp only [h1, decide_true, decide_false, cond_true, cond_false, allN_true, Nat.le_refl, Int.toNat_natCast, Nat.beq_refl, pk_and, pk_or, Bool.not_true, Bool.not_false, not_true_eq_false, not_false_eq_true, Bool.and_true, Bool.true_and, Bool.and_self, ge_iff_le, Int.le_refl, if_true, if_false, reduceCtorEq, eq_self, BEq.rfl]
    have q1 : a.ldq = b.ldq := ix_ext m1 fun j hj => hp j (by omega)
    clear hp hi hlt h1
    refine loopQ mix TC6ok (fun i : Nat => ssS 6 i a b) (fun i => i ≤ a.saq.length ∧ ∀ j, j < i → ix a.saq j = ix b.saq j) (fun i => a.saq.length - i) 0 ⟨Nat.zero_le _, fun j hj => by omega⟩ (.of (weakX ⟨rfl, rfl, rfl, trivial⟩ ⟨rfl, rfl, trivial⟩ (Nat.le_refl _))) ?_
    rintro i ⟨hi, hp⟩
    refine Eq.mpr (r_ss2 a b i _ _) ?_
    simp only [entB]
    by_cases hlt : i < a.saq.length
    · have h1 : (i : Int) < (a.saq.length : Int) := by omega
      have h2 : (i : Int) < (b.saq.length : Int) := by omega
      have w1 : IntKind.i64.wrap ((i : Int) + 1) = ((i + 1 : Nat) : Int) := wrap_i64 (by omega) (by omega)
      simp only [h1, h2, w1, decide_true, decide_false, cond_true, cond_false, allN_true, Nat.le_refl, Int.toNat_natCast, Nat.beq_refl, pk_and, pk_or, Bool.not_true, Bool.not_false, not_true_eq_false, not_false_eq_true, Bool.and_true, Bool.true_and, Bool.and_self, ge_iff_le, Int.le_refl, if_true, if_false, reduceCtorEq, eq_self, BEq.rfl]
      refine cnd2 (fun h => ?_) (fun h => ?_) <;> simp only [Bool.not_eq_true', Bool.not_eq_false', decide_eq_false_iff_not, decide_eq_true_eq] at h
      · rw [not_same fun e => h (by rw [e.2.2.1])]; exact .rfl
      · refine ⟨i + 1, ⟨hlt, fun j hj => ?_⟩, .of (weakX ⟨rfl, rfl, rfl, trivial⟩ ⟨rfl, rfl, trivial⟩ (Nat.le_refl _)), by omega⟩
        by_cases hji : j = i
        · subst hji; exact h
        · exact hp j (by omega)
    have h1 : ¬ (i : Int) < (a.saq.length : Int) := by omega
    simp only [h1, decide_true, decide_false, cond_true, cond_false, allN_true, Nat.le_refl, Int.toNat_natCast, Nat.beq_refl, pk_and, pk_or, Bool.not_true, Bool.not_false, not_true_eq_false, not_false_eq_true, Bool.and_true, Bool.true_and, Bool.and_self, ge_iff_le, Int.le_refl, if_true, if_false, reduceCtorEq, eq_self, BEq.rfl]
    have q2 : a.saq = b.saq := ix_ext m2 fun j hj => hp j (by omega)
    clear hp hi hlt h1
    refine loopQ mix TC6ok (fun i : Nat => ssS 7 i a b) (fun i => i ≤ a.table.length ∧ ∀ j, j < i → ix a.table j = ix b.table j) (fun i => a.table.length - i) 0 ⟨Nat.zero_le _, fun j hj => by omega⟩ (.of (weakX ⟨rfl, rfl, rfl, trivial⟩ ⟨rfl, rfl, trivial⟩ (Nat.le_refl _))) ?_
    rintro i ⟨hi, hp⟩
    refine Eq.mpr (r_ss3 a b i _ _) ?_
    simp only [reqB]
    by_cases hlt : i < a.table.length
    · have h1 : (i : Int) < (a.table.length : Int) := by omega
      have h2 : (i : Int) < (b.table.length : Int) := by omega
      have w1 : IntKind.i64.wrap ((i : Int) + 1) = ((i + 1 : Nat) : Int) := wrap_i64 (by omega) (by omega)
      simp only [h1, h2, w1, decide_true, decide_false, cond_true, cond_false, allN_true, Nat.le_refl, Int.toNat_natCast, Nat.beq_refl, pk_and, pk_or, Bool.not_true, Bool.not_false, not_true_eq_false, not_false_eq_true, Bool.and_true, Bool.true_and, Bool.and_self, ge_iff_le, Int.le_refl, if_true, if_false, reduceCtorEq, eq_self, BEq.rfl]
      refine cnd2 (fun h => ?_) (fun h => ?_) <;> simp only [Bool.not_eq_true', Bool.not_eq_false', decide_eq_false_iff_not, decide_eq_true_eq] at h
      · rw [not_same fun e => h (by rw [e.2.2.2.1])]; exact .rfl
      · refine ⟨i + 1, ⟨hlt, fun j hj => ?_⟩, .of (weakX ⟨rfl, rfl, rfl, trivial⟩ ⟨rfl, rfl, trivial⟩ (Nat.le_refl _)), by omega⟩
        by_cases hji : j = i
        · subst hji; exact h
        · exact hp j (by omega)
    have h1 : ¬ (i : Int) < (a.table.length : Int) := by omega
    simp only [h1, decide_true, decide_false, cond_true, cond_false, allN_true, Nat.le_refl, Int.toNat_natCast, Nat.beq_refl, pk_and, pk_or, Bool.not_true, Bool.not_false, not_true_eq_false, not_false_eq_true, Bool.and_true, Bool.true_and, Bool.and_self, ge_iff_le, Int.le_refl, if_true, if_false, reduceCtorEq, eq_self, BEq.rfl]
    have q3 : a.table = b.table := ix_ext m3 fun j hj => hp j (by omega)
    clear hp hi hlt h1
    refine loopQ mix TC6ok (fun i : Nat => ssS 8 i a b) (fun i => i ≤ a.writes.length ∧ ∀ j, j < i → ix a.writes j = ix b.writes j) (fun i => a.writes.length - i) 0 ⟨Nat.zero_le _, fun j hj => by omega⟩ (.of (weakX ⟨rfl, rfl, rfl, trivial⟩ ⟨rfl, rfl, trivial⟩ (Nat.le_refl _))) ?_
    rintro i ⟨hi, hp⟩
    refine Eq.mpr (r_ss4 a b i _ _) ?_
    simp only [wrB]
    by_cases hlt : i < a.writes.length
    · have h1 : (i : Int) < (a.writes.length : Int) := by omega
      have h2 : (i : Int) < (b.writes.length : Int) := by omega
      have w1 : IntKind.i64.wrap ((i : Int) + 1) = ((i + 1 : Nat) : Int) := wrap_i64 (by omega) (by omega)
      simp only [h1, h2, w1, decide_true, decide_false, cond_true, cond_false, allN_true, Nat.le_refl, Int.toNat_natCast, Nat.beq_refl, pk_and, pk_or, Bool.not_true, Bool.not_false, not_true_eq_false, not_false_eq_true, Bool.and_true, Bool.true_and, Bool.and_self, ge_iff_le, Int.le_refl, if_true, if_false, reduceCtorEq, eq_self, BEq.rfl]
      refine cnd2 (fun h => ?_) (fun h => ?_) <;> simp only [Bool.not_eq_true', Bool.not_eq_false', decide_eq_false_iff_not, decide_eq_true_eq] at h
      · rw [not_same fun e => h (by rw [e.2.2.2.2.1])]; exact .rfl
      · refine ⟨i + 1, ⟨hlt, fun j hj => ?_⟩, .of (weakX ⟨rfl, rfl, rfl, trivial⟩ ⟨rfl, rfl, trivial⟩ (Nat.le_refl _)), by omega⟩
        by_cases hji : j = i
        · subst hji; exact h
        · exact hp j (by omega)
    have h1 : ¬ (i : Int) < (a.writes.length : Int) := by omega
    simp only [h1, decide_true, decide_false, cond_true, cond_false, allN_true, Nat.le_refl, Int.toNat_natCast, Nat.beq_refl, pk_and, pk_or, Bool.not_true, Bool.not_false, not_true_eq_false, not_false_eq_true, Bool.and_true, Bool.true_and, Bool.and_self, ge_iff_le, Int.le_refl, if_true, if_false, reduceCtorEq, eq_self, BEq.rfl]
    have q4 : a.writes = b.writes := ix_ext m4 fun j hj => hp j (by omega)
    have e0 : sameF a b = (bif bif bif decide (a.sdq = b.sdq) then decide (a.aeq = b.aeq) else false then decide (a.abq = b.abq) else false then decide (a.ebq = b.ebq) else false) := by
      unfold sameF
      rw [hd, decide_eq_true q1, decide_eq_true q2, decide_eq_true q3, decide_eq_true q4]
      cases decide (a.sdq = b.sdq) <;> cases decide (a.aeq = b.aeq) <;> cases decide (a.abq = b.abq) <;> rfl
    rw [e0]
    refine ⟨(a.sdq, b.sdq), .rfl, ⟨o2⟩, fun y hy => ?_⟩
    replace hy : y = decide (a.sdq = b.sdq) := hy
    subst hy
    refine cnd2 (fun g1 => ?_) (fun g1 => by rw [g1]; exact .rfl)
    rw [g1]
    refine ⟨(a.aeq, b.aeq), .rfl, ⟨o3⟩, fun y hy => ?_⟩
    replace hy : y = decide (a.aeq = b.aeq) := hy
    subst hy
    simp only [cond_true]
    refine cnd2 (fun g2 => ?_) (fun g2 => by rw [g2]; exact .rfl)
    rw [g2]
    refine ⟨(a.abq, b.abq), .rfl, ⟨o4⟩, fun y hy => ?_⟩
    replace hy : y = decide (a.abq = b.abq) := hy
    subst hy
    simp only [cond_true]
    refine cnd2 (fun g3 => ?_) (fun g3 => by rw [g3]; exact .rfl)
    rw [g3]
    refine ⟨(a.ebq, b.ebq), .rfl, ⟨o5⟩, fun y hy => ?_⟩
    replace hy : y = decide (a.ebq = b.ebq) := hy
    subst hy
    exact .rfl
theorem sideB_self (x : Side) : sideB x x = true := by simp [sideB, allN_true]
theorem trpB_self (x : Trp) : trpB x x = true := by simp [trpB]
theorem sameF_self (a : Stt) : sameF a a = true := by
  rw [sameF_iff]
  refine ⟨?_, rfl, rfl, rfl, rfl, rfl, rfl, rfl, rfl⟩
  simp [hdB, sideB_self, trpB_self]
end Go.Proofs.Ytbemlndjdbopeaa

/- Which states are few; copies. -/
namespace Go.Proofs.Ytbemlndjdbopeaa
open Go.Ra
set_option linter.unusedVariables false
set_option linter.unusedSimpArgs false
def TF0 : Tab := mkT2 qq cl_law18 [] [] [] []
/-- Is a state small enough? -/
def fewF (s : Stt) : Bool := decide ((s.mem.length : Int) ≤ 1000) && (decide ((s.table.length : Int) ≤ 64) && (decide ((s.saq.length : Int) ≤ 64) && (decide ((s.ldq.length : Int) ≤ 64) && (decide ((s.writes.length : Int) ≤ 100) && (decide ((s.sdq.length : Int) ≤ 64) && (decide ((s.aeq.length : Int) ≤ 64) && (decide ((s.abq.length : Int) ≤ 64) && decide ((s.ebq.length : Int) ≤ 64))))))))
def fewS : List XV → Option ((XV → Prop) → Prop) := skOf (fun s : Stt => [e_Stt s]) (fun s => True) (fun s => fewF s) (fun y => .bool y)
def TF1 : Tab := mkT2 qq cl_ref15 [] gl_ref15 [] []
def cpyS : List XV → Option ((XV → Prop) → Prop) := skOf (fun s : Stt => [e_Stt s]) (fun s => s.ok) (fun s => s) (fun y => e_Stt y)
theorem TF0ok : TabOk Try.prog TF0 := mkT2_ok clok_law18 trivial trivial trivial trivial
theorem r_few (s : Stt) (r : XV) : (quietGo TF0 80 (callI TF0 80 20) 13 [e_Stt s] (fun v => ResLe v r)) = (let q1 : Bool := decide ((↑(List.length (Stt.mem s)) : Int) ≤ 1000);
let q2 : Bool := bif q1 then decide ((↑(List.length (Stt.table s)) : Int) ≤ 64) else false;
let
 q3 : Bool := bif q2 then decide ((↑(List.length (Stt.saq s)) : Int) ≤ 64) else false;
let q4 : Bool := bif q3 then decide ((↑(List.length (Stt.ldq s)) : Int) ≤ 64)
 else false;
let q5 : Bool := bif q4 then decide ((↑(List.length (Stt.writes s)) : Int) ≤ 100) else false;
let q6 : Bool := bif q5 then decide ((↑(List.length (Stt.sdq
 s)) : Int) ≤ 64) else false;
let q7 : Bool := bif q6 then decide ((↑(List.length (Stt.aeq s)) : Int) ≤ 64) else false;
let q8 : Bool := bif q7 then decide ((↑(List.length
 (Stt.abq s)) : Int) ≤ 64) else false;
bif bif q1 then q1 else true then bif bif q2 then q2 else true then bif bif q3 then q3 else true then bif bif q4 then q4 else
 true then bif bif q5 then q5 else true then bif bif q6 then q6 else true then bif bif q7 then q7 else true then bif bif q8 then q8 else true then ResLe (.bool (bif
 q8 then decide ((↑(List.length (Stt.ebq s)) : Int) ≤ 64) else false)) r else False else False else False else False else False else False else False
else False)
 := by kernel_rfl
theorem sk_few : SkOk Try.prog (13, fewS) := skOf_ok fun s _ => by
  refine pureR (u := 80) (k := 20) mix TF0ok ?_
  refine Eq.mpr (r_few s _) ?_
  simp only [pk_and, cond_true, band, Bool.and_assoc]
  exact .rfl
theorem few_good {s : Stt} (hw : s.wf) (h : fewF s = true) : goodS s := by
  simp only [fewF, Bool.and_eq_true, decide_eq_true_eq] at h
  refine ⟨⟨hw, ?_⟩, ?_⟩ <;> omega
theorem TF1ok : TabOk Try.prog TF1 := mkT2_ok clok_ref15 trivial glok_ref15 trivial trivial
theorem r_cpy (s : Stt) (r : XV) : (goQ Try.prog TF1 [(.cell 2 .true 92)] r (.run c_ref15_Copy) [] ⟨envX 0 [e_Stt s], [], 0⟩) = (let q1 : Nat := List.length (Stt.ldq s) * 16;
bif decide (q1 ≤ 140737488355328) then bif allN (fun i => true) (List.length (Stt.ldq s)) then bif decide (List.length
 (Stt.sdq s) * 4 ≤ 140737488355328) then bif decide (List.length (Stt.aeq s) * 4 ≤ 140737488355328) then bif decide (List.length (Stt.abq s) * 1 ≤ 140737488355328)
 then bif decide (List.length (Stt.ebq s) * 1 ≤ 140737488355328) then bif decide (List.length (Stt.saq s) * 32 ≤ 140737488355328) then bif decide (List.length (Stt.table
 s) * 64 ≤ 140737488355328) then bif decide (List.length (Stt.mem s) * 1 ≤ 140737488355328) then bif decide (List.length (Stt.writes s) * 24 ≤ 140737488355328) then
 bif decide (List.length (Stt.ldq s) ≤ List.length (Stt.ldq s)) then bif decide (List.length (Stt.sdq s) ≤ List.length (Stt.sdq s)) then bif decide (List.length (Stt.aeq
 s) ≤ List.length (Stt.aeq s)) then bif decide (List.length (Stt.abq s) ≤ List.length (Stt.abq s)) then bif decide (List.length (Stt.ebq s) ≤ List.length (Stt.ebq
 s)) then bif decide (List.length (Stt.saq s) ≤ List.length (Stt.saq s)) then bif decide (List.length (Stt.table s) ≤ List.length (Stt.table s)) then bif decide (List.length
 (Stt.mem s) ≤ List.length (Stt.mem s)) then bif decide (List.length (Stt.writes s) ≤ List.length (Stt.writes s)) then ResLe (e_Stt s) r else False else False else
 False else False else False else False else False else False else False else False else False else False else False else False else False else False else False else
 False
else False) := by kernel_rfl
theorem sk_cpy : SkOk Try.prog (18, cpyS) := skOf_ok fun s h => by
  refine pureQ mix TF1ok t_ref15_Copy (Nat.le_of_ble_eq_true rfl) ?_
  refine Eq.mpr (r_cpy s _) ?_
  obtain ⟨b1, b2, b3, b4, b5, b6, b7, b8, b9⟩ := okb h
  simp only [b1, b2, b3, b4, b5, b6, b7, b8, b9, allN_true, Nat.le_refl, pl_eq, decide_true, cond_true]
  exact .rfl
end Go.Proofs.Ytbemlndjdbopeaa

