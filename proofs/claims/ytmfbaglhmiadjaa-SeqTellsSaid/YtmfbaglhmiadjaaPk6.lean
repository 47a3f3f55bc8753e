/- Texts put together. -/
import Derived.Test.YtmfbaglhmiadjaaPk5
/- Writes into own memory of another name. -/
namespace Go.Proofs.Ytmfbaglhmiadjaa
open Go.Ra
set_option linter.unusedVariables false
set_option linter.unusedSimpArgs false
def wrMS (t : XV) (n : Nat) (r : List (Nat × Option XV)) : XSt := ⟨[], (9, none) :: (3, some t) :: r, n⟩
def wrGS : List XV → XSt → Option ((XV → XSt → Prop) → Prop) := ghOf (fun q : List Int × Wr => [.sl 3 [] 0 0 q.1.length 1, e_Wr q.2]) 9 (fun q => [(3, some (e_mem q.1))]) (fun q => q.1.length ≤ 1000000) (fun q => stoF q.1 q.2) (fun y => .tup []) (fun y => [(9, none), (3, some (e_mem y))]) 10
theorem r_wr0S (b : List (Nat × Option XV)) (m : List Int) (w : Wr) (v : XV) (τ : XSt) : (effGo TB3 5 (callI TB3 5 20) 72 [.sl 3 [] 0 0 m.length 1, e_Wr w] ⟨[], (3, some (.tab m.length 1 (fun i => e_u8 (ix m i)))) :: b, 9⟩ (fun v' τ' => EndAt 9 v' ⟨[], τ'.hl, τ'.n⟩ v τ)) = (let q1 : Bool := decide ¬Wr.size w = 1;
let q2 : Bool := bif q1 then decide ¬Wr.size w = 2 else false;
let q3 : Bool := bif q2 then decide ¬Wr.size w = 4 else
 false;
let q4 : Bool := bif q3 then true else decide (Wr.addr w < 0);
let q5 : Bool := bif q4 then true else decide (Wr.addr w > 4294967295);
let q6 : Int := chkI
 (Wr.size w) (IntKind.wrap .u32 (Wr.addr w)) (↑(List.length m) : Int);
let q7 : XSt := XSt.mk [] ((9, some (e_Wr w)) :: (3, some (.tab (List.length m) 1 fun i =>
 e_u8 (ix m i))) :: b) 10;
let q8 : Int := IntKind.wrap .i64 (Wr.addr w + (0 : Int));
let q9 : Nat := Int.toNat q8;
let q10 : Nat := q9 * 1;
let q11 : Bool := decide
 (q9 < List.length m);
let q12 : Int := IntKind.wrap .i64 ((0 : Int) + (1 : Int));
let q13 : Int := IntKind.wrap .i64 (Wr.addr w + (1 : Int));
let q14 : Int := IntKind.wrap
 .i64 (Wr.addr w + q12);
let q15 : Nat := Int.toNat q13;
let q16 : Nat := q15 * 1;
let q17 : Bool := decide (q15 < List.length m);
let q18 : Int := IntKind.wrap .i64
 (q12 + (1 : Int));
let q19 : Int := IntKind.wrap .i64 (Wr.addr w + (2 : Int));
let q20 : Int := IntKind.wrap .i64 (Wr.addr w + q18);
let q21 : Nat := Int.toNat q19;
let
 q22 : Nat := q21 * 1;
let q23 : Bool := decide (q21 < List.length m);
let q24 : Int := IntKind.wrap .i64 (q18 + (1 : Int));
let q25 : Int := IntKind.wrap .i64 (Wr.addr
 w + (3 : Int));
let q26 : Int := IntKind.wrap .i64 (Wr.addr w + q24);
let q27 : Nat := Int.toNat q25;
let q28 : Nat := q27 * 1;
let q29 : Bool := decide (q27 < List.length
 m);
let q30 : Int := IntKind.wrap .i64 (q24 + (1 : Int));
let q31 : Int := IntKind.wrap .i64 (Wr.addr w + (4 : Int));
let q32 : Int := IntKind.wrap .i64 (Wr.addr
 w + q30);
let q33 : Nat := Int.toNat q31;
let q34 : Nat := q33 * 1;
let q35 : Bool := decide (q33 < List.length m);
let q36 : Nat → Int := fun j => bif Nat.beq j
 q9 then IntKind.wrap .u8 (Int.fdiv (Wr.val w) (1 : Int)) else ix m j;
let q37 : Nat → Int := fun j => bif Nat.beq j q15 then IntKind.wrap .u8 (Int.fdiv (Wr.val w)
 (256 : Int)) else q36 j;
let q38 : Nat → Int := fun j => bif Nat.beq j q21 then IntKind.wrap .u8 (Int.fdiv (Wr.val w) (65536 : Int)) else q37 j;
bif bif q1 then
 q1 else true then bif bif q2 then q2 else true then bif bif q3 then true else !q3 then bif bif q4 then true else !q4 then bif bif q5 then true else !q5 then bif
 bif q5 then true else decide ¬q6 = 0 then EndAt 9 (.tup []) q7 v τ else bif decide (0 < Wr.size w) then bif decide (0 ≤ q8) then bif decide (q8 < (↑(List.length
 m) : Int)) then bif Nat.beq q10 q10 then bif q11 then bif q11 then bif decide (1 < Wr.size w) then bif decide (0 ≤ q13) then bif decide (q13 < (↑(List.length m)
 : Int)) then bif Nat.beq q16 q16 then bif q17 then bif q17 then bif decide (2 < Wr.size w) then bif decide (0 ≤ q19) then bif decide (q19 < (↑(List.length m) : Int))
 then bif Nat.beq q22 q22 then bif q23 then bif q23 then bif decide (3 < Wr.size w) then bif decide (0 ≤ q25) then bif decide (q25 < (↑(List.length m) : Int)) then
 bif Nat.beq q28 q28 then bif q29 then bif q29 then bif decide (4 < Wr.size w) then bif decide (0 ≤ q31) then bif decide (q31 < (↑(List.length m) : Int)) then bif
 Nat.beq q34 q34 then bif q35 then bif q35 then False else False else False else False else False else False else EndAt 9 (.tup []) (XSt.mk [] ((9, some (e_Wr w))
 :: (3, some (.tab (List.length m) 1 fun j => .int .u8 (bif Nat.beq j q27 then IntKind.wrap .u8 (Int.fdiv (Wr.val w) (16777216 : Int)) else q38 j))) :: b) 10) v τ
 else False else False else False else False else False else EndAt 9 (.tup []) (XSt.mk [] ((9, some (e_Wr w)) :: (3, some (.tab (List.length m) 1 fun j => .int .u8
 (q38 j))) :: b) 10) v τ else False else False else False else False else False else EndAt 9 (.tup []) (XSt.mk [] ((9, some (e_Wr w)) :: (3, some (.tab (List.length
 m) 1 fun j => .int .u8 (q37 j))) :: b) 10) v τ else False else False else False else False else False else EndAt 9 (.tup []) (XSt.mk [] ((9, some (e_Wr w)) :: (3,
 some (.tab (List.length m) 1 fun j => .int .u8 (q36 j))) :: b) 10) v τ else False else False else False else False else False else EndAt 9 (.tup []) q7 v τ else
 False else False else False else False
else False) := by kernel_rfl
theorem r_wr1S (b : List (Nat × Option XV)) (m : List Int) (a d : Int) (v : XV) (τ : XSt) : (effGo TB3 5 (callI TB3 5 20) 72 [.sl 3 [] 0 0 m.length 1, .agg 3 [.int .i64 a, .int .i64 1, .int .u32 d]] ⟨[], (3, some (.tab m.length 1 (fun i => e_u8 (ix m i)))) :: b, 9⟩ (fun v' τ' => EndAt 9 v' ⟨[], τ'.hl, τ'.n⟩ v τ)) = (let q1 : Bool := decide (a < 0);
let q2 : Bool := bif q1 then true else decide (a > 4294967295);
let q3 : Int := chkI (1 : Int) (IntKind.wrap .u32 a) (↑(List.length
 m) : Int);
let q4 : XV := .agg 3 [.int .i64 a, .int .i64 1, .int .u32 d];
let q5 : Int := IntKind.wrap .i64 (a + (0 : Int));
let q6 : Nat := Int.toNat q5;
let q7
 : Nat := q6 * 1;
let q8 : Bool := decide (q6 < List.length m);
bif bif q1 then true else !q1 then bif bif q2 then true else !q2 then bif bif q2 then true else decide
 ¬q3 = 0 then EndAt 9 (.tup []) (XSt.mk [] ((9, some q4) :: (3, some (.tab (List.length m) 1 fun i => e_u8 (ix m i))) :: b) 10) v τ else bif decide (0 ≤ q5) then
 bif decide (q5 < (↑(List.length m) : Int)) then bif Nat.beq q7 q7 then bif q8 then bif q8 then EndAt 9 (.tup []) (XSt.mk [] ((9, some q4) :: (3, some (.tab (List.length
 m) 1 fun j => .int .u8 (bif Nat.beq j q6 then IntKind.wrap .u8 (Int.fdiv d (1 : Int)) else ix m j))) :: b) 10) v τ else False else False else False else False else
 False else False
else False) := by kernel_rfl
theorem r_wr2S (b : List (Nat × Option XV)) (m : List Int) (a d : Int) (v : XV) (τ : XSt) : (effGo TB3 5 (callI TB3 5 20) 72 [.sl 3 [] 0 0 m.length 1, .agg 3 [.int .i64 a, .int .i64 2, .int .u32 d]] ⟨[], (3, some (.tab m.length 1 (fun i => e_u8 (ix m i)))) :: b, 9⟩ (fun v' τ' => EndAt 9 v' ⟨[], τ'.hl, τ'.n⟩ v τ)) = (let q1 : Bool := decide (a < 0);
let q2 : Bool := bif q1 then true else decide (a > 4294967295);
let q3 : Int := chkI (2 : Int) (IntKind.wrap .u32 a) (↑(List.length
 m) : Int);
let q4 : XV := .agg 3 [.int .i64 a, .int .i64 2, .int .u32 d];
let q5 : Int := IntKind.wrap .i64 (a + (0 : Int));
let q6 : Nat := Int.toNat q5;
let q7
 : Nat := q6 * 1;
let q8 : Bool := decide (q6 < List.length m);
let q9 : Int := IntKind.wrap .i64 (a + (1 : Int));
let q10 : Int := IntKind.wrap .i64 (a + IntKind.wrap
 .i64 ((0 : Int) + (1 : Int)));
let q11 : Nat := Int.toNat q9;
let q12 : Nat := q11 * 1;
let q13 : Bool := decide (q11 < List.length m);
bif bif q1 then true else
 !q1 then bif bif q2 then true else !q2 then bif bif q2 then true else decide ¬q3 = 0 then EndAt 9 (.tup []) (XSt.mk [] ((9, some q4) :: (3, some (.tab (List.length
 m) 1 fun i => e_u8 (ix m i))) :: b) 10) v τ else bif decide (0 ≤ q5) then bif decide (q5 < (↑(List.length m) : Int)) then bif Nat.beq q7 q7 then bif q8 then bif
 q8 then bif decide (0 ≤ q9) then bif decide (q9 < (↑(List.length m) : Int)) then bif Nat.beq q12 q12 then bif q13 then bif q13 then EndAt 9 (.tup []) (XSt.mk []
 ((9, some q4) :: (3, some (.tab (List.length m) 1 fun j => .int .u8 (bif Nat.beq j q11 then IntKind.wrap .u8 (Int.fdiv d (256 : Int)) else bif Nat.beq j q6 then
 IntKind.wrap .u8 (Int.fdiv d (1 : Int)) else ix m j))) :: b) 10) v τ else False else False else False else False else False else False else False else False else
 False else False else False
else False) := by kernel_rfl
theorem r_wr4S (b : List (Nat × Option XV)) (m : List Int) (a d : Int) (v : XV) (τ : XSt) : (effGo TB3 5 (callI TB3 5 20) 72 [.sl 3 [] 0 0 m.length 1, .agg 3 [.int .i64 a, .int .i64 4, .int .u32 d]] ⟨[], (3, some (.tab m.length 1 (fun i => e_u8 (ix m i)))) :: b, 9⟩ (fun v' τ' => EndAt 9 v' ⟨[], τ'.hl, τ'.n⟩ v τ)) = (let q1 : Bool := decide (a < 0);
let q2 : Bool := bif q1 then true else decide (a > 4294967295);
let q3 : Int := chkI (4 : Int) (IntKind.wrap .u32 a) (↑(List.length
 m) : Int);
let q4 : XV := .agg 3 [.int .i64 a, .int .i64 4, .int .u32 d];
let q5 : Int := IntKind.wrap .i64 (a + (0 : Int));
let q6 : Nat := Int.toNat q5;
let q7
 : Nat := q6 * 1;
let q8 : Bool := decide (q6 < List.length m);
let q9 : Int := IntKind.wrap .i64 (a + (1 : Int));
let q10 : Int := IntKind.wrap .i64 ((0 : Int) +
 (1 : Int));
let q11 : Int := IntKind.wrap .i64 (a + q10);
let q12 : Nat := Int.toNat q9;
let q13 : Nat := q12 * 1;
let q14 : Bool := decide (q12 < List.length m);
let
 q15 : Int := IntKind.wrap .i64 (a + (2 : Int));
let q16 : Int := IntKind.wrap .i64 (q10 + (1 : Int));
let q17 : Int := IntKind.wrap .i64 (a + q16);
let q18 : Nat
 := Int.toNat q15;
let q19 : Nat := q18 * 1;
let q20 : Bool := decide (q18 < List.length m);
let q21 : Int := IntKind.wrap .i64 (a + (3 : Int));
let q22 : Int :=
 IntKind.wrap .i64 (a + IntKind.wrap .i64 (q16 + (1 : Int)));
let q23 : Nat := Int.toNat q21;
let q24 : Nat := q23 * 1;
let q25 : Bool := decide (q23 < List.length
 m);
bif bif q1 then true else !q1 then bif bif q2 then true else !q2 then bif bif q2 then true else decide ¬q3 = 0 then EndAt 9 (.tup []) (XSt.mk [] ((9, some q4)
 :: (3, some (.tab (List.length m) 1 fun i => e_u8 (ix m i))) :: b) 10) v τ else bif decide (0 ≤ q5) then bif decide (q5 < (↑(List.length m) : Int)) then bif Nat.beq
 q7 q7 then bif q8 then bif q8 then bif decide (0 ≤ q9) then bif decide (q9 < (↑(List.length m) : Int)) then bif Nat.beq q13 q13 then bif q14 then bif q14 then bif
 decide (0 ≤ q15) then bif decide (q15 < (↑(List.length m) : Int)) then bif Nat.beq q19 q19 then bif q20 then bif q20 then bif decide (0 ≤ q21) then bif decide (q21
 < (↑(List.length m) : Int)) then bif Nat.beq q24 q24 then bif q25 then bif q25 then EndAt 9 (.tup []) (XSt.mk [] ((9, some q4) :: (3, some (.tab (List.length m)
 1 fun j => .int .u8 (bif Nat.beq j q23 then IntKind.wrap .u8 (Int.fdiv d (16777216 : Int)) else bif Nat.beq j q18 then IntKind.wrap .u8 (Int.fdiv d (65536 : Int))
 else bif Nat.beq j q12 then IntKind.wrap .u8 (Int.fdiv d (256 : Int)) else bif Nat.beq j q6 then IntKind.wrap .u8 (Int.fdiv d (1 : Int)) else ix m j))) :: b) 10)
 v τ else False else False else False else False else False else False else False else False else False else False else False else False else False else False else
 False else False else False else False else False else False else False
else False) := by kernel_rfl
theorem wr_endS {b : List (Nat × Option XV)} {m m' : List Int} {c : XV} {f : Nat → XV} (hl : m'.length = m.length) (h : ∀ i, i < m.length → con (f i) = con (e_u8 (ix m' i))) : EndAt 9 (.tup []) ⟨[], (9, some c) :: (3, some (.tab m.length 1 f)) :: b, 10⟩ (.tup []) (wrMS (e_mem m') 10 b) :=
  endH (a := [(9, some c), (3, some (.tab m.length 1 f))]) (b := [(9, none), (3, some (e_mem m'))]) (r := b) ⟨(by
    show con (.tab m.length 1 f) = con (e_mem m')
    unfold e_mem
    rw [hl, con_tabC h]), trivial⟩ rfl (Nat.le_refl _)
theorem wr1S (b : List (Nat × Option XV)) (m : List Int) (a d : Int) (hn : m.length ≤ 1000000) : effGo TB3 5 (callI TB3 5 20) 72 [.sl 3 [] 0 0 m.length 1, .agg 3 [.int .i64 a, .int .i64 1, .int .u32 d]] ⟨[], (3, some (.tab m.length 1 (fun i => e_u8 (ix m i)))) :: b, 9⟩ (fun v' τ' => EndAt 9 v' ⟨[], τ'.hl, τ'.n⟩ (.tup []) (wrMS (e_mem (stoF m ⟨a, 1, d⟩)) 10 b)) := by
  refine Eq.mpr (r_wr1S b m a d _ _) ?_
  have hl : (stoF m ⟨a, 1, d⟩).length = m.length := tabL_len
  have key : ∀ i, i < m.length → con (e_u8 (ix (stoF m ⟨a, 1, d⟩) i)) = con (o_sto (okW m.length a 1) (fun i => e_u8 (ix m i)) a.toNat 1 d i) := fun i hi => by
    unfold stoF
    rw [ix_tabL hi]
    rfl
  cases hok : okW m.length a 1 with
  | false =>
    have h0 := okW_not (by omega) hok
    rw [hok] at key
    simp only [decide_true, decide_false, cond_true, cond_false, allN_true, Nat.le_refl, Int.toNat_natCast, Nat.beq_refl, pk_and, pk_or, Bool.not_true, Bool.not_false, not_true_eq_false, not_false_eq_true, Bool.and_true, Bool.true_and, Bool.and_self, ge_iff_le, Int.le_refl, if_true, if_false, reduceCtorEq, eq_self, BEq.rfl] at h0 ⊢
    simp only [h0, decide_true, decide_false, cond_true, cond_false, allN_true, Nat.le_refl, Int.toNat_natCast, Nat.beq_refl, pk_and, pk_or, Bool.not_true, Bool.not_false, not_true_eq_false, not_false_eq_true, Bool.and_true, Bool.true_and, Bool.and_self, ge_iff_le, Int.le_refl, if_true, if_false, reduceCtorEq, eq_self, BEq.rfl]
    exact wr_endS hl fun i hi => (key i hi).symm
  | true =>
    rw [hok] at key
    obtain ⟨hs, ha, ha2, hch⟩ := okW_iff.1 hok
    obtain ⟨hin, _⟩ := chk_in hs ha ha2 (by omega) hch
    have h1 : ¬ a < 0 := by omega
    have h2 : ¬ a > 4294967295 := by omega
    have h3 : IntKind.u32.wrap a = a := wrap_u32 ha ha2
    have e0 : (IntKind.i64.wrap (a + 0)).toNat = a.toNat + 0 := by rw [wrap_i64 (by omega) (by omega)]; omega
    have z0 : (0 : Int) ≤ IntKind.i64.wrap (a + 0) := by rw [wrap_i64 (by omega) (by omega)]; omega
    have y0 : IntKind.i64.wrap (a + 0) < m.length := by rw [wrap_i64 (by omega) (by omega)]; omega
    have x0 : a.toNat + 0 < m.length := by omega
    simp only [h1, h2, h3, hch, e0, z0, y0, x0, not_true_eq_false, decide_true, decide_false, cond_true, cond_false, allN_true, Nat.le_refl, Int.toNat_natCast, Nat.beq_refl, pk_and, pk_or, Bool.not_true, Bool.not_false, not_true_eq_false, not_false_eq_true, Bool.and_true, Bool.true_and, Bool.and_self, ge_iff_le, Int.le_refl, if_true, if_false, reduceCtorEq, eq_self, BEq.rfl]
    refine wr_endS hl fun i hi => ?_
    rw [key i hi]
    by_cases h0 : i = a.toNat + 0
    · rw [sto_in (j := 0) (by omega) h0]
      simp only [h0, Nat.beq_refl, cond_true, cond_false, Nat.mul_one]
      rw [fdivE (by omega), wU8]
      rfl
    rw [sto_out (by omega)]
    simp only [beq_ne h0, cond_false, Nat.mul_one]
    rfl
theorem wr2S (b : List (Nat × Option XV)) (m : List Int) (a d : Int) (hn : m.length ≤ 1000000) : effGo TB3 5 (callI TB3 5 20) 72 [.sl 3 [] 0 0 m.length 1, .agg 3 [.int .i64 a, .int .i64 2, .int .u32 d]] ⟨[], (3, some (.tab m.length 1 (fun i => e_u8 (ix m i)))) :: b, 9⟩ (fun v' τ' => EndAt 9 v' ⟨[], τ'.hl, τ'.n⟩ (.tup []) (wrMS (e_mem (stoF m ⟨a, 2, d⟩)) 10 b)) := by
  refine Eq.mpr (r_wr2S b m a d _ _) ?_
  have hl : (stoF m ⟨a, 2, d⟩).length = m.length := tabL_len
  have key : ∀ i, i < m.length → con (e_u8 (ix (stoF m ⟨a, 2, d⟩) i)) = con (o_sto (okW m.length a 2) (fun i => e_u8 (ix m i)) a.toNat 2 d i) := fun i hi => by
    unfold stoF
    rw [ix_tabL hi]
    rfl
  cases hok : okW m.length a 2 with
  | false =>
    have h0 := okW_not (by omega) hok
    rw [hok] at key
    simp only [decide_true, decide_false, cond_true, cond_false, allN_true, Nat.le_refl, Int.toNat_natCast, Nat.beq_refl, pk_and, pk_or, Bool.not_true, Bool.not_false, not_true_eq_false, not_false_eq_true, Bool.and_true, Bool.true_and, Bool.and_self, ge_iff_le, Int.le_refl, if_true, if_false, reduceCtorEq, eq_self, BEq.rfl] at h0 ⊢
    simp only [h0, decide_true, decide_false, cond_true, cond_false, allN_true, Nat.le_refl, Int.toNat_natCast, Nat.beq_refl, pk_and, pk_or, Bool.not_true, Bool.not_false, not_true_eq_false, not_false_eq_true, Bool.and_true, Bool.true_and, Bool.and_self, ge_iff_le, Int.le_refl, if_true, if_false, reduceCtorEq, eq_self, BEq.rfl]
    exact wr_endS hl fun i hi => (key i hi).symm
  | true =>
    rw [hok] at key
    obtain ⟨hs, ha, ha2, hch⟩ := okW_iff.1 hok
    obtain ⟨hin, _⟩ := chk_in hs ha ha2 (by omega) hch
    have h1 : ¬ a < 0 := by omega
    have h2 : ¬ a > 4294967295 := by omega
    have h3 : IntKind.u32.wrap a = a := wrap_u32 ha ha2
    have e0 : (IntKind.i64.wrap (a + 0)).toNat = a.toNat + 0 := by rw [wrap_i64 (by omega) (by omega)]; omega
    have z0 : (0 : Int) ≤ IntKind.i64.wrap (a + 0) := by rw [wrap_i64 (by omega) (by omega)]; omega
    have y0 : IntKind.i64.wrap (a + 0) < m.length := by rw [wrap_i64 (by omega) (by omega)]; omega
    have x0 : a.toNat + 0 < m.length := by omega
    have e1 : (IntKind.i64.wrap (a + 1)).toNat = a.toNat + 1 := by rw [wrap_i64 (by omega) (by omega)]; omega
    have z1 : (0 : Int) ≤ IntKind.i64.wrap (a + 1) := by rw [wrap_i64 (by omega) (by omega)]; omega
    have y1 : IntKind.i64.wrap (a + 1) < m.length := by rw [wrap_i64 (by omega) (by omega)]; omega
    have x1 : a.toNat + 1 < m.length := by omega
    simp only [h1, h2, h3, hch, e0, z0, y0, x0, e1, z1, y1, x1, not_true_eq_false, decide_true, decide_false, cond_true, cond_false, allN_true, Nat.le_refl, Int.toNat_natCast, Nat.beq_refl, pk_and, pk_or, Bool.not_true, Bool.not_false, not_true_eq_false, not_false_eq_true, Bool.and_true, Bool.true_and, Bool.and_self, ge_iff_le, Int.le_refl, if_true, if_false, reduceCtorEq, eq_self, BEq.rfl]
    refine wr_endS hl fun i hi => ?_
    rw [key i hi]
    by_cases h0 : i = a.toNat + 0
    · rw [sto_in (j := 0) (by omega) h0]
      simp only [h0, Nat.beq_refl, beq_ne (show ¬ a.toNat + 0 = a.toNat + 1 by omega), cond_true, cond_false, Nat.mul_one]
      rw [fdivE (by omega), wU8]
      rfl
    by_cases h1 : i = a.toNat + 1
    · rw [sto_in (j := 1) (by omega) h1]
      simp only [h1, Nat.beq_refl, cond_true, cond_false, Nat.mul_one]
      rw [fdivE (by omega), wU8]
      rfl
    rw [sto_out (by omega)]
    simp only [beq_ne h0, beq_ne h1, cond_false, Nat.mul_one]
    rfl
theorem wr4S (b : List (Nat × Option XV)) (m : List Int) (a d : Int) (hn : m.length ≤ 1000000) : effGo TB3 5 (callI TB3 5 20) 72 [.sl 3 [] 0 0 m.length 1, .agg 3 [.int .i64 a, .int .i64 4, .int .u32 d]] ⟨[], (3, some (.tab m.length 1 (fun i => e_u8 (ix m i)))) :: b, 9⟩ (fun v' τ' => EndAt 9 v' ⟨[], τ'.hl, τ'.n⟩ (.tup []) (wrMS (e_mem (stoF m ⟨a, 4, d⟩)) 10 b)) := by
  refine Eq.mpr (r_wr4S b m a d _ _) ?_
  have hl : (stoF m ⟨a, 4, d⟩).length = m.length := tabL_len
  have key : ∀ i, i < m.length → con (e_u8 (ix (stoF m ⟨a, 4, d⟩) i)) = con (o_sto (okW m.length a 4) (fun i => e_u8 (ix m i)) a.toNat 4 d i) := fun i hi => by
    unfold stoF
    rw [ix_tabL hi]
    rfl
  cases hok : okW m.length a 4 with
  | false =>
    have h0 := okW_not (by omega) hok
    rw [hok] at key
    simp only [decide_true, decide_false, cond_true, cond_false, allN_true, Nat.le_refl, Int.toNat_natCast, Nat.beq_refl, pk_and, pk_or, Bool.not_true, Bool.not_false, not_true_eq_false, not_false_eq_true, Bool.and_true, Bool.true_and, Bool.and_self, ge_iff_le, Int.le_refl, if_true, if_false, reduceCtorEq, eq_self, BEq.rfl] at h0 ⊢
    simp only [h0, decide_true, decide_false, cond_true, cond_false, allN_true, Nat.le_refl, Int.toNat_natCast, Nat.beq_refl, pk_and, pk_or, Bool.not_true, Bool.not_false, not_true_eq_false, not_false_eq_true, Bool.and_true, Bool.true_and, Bool.and_self, ge_iff_le, Int.le_refl, if_true, if_false, reduceCtorEq, eq_self, BEq.rfl]
    exact wr_endS hl fun i hi => (key i hi).symm
  | true =>
    rw [hok] at key
    obtain ⟨hs, ha, ha2, hch⟩ := okW_iff.1 hok
    obtain ⟨hin, _⟩ := chk_in hs ha ha2 (by omega) hch
    have h1 : ¬ a < 0 := by omega
    have h2 : ¬ a > 4294967295 := by omega
    have h3 : IntKind.u32.wrap a = a := wrap_u32 ha ha2
    have e0 : (IntKind.i64.wrap (a + 0)).toNat = a.toNat + 0 := by rw [wrap_i64 (by omega) (by omega)]; omega
    have z0 : (0 : Int) ≤ IntKind.i64.wrap (a + 0) := by rw [wrap_i64 (by omega) (by omega)]; omega
    have y0 : IntKind.i64.wrap (a + 0) < m.length := by rw [wrap_i64 (by omega) (by omega)]; omega
    have x0 : a.toNat + 0 < m.length := by omega
    have e1 : (IntKind.i64.wrap (a + 1)).toNat = a.toNat + 1 := by rw [wrap_i64 (by omega) (by omega)]; omega
    have z1 : (0 : Int) ≤ IntKind.i64.wrap (a + 1) := by rw [wrap_i64 (by omega) (by omega)]; omega
    have y1 : IntKind.i64.wrap (a + 1) < m.length := by rw [wrap_i64 (by omega) (by omega)]; omega
    have x1 : a.toNat + 1 < m.length := by omega
    have e2 : (IntKind.i64.wrap (a + 2)).toNat = a.toNat + 2 := by rw [wrap_i64 (by omega) (by omega)]; omega
    have z2 : (0 : Int) ≤ IntKind.i64.wrap (a + 2) := by rw [wrap_i64 (by omega) (by omega)]; omega
    have y2 : IntKind.i64.wrap (a + 2) < m.length := by rw [wrap_i64 (by omega) (by omega)]; omega
    have x2 : a.toNat + 2 < m.length := by omega
    have e3 : (IntKind.i64.wrap (a + 3)).toNat = a.toNat + 3 := by rw [wrap_i64 (by omega) (by omega)]; omega
    have z3 : (0 : Int) ≤ IntKind.i64.wrap (a + 3) := by rw [wrap_i64 (by omega) (by omega)]; omega
    have y3 : IntKind.i64.wrap (a + 3) < m.length := by rw [wrap_i64 (by omega) (by omega)]; omega
    have x3 : a.toNat + 3 < m.length := by omega
    simp only [h1, h2, h3, hch, e0, z0, y0, x0, e1, z1, y1, x1, e2, z2, y2, x2, e3, z3, y3, x3, not_true_eq_false, decide_true, decide_false, cond_true, cond_false, allN_true, Nat.le_refl, Int.toNat_natCast, Nat.beq_refl, pk_and, pk_or, Bool.not_true, Bool.not_false, not_true_eq_false, not_false_eq_true, Bool.and_true, Bool.true_and, Bool.and_self, ge_iff_le, Int.le_refl, if_true, if_false, reduceCtorEq, eq_self, BEq.rfl]
    refine wr_endS hl fun i hi => ?_
    rw [key i hi]
    by_cases h0 : i = a.toNat + 0
    · rw [sto_in (j := 0) (by omega) h0]
      simp only [h0, Nat.beq_refl, beq_ne (show ¬ a.toNat + 0 = a.toNat + 1 by omega), beq_ne (show ¬ a.toNat + 0 = a.toNat + 2 by omega), beq_ne (show ¬ a.toNat + 0 = a.toNat + 3 by omega), cond_true, cond_false, Nat.mul_one]
      rw [fdivE (by omega), wU8]
      rfl
    by_cases h1 : i = a.toNat + 1
    · rw [sto_in (j := 1) (by omega) h1]
      simp only [h1, Nat.beq_refl, beq_ne (show ¬ a.toNat + 1 = a.toNat + 2 by omega), beq_ne (show ¬ a.toNat + 1 = a.toNat + 3 by omega), cond_true, cond_false, Nat.mul_one]
      rw [fdivE (by omega), wU8]
      rfl
    by_cases h2 : i = a.toNat + 2
    · rw [sto_in (j := 2) (by omega) h2]
      simp only [h2, Nat.beq_refl, beq_ne (show ¬ a.toNat + 2 = a.toNat + 3 by omega), cond_true, cond_false, Nat.mul_one]
      rw [fdivE (by omega), wU8]
      rfl
    by_cases h3 : i = a.toNat + 3
    · rw [sto_in (j := 3) (by omega) h3]
      simp only [h3, Nat.beq_refl, cond_true, cond_false, Nat.mul_one]
      rw [fdivE (by omega), wU8]
      rfl
    rw [sto_out (by omega)]
    simp only [beq_ne h0, beq_ne h1, beq_ne h2, beq_ne h3, cond_false, Nat.mul_one]
    rfl
theorem gk_writeS : GkOk Try.prog qq (72, wrGS) := ghOf_ok (by decide) fun ⟨m, w⟩ b h => by
  have hn : m.length ≤ 1000000 := h
  obtain ⟨a, s, d⟩ := w
  show Gen _ _ (cons [.sl 3 [] 0 0 m.length 1, .agg 3 [.int .i64 a, .int .i64 s, .int .u32 d]]) (XSt.st ⟨[], (3, some (e_mem m)) :: b, 9⟩) (con (.tup [])) (wrMS (e_mem (stoF m ⟨a, s, d⟩)) 10 b).st
  refine genR (u := 5) (k := 20) mix TB3ok ?_
  by_cases h1 : s = 1
  · subst h1; exact wr1S b m a d hn
  by_cases h2 : s = 2
  · subst h2; exact wr2S b m a d hn
  by_cases h4 : s = 4
  · subst h4; exact wr4S b m a d hn
  have hok : okW m.length a s = false := by
    rw [← Bool.not_eq_true]
    intro h
    have := (okW_iff.1 h).1
    omega
  refine Eq.mpr (r_wr0S b m ⟨a, s, d⟩ _ _) ?_
  simp only [h1, h2, h4, not_false_eq_true, decide_true, decide_false, cond_true, cond_false, allN_true, Nat.le_refl, Int.toNat_natCast, Nat.beq_refl, pk_and, pk_or, Bool.not_true, Bool.not_false, not_true_eq_false, not_false_eq_true, Bool.and_true, Bool.true_and, Bool.and_self, ge_iff_le, Int.le_refl, if_true, if_false, reduceCtorEq, eq_self, BEq.rfl]
  refine wr_endS tabL_len fun i hi => ?_
  unfold stoF
  rw [ix_tabL hi, hok]
  rfl
end Go.Proofs.Ytmfbaglhmiadjaa

/- Abstract code of the functions of seq: printed by a program from what the given translation yields. -/
namespace Go.Proofs.Ytmfbaglhmiadjaa
open Go.Ra
def c_seq_Run_l1 : AC := (.seq (.ops [⟨(.some 21), (.bin .lss (.t 20) (.t 19)), .none⟩]) (.seq (.cond (.t 21) .skip (.exit 0)) (.seq (.block 1 (.seq (.ops [⟨(.some 22), (.mv (.t 6)), .none⟩, ⟨(.some 23), (.call 30 [(.t 22)]), .none⟩]) (.seq (.ops [⟨(.some 24), (.fadr 0 0 1 (.t 5)), .none⟩, ⟨(.some 25), (.load .false 1 (.t 24)), .none⟩, ⟨(.some 26), (.bin .neq (.t 25) (.c (.sc (.int .i64 0)))), .none⟩]) (.cond (.t 26) (.seq (.ops [⟨(.some 27), (.load .true 23 (.t 5)), .none⟩, ⟨.none, (.store 23 (.t 4) (.t 27)), .none⟩]) .ret) .skip)))) (.ops [⟨(.some 28), (.bin .add (.t 20) (.c (.sc (.int .i64 1)))), .none⟩, ⟨(.some 20), (.mv (.t 28)), .none⟩]))))
def c_seq_Run_p1 : AC := (.seq (.ops [⟨(.some 29), (.fadr 0 0 1 (.t 5)), .none⟩, ⟨.none, (.store 1 (.t 29) (.c (.sc (.int .i64 3)))), .none⟩]) (.seq (.ops [⟨(.some 30), (.load .true 23 (.t 5)), .none⟩, ⟨.none, (.store 23 (.t 4) (.t 30)), .none⟩]) .ret))
def c_seq_Run : AC := (.seq (.ops [⟨(.some 2), (.box (.t 0)), .none⟩, ⟨(.some 4), (.box (.c (.agg 23 [(.sc (.int .i64 0)), (.agg 3 [(.sc (.int .i64 0)), (.sc (.int .i64 0)), (.sc (.int .i64 0))]), (.sc (.int .i64 0)), (.arr 16 1 [(.sc (.int .u32 0)), (.sc (.int .u32 0)), (.sc (.int .u32 0)), (.sc (.int .u32 0)), (.sc (.int .u32 0)), (.sc (.int .u32 0)), (.sc (.int .u32 0)), (.sc (.int .u32 0)), (.sc (.int .u32 0)), (.sc (.int .u32 0)), (.sc (.int .u32 0)), (.sc (.int .u32 0)), (.sc (.int .u32 0)), (.sc (.int .u32 0)), (.sc (.int .u32 0)), (.sc (.int .u32 0))]), (.fro .true 0 []), (.fro .true 0 [])]))), .none⟩]) (.seq (.seq (.ops [⟨(.some 7), (.load .true 3 (.t 2)), .none⟩, ⟨(.some 8), (.call 28 [(.t 7)]), .none⟩, ⟨(.some 9), (.un .not (.t 8)), .none⟩]) (.cond (.t 9) (.seq (.ops [⟨(.some 10), (.build 23 [(.sc (.int .i64 0)), (.agg 3 [(.sc (.int .i64 0)), (.sc (.int .i64 0)), (.sc (.int .i64 0))]), (.sc (.int .i64 0)), (.arr 16 1 [(.sc (.int .u32 0)), (.sc (.int .u32 0)), (.sc (.int .u32 0)), (.sc (.int .u32 0)), (.sc (.int .u32 0)), (.sc (.int .u32 0)), (.sc (.int .u32 0)), (.sc (.int .u32 0)), (.sc (.int .u32 0)), (.sc (.int .u32 0)), (.sc (.int .u32 0)), (.sc (.int .u32 0)), (.sc (.int .u32 0)), (.sc (.int .u32 0)), (.sc (.int .u32 0)), (.sc (.int .u32 0))]), (.fro .true 0 []), (.fro .true 0 [])] []), .none⟩, ⟨.none, (.store 23 (.t 4) (.t 10)), .none⟩]) .ret) .skip)) (.seq (.ops [⟨(.some 11), (.load .true 3 (.t 2)), .none⟩, ⟨(.some 12), (.call 29 [(.t 11)]), .none⟩, ⟨(.some 13), (.build 23 [(.sc (.int .i64 0)), (.agg 3 [(.sc (.int .i64 0)), (.sc (.int .i64 0)), (.sc (.int .i64 0))]), (.sc (.int .i64 0)), (.arr 16 1 [(.sc (.int .u32 0)), (.sc (.int .u32 0)), (.sc (.int .u32 0)), (.sc (.int .u32 0)), (.sc (.int .u32 0)), (.sc (.int .u32 0)), (.sc (.int .u32 0)), (.sc (.int .u32 0)), (.sc (.int .u32 0)), (.sc (.int .u32 0)), (.sc (.int .u32 0)), (.sc (.int .u32 0)), (.sc (.int .u32 0)), (.sc (.int .u32 0)), (.sc (.int .u32 0)), (.sc (.int .u32 0))]), (.fro .true 0 []), (.fro .true 0 [])] [(4, (.t 12))]), .none⟩, ⟨(.some 5), (.box (.c (.agg 23 [(.sc (.int .i64 0)), (.agg 3 [(.sc (.int .i64 0)), (.sc (.int .i64 0)), (.sc (.int .i64 0))]), (.sc (.int .i64 0)), (.arr 16 1 [(.sc (.int .u32 0)), (.sc (.int .u32 0)), (.sc (.int .u32 0)), (.sc (.int .u32 0)), (.sc (.int .u32 0)), (.sc (.int .u32 0)), (.sc (.int .u32 0)), (.sc (.int .u32 0)), (.sc (.int .u32 0)), (.sc (.int .u32 0)), (.sc (.int .u32 0)), (.sc (.int .u32 0)), (.sc (.int .u32 0)), (.sc (.int .u32 0)), (.sc (.int .u32 0)), (.sc (.int .u32 0))]), (.fro .true 0 []), (.fro .true 0 [])]))), .none⟩, ⟨.none, (.store 23 (.t 5) (.t 13)), .none⟩]) (.seq (.ops [⟨(.some 14), (.load .true 3 (.t 2)), .none⟩, ⟨(.some 15), (.build 5 [(.agg 3 [(.fro .true 0 []), (.sc (.int .i64 0)), (.fro .true 0 [])]), (.sc (.pointer .none)), (.sc (.int .i64 0))] [(0, (.t 14)), (1, (.t 5)), (2, (.c (.sc (.int .i64 0))))]), .none⟩, ⟨(.some 16), (.box (.t 15)), .none⟩, ⟨(.some 6), (.mv (.t 16)), .none⟩]) (.seq (.seq (.ops [⟨(.some 17), (.mv (.t 1)), .none⟩, ⟨(.some 18), (.min [(.t 17), (.c (.sc (.int .i64 100000)))]), .none⟩, ⟨(.some 19), (.max [(.c (.sc (.int .i64 0))), (.t 18)]), .none⟩, ⟨(.some 20), (.mv (.c (.sc (.int .i64 0)))), .none⟩]) (.block 0 (.loop c_seq_Run_l1))) c_seq_Run_p1)))))
theorem t_seq_Run : trF Try.prog qq 13 = some (31, [(.cell 4 .true 23)], c_seq_Run) := by kernel_rfl
def c_seq_Step : AC := (.seq (.ops [⟨(.some 3), (.box (.t 0)), .none⟩, ⟨(.some 4), (.box (.t 1)), .none⟩, ⟨(.some 6), (.box (.c (.agg 23 [(.sc (.int .i64 0)), (.agg 3 [(.sc (.int .i64 0)), (.sc (.int .i64 0)), (.sc (.int .i64 0))]), (.sc (.int .i64 0)), (.arr 16 1 [(.sc (.int .u32 0)), (.sc (.int .u32 0)), (.sc (.int .u32 0)), (.sc (.int .u32 0)), (.sc (.int .u32 0)), (.sc (.int .u32 0)), (.sc (.int .u32 0)), (.sc (.int .u32 0)), (.sc (.int .u32 0)), (.sc (.int .u32 0)), (.sc (.int .u32 0)), (.sc (.int .u32 0)), (.sc (.int .u32 0)), (.sc (.int .u32 0)), (.sc (.int .u32 0)), (.sc (.int .u32 0))]), (.fro .true 0 []), (.fro .true 0 [])]))), .none⟩, ⟨(.some 7), (.mv (.c (.sc (.int .i64 0)))), .none⟩]) (.seq (.ops [⟨(.some 9), (.fadr 4 21 1 (.t 4)), .none⟩, ⟨(.some 10), (.load .false 1 (.t 9)), .none⟩, ⟨(.some 11), (.call 31 [(.t 10)]), .none⟩, ⟨(.some 12), (.fadr 5 22 1 (.t 4)), .none⟩, ⟨(.some 13), (.load .false 1 (.t 12)), .none⟩, ⟨(.some 14), (.call 32 [(.t 13)]), .none⟩, ⟨(.some 15), (.fadr 4 21 1 (.t 4)), .none⟩, ⟨.none, (.store 1 (.t 15) (.t 11)), .none⟩, ⟨(.some 16), (.fadr 5 22 1 (.t 4)), .none⟩, ⟨.none, (.store 1 (.t 16) (.t 14)), .none⟩]) (.seq (.seq (.ops [⟨(.some 17), (.fadr 0 0 1 (.t 4)), .none⟩, ⟨(.some 18), (.load .false 1 (.t 17)), .none⟩, ⟨(.some 19), (.bin .neq (.t 18) (.c (.sc (.int .i64 0)))), .none⟩, ⟨(.some 20), (.mv (.t 19)), .none⟩, ⟨(.some 21), (.load .true 3 (.t 3)), (.some (20, .false))⟩, ⟨(.some 22), (.call 28 [(.t 21)]), (.some (20, .false))⟩, ⟨(.some 23), (.un .not (.t 22)), (.some (20, .false))⟩, ⟨(.some 24), (.pick (.t 20) (.c (.sc (.bool .true))) (.t 23)), .none⟩, ⟨(.some 25), (.mv (.t 24)), .none⟩, ⟨(.some 26), (.fadr 4 21 1 (.t 4)), (.some (25, .false))⟩, ⟨(.some 27), (.load .false 1 (.t 26)), (.some (25, .false))⟩, ⟨(.some 28), (.len .none (.t 27)), (.some (25, .false))⟩, ⟨(.some 29), (.fadr 1 1 1 (.t 3)), (.some (25, .false))⟩, ⟨(.some 30), (.load .false 1 (.t 29)), (.some (25, .false))⟩, ⟨(.some 31), (.bin .neq (.t 28) (.t 30)), (.some (25, .false))⟩, ⟨(.some 32), (.pick (.t 25) (.c (.sc (.bool .true))) (.t 31)), .none⟩]) (.cond (.t 32) (.seq (.ops [⟨(.some 33), (.load .true 23 (.t 4)), .none⟩, ⟨(.some 34), (.mv (.t 2)), .none⟩, ⟨.none, (.store 23 (.t 6) (.t 33)), .none⟩, ⟨(.some 7), (.mv (.t 34)), .none⟩]) .ret) .skip)) (.seq (.ops [⟨(.some 35), (.load .true 3 (.t 3)), .none⟩, ⟨(.some 36), (.mv (.t 2)), .none⟩, ⟨(.some 37), (.build 5 [(.agg 3 [(.fro .true 0 []), (.sc (.int .i64 0)), (.fro .true 0 [])]), (.sc (.pointer .none)), (.sc (.int .i64 0))] [(0, (.t 35)), (1, (.t 4)), (2, (.t 36))]), .none⟩, ⟨(.some 38), (.box (.t 37)), .none⟩, ⟨(.some 8), (.mv (.t 38)), .none⟩]) (.seq (.ops [⟨(.some 39), (.mv (.t 8)), .none⟩, ⟨(.some 40), (.call 30 [(.t 39)]), .none⟩]) (.seq (.opsD [⟨(.some 41), (.load .true 23 (.t 4)), .none⟩, ⟨(.some 42), (.mv (.t 8)), .none⟩, ⟨(.some 43), (.nilck (.t 42)), .none⟩, ⟨(.some 44), (.fadr 2 4 1 (.t 43)), .none⟩, ⟨(.some 45), (.load .false 1 (.t 44)), .none⟩, ⟨.none, (.store 23 (.t 6) (.t 41)), .none⟩, ⟨(.some 7), (.mv (.t 45)), .none⟩] [(44, 6)]) .ret))))))
theorem t_seq_Step : trF Try.prog qq 20 = some (46, [(.cell 6 .true 23), (.tmp 7)], c_seq_Step) := by kernel_rfl
def c_seq_Memory : AC := (.seq (.ops [⟨(.some 1), (.box (.t 0)), .none⟩, ⟨(.some 2), (.mv (.c (.fro .true 0 []))), .none⟩]) (.seq (.ops [⟨(.some 4), (.fadr 1 1 1 (.t 1)), .none⟩, ⟨(.some 5), (.load .false 1 (.t 4)), .none⟩, ⟨(.some 6), (.mks 1 1 (.sc (.int .u8 0)) (.t 5)), .none⟩, ⟨(.some 3), (.mv (.t 6)), .none⟩]) (.seq (.ops [⟨(.some 7), (.mv (.t 3)), .none⟩, ⟨(.some 8), (.fadr 2 2 1 (.t 1)), .none⟩, ⟨(.some 9), (.load .false 1 (.t 8)), .none⟩, ⟨(.some 10), (.copy 1 (.t 7) (.t 9)), .none⟩]) (.seq (.ops [⟨(.some 11), (.mv (.t 3)), .none⟩, ⟨(.some 2), (.mv (.t 11)), .none⟩]) .ret))))
theorem t_seq_Memory : trF Try.prog qq 29 = some (12, [(.tmp 2)], c_seq_Memory) := by kernel_rfl
def c_seq_runner_step : AC := (.seq (.seq (.ops [⟨(.some 7), (.mv (.t 0)), .none⟩, ⟨(.some 8), (.nilck (.t 7)), .none⟩, ⟨(.some 9), (.fadr 2 4 1 (.t 8)), .none⟩, ⟨(.some 10), (.load .false 1 (.t 9)), .none⟩, ⟨(.some 11), (.bin .lss (.t 10) (.c (.sc (.int .i64 0)))), .none⟩, ⟨(.some 12), (.mv (.t 11)), .none⟩, ⟨(.some 13), (.mv (.t 0)), (.some (12, .false))⟩, ⟨(.some 14), (.nilck (.t 13)), (.some (12, .false))⟩, ⟨(.some 15), (.fadr 2 4 1 (.t 14)), (.some (12, .false))⟩, ⟨(.some 16), (.load .false 1 (.t 15)), (.some (12, .false))⟩, ⟨(.some 17), (.mv (.t 0)), (.some (12, .false))⟩, ⟨(.some 18), (.nilck (.t 17)), (.some (12, .false))⟩, ⟨(.some 19), (.fadr 0 0 3 (.t 18)), (.some (12, .false))⟩, ⟨(.some 20), (.fadr 0 0 1 (.t 19)), (.some (12, .false))⟩, ⟨(.some 21), (.load .false 1 (.t 20)), (.some (12, .false))⟩, ⟨(.some 22), (.len .none (.t 21)), (.some (12, .false))⟩, ⟨(.some 23), (.bin .geq (.t 16) (.t 22)), (.some (12, .false))⟩, ⟨(.some 24), (.pick (.t 12) (.c (.sc (.bool .true))) (.t 23)), .none⟩]) (.cond (.t 24) (.seq (.ops [⟨(.some 25), (.mv (.t 0)), .none⟩, ⟨(.some 26), (.call 50 [(.t 25), (.c (.sc (.int .i64 4)))]), .none⟩]) .ret) .skip)) (.seq (.ops [⟨(.some 27), (.mv (.t 0)), .none⟩, ⟨(.some 28), (.nilck (.t 27)), .none⟩, ⟨(.some 29), (.fadr 0 0 3 (.t 28)), .none⟩, ⟨(.some 30), (.fadr 0 0 1 (.t 29)), .none⟩, ⟨(.some 31), (.load .false 1 (.t 30)), .none⟩, ⟨(.some 32), (.mv (.t 0)), .none⟩, ⟨(.some 33), (.nilck (.t 32)), .none⟩, ⟨(.some 34), (.fadr 2 4 1 (.t 33)), .none⟩, ⟨(.some 35), (.load .false 1 (.t 34)), .none⟩, ⟨(.some 36), (.iadr .none 5 (.t 31) (.t 35)), .none⟩, ⟨(.some 37), (.load .true 5 (.t 36)), .none⟩, ⟨(.some 2), (.box (.c (.agg 5 [(.sc (.int .i64 0)), (.sc (.int .i64 0)), (.sc (.int .i64 0)), (.sc (.int .i64 0)), (.sc (.int .i64 0))]))), .none⟩, ⟨.none, (.store 5 (.t 2) (.t 37)), .none⟩]) (.seq (.ops [⟨(.some 38), (.mv (.t 0)), .none⟩, ⟨(.some 39), (.nilck (.t 38)), .none⟩, ⟨(.some 40), (.fadr 2 4 1 (.t 39)), .none⟩, ⟨(.some 41), (.load .false 1 (.t 40)), .none⟩, ⟨(.some 42), (.bin .add (.t 41) (.c (.sc (.int .i64 1)))), .none⟩, ⟨(.some 3), (.mv (.t 42)), .none⟩]) (.seq (.seq (.ops [⟨(.some 43), (.fadr 0 0 1 (.t 2)), .none⟩, ⟨(.some 44), (.load .false 1 (.t 43)), .none⟩, ⟨(.some 45), (.call 51 [(.t 44)]), .none⟩]) (.block 0 (.seq (.ops [⟨(.some 69), (.bin .eql (.t 45) (.c (.sc (.int .i64 8)))), .none⟩, ⟨(.some 68), (.mv (.t 69)), .none⟩]) (.cond (.t 68) (.seq (.ops [⟨(.some 70), (.mv (.t 0)), .none⟩, ⟨(.some 71), (.nilck (.t 70)), .none⟩, ⟨(.some 72), (.fadr 1 3 1 (.t 71)), .none⟩, ⟨(.some 73), (.load .false 1 (.t 72)), .none⟩, ⟨(.some 74), (.nilck (.t 73)), .none⟩, ⟨(.some 75), (.fadr 0 0 1 (.t 74)), .none⟩, ⟨.none, (.store 1 (.t 75) (.c (.sc (.int .i64 1)))), .none⟩]) (.seq (.ops [⟨(.some 76), (.mv (.t 0)), .none⟩, ⟨(.some 77), (.nilck (.t 76)), .none⟩, ⟨(.some 78), (.fadr 1 3 1 (.t 77)), .none⟩, ⟨(.some 79), (.load .false 1 (.t 78)), .none⟩, ⟨(.some 80), (.nilck (.t 79)), .none⟩, ⟨(.some 81), (.fadr 2 4 1 (.t 80)), .none⟩, ⟨(.some 82), (.load .false 1 (.t 81)), .none⟩, ⟨(.some 83), (.bin .add (.t 82) (.c (.sc (.int .i64 1)))), .none⟩, ⟨(.some 84), (.nilck (.t 79)), .none⟩, ⟨(.some 85), (.fadr 2 4 1 (.t 84)), .none⟩, ⟨.none, (.store 1 (.t 85) (.t 83)), .none⟩]) .ret)) (.seq (.seq (.ops [⟨(.some 87), (.bin .eql (.t 45) (.c (.sc (.int .i64 4)))), .none⟩, ⟨(.some 86), (.mv (.t 87)), .none⟩]) (.cond (.t 86) .skip (.ops [⟨(.some 88), (.bin .eql (.t 45) (.c (.sc (.int .i64 5)))), .none⟩, ⟨(.some 86), (.mv (.t 88)), .none⟩]))) (.cond (.t 86) (.seq (.ops [⟨(.some 89), (.mv (.t 0)), .none⟩, ⟨(.some 90), (.load .true 5 (.t 2)), .none⟩, ⟨(.some 91), (.call 52 [(.t 89), (.t 90)]), .none⟩, ⟨(.some 4), (.mv (.t 91)), .none⟩]) (.seq (.ops [⟨(.some 92), (.mv (.t 4)), .none⟩, ⟨(.some 93), (.bin .neq (.t 92) (.c (.sc (.int .i64 0)))), .none⟩]) (.cond (.t 93) (.seq (.ops [⟨(.some 94), (.mv (.t 0)), .none⟩, ⟨(.some 95), (.mv (.t 4)), .none⟩, ⟨(.some 96), (.call 50 [(.t 94), (.t 95)]), .none⟩]) .ret) .skip))) (.seq (.ops [⟨(.some 98), (.bin .eql (.t 45) (.c (.sc (.int .i64 6)))), .none⟩, ⟨(.some 97), (.mv (.t 98)), .none⟩]) (.cond (.t 97) (.seq (.ops [⟨(.some 99), (.fadr 0 0 1 (.t 2)), .none⟩, ⟨(.some 100), (.load .false 1 (.t 99)), .none⟩, ⟨(.some 101), (.mv (.t 0)), .none⟩, ⟨(.some 102), (.fadr 2 2 1 (.t 2)), .none⟩, ⟨(.some 103), (.load .false 1 (.t 102)), .none⟩, ⟨(.some 104), (.call 54 [(.t 101), (.t 103)]), .none⟩, ⟨(.some 105), (.mv (.t 0)), .none⟩, ⟨(.some 106), (.fadr 3 3 1 (.t 2)), .none⟩, ⟨(.some 107), (.load .false 1 (.t 106)), .none⟩, ⟨(.some 108), (.call 54 [(.t 105), (.t 107)]), .none⟩, ⟨(.some 109), (.call 53 [(.t 100), (.t 104), (.t 108)]), .none⟩]) (.cond (.t 109) (.ops [⟨(.some 110), (.mv (.t 0)), .none⟩, ⟨(.some 111), (.nilck (.t 110)), .none⟩, ⟨(.some 112), (.fadr 2 4 1 (.t 111)), .none⟩, ⟨(.some 113), (.load .false 1 (.t 112)), .none⟩, ⟨(.some 114), (.fadr 4 4 1 (.t 2)), .none⟩, ⟨(.some 115), (.load .false 1 (.t 114)), .none⟩, ⟨(.some 116), (.bin .add (.t 113) (.t 115)), .none⟩, ⟨(.some 3), (.mv (.t 116)), .none⟩]) .skip)) (.seq (.ops [⟨(.some 118), (.bin .eql (.t 45) (.c (.sc (.int .i64 7)))), .none⟩, ⟨(.some 117), (.mv (.t 118)), .none⟩]) (.cond (.t 117) (.ops [⟨(.some 119), (.mv (.t 0)), .none⟩, ⟨(.some 120), (.nilck (.t 119)), .none⟩, ⟨(.some 121), (.fadr 2 4 1 (.t 120)), .none⟩, ⟨(.some 122), (.load .false 1 (.t 121)), .none⟩, ⟨(.some 123), (.fadr 4 4 1 (.t 2)), .none⟩, ⟨(.some 124), (.load .false 1 (.t 123)), .none⟩, ⟨(.some 125), (.bin .add (.t 122) (.t 124)), .none⟩, ⟨(.some 3), (.mv (.t 125)), .none⟩]) (.seq (.ops [⟨(.some 47), (.load .true 5 (.t 2)), .none⟩, ⟨(.some 48), (.mv (.t 0)), .none⟩, ⟨(.some 49), (.fadr 2 2 1 (.t 2)), .none⟩, ⟨(.some 50), (.load .false 1 (.t 49)), .none⟩, ⟨(.some 51), (.call 54 [(.t 48), (.t 50)]), .none⟩, ⟨(.some 52), (.mv (.t 0)), .none⟩, ⟨(.some 53), (.fadr 3 3 1 (.t 2)), .none⟩, ⟨(.some 54), (.load .false 1 (.t 53)), .none⟩, ⟨(.some 55), (.call 54 [(.t 52), (.t 54)]), .none⟩, ⟨(.some 56), (.call 55 [(.t 47), (.t 51), (.t 55)]), .none⟩, ⟨(.some 46), (.mv (.t 56)), .none⟩, ⟨(.some 57), (.ext (.t 46) 0), .none⟩, ⟨(.some 58), (.ext (.t 46) 1), .none⟩, ⟨(.some 5), (.mv (.t 57)), .none⟩, ⟨(.some 6), (.mv (.t 58)), .none⟩]) (.seq (.seq (.ops [⟨(.some 59), (.mv (.t 6)), .none⟩, ⟨(.some 60), (.un .not (.t 59)), .none⟩]) (.cond (.t 60) (.seq (.ops [⟨(.some 61), (.mv (.t 0)), .none⟩, ⟨(.some 62), (.call 50 [(.t 61), (.c (.sc (.int .i64 3)))]), .none⟩]) .ret) .skip)) (.ops [⟨(.some 63), (.mv (.t 0)), .none⟩, ⟨(.some 64), (.fadr 1 1 1 (.t 2)), .none⟩, ⟨(.some 65), (.load .false 1 (.t 64)), .none⟩, ⟨(.some 66), (.mv (.t 5)), .none⟩, ⟨(.some 67), (.call 56 [(.t 63), (.t 65), (.t 66)]), .none⟩]))))))))))))) (.seq (.ops [⟨(.some 126), (.mv (.t 0)), .none⟩, ⟨(.some 127), (.nilck (.t 126)), .none⟩, ⟨(.some 128), (.fadr 1 3 1 (.t 127)), .none⟩, ⟨(.some 129), (.load .false 1 (.t 128)), .none⟩, ⟨(.some 130), (.nilck (.t 129)), .none⟩, ⟨(.some 131), (.fadr 2 4 1 (.t 130)), .none⟩, ⟨(.some 132), (.load .false 1 (.t 131)), .none⟩, ⟨(.some 133), (.bin .add (.t 132) (.c (.sc (.int .i64 1)))), .none⟩, ⟨(.some 134), (.nilck (.t 129)), .none⟩, ⟨(.some 135), (.fadr 2 4 1 (.t 134)), .none⟩, ⟨.none, (.store 1 (.t 135) (.t 133)), .none⟩]) (.ops [⟨(.some 136), (.mv (.t 0)), .none⟩, ⟨(.some 137), (.mv (.t 3)), .none⟩, ⟨(.some 138), (.nilck (.t 136)), .none⟩, ⟨(.some 139), (.fadr 2 4 1 (.t 138)), .none⟩, ⟨.none, (.store 1 (.t 139) (.t 137)), .none⟩]))))))
theorem t_seq_runner_step : trF Try.prog qq 30 = some (140, [], c_seq_runner_step) := by kernel_rfl
def c_seq_runner_trap : AC := (.ops [⟨(.some 4), (.mv (.t 0)), .none⟩, ⟨(.some 5), (.nilck (.t 4)), .none⟩, ⟨(.some 6), (.fadr 1 3 1 (.t 5)), .none⟩, ⟨(.some 7), (.load .false 1 (.t 6)), .none⟩, ⟨(.some 8), (.mv (.t 0)), .none⟩, ⟨(.some 9), (.nilck (.t 8)), .none⟩, ⟨(.some 10), (.fadr 1 3 1 (.t 9)), .none⟩, ⟨(.some 11), (.load .false 1 (.t 10)), .none⟩, ⟨(.some 12), (.mv (.t 1)), .none⟩, ⟨(.some 13), (.mv (.t 0)), .none⟩, ⟨(.some 14), (.nilck (.t 13)), .none⟩, ⟨(.some 15), (.fadr 1 3 1 (.t 14)), .none⟩, ⟨(.some 16), (.load .false 1 (.t 15)), .none⟩, ⟨(.some 17), (.nilck (.t 16)), .none⟩, ⟨(.some 18), (.fadr 2 4 1 (.t 17)), .none⟩, ⟨(.some 19), (.load .false 1 (.t 18)), .none⟩, ⟨(.some 20), (.mv (.t 0)), .none⟩, ⟨(.some 21), (.nilck (.t 20)), .none⟩, ⟨(.some 22), (.fadr 2 4 1 (.t 21)), .none⟩, ⟨(.some 23), (.load .false 1 (.t 22)), .none⟩, ⟨(.some 24), (.build 3 [(.sc (.int .i64 0)), (.sc (.int .i64 0)), (.sc (.int .i64 0))] [(0, (.t 12)), (1, (.t 19)), (2, (.t 23))]), .none⟩, ⟨(.some 25), (.nilck (.t 7)), .none⟩, ⟨(.some 26), (.fadr 0 0 1 (.t 25)), .none⟩, ⟨.none, (.store 1 (.t 26) (.c (.sc (.int .i64 2)))), .none⟩, ⟨(.some 27), (.nilck (.t 11)), .none⟩, ⟨(.some 28), (.fadr 1 1 3 (.t 27)), .none⟩, ⟨.none, (.store 3 (.t 28) (.t 24)), .none⟩])
theorem t_seq_runner_trap : trF Try.prog qq 50 = some (29, [], c_seq_runner_trap) := by kernel_rfl
def c_seq_runner_memory : AC := (.seq (.ops [⟨(.some 3), (.box (.t 1)), .none⟩, ⟨(.some 4), (.mv (.c (.sc (.int .i64 0)))), .none⟩]) (.seq (.ops [⟨(.some 9), (.fadr 0 0 1 (.t 3)), .none⟩, ⟨(.some 10), (.load .false 1 (.t 9)), .none⟩, ⟨(.some 11), (.call 68 [(.t 10)]), .none⟩, ⟨(.some 5), (.mv (.t 11)), .none⟩]) (.seq (.ops [⟨(.some 12), (.mv (.t 0)), .none⟩, ⟨(.some 13), (.fadr 2 2 1 (.t 3)), .none⟩, ⟨(.some 14), (.load .false 1 (.t 13)), .none⟩, ⟨(.some 15), (.call 54 [(.t 12), (.t 14)]), .none⟩, ⟨(.some 16), (.fadr 4 4 1 (.t 3)), .none⟩, ⟨(.some 17), (.load .false 1 (.t 16)), .none⟩, ⟨(.some 18), (.call 69 [(.t 17)]), .none⟩, ⟨(.some 19), (.bin .add (.t 15) (.t 18)), .none⟩, ⟨(.some 6), (.mv (.t 19)), .none⟩]) (.seq (.seq (.ops [⟨(.some 20), (.mv (.t 5)), .none⟩, ⟨(.some 21), (.mv (.t 6)), .none⟩, ⟨(.some 22), (.mv (.t 0)), .none⟩, ⟨(.some 23), (.nilck (.t 22)), .none⟩, ⟨(.some 24), (.fadr 1 3 1 (.t 23)), .none⟩, ⟨(.some 25), (.load .false 1 (.t 24)), .none⟩, ⟨(.some 26), (.nilck (.t 25)), .none⟩, ⟨(.some 27), (.fadr 4 21 1 (.t 26)), .none⟩, ⟨(.some 28), (.load .false 1 (.t 27)), .none⟩, ⟨(.some 29), (.len .none (.t 28)), .none⟩, ⟨(.some 30), (.call 70 [(.t 20), (.t 21), (.t 29)]), .none⟩, ⟨(.some 7), (.mv (.t 30)), .none⟩]) (.seq (.ops [⟨(.some 31), (.mv (.t 7)), .none⟩, ⟨(.some 32), (.bin .neq (.t 31) (.c (.sc (.int .i64 0)))), .none⟩]) (.cond (.t 32) (.seq (.ops [⟨(.some 33), (.mv (.t 7)), .none⟩, ⟨(.some 4), (.mv (.t 33)), .none⟩]) .ret) .skip))) (.seq (.seq (.ops [⟨(.some 34), (.fadr 0 0 1 (.t 3)), .none⟩, ⟨(.some 35), (.load .false 1 (.t 34)), .none⟩, ⟨(.some 36), (.call 51 [(.t 35)]), .none⟩, ⟨(.some 37), (.bin .eql (.t 36) (.c (.sc (.int .i64 4)))), .none⟩]) (.cond (.t 37) (.seq (.ops [⟨(.some 38), (.mv (.t 0)), .none⟩, ⟨(.some 39), (.fadr 1 1 1 (.t 3)), .none⟩, ⟨(.some 40), (.load .false 1 (.t 39)), .none⟩, ⟨(.some 41), (.mv (.t 0)), .none⟩, ⟨(.some 42), (.nilck (.t 41)), .none⟩, ⟨(.some 43), (.fadr 1 3 1 (.t 42)), .none⟩, ⟨(.some 44), (.load .false 1 (.t 43)), .none⟩, ⟨(.some 45), (.nilck (.t 44)), .none⟩, ⟨(.some 46), (.fadr 4 21 1 (.t 45)), .none⟩, ⟨(.some 47), (.load .false 1 (.t 46)), .none⟩, ⟨(.some 48), (.fadr 0 0 1 (.t 3)), .none⟩, ⟨(.some 49), (.load .false 1 (.t 48)), .none⟩, ⟨(.some 50), (.mv (.t 6)), .none⟩, ⟨(.some 51), (.call 71 [(.t 47), (.t 49), (.t 50)]), .none⟩, ⟨(.some 52), (.call 56 [(.t 38), (.t 40), (.t 51)]), .none⟩]) (.seq (.ops [⟨(.some 4), (.mv (.c (.sc (.int .i64 0)))), .none⟩]) .ret)) .skip)) (.seq (.ops [⟨(.some 53), (.mv (.t 6)), .none⟩, ⟨(.some 54), (.conv .i64 (.t 53)), .none⟩, ⟨(.some 55), (.mv (.t 5)), .none⟩, ⟨(.some 56), (.mv (.t 0)), .none⟩, ⟨(.some 57), (.fadr 3 3 1 (.t 3)), .none⟩, ⟨(.some 58), (.load .false 1 (.t 57)), .none⟩, ⟨(.some 59), (.call 54 [(.t 56), (.t 58)]), .none⟩, ⟨(.some 60), (.mv (.t 5)), .none⟩, ⟨(.some 61), (.bin .mul (.c (.sc (.int .i64 8))) (.t 60)), .none⟩, ⟨(.some 62), (.bin .sub (.t 61) (.c (.sc (.int .i64 1)))), .none⟩, ⟨(.some 63), (.bin .shl (.c (.sc (.int .u32 1))) (.t 62)), .none⟩, ⟨(.some 64), (.bin .shl (.t 63) (.c (.sc (.int .u64 1)))), .none⟩, ⟨(.some 65), (.bin .sub (.t 64) (.c (.sc (.int .u32 1)))), .none⟩, ⟨(.some 66), (.bin .and (.t 59) (.t 65)), .none⟩, ⟨(.some 67), (.build 3 [(.sc (.int .i64 0)), (.sc (.int .i64 0)), (.sc (.int .u32 0))] [(0, (.t 54)), (1, (.t 55)), (2, (.t 66))]), .none⟩, ⟨(.some 8), (.box (.c (.agg 3 [(.sc (.int .i64 0)), (.sc (.int .i64 0)), (.sc (.int .u32 0))]))), .none⟩, ⟨.none, (.store 3 (.t 8) (.t 67)), .none⟩]) (.seq (.ops [⟨(.some 68), (.mv (.t 0)), .none⟩, ⟨(.some 69), (.nilck (.t 68)), .none⟩, ⟨(.some 70), (.fadr 1 3 1 (.t 69)), .none⟩, ⟨(.some 71), (.load .false 1 (.t 70)), .none⟩, ⟨(.some 72), (.nilck (.t 71)), .none⟩, ⟨(.some 73), (.fadr 4 21 1 (.t 72)), .none⟩, ⟨(.some 74), (.load .false 1 (.t 73)), .none⟩, ⟨(.some 75), (.load .true 3 (.t 8)), .none⟩, ⟨(.some 76), (.call 72 [(.t 74), (.t 75)]), .none⟩]) (.seq (.opsD [⟨(.some 77), (.mv (.t 0)), .none⟩, ⟨(.some 78), (.nilck (.t 77)), .none⟩, ⟨(.some 79), (.fadr 1 3 1 (.t 78)), .none⟩, ⟨(.some 80), (.load .false 1 (.t 79)), .none⟩, ⟨(.some 81), (.mv (.t 0)), .none⟩, ⟨(.some 82), (.nilck (.t 81)), .none⟩, ⟨(.some 83), (.fadr 1 3 1 (.t 82)), .none⟩, ⟨(.some 84), (.load .false 1 (.t 83)), .none⟩, ⟨(.some 85), (.nilck (.t 84)), .none⟩, ⟨(.some 86), (.fadr 5 22 1 (.t 85)), .none⟩, ⟨(.some 87), (.load .false 1 (.t 86)), .none⟩, ⟨(.some 88), (.load .true 3 (.t 8)), .none⟩, ⟨(.some 89), (.bsl 3 [(.t 88)]), .none⟩, ⟨(.some 90), (.app 3 24 (.t 87) (.t 89)), .none⟩, ⟨(.some 91), (.nilck (.t 80)), .none⟩, ⟨(.some 92), (.fadr 5 22 1 (.t 91)), .none⟩, ⟨.none, (.store 1 (.t 92) (.t 90)), .none⟩] [(79, 87)]) (.seq (.ops [⟨(.some 4), (.mv (.c (.sc (.int .i64 0)))), .none⟩]) .ret)))))))))
theorem t_seq_runner_memory : trF Try.prog qq 52 = some (93, [(.tmp 4)], c_seq_runner_memory) := by kernel_rfl
def c_seq_runner_get : AC := (.seq (.ops [⟨(.some 4), (.mv (.c (.sc (.int .u32 0)))), .none⟩]) (.seq (.seq (.ops [⟨(.some 5), (.mv (.t 1)), .none⟩, ⟨(.some 6), (.bin .eql (.t 5) (.c (.sc (.int .i64 0)))), .none⟩]) (.cond (.t 6) (.seq (.ops [⟨(.some 4), (.mv (.c (.sc (.int .u32 0)))), .none⟩]) .ret) .skip)) (.seq (.ops [⟨(.some 7), (.mv (.t 0)), .none⟩, ⟨(.some 8), (.nilck (.t 7)), .none⟩, ⟨(.some 9), (.fadr 1 3 1 (.t 8)), .none⟩, ⟨(.some 10), (.load .false 1 (.t 9)), .none⟩, ⟨(.some 11), (.mv (.t 1)), .none⟩, ⟨(.some 12), (.nilck (.t 10)), .none⟩, ⟨(.some 13), (.fadr 3 5 16 (.t 12)), .none⟩, ⟨(.some 14), (.iadr (.some 16) 1 (.t 13) (.t 11)), .none⟩, ⟨(.some 15), (.load .false 1 (.t 14)), .none⟩, ⟨(.some 4), (.mv (.t 15)), .none⟩]) .ret)))
theorem t_seq_runner_get : trF Try.prog qq 54 = some (16, [(.tmp 4)], c_seq_runner_get) := by kernel_rfl
def c_seq_runner_set : AC := (.seq (.ops [⟨(.some 6), (.mv (.t 1)), .none⟩, ⟨(.some 7), (.bin .neq (.t 6) (.c (.sc (.int .i64 0)))), .none⟩]) (.cond (.t 7) (.ops [⟨(.some 8), (.mv (.t 0)), .none⟩, ⟨(.some 9), (.nilck (.t 8)), .none⟩, ⟨(.some 10), (.fadr 1 3 1 (.t 9)), .none⟩, ⟨(.some 11), (.load .false 1 (.t 10)), .none⟩, ⟨(.some 12), (.mv (.t 1)), .none⟩, ⟨(.some 13), (.mv (.t 2)), .none⟩, ⟨(.some 14), (.nilck (.t 11)), .none⟩, ⟨(.some 15), (.fadr 3 5 16 (.t 14)), .none⟩, ⟨(.some 16), (.iadr (.some 16) 1 (.t 15) (.t 12)), .none⟩, ⟨.none, (.store 1 (.t 16) (.t 13)), .none⟩]) .skip))
theorem t_seq_runner_set : trF Try.prog qq 56 = some (17, [], c_seq_runner_set) := by kernel_rfl
/-- The functions of seq. -/
def cl_seq : CodeL := [(13, 31, [(.cell 4 .true 23)], c_seq_Run), (20, 46, [(.cell 6 .true 23), (.tmp 7)], c_seq_Step), (29, 12, [(.tmp 2)], c_seq_Memory), (30, 140, [], c_seq_runner_step), (50, 29, [], c_seq_runner_trap), (52, 93, [(.tmp 4)], c_seq_runner_memory), (54, 16, [(.tmp 4)], c_seq_runner_get), (56, 17, [], c_seq_runner_set)]
theorem clok_seq : AllL (fun p => trF Try.prog qq p.1 = some p.2) cl_seq := ⟨t_seq_Run, t_seq_Step, t_seq_Memory, t_seq_runner_step, t_seq_runner_trap, t_seq_runner_memory, t_seq_runner_get, t_seq_runner_set, trivial⟩
end Go.Proofs.Ytmfbaglhmiadjaa

/- One step, as the program does it. -/
namespace Go.Proofs.Ytmfbaglhmiadjaa
open Go.Ra
set_option linter.unusedVariables false
set_option linter.unusedSimpArgs false
def TQg : Tab := mkT2 qq cl_seq [] [] [] []
def e_rnr (p : Prog) (s : Rslt) (pc : Int) : XV := .fptr (.agg 5 [e_Prog p, .fptr (e_Rslt s), .int .i64 pc])
def getS : List XV → Option ((XV → Prop) → Prop) := skOf (fun q : Prog × Rslt × Int × Int => [e_rnr q.1 q.2.1 q.2.2.1, .int .i64 q.2.2.2]) (fun q => 0 ≤ q.2.2.2 ∧ q.2.2.2 ≤ 15) (fun q => valF q.2.1.regs q.2.2.2) (fun y => .int .u32 y)
def TQ0 : Tab := mkT2 qq (cl_seq ++ cl_word ++ cl_slices) [(51, formSp), (68, szSp), (70, chkSp), (71, loadSp), (55, Alu.doSp), (53, Alu.tkSp)] gl_slices [(28, rprS), (54, getS)] [(72, wrGS)]
theorem r_get (p : Prog) (s : Rslt) (pc n : Int) (r : XV) : (quietGo TQg 80 (callI TQg 80 20) 54 [e_rnr p s pc, .int .i64 n] (fun v => ResLe v r)) = (bif decide (n = 0) then ResLe (.int .u32 0) r
else bif decide (0 ≤ n) then bif decide (n < 16) then ResLe (.int .u32 (Rslt.regs s (Int.toNat n))) r else False
 else False) := by kernel_rfl
theorem r_sst (p : Prog) (s : Rslt) (pc : Int) (r : XV) : (goQ Try.prog TQ0 [(.cell 6 .true 23), (.tmp 7)] r (.run c_seq_Step) [] ⟨envX 0 [e_Prog p, e_Rslt s, .int .i64 pc], [], 0⟩) = (let q1 : Nat := List.length (Rslt.mem s) * 1;
let q2 : Nat := List.length (Rslt.writes s) * 24;
let q3 : Bool := decide ¬Rslt.fin s = 0;
let q4 : Bool → Bool
 := fun y => bif q3 then true else !y;
let q5 : Bool := decide (List.length (Rslt.mem s) ≤ List.length (Rslt.mem s));
let q6 : Bool := decide (List.length (Rslt.writes
 s) ≤ List.length (Rslt.writes s));
let q7 : XV := .tup [e_Rslt s, .int .i64 pc];
let q8 : Bool := decide (pc < 0);
let q9 : List XV := [.int .i64 (Rslt.steps s),
 .int .i64 pc];
let q10 : XV := .tab 16 1 fun i => .int .u32 (Rslt.regs s i);
let q11 : List XV := [e_row 1 e_u8 (Rslt.mem s), e_row 3 e_Wr (Rslt.writes s)];
let
 q12 : List XV := q10 :: q11;
let q13 : List XV := .int .i64 (Rslt.steps s) :: q12;
let q14 : XV := .int .i64 (IntKind.wrap .i64 (Rslt.steps s + (1 : Int)));
let
 q15 : List XV := e_Trp (Rslt.trap s) :: q14 :: q12;
let q16 : Bool := decide (formI (Ins.op (ix (Prog.code p) (Int.toNat pc))) = 4);
let q17 : XV := .fptr (.agg
 5 [e_Prog p, .fptr (e_Rslt s), .int .i64 pc]);
let q18 : List XV := [q17, .int .i64 (Ins.a (ix (Prog.code p) (Int.toNat pc)))];
let q19 : Prog × Rslt × Int × Int
 → Rslt := fun (s : Prog × Rslt × Int × Int) => Prod.fst (Prod.snd s);
let q20 : Prog × Rslt × Int × Int → Int := fun (s : Prog × Rslt × Int × Int) => Prod.snd (Prod.snd
 (Prod.snd s));
let q21 : Prog × Rslt × Int × Int → List XV := fun (s : Prog × Rslt × Int × Int) => [e_rnr (Prod.fst s) (q19 s) (Prod.fst (Prod.snd (Prod.snd s))),
 .int .i64 (q20 s)];
let q22 : Prog × Rslt × Int × Int → Int := fun (s : Prog × Rslt × Int × Int) => valF (Rslt.regs (q19 s)) (q20 s);
let q23 : Int → Int := fun
 y => IntKind.wrap .u32 (y + IntKind.wrap .u32 (Ins.imm (ix (Prog.code p) (Int.toNat pc))));
let q24 : Int → Int := fun y => chkI (szI (Ins.op (ix (Prog.code p) (Int.toNat
 pc)))) (q23 y) (↑(List.length (Rslt.mem s)) : Int);
let q25 : Int → Bool := fun y => decide ¬q24 y = 0;
let q26 : Int → XV := fun y => .int .i64 (q24 y);
let q27
 : Int → XV := fun y => .tup [.agg 23 (.int .i64 2 :: .agg 3 (q26 y :: q9) :: q13), .int .i64 pc];
let q28 : XV := .agg 23 (.int .i64 (Rslt.fin s) :: q15);
let q29
 : List XV := [.int .i64 (IntKind.wrap .i64 (pc + (1 : Int)))];
let q30 : XV := .tup (q28 :: q29);
let q31 : Bool := decide (List.length (Rslt.mem s) ≤ 1099511627776);
let
 q32 : Bool := rngB (List.length (Rslt.mem s)) fun i => e_u8 (ix (Rslt.mem s) i);
let q33 : Int → Bool := fun y => decide (0 ≤ q23 y);
let q34 : Int → Bool := fun
 y => decide (q23 y ≤ 4294967295);
let q35 : Bool := decide ¬Ins.d (ix (Prog.code p) (Int.toNat pc)) = 0;
let q36 : Bool := decide (0 ≤ Ins.d (ix (Prog.code p) (Int.toNat
 pc)));
let q37 : Bool := decide (Ins.d (ix (Prog.code p) (Int.toNat pc)) < 16);
let q38 : Nat := pl 5 (Int.toNat (Ins.d (ix (Prog.code p) (Int.toNat pc))) * 1);
let
 q39 : Bool := Nat.beq q38 q38;
let q40 : Bool := decide (Int.toNat (Ins.d (ix (Prog.code p) (Int.toNat pc))) < 16);
let q41 : Int → XV := fun y => .tup (.agg 23
 (.int .i64 (Rslt.fin s) :: e_Trp (Rslt.trap s) :: q14 :: (.tab 16 1 fun j => .int .u32 (bif Nat.beq j (Int.toNat (Ins.d (ix (Prog.code p) (Int.toNat pc)))) then
 loadI (List.length (Rslt.mem s)) (fun i => e_u8 (ix (Rslt.mem s) i)) (Ins.op (ix (Prog.code p) (Int.toNat pc))) (q23 y) else Rslt.regs s j)) :: q11) :: q29);
let
 q42 : List XV := [q17, .int .i64 (Ins.b (ix (Prog.code p) (Int.toNat pc)))];
let q43 : Int := IntKind.wrap .i64 ((8 : Int) * szI (Ins.op (ix (Prog.code p) (Int.toNat
 pc))));
let q44 : Int := IntKind.wrap .i64 (q43 - (1 : Int));
let q45 : Bool := decide (0 ≤ q44);
let q46 : XV := .sl 3 [] 0 0 (List.length (Rslt.mem s)) 1;
let
 q47 : Int → Int := fun y => IntKind.wrap .i64 (q23 y);
let q48 : Int → XV := fun y => .int .i64 (q47 y);
let q49 : Int := IntKind.wrap .u32 ((1 : Int) * (2 : Int)
 ^ Nat.min (Int.toNat q44) 32);
let q50 : Int := IntKind.wrap .u32 (q49 * (2 : Int));
let q51 : Int := IntKind.wrap .u32 (q50 - (1 : Int));
let q52 : Int → Int :=
 fun y => bitsI .and .u32 y q51;
let q53 : Int → XV := fun y => .int .u32 (q52 y);
let q54 : Int → Int → XV := fun (y y_1 : Int) => .agg 3 [q48 y, .int .i64 (szI
 (Ins.op (ix (Prog.code p) (Int.toNat pc)))), q53 y_1];
let q55 : Int → Int → List XV := fun (y y_1 : Int) => [q46, q54 y y_1];
let q56 : List Int × Wr → List XV
 := fun (s : List Int × Wr) => [.sl 3 [] 0 0 (List.length (Prod.fst s)) 1, e_Wr (Prod.snd s)];
let q57 : XV := .ptr 1 [4] 21;
let q58 : XV := .ptr 1 [] 0;
let q59
 : XV := .ptr 5 [1] 3;
let q60 : XV := .ptr 5 [] 0;
let q61 : Int → XV := fun y => .int .u32 (q23 y);
let q62 : XV := .ptr 7 [0] 0;
let q63 : XV := .row true 0 0
 fun x => .unk;
let q64 : Int → Int → XSt := fun (y y_1 : Int) => XSt.mk [(75, q54 y y_1), (74, q46), (73, q57), (72, q58), (71, q58), (70, q59), (69, q60), (68,
 q60), (8, .ptr 8 [] 0), (67, q54 y y_1), (66, q53 y_1), (65, .int .u32 q51), (64, .int .u32 q50), (63, .int .u32 q49), (62, .int .i64 q44), (61, .int .i64 q43),
 (60, .int .i64 (szI (Ins.op (ix (Prog.code p) (Int.toNat pc))))), (59, .int .u32 y_1), (58, .int .i64 (Ins.b (ix (Prog.code p) (Int.toNat pc)))), (57, .ptr 7 [3]
 3), (56, q60), (55, .int .i64 (szI (Ins.op (ix (Prog.code p) (Int.toNat pc))))), (54, q48 y), (53, q61 y), (37, .bool q16), (36, .int .i64 (formI (Ins.op (ix (Prog.code
 p) (Int.toNat pc))))), (35, .int .i64 (Ins.op (ix (Prog.code p) (Int.toNat pc)))), (34, q62), (32, .bool (q25 y)), (31, q26 y), (7, q26 y), (30, q26 y), (29, .int
 .i64 (↑(List.length (Rslt.mem s)) : Int)), (28, q46), (27, q57), (26, q58), (25, q58), (24, q59), (23, q60), (22, q60), (21, q61 y), (20, .int .i64 (szI (Ins.op
 (ix (Prog.code p) (Int.toNat pc))))), (6, q61 y), (19, q61 y), (18, .int .u32 (IntKind.wrap .u32 (Ins.imm (ix (Prog.code p) (Int.toNat pc))))), (17, .int .i64 (Ins.imm
 (ix (Prog.code p) (Int.toNat pc)))), (16, .ptr 7 [4] 4), (15, .int .u32 y), (14, .int .i64 (Ins.a (ix (Prog.code p) (Int.toNat pc)))), (13, .ptr 7 [2] 2), (12, q60),
 (5, .int .i64 (szI (Ins.op (ix (Prog.code p) (Int.toNat pc))))), (11, .int .i64 (szI (Ins.op (ix (Prog.code p) (Int.toNat pc))))), (10, .int .i64 (Ins.op (ix (Prog.code
 p) (Int.toNat pc)))), (9, q62), (4, .int .i64 0), (3, .ptr 7 [] 0), (0, q60), (1, e_Ins (ix (Prog.code p) (Int.toNat pc)))] [(8, some (q54 y y_1)), (7, some (e_Ins
 (ix (Prog.code p) (Int.toNat pc)))), (6, some (e_Ins (ix (Prog.code p) (Int.toNat pc)))), (5, some (.agg 5 [e_Prog p, q58, .int .i64 pc])), (4, some (.tab (List.length
 (Rslt.writes s)) 3 fun i => e_Wr (ix (Rslt.writes s) i))), (3, some (.tab (List.length (Rslt.mem s)) 1 fun i => e_u8 (ix (Rslt.mem s) i))), (2, some (.agg 23 [.int
 .i64 0, .agg 3 [.int .i64 0, .int .i64 0, .int .i64 0], .int .i64 0, .tab 16 1 fun x => .int .u32 0, q63, q63])), (1, some (.agg 23 [.int .i64 (Rslt.fin s), e_Trp
 (Rslt.trap s), .int .i64 (Rslt.steps s), q10, q46, .sl 4 [] 0 0 (List.length (Rslt.writes s)) 3])), (0, some (e_Prog p))] 9;
let q65 : List Int × Wr → XSt := fun
 (s : List Int × Wr) => XSt.mk [] [(3, some (e_mem (Prod.fst s)))] 9;
let q66 : Nat := pl (List.length (Rslt.writes s)) (List.length [AX.t 88]);
let q67 : Bool :=
 decide (pl (List.length (Rslt.writes s)) 1 * 24 ≤ 140737488355328);
let q68 : List Int → Bool := fun (y : List Int) => decide (List.length (Rslt.mem s) ≤ List.length
 y);
let q69 : Bool := decide (pl (List.length (Rslt.writes s)) 1 ≤ pl (List.length (Rslt.writes s)) 1);
let q70 : Nat → Bool := fun i => decide (i < List.length
 (Rslt.writes s));
let q71 : List Int → Int → Int → XV := fun (y : List Int) (y_1 y_2 : Int) => .tup (.agg 23 [.int .i64 (Rslt.fin s), e_Trp (Rslt.trap s), q14, q10,
 .row false 1 (List.length (Rslt.mem s)) fun i => e_u8 (ix y i), .row false 3 (pl (List.length (Rslt.writes s)) 1) fun i => .agg 3 [.int .i64 (bif q70 i then Wr.addr
 (ix (Rslt.writes s) i) else q47 y_1), .int .i64 (bif q70 i then Wr.size (ix (Rslt.writes s) i) else szI (Ins.op (ix (Prog.code p) (Int.toNat pc)))), .int .u32 (bif
 q70 i then Wr.val (ix (Rslt.writes s) i) else q52 y_2)]] :: q29);
let q72 : Bool := decide (formI (Ins.op (ix (Prog.code p) (Int.toNat pc))) = 6);
let q73 : Int
 → Bool := fun y => decide (0 ≤ y);
let q74 : Int → Bool := fun y => decide (y ≤ 4294967295);
let q75 : XV := .tup [q28, .int .i64 (IntKind.wrap .i64 (pc + Ins.imm
 (ix (Prog.code p) (Int.toNat pc))))];
let q76 : Bool := decide (formI (Ins.op (ix (Prog.code p) (Int.toNat pc))) = 7);
let q77 : Int → Bool := fun y => !Alu.dkB
 (Ins.op (ix (Prog.code p) (Int.toNat pc))) (Ins.d (ix (Prog.code p) (Int.toNat pc))) (Ins.a (ix (Prog.code p) (Int.toNat pc))) (Ins.b (ix (Prog.code p) (Int.toNat
 pc))) (Ins.imm (ix (Prog.code p) (Int.toNat pc))) y;
let q78 : XV := .tup [.agg 23 (.int .i64 2 :: .agg 3 (.int .i64 3 :: q9) :: q13), .int .i64 pc];
let q79 : Int
 → Int → XV := fun (y y_1 : Int) => .tup (.agg 23 (.int .i64 (Rslt.fin s) :: e_Trp (Rslt.trap s) :: q14 :: (.tab 16 1 fun j => .int .u32 (bif Nat.beq j (Int.toNat
 (Ins.d (ix (Prog.code p) (Int.toNat pc)))) then Alu.doI (Ins.op (ix (Prog.code p) (Int.toNat pc))) (Ins.d (ix (Prog.code p) (Int.toNat pc))) (Ins.a (ix (Prog.code
 p) (Int.toNat pc))) (Ins.b (ix (Prog.code p) (Int.toNat pc))) (Ins.imm (ix (Prog.code p) (Int.toNat pc))) y y_1 else Rslt.regs s j)) :: q11) :: q29);
bif decide
 (q1 ≤ 140737488355328) then bif allN (fun i => true) (List.length (Rslt.mem s)) then bif decide (q2 ≤ 140737488355328) then bif allN (fun i => true) (List.length
 (Rslt.writes s)) then bif !q3 then ∃ (s_1 : Prog), ArgsLe [e_Prog p] [e_Prog s_1] ∧ PreIs (Prog.wf s_1) ∧ ∀ (y : Bool), y = rightProg s_1 → bif bif q4 y then true
 else !q4 y then bif bif q4 y then true else decide ¬(↑(List.length (Rslt.mem s)) : Int) = Prog.size p then bif q5 then bif q6 then ResLe q7 r else False else False
 else bif bif q8 then true else !q8 then bif bif q8 then true else decide (pc ≥ (↑(List.length (Prog.code p)) : Int)) then bif q5 then bif q6 then ResLe (.tup [.agg
 23 (.int .i64 2 :: .agg 3 (.int .i64 4 :: q9) :: q13), .int .i64 pc]) r else False else False else bif decide (0 ≤ pc) then bif decide (pc < (↑(List.length (Prog.code
 p)) : Int)) then bif decide (formI (Ins.op (ix (Prog.code p) (Int.toNat pc))) = 8) then bif q5 then bif q6 then ResLe (.tup [.agg 23 (.int .i64 1 :: q15), .int .i64
 pc]) r else False else False else bif q16 then bif q16 then bif q5 then bif q6 then ∃ (s_2 : Prog × Rslt × Int × Int), ArgsLe q18 (q21 s_2) ∧ PreIs (0 ≤ q20 s_2
 ∧ q20 s_2 ≤ 15) ∧ ∀ (y : Int), y = q22 s_2 → bif q25 y then bif q25 y then bif q5 then bif q6 then ResLe (q27 y) r else False else False else bif q5 then bif q6
 then ResLe q30 r else False else False else bif q16 then bif q5 then bif q31 then bif allN (fun i => true) (List.length (Rslt.mem s)) then bif q32 then bif q33 y
 then bif q34 y then bif q35 then bif q36 then bif q37 then bif q39 then bif q40 then bif q40 then bif q5 then bif q6 then ResLe (q41 y) r else False else False else
 False else False else False else False else False else bif q5 then bif q6 then ResLe q30 r else False else False else False else False else False else False else
 False else False else bif q5 then bif q6 then ∃ (s : Prog × Rslt × Int × Int), ArgsLe q42 (q21 s) ∧ PreIs (0 ≤ q20 s ∧ q20 s ≤ 15) ∧ ∀ (y_1 : Int), y_1 = q22 s →
 bif q45 then ∃ (s : List Int × Wr), ArgsLe (q55 y y_1) (q56 s) ∧ MemIs (q64 y y_1) (q65 s) ∧ PreIs (List.length (Prod.fst s) ≤ 1000000) ∧ ∀ (y_2 : List Int), y_2
 = stoF (Prod.fst s) (Prod.snd s) → bif q6 then bif q67 then bif q68 y_2 then bif q69 then ResLe (q71 y_2 y y_1) r else False else False else False else False else
 False else False else False else False else False else bif q72 then bif q5 then bif q6 then ∃ (s : Prog × Rslt × Int × Int), ArgsLe q18 (q21 s) ∧ PreIs (0 ≤ q20
 s ∧ q20 s ≤ 15) ∧ ∀ (y : Int), y = q22 s → bif q5 then bif q6 then ∃ (s : Prog × Rslt × Int × Int), ArgsLe q42 (q21 s) ∧ PreIs (0 ≤ q20 s ∧ q20 s ≤ 15) ∧ ∀ (y_1
 : Int), y_1 = q22 s → bif q73 y then bif q74 y then bif q73 y_1 then bif q74 y_1 then bif Alu.tkB (Ins.op (ix (Prog.code p) (Int.toNat pc))) y y_1 then bif q5 then
 bif q6 then ResLe q75 r else False else False else bif q5 then bif q6 then ResLe q30 r else False else False else False else False else False else False else False
 else False else False else False else bif q76 then bif q5 then bif q6 then ResLe q75 r else False else False else bif q5 then bif q6 then ∃ (s : Prog × Rslt × Int
 × Int), ArgsLe q18 (q21 s) ∧ PreIs (0 ≤ q20 s ∧ q20 s ≤ 15) ∧ ∀ (y : Int), y = q22 s → bif q5 then bif q6 then ∃ (s : Prog × Rslt × Int × Int), ArgsLe q42 (q21 s)
 ∧ PreIs (0 ≤ q20 s ∧ q20 s ≤ 15) ∧ ∀ (y_1 : Int), y_1 = q22 s → bif q73 y then bif q74 y then bif q73 y_1 then bif q74 y_1 then bif q77 y_1 then bif q5 then bif
 q6 then ResLe q78 r else False else False else bif q35 then bif q36 then bif q37 then bif q39 then bif q40 then bif q40 then bif q5 then bif q6 then ResLe (q79 y
 y_1) r else False else False else False else False else False else False else False else bif q5 then bif q6 then ResLe q30 r else False else False else False else
 False else False else False else False else False else False else False else bif decide (formI (Ins.op (ix (Prog.code p) (Int.toNat pc))) = 5) then bif q5 then bif
 q6 then ∃ (s_2 : Prog × Rslt × Int × Int), ArgsLe q18 (q21 s_2) ∧ PreIs (0 ≤ q20 s_2 ∧ q20 s_2 ≤ 15) ∧ ∀ (y : Int), y = q22 s_2 → bif q25 y then bif q25 y then bif
 q5 then bif q6 then ResLe (q27 y) r else False else False else bif q5 then bif q6 then ResLe q30 r else False else False else bif q16 then bif q5 then bif q31 then
 bif allN (fun i => true) (List.length (Rslt.mem s)) then bif q32 then bif q33 y then bif q34 y then bif q35 then bif q36 then bif q37 then bif q39 then bif q40 then
 bif q40 then bif q5 then bif q6 then ResLe (q41 y) r else False else False else False else False else False else False else False else bif q5 then bif q6 then ResLe
 q30 r else False else False else False else False else False else False else False else False else bif q5 then bif q6 then ∃ (s : Prog × Rslt × Int × Int), ArgsLe
 q42 (q21 s) ∧ PreIs (0 ≤ q20 s ∧ q20 s ≤ 15) ∧ ∀ (y_1 : Int), y_1 = q22 s → bif q45 then ∃ (s : List Int × Wr), ArgsLe (q55 y y_1) (q56 s) ∧ MemIs (q64 y y_1) (q65
 s) ∧ PreIs (List.length (Prod.fst s) ≤ 1000000) ∧ ∀ (y_2 : List Int), y_2 = stoF (Prod.fst s) (Prod.snd s) → bif q6 then bif q67 then bif q68 y_2 then bif q69 then
 ResLe (q71 y_2 y y_1) r else False else False else False else False else False else False else False else False else False else bif q72 then bif q5 then bif q6 then
 ∃ (s : Prog × Rslt × Int × Int), ArgsLe q18 (q21 s) ∧ PreIs (0 ≤ q20 s ∧ q20 s ≤ 15) ∧ ∀ (y : Int), y = q22 s → bif q5 then bif q6 then ∃ (s : Prog × Rslt × Int
 × Int), ArgsLe q42 (q21 s) ∧ PreIs (0 ≤ q20 s ∧ q20 s ≤ 15) ∧ ∀ (y_1 : Int), y_1 = q22 s → bif q73 y then bif q74 y then bif q73 y_1 then bif q74 y_1 then bif Alu.tkB
 (Ins.op (ix (Prog.code p) (Int.toNat pc))) y y_1 then bif q5 then bif q6 then ResLe q75 r else False else False else bif q5 then bif q6 then ResLe q30 r else False
 else False else False else False else False else False else False else False else False else False else bif q76 then bif q5 then bif q6 then ResLe q75 r else False
 else False else bif q5 then bif q6 then ∃ (s : Prog × Rslt × Int × Int), ArgsLe q18 (q21 s) ∧ PreIs (0 ≤ q20 s ∧ q20 s ≤ 15) ∧ ∀ (y : Int), y = q22 s → bif q5 then
 bif q6 then ∃ (s : Prog × Rslt × Int × Int), ArgsLe q42 (q21 s) ∧ PreIs (0 ≤ q20 s ∧ q20 s ≤ 15) ∧ ∀ (y_1 : Int), y_1 = q22 s → bif q73 y then bif q74 y then bif
 q73 y_1 then bif q74 y_1 then bif q77 y_1 then bif q5 then bif q6 then ResLe q78 r else False else False else bif q35 then bif q36 then bif q37 then bif q39 then
 bif q40 then bif q40 then bif q5 then bif q6 then ResLe (q79 y y_1) r else False else False else False else False else False else False else False else bif q5 then
 bif q6 then ResLe q30 r else False else False else False else False else False else False else False else False else False else False else False else False else
 False else False else bif q3 then bif q5 then bif q6 then ResLe q7 r else False else False else False else False else False else False
else False) := by kernel_rfl 

end Go.Proofs.Ytmfbaglhmiadjaa

/- One step, as the program does it: that it is the document's. -/
namespace Go.Proofs.Ytmfbaglhmiadjaa
open Go.Ra
set_option linter.unusedVariables false
set_option linter.unusedSimpArgs false
theorem TQgok : TabOk Try.prog TQg := mkT2_ok clok_seq trivial trivial trivial trivial
theorem sk_get : SkOk Try.prog (54, getS) := skOf_ok fun ⟨p, s, pc, n⟩ h => by
  obtain ⟨h0, h1⟩ : 0 ≤ n ∧ n ≤ 15 := h
  show Pure _ _ (cons [e_rnr p s pc, .int .i64 n]) (con (.int .u32 (valF s.regs n)))
  refine pureR (u := 80) (k := 20) mix TQgok ?_
  refine Eq.mpr (r_get p s pc n _) ?_
  unfold valF
  by_cases hz : n = 0
  · simp only [hz, decide_true, cond_true, if_true]
    exact .rfl
  · have h2 : n < 16 := by omega
    simp only [hz, h0, h2, decide_true, decide_false, cond_true, cond_false, if_false]
    exact .rfl
theorem TQ0ok : TabOk Try.prog TQ0 := mkT2_ok ((clok_seq.app clok_word).app clok_slices) ⟨sp_iform, sp_size1, sp_check1, sp_load, Alu.sp_do1, Alu.sp_tk1, trivial⟩ glok_slices ⟨sk_imr, sk_get, trivial⟩ ⟨gk_writeS, trivial⟩
theorem and_all {w : Int} (h0 : 0 ≤ w) (h1 : w ≤ 4294967295) : bitsI .and .u32 w 4294967295 = w := by
  obtain ⟨m, rfl⟩ := Int.eq_ofNat_of_zero_le h0
  show IntKind.u32.wrap (((BitVec.ofInt 32 (m : Int)) &&& (BitVec.ofInt 32 4294967295)).toNat : Int) = (m : Int)
  rw [BitVec.toNat_and, show (BitVec.ofInt 32 4294967295).toNat = 2 ^ 32 - 1 from rfl, Nat.and_two_pow_sub_one_eq_mod, show (BitVec.ofInt 32 (m : Int)).toNat = m % 2 ^ 32 by simp, Nat.mod_mod, Nat.mod_eq_of_lt (by omega)]
  exact wrap_u32 (by omega) (by omega)
theorem msk_eq {b sz : Int} (hs : sz = 1 ∨ sz = 2 ∨ sz = 4) (h0 : 0 ≤ b) (h1 : b ≤ 4294967295) : bitsI .and .u32 b (IntKind.u32.wrap (IntKind.u32.wrap (IntKind.u32.wrap (1 * 2 ^ Nat.min (Int.toNat (IntKind.i64.wrap (IntKind.i64.wrap (8 * sz) - 1))) 32) * 2) - 1)) = mskI b sz := by
  rcases hs with rfl | rfl | rfl
  · exact rfl
  · exact rfl
  · show bitsI .and .u32 b 4294967295 = b
    exact and_all h0 h1
theorem sk_sst : SkOk Try.prog (20, stpS) := skOf_ok fun ⟨p, s, pc⟩ h => by
  obtain ⟨hp, ho, hl⟩ : p.wf ∧ rsOk s ∧ s.writes.length ≤ 999999 := h
  obtain ⟨hw, hm, _⟩ := ho
  show Pure _ _ (cons [e_Prog p, e_Rslt s, .int .i64 pc]) (con (e_RI (stpF p s pc)))
  refine pureQ mix TQ0ok t_seq_Step (Nat.le_of_ble_eq_true rfl) ?_
  refine Eq.mpr (r_sst p s pc _) ?_
  have b1 : s.mem.length * 1 ≤ 140737488355328 := by omega
  have b2 : s.writes.length * 24 ≤ 140737488355328 := by omega
  have b3 : (s.writes.length + 1) * 24 ≤ 140737488355328 := by omega
  have b4 : s.mem.length ≤ 1099511627776 := by omega
  have hu : rngB s.mem.length (fun i => e_u8 (ix s.mem i)) = true := rngB_iff.2 fun i hi => hw.2.2.2.2.1.1 _ (ix_mem hi)
  simp only [b1, b2, b3, b4, hu, pl_eq, Nat.le_refl, allN_true, decide_true, cond_true]
  have q1 : (¬ s.fin = 0 ∨ rightProg p = false ∨ ¬ (s.mem.length : Int) = p.size) → stpF p s pc = (s, pc) := fun h => by unfold stpF; rw [if_pos h]
  have q2 : ¬ (¬ s.fin = 0 ∨ rightProg p = false ∨ ¬ (s.mem.length : Int) = p.size) → stpF p s pc = if pc < 0 ∨ pc ≥ p.code.length then (trapF s 4 pc, pc) else insF (ix p.code pc.toNat) s pc := fun h => by unfold stpF; rw [if_neg h]
  by_cases hf : s.fin = 0
  case neg =>
    rw [q1 (.inl hf)]
    simp only [hf, not_false_eq_true, decide_true, Bool.not_true, cond_true, cond_false]
    exact .rfl
  simp only [hf, not_true_eq_false, decide_false, Bool.not_false, cond_true, cond_false]
  refine ⟨p, .rfl, ⟨hp⟩, ?_⟩
  intro y hy
  replace hy : y = rightProg p := hy
  cases y with
  | false =>
    rw [q1 (.inr (.inl hy.symm))]
    simp only [Bool.not_false, cond_true]
    exact .rfl
  | true =>
  by_cases hsz : (s.mem.length : Int) = p.size
  case neg =>
    rw [q1 (.inr (.inr hsz))]
    simp only [hsz, not_false_eq_true, decide_true, Bool.not_true, Bool.not_false, cond_true, cond_false]
    exact .rfl
  have q3 := q2 (fun h => by
    rcases h with h | h | h
    · exact h hf
    · rw [h] at hy; cases hy
    · exact h hsz)
  simp only [hsz, not_true_eq_false, decide_false, Bool.not_true, Bool.not_false, cond_true, cond_false]
  by_cases h1 : pc < 0
  · rw [q3, if_pos (.inl h1)]
    simp only [h1, decide_true, Bool.not_true, cond_true, cond_false]
    exact .rfl
  by_cases h2 : pc ≥ p.code.length
  · rw [q3, if_pos (.inr h2)]
    simp only [h1, h2, decide_true, decide_false, Bool.not_false, cond_true, cond_false]
    exact .rfl
  rw [q3, if_neg (by omega)]
  clear q1 q2 q3
  have h3 : 0 ≤ pc := by omega
  have h4 : pc < p.code.length := by omega
  have hi := right_ins hy.symm (n := pc.toNat) (by omega)
  obtain ⟨hd, ha, hb, hfz⟩ := right_regs hi
  simp only [h1, h2, h3, h4, decide_true, decide_false, Bool.not_false, cond_true, cond_false]
  obtain ⟨a0, a1⟩ := val_u32 hw.2.2.2.1 ha.1 ha.2
  obtain ⟨c0, c1⟩ := val_u32 hw.2.2.2.1 hb.1 hb.2
  generalize ix p.code pc.toNat = i at hi hd ha hb hfz a0 a1 c0 c1 ⊢
  have d1 : i.d < 16 := by omega
  have d2 : i.d.toNat < 16 := by omega
  have adr := w32_rng (valF s.regs i.a + IntKind.u32.wrap i.imm)
  obtain ⟨e0, e1⟩ : 0 ≤ IntKind.u32.wrap (valF s.regs i.a + IntKind.u32.wrap i.imm) ∧ IntKind.u32.wrap (valF s.regs i.a + IntKind.u32.wrap i.imm) ≤ 4294967295 := adr
  have w64 : IntKind.i64.wrap (IntKind.u32.wrap (valF s.regs i.a + IntKind.u32.wrap i.imm)) = IntKind.u32.wrap (valF s.regs i.a + IntKind.u32.wrap i.imm) := wrap_i64 (by omega) (by omega)
  unfold insF adrF
  rw [hsz]
  have hfr := form_rng i.op
  have getA : ∀ {P : Int → Prop}, P (valF s.regs i.a) → ∃ q : Prog × Rslt × Int × Int, ArgsLe [e_rnr p s pc, .int .i64 i.a] [e_rnr q.1 q.2.1 q.2.2.1, .int .i64 q.2.2.2] ∧ PreIs (0 ≤ q.2.2.2 ∧ q.2.2.2 ≤ 15) ∧ ∀ y : Int, y = valF q.2.1.regs q.2.2.2 → P y := fun hP => ⟨(p, s, pc, i.a), .rfl, ⟨ha⟩, fun y hy => by rw [show y = valF s.regs i.a from hy]; exact hP⟩
  have getB : ∀ {P : Int → Prop}, P (valF s.regs i.b) → ∃ q : Prog × Rslt × Int × Int, ArgsLe [e_rnr p s pc, .int .i64 i.b] [e_rnr q.1 q.2.1 q.2.2.1, .int .i64 q.2.2.2] ∧ PreIs (0 ≤ q.2.2.2 ∧ q.2.2.2 ≤ 15) ∧ ∀ y : Int, y = valF q.2.1.regs q.2.2.2 → P y := fun hP => ⟨(p, s, pc, i.b), .rfl, ⟨hb⟩, fun y hy => by rw [show y = valF s.regs i.b from hy]; exact hP⟩
  rcases (by omega : formI i.op = 1 ∨ formI i.op = 2 ∨ formI i.op = 3 ∨ formI i.op = 4 ∨ formI i.op = 5 ∨ formI i.op = 6 ∨ formI i.op = 7 ∨ formI i.op = 8) with hfm | hfm | hfm | hfm | hfm | hfm | hfm | hfm
  iterate 3
    · simp only [hfm, Int.reduceEq, false_and, false_or, or_false, decide_true, decide_false, cond_true, cond_false, if_false, Bool.not_false, Bool.not_true]
      refine getA ?_
      refine getB ?_
      simp only [hd.1, d1, d2, a0, a1, c0, c1, Nat.beq_refl, decide_true, cond_true]
      cases hdk : Alu.dkB i.op i.d i.a i.b i.imm (valF s.regs i.b) with
      | false => simp only [Bool.not_false, cond_true, if_true]; exact .rfl
      | true =>
        simp only [Bool.not_true, cond_false, Bool.true_eq_false, if_false]
        by_cases hz : i.d = 0
        · simp only [hz, not_true_eq_false, decide_false, cond_false]
          rw [set_z rfl]
          exact res0 (y := tickF s) hf
        · simp only [hz, not_false_eq_true, decide_true, cond_true]
          rw [set_nz hz]
          exact res0 (y := tickF { s with regs := fun j => bif Nat.beq j i.d.toNat then Alu.doI i.op i.d i.a i.b i.imm (valF s.regs i.a) (valF s.regs i.b) else s.regs j }) hf
  · simp only [hfm, Int.reduceEq, false_and, false_or, or_false, true_or, true_and, decide_true, decide_false, cond_true, cond_false, if_false, if_true, Bool.not_false, Bool.not_true]
    refine getA ?_
    simp only [hd.1, d1, d2, e0, e1, Nat.beq_refl, decide_true, cond_true]
    by_cases hk : chkI (szI i.op) (IntKind.u32.wrap (valF s.regs i.a + IntKind.u32.wrap i.imm)) p.size = 0
    case neg =>
      simp only [hk, not_false_eq_true, decide_true, cond_true, if_true]
      exact .rfl
    simp only [hk, not_true_eq_false, decide_false, cond_false, if_false]
    by_cases hz : i.d = 0
    · simp only [hz, not_true_eq_false, decide_false, cond_false]
      rw [set_z rfl]
      exact res0 (y := tickF s) hf
    · simp only [hz, not_false_eq_true, decide_true, cond_true]
      rw [set_nz hz]
      exact res0 (y := tickF { s with regs := fun j => bif Nat.beq j i.d.toNat then loadF s.mem i.op (IntKind.u32.wrap (valF s.regs i.a + IntKind.u32.wrap i.imm)) else s.regs j }) hf
  · simp only [hfm, Int.reduceEq, false_and, false_or, or_false, true_or, or_true, true_and, decide_true, decide_false, cond_true, cond_false, if_false, if_true, Bool.not_false, Bool.not_true]
    refine getA ?_
    by_cases hk : chkI (szI i.op) (IntKind.u32.wrap (valF s.regs i.a + IntKind.u32.wrap i.imm)) p.size = 0
    case neg =>
      simp only [hk, not_false_eq_true, decide_true, cond_true, if_true]
      exact .rfl
    simp only [hk, not_true_eq_false, decide_false, cond_false, if_false]
    refine getB ?_
    have hs5 : szI i.op = 1 ∨ szI i.op = 2 ∨ szI i.op = 4 := by
      unfold formI at hfm
      unfold szI
      repeat' split at hfm
      all_goals first | omega | (repeat' split) <;> omega
    have e8 : (0 : Int) ≤ IntKind.i64.wrap (IntKind.i64.wrap (8 * szI i.op) - 1) := by
      rcases hs5 with h | h | h <;> rw [h] <;> decide
    simp only [w64, msk_eq hs5 c0 c1, e8, decide_true, cond_true]
    refine ⟨(s.mem, ⟨IntKind.u32.wrap (valF s.regs i.a + IntKind.u32.wrap i.imm), szI i.op, mskI (valF s.regs i.b) (szI i.op)⟩), .rfl, memIs ⟨rfl, trivial⟩ (Nat.le_refl _), ⟨hm⟩, ?_⟩
    intro y hy
    replace hy : y = stoF s.mem ⟨IntKind.u32.wrap (valF s.regs i.a + IntKind.u32.wrap i.imm), szI i.op, mskI (valF s.regs i.b) (szI i.op)⟩ := hy
    have hyl : y.length = s.mem.length := by rw [hy]; exact sto_len
    simp only [hyl, Nat.le_refl, decide_true, cond_true]
    subst hy
    refine ⟨lq_tup (lqs_cons (lq_agg (lqs_cons (lq_int hf.symm) (lqs_cons (.refl _) (lqs_cons (.refl _) (lqs_cons (.refl _) (lqs_cons (lq_erow sto_len.symm (.inl rfl) fun j hj => .refl _) (lqs_cons (lq_app (fun j hj => ?_) ?_) lqs_nil))))))) (lqs_cons (.refl _) lqs_nil))⟩
    · simp only [hj, decide_true, cond_true]; rfl
    · simp; rfl
  · simp only [hfm, Int.reduceEq, false_and, false_or, or_false, true_or, or_true, true_and, decide_true, decide_false, cond_true, cond_false, if_false, if_true, Bool.not_false, Bool.not_true]
    refine getA ?_
    refine getB ?_
    simp only [a0, a1, c0, c1, decide_true, cond_true]
    cases htk : Alu.tkB i.op (valF s.regs i.a) (valF s.regs i.b) with
    | false => simp only [cond_false, Bool.false_eq_true, if_false]; exact res0 (y := tickF s) hf
    | true => simp only [cond_true, if_true]; exact res0 (y := tickF s) hf
  · simp only [hfm, Int.reduceEq, false_and, false_or, or_false, true_or, or_true, true_and, decide_true, decide_false, cond_true, cond_false, if_false, if_true, Bool.not_false, Bool.not_true]
    exact res0 (y := tickF s) hf
  · simp only [hfm, Int.reduceEq, false_and, false_or, or_false, true_or, or_true, true_and, decide_true, decide_false, cond_true, cond_false, if_false, if_true, Bool.not_false, Bool.not_true]
    exact .rfl
end Go.Proofs.Ytmfbaglhmiadjaa

/- Writes into own memory of another name. -/
namespace Go.Proofs.Ytmfbaglhmiadjaa
open Go.Ra
set_option linter.unusedVariables false
set_option linter.unusedSimpArgs false
def wrMR (t : XV) (n : Nat) (r : List (Nat × Option XV)) : XSt := ⟨[], (10, none) :: (3, some t) :: r, n⟩
def wrGR : List XV → XSt → Option ((XV → XSt → Prop) → Prop) := ghOf (fun q : List Int × Wr => [.sl 3 [] 0 0 q.1.length 1, e_Wr q.2]) 10 (fun q => [(3, some (e_mem q.1))]) (fun q => q.1.length ≤ 1000000) (fun q => stoF q.1 q.2) (fun y => .tup []) (fun y => [(10, none), (3, some (e_mem y))]) 11
theorem r_wr0R (b : List (Nat × Option XV)) (m : List Int) (w : Wr) (v : XV) (τ : XSt) : (effGo TB3 5 (callI TB3 5 20) 72 [.sl 3 [] 0 0 m.length 1, e_Wr w] ⟨[], (3, some (.tab m.length 1 (fun i => e_u8 (ix m i)))) :: b, 10⟩ (fun v' τ' => EndAt 10 v' ⟨[], τ'.hl, τ'.n⟩ v τ)) = (let q1 : Bool := decide ¬Wr.size w = 1;
let q2 : Bool := bif q1 then decide ¬Wr.size w = 2 else false;
let q3 : Bool := bif q2 then decide ¬Wr.size w = 4 else
 false;
let q4 : Bool := bif q3 then true else decide (Wr.addr w < 0);
let q5 : Bool := bif q4 then true else decide (Wr.addr w > 4294967295);
let q6 : Int := chkI
 (Wr.size w) (IntKind.wrap .u32 (Wr.addr w)) (↑(List.length m) : Int);
let q7 : XSt := XSt.mk [] ((10, some (e_Wr w)) :: (3, some (.tab (List.length m) 1 fun i =>
 e_u8 (ix m i))) :: b) 11;
let q8 : Int := IntKind.wrap .i64 (Wr.addr w + (0 : Int));
let q9 : Nat := Int.toNat q8;
let q10 : Nat := q9 * 1;
let q11 : Bool := decide
 (q9 < List.length m);
let q12 : Int := IntKind.wrap .i64 ((0 : Int) + (1 : Int));
let q13 : Int := IntKind.wrap .i64 (Wr.addr w + (1 : Int));
let q14 : Int := IntKind.wrap
 .i64 (Wr.addr w + q12);
let q15 : Nat := Int.toNat q13;
let q16 : Nat := q15 * 1;
let q17 : Bool := decide (q15 < List.length m);
let q18 : Int := IntKind.wrap .i64
 (q12 + (1 : Int));
let q19 : Int := IntKind.wrap .i64 (Wr.addr w + (2 : Int));
let q20 : Int := IntKind.wrap .i64 (Wr.addr w + q18);
let q21 : Nat := Int.toNat q19;
let
 q22 : Nat := q21 * 1;
let q23 : Bool := decide (q21 < List.length m);
let q24 : Int := IntKind.wrap .i64 (q18 + (1 : Int));
let q25 : Int := IntKind.wrap .i64 (Wr.addr
 w + (3 : Int));
let q26 : Int := IntKind.wrap .i64 (Wr.addr w + q24);
let q27 : Nat := Int.toNat q25;
let q28 : Nat := q27 * 1;
let q29 : Bool := decide (q27 < List.length
 m);
let q30 : Int := IntKind.wrap .i64 (q24 + (1 : Int));
let q31 : Int := IntKind.wrap .i64 (Wr.addr w + (4 : Int));
let q32 : Int := IntKind.wrap .i64 (Wr.addr
 w + q30);
let q33 : Nat := Int.toNat q31;
let q34 : Nat := q33 * 1;
let q35 : Bool := decide (q33 < List.length m);
let q36 : Nat → Int := fun j => bif Nat.beq j
 q9 then IntKind.wrap .u8 (Int.fdiv (Wr.val w) (1 : Int)) else ix m j;
let q37 : Nat → Int := fun j => bif Nat.beq j q15 then IntKind.wrap .u8 (Int.fdiv (Wr.val w)
 (256 : Int)) else q36 j;
let q38 : Nat → Int := fun j => bif Nat.beq j q21 then IntKind.wrap .u8 (Int.fdiv (Wr.val w) (65536 : Int)) else q37 j;
bif bif q1 then
 q1 else true then bif bif q2 then q2 else true then bif bif q3 then true else !q3 then bif bif q4 then true else !q4 then bif bif q5 then true else !q5 then bif
 bif q5 then true else decide ¬q6 = 0 then EndAt 10 (.tup []) q7 v τ else bif decide (0 < Wr.size w) then bif decide (0 ≤ q8) then bif decide (q8 < (↑(List.length
 m) : Int)) then bif Nat.beq q10 q10 then bif q11 then bif q11 then bif decide (1 < Wr.size w) then bif decide (0 ≤ q13) then bif decide (q13 < (↑(List.length m)
 : Int)) then bif Nat.beq q16 q16 then bif q17 then bif q17 then bif decide (2 < Wr.size w) then bif decide (0 ≤ q19) then bif decide (q19 < (↑(List.length m) : Int))
 then bif Nat.beq q22 q22 then bif q23 then bif q23 then bif decide (3 < Wr.size w) then bif decide (0 ≤ q25) then bif decide (q25 < (↑(List.length m) : Int)) then
 bif Nat.beq q28 q28 then bif q29 then bif q29 then bif decide (4 < Wr.size w) then bif decide (0 ≤ q31) then bif decide (q31 < (↑(List.length m) : Int)) then bif
 Nat.beq q34 q34 then bif q35 then bif q35 then False else False else False else False else False else False else EndAt 10 (.tup []) (XSt.mk [] ((10, some (e_Wr w))
 :: (3, some (.tab (List.length m) 1 fun j => .int .u8 (bif Nat.beq j q27 then IntKind.wrap .u8 (Int.fdiv (Wr.val w) (16777216 : Int)) else q38 j))) :: b) 11) v τ
 else False else False else False else False else False else EndAt 10 (.tup []) (XSt.mk [] ((10, some (e_Wr w)) :: (3, some (.tab (List.length m) 1 fun j => .int
 .u8 (q38 j))) :: b) 11) v τ else False else False else False else False else False else EndAt 10 (.tup []) (XSt.mk [] ((10, some (e_Wr w)) :: (3, some (.tab (List.length
 m) 1 fun j => .int .u8 (q37 j))) :: b) 11) v τ else False else False else False else False else False else EndAt 10 (.tup []) (XSt.mk [] ((10, some (e_Wr w)) ::
 (3, some (.tab (List.length m) 1 fun j => .int .u8 (q36 j))) :: b) 11) v τ else False else False else False else False else False else EndAt 10 (.tup []) q7 v τ
 else False else False else False else False
else False) := by kernel_rfl
theorem r_wr1R (b : List (Nat × Option XV)) (m : List Int) (a d : Int) (v : XV) (τ : XSt) : (effGo TB3 5 (callI TB3 5 20) 72 [.sl 3 [] 0 0 m.length 1, .agg 3 [.int .i64 a, .int .i64 1, .int .u32 d]] ⟨[], (3, some (.tab m.length 1 (fun i => e_u8 (ix m i)))) :: b, 10⟩ (fun v' τ' => EndAt 10 v' ⟨[], τ'.hl, τ'.n⟩ v τ)) = (let q1 : Bool := decide (a < 0);
let q2 : Bool := bif q1 then true else decide (a > 4294967295);
let q3 : Int := chkI (1 : Int) (IntKind.wrap .u32 a) (↑(List.length
 m) : Int);
let q4 : XV := .agg 3 [.int .i64 a, .int .i64 1, .int .u32 d];
let q5 : Int := IntKind.wrap .i64 (a + (0 : Int));
let q6 : Nat := Int.toNat q5;
let q7
 : Nat := q6 * 1;
let q8 : Bool := decide (q6 < List.length m);
bif bif q1 then true else !q1 then bif bif q2 then true else !q2 then bif bif q2 then true else decide
 ¬q3 = 0 then EndAt 10 (.tup []) (XSt.mk [] ((10, some q4) :: (3, some (.tab (List.length m) 1 fun i => e_u8 (ix m i))) :: b) 11) v τ else bif decide (0 ≤ q5) then
 bif decide (q5 < (↑(List.length m) : Int)) then bif Nat.beq q7 q7 then bif q8 then bif q8 then EndAt 10 (.tup []) (XSt.mk [] ((10, some q4) :: (3, some (.tab (List.length
 m) 1 fun j => .int .u8 (bif Nat.beq j q6 then IntKind.wrap .u8 (Int.fdiv d (1 : Int)) else ix m j))) :: b) 11) v τ else False else False else False else False else
 False else False
else False) := by kernel_rfl
theorem r_wr2R (b : List (Nat × Option XV)) (m : List Int) (a d : Int) (v : XV) (τ : XSt) : (effGo TB3 5 (callI TB3 5 20) 72 [.sl 3 [] 0 0 m.length 1, .agg 3 [.int .i64 a, .int .i64 2, .int .u32 d]] ⟨[], (3, some (.tab m.length 1 (fun i => e_u8 (ix m i)))) :: b, 10⟩ (fun v' τ' => EndAt 10 v' ⟨[], τ'.hl, τ'.n⟩ v τ)) = (let q1 : Bool := decide (a < 0);
let q2 : Bool := bif q1 then true else decide (a > 4294967295);
let q3 : Int := chkI (2 : Int) (IntKind.wrap .u32 a) (↑(List.length
 m) : Int);
let q4 : XV := .agg 3 [.int .i64 a, .int .i64 2, .int .u32 d];
let q5 : Int := IntKind.wrap .i64 (a + (0 : Int));
let q6 : Nat := Int.toNat q5;
let q7
 : Nat := q6 * 1;
let q8 : Bool := decide (q6 < List.length m);
let q9 : Int := IntKind.wrap .i64 (a + (1 : Int));
let q10 : Int := IntKind.wrap .i64 (a + IntKind.wrap
 .i64 ((0 : Int) + (1 : Int)));
let q11 : Nat := Int.toNat q9;
let q12 : Nat := q11 * 1;
let q13 : Bool := decide (q11 < List.length m);
bif bif q1 then true else
 !q1 then bif bif q2 then true else !q2 then bif bif q2 then true else decide ¬q3 = 0 then EndAt 10 (.tup []) (XSt.mk [] ((10, some q4) :: (3, some (.tab (List.length
 m) 1 fun i => e_u8 (ix m i))) :: b) 11) v τ else bif decide (0 ≤ q5) then bif decide (q5 < (↑(List.length m) : Int)) then bif Nat.beq q7 q7 then bif q8 then bif
 q8 then bif decide (0 ≤ q9) then bif decide (q9 < (↑(List.length m) : Int)) then bif Nat.beq q12 q12 then bif q13 then bif q13 then EndAt 10 (.tup []) (XSt.mk []
 ((10, some q4) :: (3, some (.tab (List.length m) 1 fun j => .int .u8 (bif Nat.beq j q11 then IntKind.wrap .u8 (Int.fdiv d (256 : Int)) else bif Nat.beq j q6 then
 IntKind.wrap .u8 (Int.fdiv d (1 : Int)) else ix m j))) :: b) 11) v τ else False else False else False else False else False else False else False else False else
 False else False else False
else False) := by kernel_rfl
theorem r_wr4R (b : List (Nat × Option XV)) (m : List Int) (a d : Int) (v : XV) (τ : XSt) : (effGo TB3 5 (callI TB3 5 20) 72 [.sl 3 [] 0 0 m.length 1, .agg 3 [.int .i64 a, .int .i64 4, .int .u32 d]] ⟨[], (3, some (.tab m.length 1 (fun i => e_u8 (ix m i)))) :: b, 10⟩ (fun v' τ' => EndAt 10 v' ⟨[], τ'.hl, τ'.n⟩ v τ)) = (let q1 : Bool := decide (a < 0);
let q2 : Bool := bif q1 then true else decide (a > 4294967295);
let q3 : Int := chkI (4 : Int) (IntKind.wrap .u32 a) (↑(List.length
 m) : Int);
let q4 : XV := .agg 3 [.int .i64 a, .int .i64 4, .int .u32 d];
let q5 : Int := IntKind.wrap .i64 (a + (0 : Int));
let q6 : Nat := Int.toNat q5;
let q7
 : Nat := q6 * 1;
let q8 : Bool := decide (q6 < List.length m);
let q9 : Int := IntKind.wrap .i64 (a + (1 : Int));
let q10 : Int := IntKind.wrap .i64 ((0 : Int) +
 (1 : Int));
let q11 : Int := IntKind.wrap .i64 (a + q10);
let q12 : Nat := Int.toNat q9;
let q13 : Nat := q12 * 1;
let q14 : Bool := decide (q12 < List.length m);
let
 q15 : Int := IntKind.wrap .i64 (a + (2 : Int));
let q16 : Int := IntKind.wrap .i64 (q10 + (1 : Int));
let q17 : Int := IntKind.wrap .i64 (a + q16);
let q18 : Nat
 := Int.toNat q15;
let q19 : Nat := q18 * 1;
let q20 : Bool := decide (q18 < List.length m);
let q21 : Int := IntKind.wrap .i64 (a + (3 : Int));
let q22 : Int :=
 IntKind.wrap .i64 (a + IntKind.wrap .i64 (q16 + (1 : Int)));
let q23 : Nat := Int.toNat q21;
let q24 : Nat := q23 * 1;
let q25 : Bool := decide (q23 < List.length
 m);
bif bif q1 then true else !q1 then bif bif q2 then true else !q2 then bif bif q2 then true else decide ¬q3 = 0 then EndAt 10 (.tup []) (XSt.mk [] ((10, some
 q4) :: (3, some (.tab (List.length m) 1 fun i => e_u8 (ix m i))) :: b) 11) v τ else bif decide (0 ≤ q5) then bif decide (q5 < (↑(List.length m) : Int)) then bif
 Nat.beq q7 q7 then bif q8 then bif q8 then bif decide (0 ≤ q9) then bif decide (q9 < (↑(List.length m) : Int)) then bif Nat.beq q13 q13 then bif q14 then bif q14
 then bif decide (0 ≤ q15) then bif decide (q15 < (↑(List.length m) : Int)) then bif Nat.beq q19 q19 then bif q20 then bif q20 then bif decide (0 ≤ q21) then bif
 decide (q21 < (↑(List.length m) : Int)) then bif Nat.beq q24 q24 then bif q25 then bif q25 then EndAt 10 (.tup []) (XSt.mk [] ((10, some q4) :: (3, some (.tab (List.length
 m) 1 fun j => .int .u8 (bif Nat.beq j q23 then IntKind.wrap .u8 (Int.fdiv d (16777216 : Int)) else bif Nat.beq j q18 then IntKind.wrap .u8 (Int.fdiv d (65536 : Int))
 else bif Nat.beq j q12 then IntKind.wrap .u8 (Int.fdiv d (256 : Int)) else bif Nat.beq j q6 then IntKind.wrap .u8 (Int.fdiv d (1 : Int)) else ix m j))) :: b) 11)
 v τ else False else False else False else False else False else False else False else False else False else False else False else False else False else False else
 False else False else False else False else False else False else False
else False) := by kernel_rfl
theorem wr_endR {b : List (Nat × Option XV)} {m m' : List Int} {c : XV} {f : Nat → XV} (hl : m'.length = m.length) (h : ∀ i, i < m.length → con (f i) = con (e_u8 (ix m' i))) : EndAt 10 (.tup []) ⟨[], (10, some c) :: (3, some (.tab m.length 1 f)) :: b, 11⟩ (.tup []) (wrMR (e_mem m') 11 b) :=
  endH (a := [(10, some c), (3, some (.tab m.length 1 f))]) (b := [(10, none), (3, some (e_mem m'))]) (r := b) ⟨(by
    show con (.tab m.length 1 f) = con (e_mem m')
    unfold e_mem
    rw [hl, con_tabC h]), trivial⟩ rfl (Nat.le_refl _)
theorem wr1R (b : List (Nat × Option XV)) (m : List Int) (a d : Int) (hn : m.length ≤ 1000000) : effGo TB3 5 (callI TB3 5 20) 72 [.sl 3 [] 0 0 m.length 1, .agg 3 [.int .i64 a, .int .i64 1, .int .u32 d]] ⟨[], (3, some (.tab m.length 1 (fun i => e_u8 (ix m i)))) :: b, 10⟩ (fun v' τ' => EndAt 10 v' ⟨[], τ'.hl, τ'.n⟩ (.tup []) (wrMR (e_mem (stoF m ⟨a, 1, d⟩)) 11 b)) := by
  refine Eq.mpr (r_wr1R b m a d _ _) ?_
  have hl : (stoF m ⟨a, 1, d⟩).length = m.length := tabL_len
  have key : ∀ i, i < m.length → con (e_u8 (ix (stoF m ⟨a, 1, d⟩) i)) = con (o_sto (okW m.length a 1) (fun i => e_u8 (ix m i)) a.toNat 1 d i) := fun i hi => by
    unfold stoF
    rw [ix_tabL hi]
    rfl
  cases hok : okW m.length a 1 with
  | false =>
    have h0 := okW_not (by omega) hok
    rw [hok] at key
    simp only [decide_true, decide_false, cond_true, cond_false, allN_true, Nat.le_refl, Int.toNat_natCast, Nat.beq_refl, pk_and, pk_or, Bool.not_true, Bool.not_false, not_true_eq_false, not_false_eq_true, Bool.and_true, Bool.true_and, Bool.and_self, ge_iff_le, Int.le_refl, if_true, if_false, reduceCtorEq, eq_self, BEq.rfl] at h0 ⊢
    simp only [h0, decide_true, decide_false, cond_true, cond_false, allN_true, Nat.le_refl, Int.toNat_natCast, Nat.beq_refl, pk_and, pk_or, Bool.not_true, Bool.not_false, not_true_eq_false, not_false_eq_true, Bool.and_true, Bool.true_and, Bool.and_self, ge_iff_le, Int.le_refl, if_true, if_false, reduceCtorEq, eq_self, BEq.rfl]
    exact wr_endR hl fun i hi => (key i hi).symm
  | true =>
    rw [hok] at key
    obtain ⟨hs, ha, ha2, hch⟩ := okW_iff.1 hok
    obtain ⟨hin, _⟩ := chk_in hs ha ha2 (by omega) hch
    have h1 : ¬ a < 0 := by omega
    have h2 : ¬ a > 4294967295 := by omega
    have h3 : IntKind.u32.wrap a = a := wrap_u32 ha ha2
    have e0 : (IntKind.i64.wrap (a + 0)).toNat = a.toNat + 0 := by rw [wrap_i64 (by omega) (by omega)]; omega
    have z0 : (0 : Int) ≤ IntKind.i64.wrap (a + 0) := by rw [wrap_i64 (by omega) (by omega)]; omega
    have y0 : IntKind.i64.wrap (a + 0) < m.length := by rw [wrap_i64 (by omega) (by omega)]; omega
    have x0 : a.toNat + 0 < m.length := by omega
    simp only [h1, h2, h3, hch, e0, z0, y0, x0, not_true_eq_false, decide_true, decide_false, cond_true, cond_false, allN_true, Nat.le_refl, Int.toNat_natCast, Nat.beq_refl, pk_and, pk_or, Bool.not_true, Bool.not_false, not_true_eq_false, not_false_eq_true, Bool.and_true, Bool.true_and, Bool.and_self, ge_iff_le, Int.le_refl, if_true, if_false, reduceCtorEq, eq_self, BEq.rfl]
    refine wr_endR hl fun i hi => ?_
    rw [key i hi]
    by_cases h0 : i = a.toNat + 0
    · rw [sto_in (j := 0) (by omega) h0]
      simp only [h0, Nat.beq_refl, cond_true, cond_false, Nat.mul_one]
      rw [fdivE (by omega), wU8]
      rfl
    rw [sto_out (by omega)]
    simp only [beq_ne h0, cond_false, Nat.mul_one]
    rfl
theorem wr2R (b : List (Nat × Option XV)) (m : List Int) (a d : Int) (hn : m.length ≤ 1000000) : effGo TB3 5 (callI TB3 5 20) 72 [.sl 3 [] 0 0 m.length 1, .agg 3 [.int .i64 a, .int .i64 2, .int .u32 d]] ⟨[], (3, some (.tab m.length 1 (fun i => e_u8 (ix m i)))) :: b, 10⟩ (fun v' τ' => EndAt 10 v' ⟨[], τ'.hl, τ'.n⟩ (.tup []) (wrMR (e_mem (stoF m ⟨a, 2, d⟩)) 11 b)) := by
  refine Eq.mpr (r_wr2R b m a d _ _) ?_
  have hl : (stoF m ⟨a, 2, d⟩).length = m.length := tabL_len
  have key : ∀ i, i < m.length → con (e_u8 (ix (stoF m ⟨a, 2, d⟩) i)) = con (o_sto (okW m.length a 2) (fun i => e_u8 (ix m i)) a.toNat 2 d i) := fun i hi => by
    unfold stoF
    rw [ix_tabL hi]
    rfl
  cases hok : okW m.length a 2 with
  | false =>
    have h0 := okW_not (by omega) hok
    rw [hok] at key
    simp only [decide_true, decide_false, cond_true, cond_false, allN_true, Nat.le_refl, Int.toNat_natCast, Nat.beq_refl, pk_and, pk_or, Bool.not_true, Bool.not_false, not_true_eq_false, not_false_eq_true, Bool.and_true, Bool.true_and, Bool.and_self, ge_iff_le, Int.le_refl, if_true, if_false, reduceCtorEq, eq_self, BEq.rfl] at h0 ⊢
    simp only [h0, decide_true, decide_false, cond_true, cond_false, allN_true, Nat.le_refl, Int.toNat_natCast, Nat.beq_refl, pk_and, pk_or, Bool.not_true, Bool.not_false, not_true_eq_false, not_false_eq_true, Bool.and_true, Bool.true_and, Bool.and_self, ge_iff_le, Int.le_refl, if_true, if_false, reduceCtorEq, eq_self, BEq.rfl]
    exact wr_endR hl fun i hi => (key i hi).symm
  | true =>
    rw [hok] at key
    obtain ⟨hs, ha, ha2, hch⟩ := okW_iff.1 hok
    obtain ⟨hin, _⟩ := chk_in hs ha ha2 (by omega) hch
    have h1 : ¬ a < 0 := by omega
    have h2 : ¬ a > 4294967295 := by omega
    have h3 : IntKind.u32.wrap a = a := wrap_u32 ha ha2
    have e0 : (IntKind.i64.wrap (a + 0)).toNat = a.toNat + 0 := by rw [wrap_i64 (by omega) (by omega)]; omega
    have z0 : (0 : Int) ≤ IntKind.i64.wrap (a + 0) := by rw [wrap_i64 (by omega) (by omega)]; omega
    have y0 : IntKind.i64.wrap (a + 0) < m.length := by rw [wrap_i64 (by omega) (by omega)]; omega
    have x0 : a.toNat + 0 < m.length := by omega
    have e1 : (IntKind.i64.wrap (a + 1)).toNat = a.toNat + 1 := by rw [wrap_i64 (by omega) (by omega)]; omega
    have z1 : (0 : Int) ≤ IntKind.i64.wrap (a + 1) := by rw [wrap_i64 (by omega) (by omega)]; omega
    have y1 : IntKind.i64.wrap (a + 1) < m.length := by rw [wrap_i64 (by omega) (by omega)]; omega
    have x1 : a.toNat + 1 < m.length := by omega
    simp only [h1, h2, h3, hch, e0, z0, y0, x0, e1, z1, y1, x1, not_true_eq_false, decide_true, decide_false, cond_true, cond_false, allN_true, Nat.le_refl, Int.toNat_natCast, Nat.beq_refl, pk_and, pk_or, Bool.not_true, Bool.not_false, not_true_eq_false, not_false_eq_true, Bool.and_true, Bool.true_and, Bool.and_self, ge_iff_le, Int.le_refl, if_true, if_false, reduceCtorEq, eq_self, BEq.rfl]
    refine wr_endR hl fun i hi => ?_
    rw [key i hi]
    by_cases h0 : i = a.toNat + 0
    · rw [sto_in (j := 0) (by omega) h0]
      simp only [h0, Nat.beq_refl, beq_ne (show ¬ a.toNat + 0 = a.toNat + 1 by omega), cond_true, cond_false, Nat.mul_one]
      rw [fdivE (by omega), wU8]
      rfl
    by_cases h1 : i = a.toNat + 1
    · rw [sto_in (j := 1) (by omega) h1]
      simp only [h1, Nat.beq_refl, cond_true, cond_false, Nat.mul_one]
      rw [fdivE (by omega), wU8]
      rfl
    rw [sto_out (by omega)]
    simp only [beq_ne h0, beq_ne h1, cond_false, Nat.mul_one]
    rfl
theorem wr4R (b : List (Nat × Option XV)) (m : List Int) (a d : Int) (hn : m.length ≤ 1000000) : effGo TB3 5 (callI TB3 5 20) 72 [.sl 3 [] 0 0 m.length 1, .agg 3 [.int .i64 a, .int .i64 4, .int .u32 d]] ⟨[], (3, some (.tab m.length 1 (fun i => e_u8 (ix m i)))) :: b, 10⟩ (fun v' τ' => EndAt 10 v' ⟨[], τ'.hl, τ'.n⟩ (.tup []) (wrMR (e_mem (stoF m ⟨a, 4, d⟩)) 11 b)) := by
  refine Eq.mpr (r_wr4R b m a d _ _) ?_
  have hl : (stoF m ⟨a, 4, d⟩).length = m.length := tabL_len
  have key : ∀ i, i < m.length → con (e_u8 (ix (stoF m ⟨a, 4, d⟩) i)) = con (o_sto (okW m.length a 4) (fun i => e_u8 (ix m i)) a.toNat 4 d i) := fun i hi => by
    unfold stoF
    rw [ix_tabL hi]
    rfl
  cases hok : okW m.length a 4 with
  | false =>
    have h0 := okW_not (by omega) hok
    rw [hok] at key
    simp only [decide_true, decide_false, cond_true, cond_false, allN_true, Nat.le_refl, Int.toNat_natCast, Nat.beq_refl, pk_and, pk_or, Bool.not_true, Bool.not_false, not_true_eq_false, not_false_eq_true, Bool.and_true, Bool.true_and, Bool.and_self, ge_iff_le, Int.le_refl, if_true, if_false, reduceCtorEq, eq_self, BEq.rfl] at h0 ⊢
    simp only [h0, decide_true, decide_false, cond_true, cond_false, allN_true, Nat.le_refl, Int.toNat_natCast, Nat.beq_refl, pk_and, pk_or, Bool.not_true, Bool.not_false, not_true_eq_false, not_false_eq_true, Bool.and_true, Bool.true_and, Bool.and_self, ge_iff_le, Int.le_refl, if_true, if_false, reduceCtorEq, eq_self, BEq.rfl]
    exact wr_endR hl fun i hi => (key i hi).symm
  | true =>
    rw [hok] at key
    obtain ⟨hs, ha, ha2, hch⟩ := okW_iff.1 hok
    obtain ⟨hin, _⟩ := chk_in hs ha ha2 (by omega) hch
    have h1 : ¬ a < 0 := by omega
    have h2 : ¬ a > 4294967295 := by omega
    have h3 : IntKind.u32.wrap a = a := wrap_u32 ha ha2
    have e0 : (IntKind.i64.wrap (a + 0)).toNat = a.toNat + 0 := by rw [wrap_i64 (by omega) (by omega)]; omega
    have z0 : (0 : Int) ≤ IntKind.i64.wrap (a + 0) := by rw [wrap_i64 (by omega) (by omega)]; omega
    have y0 : IntKind.i64.wrap (a + 0) < m.length := by rw [wrap_i64 (by omega) (by omega)]; omega
    have x0 : a.toNat + 0 < m.length := by omega
    have e1 : (IntKind.i64.wrap (a + 1)).toNat = a.toNat + 1 := by rw [wrap_i64 (by omega) (by omega)]; omega
    have z1 : (0 : Int) ≤ IntKind.i64.wrap (a + 1) := by rw [wrap_i64 (by omega) (by omega)]; omega
    have y1 : IntKind.i64.wrap (a + 1) < m.length := by rw [wrap_i64 (by omega) (by omega)]; omega
    have x1 : a.toNat + 1 < m.length := by omega
    have e2 : (IntKind.i64.wrap (a + 2)).toNat = a.toNat + 2 := by rw [wrap_i64 (by omega) (by omega)]; omega
    have z2 : (0 : Int) ≤ IntKind.i64.wrap (a + 2) := by rw [wrap_i64 (by omega) (by omega)]; omega
    have y2 : IntKind.i64.wrap (a + 2) < m.length := by rw [wrap_i64 (by omega) (by omega)]; omega
    have x2 : a.toNat + 2 < m.length := by omega
    have e3 : (IntKind.i64.wrap (a + 3)).toNat = a.toNat + 3 := by rw [wrap_i64 (by omega) (by omega)]; omega
    have z3 : (0 : Int) ≤ IntKind.i64.wrap (a + 3) := by rw [wrap_i64 (by omega) (by omega)]; omega
    have y3 : IntKind.i64.wrap (a + 3) < m.length := by rw [wrap_i64 (by omega) (by omega)]; omega
    have x3 : a.toNat + 3 < m.length := by omega
    simp only [h1, h2, h3, hch, e0, z0, y0, x0, e1, z1, y1, x1, e2, z2, y2, x2, e3, z3, y3, x3, not_true_eq_false, decide_true, decide_false, cond_true, cond_false, allN_true, Nat.le_refl, Int.toNat_natCast, Nat.beq_refl, pk_and, pk_or, Bool.not_true, Bool.not_false, not_true_eq_false, not_false_eq_true, Bool.and_true, Bool.true_and, Bool.and_self, ge_iff_le, Int.le_refl, if_true, if_false, reduceCtorEq, eq_self, BEq.rfl]
    refine wr_endR hl fun i hi => ?_
    rw [key i hi]
    by_cases h0 : i = a.toNat + 0
    · rw [sto_in (j := 0) (by omega) h0]
      simp only [h0, Nat.beq_refl, beq_ne (show ¬ a.toNat + 0 = a.toNat + 1 by omega), beq_ne (show ¬ a.toNat + 0 = a.toNat + 2 by omega), beq_ne (show ¬ a.toNat + 0 = a.toNat + 3 by omega), cond_true, cond_false, Nat.mul_one]
      rw [fdivE (by omega), wU8]
      rfl
    by_cases h1 : i = a.toNat + 1
    · rw [sto_in (j := 1) (by omega) h1]
      simp only [h1, Nat.beq_refl, beq_ne (show ¬ a.toNat + 1 = a.toNat + 2 by omega), beq_ne (show ¬ a.toNat + 1 = a.toNat + 3 by omega), cond_true, cond_false, Nat.mul_one]
      rw [fdivE (by omega), wU8]
      rfl
    by_cases h2 : i = a.toNat + 2
    · rw [sto_in (j := 2) (by omega) h2]
      simp only [h2, Nat.beq_refl, beq_ne (show ¬ a.toNat + 2 = a.toNat + 3 by omega), cond_true, cond_false, Nat.mul_one]
      rw [fdivE (by omega), wU8]
      rfl
    by_cases h3 : i = a.toNat + 3
    · rw [sto_in (j := 3) (by omega) h3]
      simp only [h3, Nat.beq_refl, cond_true, cond_false, Nat.mul_one]
      rw [fdivE (by omega), wU8]
      rfl
    rw [sto_out (by omega)]
    simp only [beq_ne h0, beq_ne h1, beq_ne h2, beq_ne h3, cond_false, Nat.mul_one]
    rfl
theorem gk_writeR : GkOk Try.prog qq (72, wrGR) := ghOf_ok (by decide) fun ⟨m, w⟩ b h => by
  have hn : m.length ≤ 1000000 := h
  obtain ⟨a, s, d⟩ := w
  show Gen _ _ (cons [.sl 3 [] 0 0 m.length 1, .agg 3 [.int .i64 a, .int .i64 s, .int .u32 d]]) (XSt.st ⟨[], (3, some (e_mem m)) :: b, 10⟩) (con (.tup [])) (wrMR (e_mem (stoF m ⟨a, s, d⟩)) 11 b).st
  refine genR (u := 5) (k := 20) mix TB3ok ?_
  by_cases h1 : s = 1
  · subst h1; exact wr1R b m a d hn
  by_cases h2 : s = 2
  · subst h2; exact wr2R b m a d hn
  by_cases h4 : s = 4
  · subst h4; exact wr4R b m a d hn
  have hok : okW m.length a s = false := by
    rw [← Bool.not_eq_true]
    intro h
    have := (okW_iff.1 h).1
    omega
  refine Eq.mpr (r_wr0R b m ⟨a, s, d⟩ _ _) ?_
  simp only [h1, h2, h4, not_false_eq_true, decide_true, decide_false, cond_true, cond_false, allN_true, Nat.le_refl, Int.toNat_natCast, Nat.beq_refl, pk_and, pk_or, Bool.not_true, Bool.not_false, not_true_eq_false, not_false_eq_true, Bool.and_true, Bool.true_and, Bool.and_self, ge_iff_le, Int.le_refl, if_true, if_false, reduceCtorEq, eq_self, BEq.rfl]
  refine wr_endR tabL_len fun i hi => ?_
  unfold stoF
  rw [ix_tabL hi, hok]
  rfl
end Go.Proofs.Ytmfbaglhmiadjaa

/- A whole run, as the program does it: forms. -/
namespace Go.Proofs.Ytmfbaglhmiadjaa
open Go.Ra
set_option linter.unusedVariables false
set_option linter.unusedSimpArgs false
def TQ1 : Tab := mkT2 qq (cl_seq ++ cl_word ++ cl_slices) [(51, formSp), (68, szSp), (70, chkSp), (71, loadSp), (55, Alu.doSp), (53, Alu.tkSp)] gl_slices [(28, rprS), (54, getS)] [(72, wrGR)]
def qSt (p : Prog) (F : Int) (s : Rslt) (pc : Int) (k : Nat) : XSt :=
  ⟨[(20, .int .i64 k), (19, .int .i64 F), (6, .ptr 5 [] 0), (5, .ptr 4 [] 0), (4, .ptr 1 [] 0)],
   [(6, some (.tab s.writes.length 3 (fun i => e_Wr (ix s.writes i)))), (5, some (.agg 5 [e_Prog p, .ptr 4 [] 0, .int .i64 pc])), (4, some (.agg 23 [.int .i64 0, .agg 3 [.int .i64 0, .int .i64 0, .int .i64 0], .int .i64 s.steps, .tab 16 1 (fun i => .int .u32 (s.regs i)), .sl 3 [] 0 0 s.mem.length 1, .sl 6 [] 0 0 s.writes.length 3])), (3, some (.tab s.mem.length 1 (fun i => e_u8 (ix s.mem i)))), (1, some zR), (0, some (e_Prog p))], 7⟩
theorem q_run0 (p : Prog) (fuel : Int) (r : XV) : (goQ Try.prog TQ1 [(.cell 4 .true 23)] r (.run c_seq_Run) [] ⟨envX 0 [e_Prog p, .int .i64 fuel], [], 0⟩) = (let q1 : XV := .agg 3 [.int .i64 0, .int .i64 0, .int .i64 0];
let q2 : XV := .tab 16 1 fun x => .int .u32 0;
let q3 : XV := .row true 0 0 fun x => .unk;
let
 q4 : List XV := [q3];
let q5 : XV := .agg 23 (.int .i64 0 :: q1 :: .int .i64 0 :: q2 :: q3 :: q4);
let q6 : Nat := Int.toNat (Prog.size p) * 1;
let q7 : Int := if
 100000 < fuel then (100000 : Int) else fuel;
let q8 : XV := .ptr 4 [] 0;
∃ (s : Prog), ArgsLe [e_Prog p] [e_Prog s] ∧ PreIs (Prog.wf s) ∧ ∀ (y : Bool), y = rightProg
 s → bif !y then ResLe q5 r else bif decide (0 ≤ Prog.size p) then bif decide (q6 ≤ 140737488355328) then bif Nat.beq (Int.toNat (Prog.size p)) (Int.toNat (Prog.size
 p)) then LoopAt (Ok Try.prog (Tab.q TQ1)) c_seq_Run_l1 (XSt.mk [(20, .int .i64 0), (19, .int .i64 (if q7 > 0 then q7 else (0 : Int))), (6, .ptr 5 [] 0), (5, q8),
 (4, .ptr 1 [] 0)] [(5, some (.agg 5 [e_Prog p, q8, .int .i64 0])), (4, some (.agg 23 (.int .i64 0 :: q1 :: .int .i64 0 :: q2 :: .sl 3 [] 0 0 (Int.toNat (Prog.size
 p)) 1 :: q4))), (3, some (.tab (Int.toNat (Prog.size p)) 1 fun i => .int .u8 (bif decide (i < List.length (Prog.data p)) then ix (Prog.data p) i else (0 : Int)))),
 (2, some (e_Prog p)), (1, some q5), (0, some (e_Prog p))] 6) [Frm.blk 0, Frm.seq c_seq_Run_p1] (finQR [AR.cell 4 true 23] r) else False else False else False) :=
 by kernel_rfl
theorem q_run1 (p : Prog) (F : Int) (s : Rslt) (pc : Int) (k : Nat) (r : XV) (A : XSt → Prop) : (goQ Try.prog TQ1 [(.cell 4 .true 23)] r (.run c_seq_Run_l1) [.lp c_seq_Run_l1 A, .blk 0, .seq c_seq_Run_p1] (qSt p F s pc k)) = (let q1 : Bool := decide (pc < 0);
let q2 : Bool := decide (List.length (Rslt.mem s) ≤ List.length (Rslt.mem s));
let q3 : Bool := decide (List.length (Rslt.writes
 s) ≤ List.length (Rslt.writes s));
let q4 : List XV := [.int .i64 (Rslt.steps s), .int .i64 pc];
let q5 : XV := .tab 16 1 fun i => .int .u32 (Rslt.regs s i);
let
 q6 : List XV := [q5, e_row 1 e_u8 (Rslt.mem s), e_row 3 e_Wr (Rslt.writes s)];
let q7 : List XV := .int .i64 (Rslt.steps s) :: q6;
let q8 : XV := .agg 3 [.int .i64
 0, .int .i64 0, .int .i64 0];
let q9 : XV := .int .i64 (IntKind.wrap .i64 (Rslt.steps s + (1 : Int)));
let q10 : Bool := decide (formI (Ins.op (ix (Prog.code p)
 (Int.toNat pc))) = 4);
let q11 : List XV := q8 :: q7;
let q12 : XV := .fptr (.agg 5 [e_Prog p, .fptr (.agg 23 (.int .i64 0 :: q11)), .int .i64 pc]);
let q13 : List
 XV := [q12, .int .i64 (Ins.a (ix (Prog.code p) (Int.toNat pc)))];
let q14 : Prog × Rslt × Int × Int → Rslt := fun (s : Prog × Rslt × Int × Int) => Prod.fst (Prod.snd
 s);
let q15 : Prog × Rslt × Int × Int → Int := fun (s : Prog × Rslt × Int × Int) => Prod.snd (Prod.snd (Prod.snd s));
let q16 : Prog × Rslt × Int × Int → List XV
 := fun (s : Prog × Rslt × Int × Int) => [e_rnr (Prod.fst s) (q14 s) (Prod.fst (Prod.snd (Prod.snd s))), .int .i64 (q15 s)];
let q17 : Prog × Rslt × Int × Int → Int
 := fun (s : Prog × Rslt × Int × Int) => valF (Rslt.regs (q14 s)) (q15 s);
let q18 : Int → Int := fun y => IntKind.wrap .u32 (y + IntKind.wrap .u32 (Ins.imm (ix (Prog.code
 p) (Int.toNat pc))));
let q19 : Int → Int := fun y => chkI (szI (Ins.op (ix (Prog.code p) (Int.toNat pc)))) (q18 y) (↑(List.length (Rslt.mem s)) : Int);
let q20
 : Int → Bool := fun y => decide ¬q19 y = 0;
let q21 : Int → XV := fun y => .int .i64 (q19 y);
let q22 : Int → XV := fun y => .agg 23 (.int .i64 2 :: .agg 3 (q21
 y :: q4) :: q7);
let q23 : XV := .ptr 5 [] 0;
let q24 : XV := .ptr 4 [] 0;
let q25 : List (Nat × XV) := [(20, .int .i64 (IntKind.wrap .i64 ((↑k : Int) + (1 : Int)))),
 (19, .int .i64 F), (6, q23), (5, q24), (4, .ptr 1 [] 0)];
let q26 : XV := .tab (List.length (Rslt.writes s)) 3 fun i => e_Wr (ix (Rslt.writes s) i);
let q27 : XV
 := .agg 5 [e_Prog p, q24, .int .i64 (IntKind.wrap .i64 (pc + (1 : Int)))];
let q28 : XV := .sl 3 [] 0 0 (List.length (Rslt.mem s)) 1;
let q29 : List XV := [q28,
 .sl 6 [] 0 0 (List.length (Rslt.writes s)) 3];
let q30 : List XV := q5 :: q29;
let q31 : XV := .row true 0 0 fun x => .unk;
let q32 : List (Nat × Option XV) := [(3,
 some (.tab (List.length (Rslt.mem s)) 1 fun i => e_u8 (ix (Rslt.mem s) i))), (1, some (.agg 23 [.int .i64 0, q8, .int .i64 0, .tab 16 1 fun x => .int .u32 0, q31,
 q31])), (0, some (e_Prog p))];
let q33 : List (Nat × Option XV) := (4, some (.agg 23 (.int .i64 0 :: q8 :: q9 :: q30))) :: q32;
let q34 : List (Nat × Option XV)
 := (7, some (e_Ins (ix (Prog.code p) (Int.toNat pc)))) :: (6, some q26) :: (5, some q27) :: q33;
let q35 : XSt := XSt.mk q25 ((8, some (e_Ins (ix (Prog.code p) (Int.toNat
 pc)))) :: q34) 9;
let q36 : Bool := decide (List.length (Rslt.mem s) ≤ 1099511627776);
let q37 : Bool := rngB (List.length (Rslt.mem s)) fun i => e_u8 (ix (Rslt.mem
 s) i);
let q38 : Int → Bool := fun y => decide (0 ≤ q18 y);
let q39 : Int → Bool := fun y => decide (q18 y ≤ 4294967295);
let q40 : Bool := decide ¬Ins.d (ix (Prog.code
 p) (Int.toNat pc)) = 0;
let q41 : Bool := decide (0 ≤ Ins.d (ix (Prog.code p) (Int.toNat pc)));
let q42 : Bool := decide (Ins.d (ix (Prog.code p) (Int.toNat pc))
 < 16);
let q43 : Nat := pl 5 (Int.toNat (Ins.d (ix (Prog.code p) (Int.toNat pc))) * 1);
let q44 : Bool := Nat.beq q43 q43;
let q45 : Bool := decide (Int.toNat (Ins.d
 (ix (Prog.code p) (Int.toNat pc))) < 16);
let q46 : Int → XSt := fun y => XSt.mk q25 ((8, some (e_Ins (ix (Prog.code p) (Int.toNat pc)))) :: (7, some (e_Ins (ix
 (Prog.code p) (Int.toNat pc)))) :: (6, some q26) :: (5, some q27) :: (4, some (.agg 23 (.int .i64 0 :: q8 :: q9 :: (.tab 16 1 fun j => .int .u32 (bif Nat.beq j (Int.toNat
 (Ins.d (ix (Prog.code p) (Int.toNat pc)))) then loadI (List.length (Rslt.mem s)) (fun i => e_u8 (ix (Rslt.mem s) i)) (Ins.op (ix (Prog.code p) (Int.toNat pc))) (q18
 y) else Rslt.regs s j)) :: q29))) :: q32) 9;
let q47 : List XV := [q12, .int .i64 (Ins.b (ix (Prog.code p) (Int.toNat pc)))];
let q48 : Int := IntKind.wrap .i64
 ((8 : Int) * szI (Ins.op (ix (Prog.code p) (Int.toNat pc))));
let q49 : Int := IntKind.wrap .i64 (q48 - (1 : Int));
let q50 : Bool := decide (0 ≤ q49);
let q51 :
 Int → Int := fun y => IntKind.wrap .i64 (q18 y);
let q52 : Int → XV := fun y => .int .i64 (q51 y);
let q53 : Int := IntKind.wrap .u32 ((1 : Int) * (2 : Int) ^ Nat.min
 (Int.toNat q49) 32);
let q54 : Int := IntKind.wrap .u32 (q53 * (2 : Int));
let q55 : Int := IntKind.wrap .u32 (q54 - (1 : Int));
let q56 : Int → Int := fun y =>
 bitsI .and .u32 y q55;
let q57 : Int → XV := fun y => .int .u32 (q56 y);
let q58 : Int → Int → XV := fun (y y_1 : Int) => .agg 3 [q52 y, .int .i64 (szI (Ins.op (ix
 (Prog.code p) (Int.toNat pc)))), q57 y_1];
let q59 : Int → Int → List XV := fun (y y_1 : Int) => [q28, q58 y y_1];
let q60 : List Int × Wr → List XV := fun (s :
 List Int × Wr) => [.sl 3 [] 0 0 (List.length (Prod.fst s)) 1, e_Wr (Prod.snd s)];
let q61 : XV := .ptr 4 [4] 21;
let q62 : XV := .ptr 5 [1] 3;
let q63 : Int → XV
 := fun y => .int .u32 (q18 y);
let q64 : XV := .ptr 8 [0] 0;
let q65 : Int → Int → XSt := fun (y y_1 : Int) => XSt.mk [(75, q58 y y_1), (74, q28), (73, q61), (72,
 q24), (71, q24), (70, q62), (69, q23), (68, q23), (8, .ptr 9 [] 0), (67, q58 y y_1), (66, q57 y_1), (65, .int .u32 q55), (64, .int .u32 q54), (63, .int .u32 q53),
 (62, .int .i64 q49), (61, .int .i64 q48), (60, .int .i64 (szI (Ins.op (ix (Prog.code p) (Int.toNat pc))))), (59, .int .u32 y_1), (58, .int .i64 (Ins.b (ix (Prog.code
 p) (Int.toNat pc)))), (57, .ptr 8 [3] 3), (56, q23), (55, .int .i64 (szI (Ins.op (ix (Prog.code p) (Int.toNat pc))))), (54, q52 y), (53, q63 y), (37, .bool q10),
 (36, .int .i64 (formI (Ins.op (ix (Prog.code p) (Int.toNat pc))))), (35, .int .i64 (Ins.op (ix (Prog.code p) (Int.toNat pc)))), (34, q64), (32, .bool (q20 y)), (31,
 q21 y), (7, q21 y), (30, q21 y), (29, .int .i64 (↑(List.length (Rslt.mem s)) : Int)), (28, q28), (27, q61), (26, q24), (25, q24), (24, q62), (23, q23), (22, q23),
 (21, q63 y), (20, .int .i64 (szI (Ins.op (ix (Prog.code p) (Int.toNat pc))))), (6, q63 y), (19, q63 y), (18, .int .u32 (IntKind.wrap .u32 (Ins.imm (ix (Prog.code
 p) (Int.toNat pc))))), (17, .int .i64 (Ins.imm (ix (Prog.code p) (Int.toNat pc)))), (16, .ptr 8 [4] 4), (15, .int .u32 y), (14, .int .i64 (Ins.a (ix (Prog.code p)
 (Int.toNat pc)))), (13, .ptr 8 [2] 2), (12, q23), (5, .int .i64 (szI (Ins.op (ix (Prog.code p) (Int.toNat pc))))), (11, .int .i64 (szI (Ins.op (ix (Prog.code p)
 (Int.toNat pc))))), (10, .int .i64 (Ins.op (ix (Prog.code p) (Int.toNat pc)))), (9, q64), (4, .int .i64 0), (3, .ptr 8 [] 0), (0, q23), (1, e_Ins (ix (Prog.code
 p) (Int.toNat pc)))] ((9, some (q58 y y_1)) :: (8, some (e_Ins (ix (Prog.code p) (Int.toNat pc)))) :: (7, some (e_Ins (ix (Prog.code p) (Int.toNat pc)))) :: (6,
 some q26) :: (5, some (.agg 5 [e_Prog p, q24, .int .i64 pc])) :: (4, some (.agg 23 (.int .i64 0 :: q8 :: .int .i64 (Rslt.steps s) :: q30))) :: q32) 10;
let q66 :
 List Int × Wr → XSt := fun (s : List Int × Wr) => XSt.mk [] [(3, some (e_mem (Prod.fst s)))] 10;
let q67 : Bool := decide (pl (List.length (Rslt.writes s)) 1 * 24
 ≤ 140737488355328);
let q68 : Nat → Bool := fun i => decide (i < List.length (Rslt.writes s));
let q69 : Int → Int → List Int → XSt := fun (y y_1 : Int) (y_2 : List
 Int) => XSt.mk q25 ((11, some (.tab (pl (List.length (Rslt.writes s)) 1) 3 fun i => .agg 3 [.int .i64 (bif q68 i then Wr.addr (ix (Rslt.writes s) i) else q51 y),
 .int .i64 (bif q68 i then Wr.size (ix (Rslt.writes s) i) else szI (Ins.op (ix (Prog.code p) (Int.toNat pc)))), .int .u32 (bif q68 i then Wr.val (ix (Rslt.writes
 s) i) else q56 y_1)])) :: (10, none) :: (3, some (e_mem y_2)) :: (9, some (q58 y y_1)) :: (8, some (e_Ins (ix (Prog.code p) (Int.toNat pc)))) :: (7, some (e_Ins
 (ix (Prog.code p) (Int.toNat pc)))) :: (6, none) :: (5, some q27) :: (4, some (.agg 23 [.int .i64 0, q8, q9, q5, q28, .sl 11 [] 0 0 (pl (List.length (Rslt.writes
 s)) 1) 3])) :: q32) 12;
let q70 : Bool := decide (formI (Ins.op (ix (Prog.code p) (Int.toNat pc))) = 6);
let q71 : Int → Bool := fun y => decide (0 ≤ y);
let q72
 : Int → Bool := fun y => decide (y ≤ 4294967295);
let q73 : XSt := XSt.mk q25 ((7, some (e_Ins (ix (Prog.code p) (Int.toNat pc)))) :: (6, some q26) :: (5, some (.agg
 5 [e_Prog p, q24, .int .i64 (IntKind.wrap .i64 (pc + Ins.imm (ix (Prog.code p) (Int.toNat pc))))])) :: q33) 8;
let q74 : XSt := XSt.mk q25 q34 8;
let q75 : Bool
 := decide (formI (Ins.op (ix (Prog.code p) (Int.toNat pc))) = 7);
let q76 : Int → Bool := fun y => !Alu.dkB (Ins.op (ix (Prog.code p) (Int.toNat pc))) (Ins.d (ix
 (Prog.code p) (Int.toNat pc))) (Ins.a (ix (Prog.code p) (Int.toNat pc))) (Ins.b (ix (Prog.code p) (Int.toNat pc))) (Ins.imm (ix (Prog.code p) (Int.toNat pc))) y;
let
 q77 : XV := .agg 23 (.int .i64 2 :: .agg 3 (.int .i64 3 :: q4) :: q7);
let q78 : Int → Int → XSt := fun (y y_1 : Int) => XSt.mk q25 ((7, some (e_Ins (ix (Prog.code
 p) (Int.toNat pc)))) :: (6, some q26) :: (5, some q27) :: (4, some (.agg 23 (.int .i64 0 :: q8 :: q9 :: (.tab 16 1 fun j => .int .u32 (bif Nat.beq j (Int.toNat (Ins.d
 (ix (Prog.code p) (Int.toNat pc)))) then Alu.doI (Ins.op (ix (Prog.code p) (Int.toNat pc))) (Ins.d (ix (Prog.code p) (Int.toNat pc))) (Ins.a (ix (Prog.code p) (Int.toNat
 pc))) (Ins.b (ix (Prog.code p) (Int.toNat pc))) (Ins.imm (ix (Prog.code p) (Int.toNat pc))) y y_1 else Rslt.regs s j)) :: q29))) :: q32) 8;
bif decide ((↑k : Int)
 < F) then bif bif q1 then true else !q1 then bif bif q1 then true else decide (pc ≥ (↑(List.length (Prog.code p)) : Int)) then bif q2 then bif q3 then ResLe (.agg
 23 (.int .i64 2 :: .agg 3 (.int .i64 4 :: q4) :: q7)) r else False else False else bif decide (0 ≤ pc) then bif decide (pc < (↑(List.length (Prog.code p)) : Int))
 then bif decide (formI (Ins.op (ix (Prog.code p) (Int.toNat pc))) = 8) then bif q2 then bif q3 then ResLe (.agg 23 (.int .i64 1 :: q8 :: q9 :: q6)) r else False
 else False else bif q10 then bif q10 then bif q2 then bif q3 then ∃ (s_1 : Prog × Rslt × Int × Int), ArgsLe q13 (q16 s_1) ∧ PreIs (0 ≤ q15 s_1 ∧ q15 s_1 ≤ 15) ∧
 ∀ (y : Int), y = q17 s_1 → bif q20 y then bif q20 y then bif q2 then bif q3 then ResLe (q22 y) r else False else False else A q35 else bif q10 then bif q2 then bif
 q36 then bif allN (fun i => true) (List.length (Rslt.mem s)) then bif q37 then bif q38 y then bif q39 y then bif q40 then bif q41 then bif q42 then bif q44 then
 bif q45 then bif q45 then A (q46 y) else False else False else False else False else False else A q35 else False else False else False else False else False else
 False else bif q2 then bif q3 then ∃ (s : Prog × Rslt × Int × Int), ArgsLe q47 (q16 s) ∧ PreIs (0 ≤ q15 s ∧ q15 s ≤ 15) ∧ ∀ (y_1 : Int), y_1 = q17 s → bif q50 then
 ∃ (s : List Int × Wr), ArgsLe (q59 y y_1) (q60 s) ∧ MemIs (q65 y y_1) (q66 s) ∧ PreIs (List.length (Prod.fst s) ≤ 1000000) ∧ ∀ (y_2 : List Int), y_2 = stoF (Prod.fst
 s) (Prod.snd s) → bif q3 then bif q67 then A (q69 y y_1 y_2) else False else False else False else False else False else False else False else bif q70 then bif q2
 then bif q3 then ∃ (s : Prog × Rslt × Int × Int), ArgsLe q13 (q16 s) ∧ PreIs (0 ≤ q15 s ∧ q15 s ≤ 15) ∧ ∀ (y : Int), y = q17 s → bif q2 then bif q3 then ∃ (s : Prog
 × Rslt × Int × Int), ArgsLe q47 (q16 s) ∧ PreIs (0 ≤ q15 s ∧ q15 s ≤ 15) ∧ ∀ (y_1 : Int), y_1 = q17 s → bif q71 y then bif q72 y then bif q71 y_1 then bif q72 y_1
 then bif Alu.tkB (Ins.op (ix (Prog.code p) (Int.toNat pc))) y y_1 then A q73 else A q74 else False else False else False else False else False else False else False
 else False else bif q75 then A q73 else bif q2 then bif q3 then ∃ (s : Prog × Rslt × Int × Int), ArgsLe q13 (q16 s) ∧ PreIs (0 ≤ q15 s ∧ q15 s ≤ 15) ∧ ∀ (y : Int),
 y = q17 s → bif q2 then bif q3 then ∃ (s : Prog × Rslt × Int × Int), ArgsLe q47 (q16 s) ∧ PreIs (0 ≤ q15 s ∧ q15 s ≤ 15) ∧ ∀ (y_1 : Int), y_1 = q17 s → bif q71 y
 then bif q72 y then bif q71 y_1 then bif q72 y_1 then bif q76 y_1 then bif q2 then bif q3 then ResLe q77 r else False else False else bif q40 then bif q41 then bif
 q42 then bif q44 then bif q45 then bif q45 then A (q78 y y_1) else False else False else False else False else False else A q74 else False else False else False
 else False else False else False else False else False else bif decide (formI (Ins.op (ix (Prog.code p) (Int.toNat pc))) = 5) then bif q2 then bif q3 then ∃ (s_1
 : Prog × Rslt × Int × Int), ArgsLe q13 (q16 s_1) ∧ PreIs (0 ≤ q15 s_1 ∧ q15 s_1 ≤ 15) ∧ ∀ (y : Int), y = q17 s_1 → bif q20 y then bif q20 y then bif q2 then bif
 q3 then ResLe (q22 y) r else False else False else A q35 else bif q10 then bif q2 then bif q36 then bif allN (fun i => true) (List.length (Rslt.mem s)) then bif
 q37 then bif q38 y then bif q39 y then bif q40 then bif q41 then bif q42 then bif q44 then bif q45 then bif q45 then A (q46 y) else False else False else False else
 False else False else A q35 else False else False else False else False else False else False else bif q2 then bif q3 then ∃ (s : Prog × Rslt × Int × Int), ArgsLe
 q47 (q16 s) ∧ PreIs (0 ≤ q15 s ∧ q15 s ≤ 15) ∧ ∀ (y_1 : Int), y_1 = q17 s → bif q50 then ∃ (s : List Int × Wr), ArgsLe (q59 y y_1) (q60 s) ∧ MemIs (q65 y y_1) (q66
 s) ∧ PreIs (List.length (Prod.fst s) ≤ 1000000) ∧ ∀ (y_2 : List Int), y_2 = stoF (Prod.fst s) (Prod.snd s) → bif q3 then bif q67 then A (q69 y y_1 y_2) else False
 else False else False else False else False else False else False else bif q70 then bif q2 then bif q3 then ∃ (s : Prog × Rslt × Int × Int), ArgsLe q13 (q16 s) ∧
 PreIs (0 ≤ q15 s ∧ q15 s ≤ 15) ∧ ∀ (y : Int), y = q17 s → bif q2 then bif q3 then ∃ (s : Prog × Rslt × Int × Int), ArgsLe q47 (q16 s) ∧ PreIs (0 ≤ q15 s ∧ q15 s
 ≤ 15) ∧ ∀ (y_1 : Int), y_1 = q17 s → bif q71 y then bif q72 y then bif q71 y_1 then bif q72 y_1 then bif Alu.tkB (Ins.op (ix (Prog.code p) (Int.toNat pc))) y y_1
 then A q73 else A q74 else False else False else False else False else False else False else False else False else bif q75 then A q73 else bif q2 then bif q3 then
 ∃ (s : Prog × Rslt × Int × Int), ArgsLe q13 (q16 s) ∧ PreIs (0 ≤ q15 s ∧ q15 s ≤ 15) ∧ ∀ (y : Int), y = q17 s → bif q2 then bif q3 then ∃ (s : Prog × Rslt × Int
 × Int), ArgsLe q47 (q16 s) ∧ PreIs (0 ≤ q15 s ∧ q15 s ≤ 15) ∧ ∀ (y_1 : Int), y_1 = q17 s → bif q71 y then bif q72 y then bif q71 y_1 then bif q72 y_1 then bif q76
 y_1 then bif q2 then bif q3 then ResLe q77 r else False else False else bif q40 then bif q41 then bif q42 then bif q44 then bif q45 then bif q45 then A (q78 y y_1)
 else False else False else False else False else False else A q74 else False else False else False else False else False else False else False else False else False
 else False else False
else bif q2 then bif q3 then ResLe (.agg 23 (.int .i64 3 :: q11)) r else False else False) := by kernel_rfl
end Go.Proofs.Ytmfbaglhmiadjaa

/- A whole run, as the program does it: that it is the document's. -/
namespace Go.Proofs.Ytmfbaglhmiadjaa
open Go.Ra
set_option linter.unusedVariables false
set_option linter.unusedSimpArgs false
theorem TQ1ok : TabOk Try.prog TQ1 := mkT2_ok ((clok_seq.app clok_word).app clok_slices) ⟨sp_iform, sp_size1, sp_check1, sp_load, Alu.sp_do1, Alu.sp_tk1, trivial⟩ glok_slices ⟨sk_imr, sk_get, trivial⟩ ⟨gk_writeR, trivial⟩
section
variable {p : Prog} {F : Int} {k : Nat} {s : Rslt} {pc : Int} {x y z m : XV}
theorem q_wk7 : WeakE 6 (XSt.st ⟨[(20, .int .i64 ((k + 1 : Nat) : Int)), (19, .int .i64 F), (6, .ptr 5 [] 0), (5, .ptr 4 [] 0), (4, .ptr 1 [] 0)],
   [(7, some x), (6, some (.tab s.writes.length 3 (fun i => e_Wr (ix s.writes i)))), (5, some (.agg 5 [e_Prog p, .ptr 4 [] 0, .int .i64 pc])), (4, some (.agg 23 [.int .i64 0, .agg 3 [.int .i64 0, .int .i64 0, .int .i64 0], .int .i64 s.steps, .tab 16 1 (fun i => .int .u32 (s.regs i)), .sl 3 [] 0 0 s.mem.length 1, .sl 6 [] 0 0 s.writes.length 3])), (3, some (.tab s.mem.length 1 (fun i => e_u8 (ix s.mem i)))), (1, some zR), (0, some (e_Prog p))], 8⟩) (qSt p F s pc (k + 1)).st :=
  weakM [(0, 0), (1, 1), (2, 2), (3, 3), (4, 4), (5, 5), (6, 6)] rfl rfl rfl rfl rfl ⟨k_is rfl rfl, k_is rfl rfl, .ptr rfl, .ptr rfl, .ptr rfl, trivial⟩
    ⟨k_tab fun i hi => rfl, .agg (.cons (k_is rfl rfl) (.cons (.ptr rfl) (.cons (k_is rfl rfl) .nil))), .agg (.cons (k_is rfl rfl) (.cons (k_is rfl rfl) (.cons (k_is rfl rfl) (.cons (k_is rfl rfl) (.cons (.sl rfl) (.cons (.sl rfl) .nil)))))), k_tab fun i hi => rfl, k_is rfl rfl, k_is rfl rfl, trivial⟩
theorem q_wk8 : WeakE 6 (XSt.st ⟨[(20, .int .i64 ((k + 1 : Nat) : Int)), (19, .int .i64 F), (6, .ptr 5 [] 0), (5, .ptr 4 [] 0), (4, .ptr 1 [] 0)],
   [(8, some y), (7, some x), (6, some (.tab s.writes.length 3 (fun i => e_Wr (ix s.writes i)))), (5, some (.agg 5 [e_Prog p, .ptr 4 [] 0, .int .i64 pc])), (4, some (.agg 23 [.int .i64 0, .agg 3 [.int .i64 0, .int .i64 0, .int .i64 0], .int .i64 s.steps, .tab 16 1 (fun i => .int .u32 (s.regs i)), .sl 3 [] 0 0 s.mem.length 1, .sl 6 [] 0 0 s.writes.length 3])), (3, some (.tab s.mem.length 1 (fun i => e_u8 (ix s.mem i)))), (1, some zR), (0, some (e_Prog p))], 9⟩) (qSt p F s pc (k + 1)).st :=
  weakM [(0, 0), (1, 1), (2, 2), (3, 3), (4, 4), (5, 5), (6, 6)] rfl rfl rfl rfl rfl ⟨k_is rfl rfl, k_is rfl rfl, .ptr rfl, .ptr rfl, .ptr rfl, trivial⟩
    ⟨k_tab fun i hi => rfl, .agg (.cons (k_is rfl rfl) (.cons (.ptr rfl) (.cons (k_is rfl rfl) .nil))), .agg (.cons (k_is rfl rfl) (.cons (k_is rfl rfl) (.cons (k_is rfl rfl) (.cons (k_is rfl rfl) (.cons (.sl rfl) (.cons (.sl rfl) .nil)))))), k_tab fun i hi => rfl, k_is rfl rfl, k_is rfl rfl, trivial⟩
theorem q_wks {nm nw : Nat} {f : Nat → XV} (h1 : nm = s.mem.length) (h2 : nw = s.writes.length) (h3 : ∀ i, i < nw → con (f i) = con (e_Wr (ix s.writes i))) : WeakE 6 (XSt.st ⟨[(20, .int .i64 ((k + 1 : Nat) : Int)), (19, .int .i64 F), (6, .ptr 5 [] 0), (5, .ptr 4 [] 0), (4, .ptr 1 [] 0)],
   [(11, some (.tab nw 3 f)), (10, none), (3, some (e_mem s.mem)), (9, some z), (8, some y), (7, some x), (6, none), (5, some (.agg 5 [e_Prog p, .ptr 4 [] 0, .int .i64 pc])), (4, some (.agg 23 [.int .i64 0, .agg 3 [.int .i64 0, .int .i64 0, .int .i64 0], .int .i64 s.steps, .tab 16 1 (fun i => .int .u32 (s.regs i)), .sl 3 [] 0 0 nm 1, .sl 11 [] 0 0 nw 3])), (3, some m), (1, some zR), (0, some (e_Prog p))], 12⟩) (qSt p F s pc (k + 1)).st := by
  subst h1 h2
  exact weakM [(0, 0), (1, 1), (2, 2), (3, 3), (4, 4), (5, 5), (6, 11)] rfl rfl rfl rfl rfl ⟨k_is rfl rfl, k_is rfl rfl, .ptr rfl, .ptr rfl, .ptr rfl, trivial⟩
    ⟨k_tab h3, .agg (.cons (k_is rfl rfl) (.cons (.ptr rfl) (.cons (k_is rfl rfl) .nil))), .agg (.cons (k_is rfl rfl) (.cons (k_is rfl rfl) (.cons (k_is rfl rfl) (.cons (k_is rfl rfl) (.cons (.sl rfl) (.cons (.sl rfl) .nil)))))), k_tab fun i hi => rfl, k_is rfl rfl, k_is rfl rfl, trivial⟩
end
theorem ins_calm {i : Ins} {r : Rslt} {pc : Int} : (insF i r pc).1.fin = 0 → (insF i r pc).1.trap = r.trap := by
  unfold insF
  repeat' split
  all_goals intro h
  all_goals first
    | rfl
    | exact absurd (show (2 : Int) = 0 from h) (by decide)
    | exact absurd (show (1 : Int) = 0 from h) (by decide)
theorem stp_calm {p : Prog} {r : Rslt} {pc : Int} : (stpF p r pc).1.fin = 0 → (stpF p r pc).1.trap = r.trap := by
  unfold stpF
  repeat' split
  · exact fun _ => rfl
  · exact fun h => absurd (show (2 : Int) = 0 from h) (by decide)
  · exact ins_calm
theorem it_calm {p : Prog} : ∀ k : Nat, (itR p k).1.fin = 0 → (itR p k).1.trap = ⟨0, 0, 0⟩
  | 0, _ => rfl
  | k + 1, h => by
    have e : itR p (k + 1) = if (itR p k).1.fin = 0 then stpF p (itR p k).1 (itR p k).2 else itR p k := rfl
    rw [e] at h ⊢
    by_cases h0 : (itR p k).1.fin = 0
    · rw [if_pos h0] at h ⊢
      rw [stp_calm h]
      exact it_calm k h0
    · rw [if_neg h0] at h
      exact absurd h h0
theorem q_round {p : Prog} {F : Int} {s : Rslt} {pc : Int} {k : Nat} {R : XV} {A : XSt → Prop} (hp : p.wf) (hr : rightProg p = true) (ho : rsOk s) (hl : s.writes.length ≤ 999999) (hf : s.fin = 0) (ht : s.trap = ⟨0, 0, 0⟩) (hsz : (s.mem.length : Int) = p.size) (hk : (k : Int) < F) (hk2 : k ≤ 100000)
    (hA : ∀ s' pc', stpF p s pc = (s', pc') → s'.fin = 0 → ∀ τ : XSt, WeakE 6 τ.st (qSt p F s' pc' (k + 1)).st → A τ)
    (hE : ∀ s' pc', stpF p s pc = (s', pc') → ¬ s'.fin = 0 → ResLe (e_Rslt s') R) :
    goQ Try.prog TQ1 [(.cell 4 .true 23)] R (.run c_seq_Run_l1) [.lp c_seq_Run_l1 A, .blk 0, .seq c_seq_Run_p1] (qSt p F s pc k) := by
  refine Eq.mpr (q_run1 p F s pc k R A) ?_
  obtain ⟨hw, hm, _⟩ := ho
  have b3 : (s.writes.length + 1) * 24 ≤ 140737488355328 := by omega
  have b4 : s.mem.length ≤ 1099511627776 := by omega
  have hu : rngB s.mem.length (fun i => e_u8 (ix s.mem i)) = true := rngB_iff.2 fun i hi => hw.2.2.2.2.1.1 _ (ix_mem hi)
  have wk : IntKind.wrap .i64 ((k : Int) + 1) = ((k + 1 : Nat) : Int) := wrap_i64 (by omega) (by omega)
  simp only [b3, b4, hu, pl_eq, Nat.le_refl, allN_true, decide_true, cond_true, hk, wk]
  have q2 : stpF p s pc = if pc < 0 ∨ pc ≥ p.code.length then (trapF s 4 pc, pc) else insF (ix p.code pc.toNat) s pc := by
    unfold stpF
    rw [if_neg (by rintro (h | h | h); exact h hf; rw [hr] at h; cases h; exact h hsz)]
  rw [q2] at hA hE
  clear q2
  have et : ∀ {f t1 t2 t3 st : Int} {g : Nat → Int} {m : List Int} {w : List Wr}, ResLe (.agg 23 [.int .i64 f, .agg 3 [.int .i64 t1, .int .i64 t2, .int .i64 t3], .int .i64 st, .tab 16 1 (fun i => .int .u32 (g i)), e_row 1 e_u8 m, e_row 3 e_Wr w]) (e_Rslt ⟨f, ⟨t1, t2, t3⟩, st, g, m, w⟩) := .rfl
  by_cases h1 : pc < 0
  · rw [if_pos (.inl h1)] at hA hE
    simp only [h1, decide_true, Bool.not_true, cond_true, cond_false]
    exact hE _ _ rfl (by show ¬ (2 : Int) = 0; decide)
  by_cases h2 : pc ≥ p.code.length
  · rw [if_pos (.inr h2)] at hA hE
    simp only [h1, h2, decide_true, decide_false, Bool.not_false, cond_true, cond_false]
    exact hE _ _ rfl (by show ¬ (2 : Int) = 0; decide)
  rw [if_neg (by omega)] at hA hE
  have h3 : 0 ≤ pc := by omega
  have h4 : pc < p.code.length := by omega
  have hi := right_ins hr (n := pc.toNat) (by omega)
  obtain ⟨hd, ha, hb, hfz⟩ := right_regs hi
  simp only [h1, h2, h3, h4, decide_true, decide_false, Bool.not_false, cond_true, cond_false]
  obtain ⟨a0, a1⟩ := val_u32 hw.2.2.2.1 ha.1 ha.2
  obtain ⟨c0, c1⟩ := val_u32 hw.2.2.2.1 hb.1 hb.2
  generalize ix p.code pc.toNat = i at hi hd ha hb hfz a0 a1 c0 c1 hA hE ⊢
  have d1 : i.d < 16 := by omega
  have d2 : i.d.toNat < 16 := by omega
  obtain ⟨e0, e1⟩ : 0 ≤ IntKind.u32.wrap (valF s.regs i.a + IntKind.u32.wrap i.imm) ∧ IntKind.u32.wrap (valF s.regs i.a + IntKind.u32.wrap i.imm) ≤ 4294967295 := w32_rng (valF s.regs i.a + IntKind.u32.wrap i.imm)
  have w64 : IntKind.i64.wrap (IntKind.u32.wrap (valF s.regs i.a + IntKind.u32.wrap i.imm)) = IntKind.u32.wrap (valF s.regs i.a + IntKind.u32.wrap i.imm) := wrap_i64 (by omega) (by omega)
  unfold insF adrF at hA hE
  rw [hsz] at hA hE ⊢
  have hfr := form_rng i.op
  have eS : ∀ (pc0 : Int), .fptr (.agg 5 [e_Prog p, .fptr (.agg 23 [.int .i64 0, .agg 3 [.int .i64 0, .int .i64 0, .int .i64 0], .int .i64 s.steps, .tab 16 1 (fun i => .int .u32 (s.regs i)), e_row 1 e_u8 s.mem, e_row 3 e_Wr s.writes]), .int .i64 pc0]) = e_rnr p s pc0 := fun pc0 => by
    unfold e_rnr e_Rslt
    rw [hf, ht]
    rfl
  simp only [eS]
  have getA : ∀ {P : Int → Prop}, P (valF s.regs i.a) → ∃ q : Prog × Rslt × Int × Int, ArgsLe [e_rnr p s pc, .int .i64 i.a] [e_rnr q.1 q.2.1 q.2.2.1, .int .i64 q.2.2.2] ∧ PreIs (0 ≤ q.2.2.2 ∧ q.2.2.2 ≤ 15) ∧ ∀ y : Int, y = valF q.2.1.regs q.2.2.2 → P y := fun hP => ⟨(p, s, pc, i.a), .rfl, ⟨ha⟩, fun y hy => by rw [show y = valF s.regs i.a from hy]; exact hP⟩
  have getB : ∀ {P : Int → Prop}, P (valF s.regs i.b) → ∃ q : Prog × Rslt × Int × Int, ArgsLe [e_rnr p s pc, .int .i64 i.b] [e_rnr q.1 q.2.1 q.2.2.1, .int .i64 q.2.2.2] ∧ PreIs (0 ≤ q.2.2.2 ∧ q.2.2.2 ≤ 15) ∧ ∀ y : Int, y = valF q.2.1.regs q.2.2.2 → P y := fun hP => ⟨(p, s, pc, i.b), .rfl, ⟨hb⟩, fun y hy => by rw [show y = valF s.regs i.b from hy]; exact hP⟩
  rcases (by omega : formI i.op = 1 ∨ formI i.op = 2 ∨ formI i.op = 3 ∨ formI i.op = 4 ∨ formI i.op = 5 ∨ formI i.op = 6 ∨ formI i.op = 7 ∨ formI i.op = 8) with hfm | hfm | hfm | hfm | hfm | hfm | hfm | hfm
  iterate 3
    · simp only [hfm, Int.reduceEq, false_and, false_or, or_false, decide_true, decide_false, cond_true, cond_false, if_false, Bool.not_false, Bool.not_true] at hA hE ⊢
      refine getA ?_
      refine getB ?_
      simp only [hd.1, d1, d2, a0, a1, c0, c1, Nat.beq_refl, decide_true, cond_true]
      cases hdk : Alu.dkB i.op i.d i.a i.b i.imm (valF s.regs i.b) with
      | false =>
        simp only [hdk, Bool.not_false, cond_true, if_true] at hA hE ⊢
        exact hE _ _ rfl (by show ¬ (2 : Int) = 0; decide)
      | true =>
        simp only [hdk, Bool.not_true, cond_false, Bool.true_eq_false, if_false] at hA hE ⊢
        by_cases hz : i.d = 0
        · rw [set_z hz] at hA
          simp only [hz, not_true_eq_false, decide_false, cond_false]
          exact hA _ _ rfl hf _ (q_wk7 (s := tickF s))
        · rw [set_nz hz] at hA
          simp only [hz, not_false_eq_true, decide_true, cond_true]
          exact hA _ _ rfl hf _ (q_wk7 (s := tickF { s with regs := fun j => bif Nat.beq j i.d.toNat then Alu.doI i.op i.d i.a i.b i.imm (valF s.regs i.a) (valF s.regs i.b) else s.regs j }))
  · simp only [hfm, Int.reduceEq, false_and, false_or, or_false, true_or, true_and, decide_true, decide_false, cond_true, cond_false, if_false, if_true, Bool.not_false, Bool.not_true] at hA hE ⊢
    refine getA ?_
    simp only [hd.1, d1, d2, e0, e1, Nat.beq_refl, decide_true, cond_true]
    by_cases hkk : chkI (szI i.op) (IntKind.u32.wrap (valF s.regs i.a + IntKind.u32.wrap i.imm)) p.size = 0
    case neg =>
      simp only [hkk, not_false_eq_true, decide_true, cond_true, if_true] at hA hE ⊢
      exact hE _ _ rfl (by show ¬ (2 : Int) = 0; decide)
    simp only [hkk, not_true_eq_false, decide_false, cond_false, if_false] at hA hE ⊢
    by_cases hz : i.d = 0
    · rw [set_z hz] at hA
      simp only [hz, not_true_eq_false, decide_false, cond_false]
      exact hA _ _ rfl hf _ (q_wk8 (s := tickF s))
    · rw [set_nz hz] at hA
      simp only [hz, not_false_eq_true, decide_true, cond_true]
      exact hA _ _ rfl hf _ (q_wk8 (s := tickF { s with regs := fun j => bif Nat.beq j i.d.toNat then loadF s.mem i.op (IntKind.u32.wrap (valF s.regs i.a + IntKind.u32.wrap i.imm)) else s.regs j }))
  · simp only [hfm, Int.reduceEq, false_and, false_or, or_false, true_or, or_true, true_and, decide_true, decide_false, cond_true, cond_false, if_false, if_true, Bool.not_false, Bool.not_true] at hA hE ⊢
    refine getA ?_
    by_cases hkk : chkI (szI i.op) (IntKind.u32.wrap (valF s.regs i.a + IntKind.u32.wrap i.imm)) p.size = 0
    case neg =>
      simp only [hkk, not_false_eq_true, decide_true, cond_true, if_true] at hA hE ⊢
      exact hE _ _ rfl (by show ¬ (2 : Int) = 0; decide)
    simp only [hkk, not_true_eq_false, decide_false, cond_false, if_false] at hA hE ⊢
    refine getB ?_
    have hs5 : szI i.op = 1 ∨ szI i.op = 2 ∨ szI i.op = 4 := by
      unfold formI at hfm
      unfold szI
      repeat' split at hfm
      all_goals first | omega | (repeat' split) <;> omega
    have e8 : (0 : Int) ≤ IntKind.i64.wrap (IntKind.i64.wrap (8 * szI i.op) - 1) := by
      rcases hs5 with h | h | h <;> rw [h] <;> decide
    simp only [w64, msk_eq hs5 c0 c1, e8, decide_true, cond_true]
    refine ⟨(s.mem, ⟨IntKind.u32.wrap (valF s.regs i.a + IntKind.u32.wrap i.imm), szI i.op, mskI (valF s.regs i.b) (szI i.op)⟩), .rfl, memIs ⟨rfl, trivial⟩ (Nat.le_refl _), ⟨hm⟩, ?_⟩
    intro y hy
    replace hy : y = stoF s.mem ⟨IntKind.u32.wrap (valF s.regs i.a + IntKind.u32.wrap i.imm), szI i.op, mskI (valF s.regs i.b) (szI i.op)⟩ := hy
    subst hy
    refine hA _ _ rfl hf _ (q_wks (s := tickF (stoR s (IntKind.u32.wrap (valF s.regs i.a + IntKind.u32.wrap i.imm)) (szI i.op) (mskI (valF s.regs i.b) (szI i.op)))) sto_len.symm (app_len _ _).symm fun j hj => ?_)
    show _ = con (e_Wr (ix (s.writes ++ [⟨IntKind.u32.wrap (valF s.regs i.a + IntKind.u32.wrap i.imm), szI i.op, mskI (valF s.regs i.b) (szI i.op)⟩]) j))
    by_cases hlt : j < s.writes.length
    · rw [ix_app_lt hlt]
      simp only [hlt, decide_true, cond_true]
      rfl
    · obtain rfl : j = s.writes.length := by omega
      rw [ix_app_eq]
      simp only [hlt, decide_false, cond_false]
      rfl
  · simp only [hfm, Int.reduceEq, false_and, false_or, or_false, true_or, or_true, true_and, decide_true, decide_false, cond_true, cond_false, if_false, if_true, Bool.not_false, Bool.not_true] at hA hE ⊢
    refine getA ?_
    refine getB ?_
    simp only [a0, a1, c0, c1, decide_true, cond_true]
    cases htk : Alu.tkB i.op (valF s.regs i.a) (valF s.regs i.b) with
    | false => simp only [htk, cond_false, Bool.false_eq_true, if_false] at hA ⊢; exact hA _ _ rfl hf _ (q_wk7 (s := tickF s))
    | true => simp only [htk, cond_true, if_true] at hA ⊢; exact hA _ _ rfl hf _ (q_wk7 (s := tickF s))
  · simp only [hfm, Int.reduceEq, false_and, false_or, or_false, true_or, or_true, true_and, decide_true, decide_false, cond_true, cond_false, if_false, if_true, Bool.not_false, Bool.not_true] at hA hE ⊢
    exact hA _ _ rfl hf _ (q_wk7 (s := tickF s))
  · simp only [hfm, Int.reduceEq, false_and, false_or, or_false, true_or, or_true, true_and, decide_true, decide_false, cond_true, cond_false, if_false, if_true, Bool.not_false, Bool.not_true] at hA hE ⊢
    have h8 := hE _ _ rfl (by show ¬ (1 : Int) = 0; decide)
    unfold tickF e_Rslt at h8
    simp only [ht] at h8
    exact h8
theorem sk_qrun : SkOk Try.prog (13, runS) := skOf_ok fun ⟨p, fuel⟩ hw => by
  have hw : p.wf := hw
  show Pure _ _ (cons [e_Prog p, .int .i64 fuel]) (con (e_Rslt (runF p fuel)))
  refine pureQ mix TQ1ok t_seq_Run (Nat.le_of_ble_eq_true rfl) ?_
  refine Eq.mpr (q_run0 p fuel _) ?_
  refine ⟨p, .rfl, ⟨hw⟩, ?_⟩
  intro y hy
  replace hy : y = rightProg p := hy
  cases y with
  | false =>
    unfold runF
    rw [if_neg (by rw [← hy]; simp)]
    simp only [Bool.not_false, cond_true]
    exact ⟨lq_agg (lqs_cons (.refl _) (lqs_cons (.refl _) (lqs_cons (.refl _) (lqs_cons (.refl _) (lqs_cons lq_lit0 (lqs_cons lq_lit0 lqs_nil))))))⟩
  | true =>
  have hs := right_size hy.symm
  have hrun : runF p fuel = if (itR p (fuelF fuel)).1.fin = 0 then { (itR p (fuelF fuel)).1 with fin := 3 } else (itR p (fuelF fuel)).1 := by
    unfold runF
    rw [if_pos hy.symm]
  have b1 : p.size.toNat * 1 ≤ 140737488355328 := by omega
  simp only [b1, hs.1, Nat.beq_refl, Nat.le_refl, Bool.not_true, decide_true, cond_true, cond_false]
  have hF : (if (if 100000 < fuel then (100000 : Int) else fuel) > 0 then (if 100000 < fuel then (100000 : Int) else fuel) else 0) = (fuelF fuel : Nat) := by
    unfold fuelF
    repeat' split
    all_goals omega
  rw [hF]
  have hfl : fuelF fuel ≤ 100000 := by
    unfold fuelF
    repeat' split
    all_goals omega
  refine loopQ mix TQ1ok (fun k : Nat => qSt p (fuelF fuel : Nat) (itR p k).1 (itR p k).2 k) (fun k => k ≤ fuelF fuel ∧ (itR p k).1.fin = 0) (fun k => fuelF fuel - k) 0 ⟨Nat.zero_le _, rfl⟩ ?_ ?_
  · refine weakM [(0, 0), (1, 1), (2, 2), (3, 3), (4, 4), (5, 5)] rfl rfl rfl rfl rfl ⟨k_is rfl rfl, k_is rfl rfl, .ptr rfl, .ptr rfl, .ptr rfl, trivial⟩
      ⟨⟨3, rfl⟩, .agg (.cons (k_is rfl rfl) (.cons (.ptr rfl) (.cons (k_is rfl rfl) .nil))), .agg (.cons (k_is rfl rfl) (.cons (k_is rfl rfl) (.cons (k_is rfl rfl) (.cons (k_is rfl rfl) (.cons ?_ (.cons (k_nil rfl) .nil)))))), ?_, k_is rfl rfl, k_is rfl rfl, trivial⟩
    · show leK _ _ (con (.sl 3 [] 0 0 (memF p).length 1))
      rw [mem_len]
      exact .sl rfl
    · show leK _ _ (con (.tab (memF p).length 1 (fun i => e_u8 (ix (memF p) i))))
      rw [mem_len]
      refine k_tab fun i hi => ?_
      unfold memF
      rw [ix_tabL hi]; rfl
  rintro k ⟨hk, hf⟩
  obtain ⟨i1, i2, i3, i4⟩ := it_inv hw hy.symm k (by omega)
  have hnx : itR p (k + 1) = stpF p (itR p k).1 (itR p k).2 := by
    show (if (itR p k).1.fin = 0 then _ else _) = _
    rw [if_pos hf]
  by_cases hlt : k < fuelF fuel
  · refine q_round hw hy.symm ⟨i1, by omega, by omega⟩ (by omega) hf (it_calm k hf) (by omega) (by omega) (by omega) (fun s' pc' e hf' τ hτ => ?_) (fun s' pc' e hf' => ?_)
    · rw [← hnx] at e
      refine ⟨k + 1, ⟨hlt, by rw [e]; exact hf'⟩, ?_, by omega⟩
      show WeakE 6 τ.st (qSt p (fuelF fuel : Nat) (itR p (k + 1)).1 (itR p (k + 1)).2 (k + 1)).st
      rw [e]
      exact hτ
    · rw [← hnx] at e
      have h1 : ¬ (itR p (k + 1)).1.fin = 0 := by rw [e]; exact hf'
      have h2 := it_stop h1 (fuelF fuel - (k + 1))
      rw [show k + 1 + (fuelF fuel - (k + 1)) = fuelF fuel by omega] at h2
      rw [hrun, h2, if_neg h1, e]
      exact .rfl
  · obtain rfl : k = fuelF fuel := by omega
    refine Eq.mpr (q_run1 p _ _ _ _ _ _) ?_
    have g1 : ¬ ((fuelF fuel : Nat) : Int) < (fuelF fuel : Nat) := by omega
    simp only [g1, Nat.le_refl, decide_true, decide_false, cond_true, cond_false]
    rw [hrun, if_pos hf]
    have h3 := it_calm _ hf
    unfold e_Rslt
    simp only [h3]
    exact .rfl
end Go.Proofs.Ytmfbaglhmiadjaa

/- Abstract code of the functions of law4: printed by a program from what the given translation yields. -/
namespace Go.Proofs.Ytmfbaglhmiadjaa
open Go.Ra
def c_law4_Few : AC := (.seq (.ops [⟨(.some 1), (.box (.t 0)), .none⟩, ⟨(.some 2), (.mv (.c (.sc (.bool .false)))), .none⟩]) (.seq (.ops [⟨(.some 3), (.fadr 0 0 1 (.t 1)), .none⟩, ⟨(.some 4), (.load .false 1 (.t 3)), .none⟩, ⟨(.some 5), (.len .none (.t 4)), .none⟩, ⟨(.some 6), (.bin .leq (.t 5) (.c (.sc (.int .i64 200)))), .none⟩, ⟨(.some 7), (.mv (.t 6)), .none⟩, ⟨(.some 8), (.fadr 2 2 1 (.t 1)), (.some (7, .true))⟩, ⟨(.some 9), (.load .false 1 (.t 8)), (.some (7, .true))⟩, ⟨(.some 10), (.len .none (.t 9)), (.some (7, .true))⟩, ⟨(.some 11), (.bin .leq (.t 10) (.c (.sc (.int .i64 500)))), (.some (7, .true))⟩, ⟨(.some 12), (.pick (.t 7) (.t 11) (.c (.sc (.bool .false)))), .none⟩, ⟨(.some 2), (.mv (.t 12)), .none⟩]) .ret))
theorem t_law4_Few : trF Try.prog qq 11 = some (13, [(.tmp 2)], c_law4_Few) := by kernel_rfl
/-- The functions of law4. -/
def cl_law4 : CodeL := [(11, 13, [(.tmp 2)], c_law4_Few)]
theorem clok_law4 : AllL (fun p => trF Try.prog qq p.1 = some p.2) cl_law4 := ⟨t_law4_Few, trivial⟩
end Go.Proofs.Ytmfbaglhmiadjaa

/- A result is as itself; which results are few; the law is alive: forms. -/
namespace Go.Proofs.Ytmfbaglhmiadjaa
open Go.Ra
set_option linter.unusedVariables false
set_option linter.unusedSimpArgs false
def TX0 : Tab := mkT2 qq cl_ref1 [] [] [] []
def TX1 : Tab := mkT2 qq (cl_law6 ++ cl_law4) [] [] [] []
def samrS : List XV → Option ((XV → Prop) → Prop) := skOf (fun r : Rslt => [e_Rslt r, e_Rslt r]) (fun r => rsOk r) (fun _ => true) (fun y => .bool y)
def TX2 : Tab := mkT2 qq cl_ref1 [] [] [(40, samrS)] []
def few6F (r : Rslt) : Bool := decide ((r.mem.length : Int) ≤ 1000) && decide ((r.writes.length : Int) ≤ 200)
def few6S : List XV → Option ((XV → Prop) → Prop) := skOf (fun s : Rslt => [e_Rslt s]) (fun s => True) (fun s => few6F s) (fun y => .bool y)
def few4F (p : Prog) : Bool := decide ((p.code.length : Int) ≤ 200) && decide ((p.data.length : Int) ≤ 500)
def few4S : List XV → Option ((XV → Prop) → Prop) := skOf (fun p : Prog => [e_Prog p]) (fun p => True) (fun p => few4F p) (fun y => .bool y)
def alvS : List XV → Option ((XV → Prop) → Prop) := skOf (fun _ : Unit => []) (fun _ => True) (fun _ => true) (fun y => .bool y)
theorem r_sam0 (s : Rslt) (r : XV) : (goQ Try.prog TX0 [(.tmp 4)] r (.run c_ref1_SameEnd) [] ⟨envX 0 [e_Rslt s, e_Rslt s], [], 0⟩) = (let q1 : Bool := decide ¬Rslt.fin s = Rslt.fin s;
let q2 : Bool := bif q1 then true
else !(decide (Trp.kind (Rslt.trap s) = Trp.kind (Rslt.trap s)) && (decide
 (Trp.step (Rslt.trap s) = Trp.step (Rslt.trap s)) && (decide (Trp.pc (Rslt.trap s) = Trp.pc (Rslt.trap s)) && true)));
let q3 : Bool := bif q2 then true else decide
 ¬Rslt.steps s = Rslt.steps s;
let q4 : Bool := !q3;
let q5 : Bool := bif allN (fun i => true) (List.length (Rslt.mem s)) then true else !q4;
let q6 : Bool := bif
 q3 then true else !strEq (List.length (Rslt.mem s)) (fun i => ix (Rslt.mem s) i) (List.length (Rslt.mem s)) fun i => ix (Rslt.mem s) i;
bif bif q1 then true else
 !q1 then bif bif q2 then true else !q2 then bif q5 then bif q5 then bif bif q3 then true else q4 then bif bif q6 then true else !q6 then bif bif q6 then true else
 decide ¬(↑(List.length (Rslt.writes s)) : Int) = (↑(List.length (Rslt.writes s)) : Int) then ResLe (.bool false) r else LoopAt (Ok Try.prog (Tab.q TX0)) c_ref1_SameEnd_l1
 (XSt.mk [(5, .int .i64 0), (4, .bool false), (3, .ptr 1 [] 0), (2, .ptr 0 [] 0)] [(1, some (e_Rslt s)), (0, some (e_Rslt s))] 2) [Frm.blk 0, Frm.seq c_ref1_SameEnd_p1]
 (finQR [AR.tmp 4] r) else False else False else False else False else False
else False) := by kernel_rfl
theorem r_samr (s : Rslt) (r : XV) : (quietGo TX2 80 (callI TX2 80 20) 23 [e_Rslt s, e_Rslt s] (fun v => ResLe v r)) = (let q1 : Bool := allN (fun i => decide (Rslt.regs s i = Rslt.regs s i)) 16;
bif q1 then ∃ (s_1 : Rslt), ArgsLe [e_Rslt s, e_Rslt s] [e_Rslt s_1, e_Rslt s_1]
 ∧ PreIs (rsOk s_1) ∧ ∀ (y : Bool), y = true → ResLe (.bool (bif q1 then y else false)) r
else bif !q1 then ResLe (.bool false) r else False) := by kernel_rfl
theorem r_few6 (s : Rslt) (r : XV) : (quietGo TX1 80 (callI TX1 80 20) 19 [e_Rslt s] (fun v => ResLe v r)) = (let q1 : Bool := decide ((↑(List.length (Rslt.mem s)) : Int) ≤ 1000);
bif bif q1 then q1 else true then ResLe (.bool (bif q1 then decide ((↑(List.length (Rslt.writes
 s)) : Int) ≤ 200) else false)) r else False) := by kernel_rfl
theorem r_few4 (p : Prog) (r : XV) : (quietGo TX1 80 (callI TX1 80 20) 11 [e_Prog p] (fun v => ResLe v r)) = (let q1 : Bool := decide ((↑(List.length (Prog.code p)) : Int) ≤ 200);
bif bif q1 then q1 else true then ResLe (.bool (bif q1 then decide ((↑(List.length (Prog.data
 p)) : Int) ≤ 500) else false)) r else False) := by kernel_rfl
end Go.Proofs.Ytmfbaglhmiadjaa

/- A result is as itself; which results are few; the law is alive. -/
namespace Go.Proofs.Ytmfbaglhmiadjaa
open Go.Ra
set_option linter.unusedVariables false
set_option linter.unusedSimpArgs false
def samS1 (s : Rslt) (i : Nat) : XSt := ⟨[(5, .int .i64 i), (4, .bool false), (3, .ptr 1 [] 0), (2, .ptr 0 [] 0)], [(1, some (e_Rslt s)), (0, some (e_Rslt s))], 2⟩
def TXa : Tab := mkT2 qq (cl_law6 ++ cl_law4 ++ cl_seq ++ cl_bytes ++ cl_slices ++ cl_ref1 ++ cl_word ++ cl_math ++ cl_image ++ cl_isa ++ cl_alu) [] gl_slices [] []
theorem TXaok : TabOk Try.prog TXa := mkT2_ok ((((((((((clok_law6.app clok_law4).app clok_seq).app clok_bytes).app clok_slices).app clok_ref1).app clok_word).app clok_math).app clok_image).app clok_isa).app clok_alu) trivial glok_slices trivial trivial
theorem TX0ok : TabOk Try.prog TX0 := mkT2_ok clok_ref1 trivial trivial trivial trivial
theorem TX1ok : TabOk Try.prog TX1 := mkT2_ok (clok_law6.app clok_law4) trivial trivial trivial trivial
theorem r_sam1 (s : Rslt) (i : Nat) (r : XV) (A : XSt → Prop) : (goQ Try.prog TX0 [(.tmp 4)] r (.run c_ref1_SameEnd_l1) [.lp c_ref1_SameEnd_l1 A, .blk 0, .seq c_ref1_SameEnd_p1] (samS1 s i)) = (let q1 : Bool := decide ((↑i : Int) < (↑(List.length (Rslt.writes s)) : Int));
bif q1 then bif q1 then bif q1 then bif !(decide (Wr.addr (ix (Rslt.writes s)
 i) = Wr.addr (ix (Rslt.writes s) i)) && (decide (Wr.size (ix (Rslt.writes s) i) = Wr.size (ix (Rslt.writes s) i)) && (decide (Wr.val (ix (Rslt.writes s) i) = Wr.val
 (ix (Rslt.writes s) i)) && true))) then ResLe (.bool false) r else A (XSt.mk [(5, .int .i64 (IntKind.wrap .i64 ((↑i : Int) + (1 : Int)))), (4, .bool false), (3,
 .ptr 1 [] 0), (2, .ptr 0 [] 0)] [(1, some (e_Rslt s)), (0, some (e_Rslt s))] 2) else False else False
else ResLe (.bool true) r) := by kernel_rfl
theorem r_alv (r : XV) : (quietGo TXa 80 (callI TXa 80 20) 10 [] (fun v => ResLe v r)) = (ResLe (.bool true) r) := by kernel_rfl
theorem sk_alv : SkOk Try.prog (10, alvS) := skOf_ok fun _ _ => by
  show Pure _ _ (cons []) (con (.bool true))
  refine pureR (u := 80) (k := 20) mix TXaok ?_
  rw [r_alv]
  exact .rfl
theorem sk_few6 : SkOk Try.prog (19, few6S) := skOf_ok fun s _ => by
  refine pureR (u := 80) (k := 20) mix TX1ok ?_
  refine Eq.mpr (r_few6 s _) ?_
  simp only [pk_and, cond_true, band, Bool.and_assoc]
  exact .rfl
theorem sk_few4 : SkOk Try.prog (11, few4S) := skOf_ok fun p _ => by
  refine pureR (u := 80) (k := 20) mix TX1ok ?_
  refine Eq.mpr (r_few4 p _) ?_
  simp only [pk_and, cond_true, band, Bool.and_assoc]
  exact .rfl
theorem ne_slf (n : Int) : decide (¬ n = n) = false := by simp
theorem eq_slf3 (a b c : Int) : (decide (a = a) && (decide (b = b) && (decide (c = c) && true))) = true := by simp
theorem strEq_slf (n : Nat) (f : Nat → Int) : strEq n f n f = true := by
  unfold strEq
  simp [allN_iff]
theorem sk_end : SkOk Try.prog (40, samrS) := skOf_ok fun s h => by
  obtain ⟨_, hm, hl⟩ : rsOk s := h
  refine pureQ mix TX0ok t_ref1_SameEnd (Nat.le_of_ble_eq_true rfl) ?_
  refine Eq.mpr (r_sam0 s _) ?_
  simp only [ne_slf, eq_slf3, strEq_slf, decide_true, decide_false, cond_true, cond_false, allN_true, Nat.le_refl, Int.toNat_natCast, Nat.beq_refl, pk_and, pk_or, Bool.not_true, Bool.not_false, not_true_eq_false, not_false_eq_true, Bool.and_true, Bool.true_and, Bool.and_self, ge_iff_le, Int.le_refl, if_true, if_false, reduceCtorEq, eq_self, BEq.rfl]
  refine loopQ mix TX0ok (fun i : Nat => samS1 s i) (fun i => i ≤ s.writes.length) (fun i => s.writes.length - i) 0 (Nat.zero_le _) (.of (weakX ⟨rfl, rfl, rfl, rfl, trivial⟩ ⟨rfl, rfl, trivial⟩ (Nat.le_refl _))) ?_
  intro i hi
  replace hi : i ≤ s.writes.length := hi
  refine Eq.mpr (r_sam1 s i _ _) ?_
  by_cases hlt : i < s.writes.length
  · have h1 : (i : Int) < (s.writes.length : Int) := by omega
    have w1 : IntKind.i64.wrap ((i : Int) + 1) = ((i + 1 : Nat) : Int) := wrap_i64 (by omega) (by omega)
    simp only [h1, hlt, w1, eq_slf3, decide_true, decide_false, cond_true, cond_false, allN_true, Nat.le_refl, Int.toNat_natCast, Nat.beq_refl, pk_and, pk_or, Bool.not_true, Bool.not_false, not_true_eq_false, not_false_eq_true, Bool.and_true, Bool.true_and, Bool.and_self, ge_iff_le, Int.le_refl, if_true, if_false, reduceCtorEq, eq_self, BEq.rfl]
    exact ⟨i + 1, hlt, .of (weakX ⟨rfl, rfl, rfl, rfl, trivial⟩ ⟨rfl, rfl, trivial⟩ (Nat.le_refl _)), by omega⟩
  · have h1 : ¬ (i : Int) < (s.writes.length : Int) := by omega
    simp only [h1, decide_true, decide_false, cond_true, cond_false, allN_true, Nat.le_refl, Int.toNat_natCast, Nat.beq_refl, pk_and, pk_or, Bool.not_true, Bool.not_false, not_true_eq_false, not_false_eq_true, Bool.and_true, Bool.true_and, Bool.and_self, ge_iff_le, Int.le_refl, if_true, if_false, reduceCtorEq, eq_self, BEq.rfl]
    exact .rfl
theorem TX2ok : TabOk Try.prog TX2 := mkT2_ok clok_ref1 trivial trivial ⟨sk_end, trivial⟩ trivial
theorem sk_samr : SkOk Try.prog (23, samrS) := skOf_ok fun s h => by
  have h : rsOk s := h
  refine pureR (u := 80) (k := 20) mix TX2ok ?_
  refine Eq.mpr (r_samr s _) ?_
  have h0 : allN (fun i => decide (s.regs i = s.regs i)) 16 = true := by simp [allN_true]
  simp only [h0, cond_true]
  refine ⟨s, .rfl, ⟨h⟩, ?_⟩
  rintro y rfl
  exact .rfl
end Go.Proofs.Ytmfbaglhmiadjaa

