/- Branches, what shows that the layer is there, and the tables of the laws. -/
import Derived.Test.YtghmogkapedmfaaAl2
namespace Go.Proofs.Ytghmogkapedmfaa
open Go.Ra
set_option linter.unusedVariables false
set_option linter.unusedSimpArgs false
/-- Is a branch taken? -/
def tkB (op a b : Int) : Bool :=
  if op = 34 then decide (a = b) else if op = 35 then !decide (a = b) else if op = 36 then decide (i32 a < i32 b) else if op = 37 then !decide (i32 a < i32 b)
  else if op = 38 then decide (a < b) else if op = 39 then !decide (a < b) else false
def tkSp : List XV → Option (List Bool × XV)
  | [.int .i64 op, .int .u32 a, .int .u32 b] => some ([decide (0 ≤ a), decide (a ≤ 4294967295), decide (0 ≤ b), decide (b ≤ 4294967295)], .bool (tkB op a b))
  | _ => none
/-- How long an operation takes. -/
def ltI (mul div op : Int) : Int := if op = 11 ∨ op = 12 then (if mul < 1 ∨ mul > 50 then 1 else mul) else if 13 ≤ op ∧ op ≤ 16 then (if div < 1 ∨ div > 50 then 1 else div) else 1
def ltSp : List XV → Option (List Bool × XV)
  | [.agg 12 [.int .i64 _, .int .i64 _, .int .i64 _, .int .i64 _, .int .i64 _, .int .i64 _, .int .i64 _, .int .i64 _, .int .i64 _, .int .i64 _, .int .i64 mul, .int .i64 div], .int .i64 op] => some ([], .int .i64 (ltI mul div op))
  | _ => none
def alvSp : List XV → Option (List Bool × XV)
  | [] => some ([], .bool true)
  | _ => none
def TA5 : Tab := mkT qq (cl_law3 ++ cl_alu ++ cl_isa ++ cl_word ++ cl_ref1 ++ cl_math) [(13, doSp), (15, tkSp), (17, ltSp)] []
def TA3 : Tab := mkT qq (cl_law3 ++ cl_alu ++ cl_isa ++ cl_word ++ cl_ref1 ++ cl_math) [(13, doSp), (14, doSp), (21, intSp), (15, tkSp), (16, tkSp), (17, ltSp), (18, ltSp), (12, alvSp)] []
def TA4 : Tab := mkT qq (cl_law3 ++ cl_alu ++ cl_isa ++ cl_word ++ cl_ref1 ++ cl_math) [(13, doSp), (14, doSp), (21, intSp), (15, tkSp), (16, tkSp), (17, ltSp), (18, ltSp), (12, alvSp), (24, fmSp), (22, fmSp), (25, rtSp), (23, rtSp)] []
theorem r_tk1 (op a b : Int) (K : XV → Prop) : (quietGo (TA2 0) 80 (callI (TA2 0) 80 20) 15 [.int .i64 op, .int .u32 a, .int .u32 b] K) =
    (bif decide (op = (34 : Int)) then K (XV.bool (decide (a = b)))
else
  bif decide (op = (35 : Int)) then K (XV.bool (decide ¬a = b))
  else
    bif decide (op = (36 : Int)) then K (XV.bool (decide (IntKind.wrap IntKind.i32 a < IntKind.wrap IntKind.i32 b)))
    else
      bif decide (op = (37 : Int)) then K (XV.bool (decide (IntKind.wrap IntKind.i32 a ≥ IntKind.wrap IntKind.i32 b)))
      else bif decide (op = (38 : Int)) then K (XV.bool (decide (a < b))) else bif decide (op = (39 : Int)) then K (XV.bool (decide (a ≥ b))) else K (XV.bool false)) := by kernel_rfl
theorem r_tk2 (op a b : Int) (K : XV → Prop) : (quietGo (TA2 0) 80 (callI (TA2 0) 80 20) 16 [.int .i64 op, .int .u32 a, .int .u32 b] K) =
    (bif decide (op = (34 : Int)) then K (XV.bool (decide (a = b)))
else
  bif decide (op = (35 : Int)) then K (XV.bool (decide ¬a = b))
  else
    bif decide (op = (36 : Int)) then
      bif decide ((0 : Int) ≤ a) then
        bif decide (a ≤ (4294967295 : Int)) then bif decide ((0 : Int) ≤ b) then bif decide (b ≤ (4294967295 : Int)) then K (XV.bool (decide (i32 a < i32 b))) else False else False else False
      else False
    else
      bif decide (op = (37 : Int)) then
        bif decide ((0 : Int) ≤ a) then
          bif decide (a ≤ (4294967295 : Int)) then bif decide ((0 : Int) ≤ b) then bif decide (b ≤ (4294967295 : Int)) then K (XV.bool (decide (i32 a ≥ i32 b))) else False else False else False
        else False
      else bif decide (op = (38 : Int)) then K (XV.bool (decide (a < b))) else bif decide (op = (39 : Int)) then K (XV.bool (decide (a ≥ b))) else K (XV.bool false)) := by kernel_rfl
theorem r_lt1 (v0 v1 v2 v3 v4 v5 v6 v7 v8 v9 mul div op : Int) (K : XV → Prop) : (quietGo TA0 80 (callI TA0 80 20) 17 [.agg 12 [.int .i64 v0, .int .i64 v1, .int .i64 v2, .int .i64 v3, .int .i64 v4, .int .i64 v5, .int .i64 v6, .int .i64 v7, .int .i64 v8, .int .i64 v9, .int .i64 mul, .int .i64 div], .int .i64 op] K) =
    (bif decide (op = (11 : Int)) then
  bif decide (op = (11 : Int)) then
    bif bif decide (mul < (1 : Int)) then true else !decide (mul < (1 : Int)) then
      bif bif decide (mul < (1 : Int)) then true else decide (mul > (50 : Int)) then K (XV.int IntKind.i64 (1 : Int)) else K (XV.int IntKind.i64 mul)
    else False
  else
    bif decide (op = (13 : Int)) then
      bif decide (op = (13 : Int)) then
        bif bif decide (div < (1 : Int)) then true else !decide (div < (1 : Int)) then
          bif bif decide (div < (1 : Int)) then true else decide (div > (50 : Int)) then K (XV.int IntKind.i64 (1 : Int)) else K (XV.int IntKind.i64 div)
        else False
      else K (XV.int IntKind.i64 (1 : Int))
    else
      bif decide (op = (14 : Int)) then
        bif decide (op = (14 : Int)) then
          bif bif decide (div < (1 : Int)) then true else !decide (div < (1 : Int)) then
            bif bif decide (div < (1 : Int)) then true else decide (div > (50 : Int)) then K (XV.int IntKind.i64 (1 : Int)) else K (XV.int IntKind.i64 div)
          else False
        else K (XV.int IntKind.i64 (1 : Int))
      else
        bif decide (op = (15 : Int)) then
          bif decide (op = (15 : Int)) then
            bif bif decide (div < (1 : Int)) then true else !decide (div < (1 : Int)) then
              bif bif decide (div < (1 : Int)) then true else decide (div > (50 : Int)) then K (XV.int IntKind.i64 (1 : Int)) else K (XV.int IntKind.i64 div)
            else False
          else K (XV.int IntKind.i64 (1 : Int))
        else
          bif decide (op = (16 : Int)) then
            bif bif decide (div < (1 : Int)) then true else !decide (div < (1 : Int)) then
              bif bif decide (div < (1 : Int)) then true else decide (div > (50 : Int)) then K (XV.int IntKind.i64 (1 : Int)) else K (XV.int IntKind.i64 div)
            else False
          else K (XV.int IntKind.i64 (1 : Int))
else
  bif decide (op = (12 : Int)) then
    bif bif decide (mul < (1 : Int)) then true else !decide (mul < (1 : Int)) then
      bif bif decide (mul < (1 : Int)) then true else decide (mul > (50 : Int)) then K (XV.int IntKind.i64 (1 : Int)) else K (XV.int IntKind.i64 mul)
    else False
  else
    bif decide (op = (13 : Int)) then
      bif decide (op = (13 : Int)) then
        bif bif decide (div < (1 : Int)) then true else !decide (div < (1 : Int)) then
          bif bif decide (div < (1 : Int)) then true else decide (div > (50 : Int)) then K (XV.int IntKind.i64 (1 : Int)) else K (XV.int IntKind.i64 div)
        else False
      else K (XV.int IntKind.i64 (1 : Int))
    else
      bif decide (op = (14 : Int)) then
        bif decide (op = (14 : Int)) then
          bif bif decide (div < (1 : Int)) then true else !decide (div < (1 : Int)) then
            bif bif decide (div < (1 : Int)) then true else decide (div > (50 : Int)) then K (XV.int IntKind.i64 (1 : Int)) else K (XV.int IntKind.i64 div)
          else False
        else K (XV.int IntKind.i64 (1 : Int))
      else
        bif decide (op = (15 : Int)) then
          bif decide (op = (15 : Int)) then
            bif bif decide (div < (1 : Int)) then true else !decide (div < (1 : Int)) then
              bif bif decide (div < (1 : Int)) then true else decide (div > (50 : Int)) then K (XV.int IntKind.i64 (1 : Int)) else K (XV.int IntKind.i64 div)
            else False
          else K (XV.int IntKind.i64 (1 : Int))
        else
          bif decide (op = (16 : Int)) then
            bif bif decide (div < (1 : Int)) then true else !decide (div < (1 : Int)) then
              bif bif decide (div < (1 : Int)) then true else decide (div > (50 : Int)) then K (XV.int IntKind.i64 (1 : Int)) else K (XV.int IntKind.i64 div)
            else False
          else K (XV.int IntKind.i64 (1 : Int))) := by kernel_rfl
theorem r_lt2 (v0 v1 v2 v3 v4 v5 v6 v7 v8 v9 mul div op : Int) (K : XV → Prop) : (quietGo TA0 80 (callI TA0 80 20) 18 [.agg 12 [.int .i64 v0, .int .i64 v1, .int .i64 v2, .int .i64 v3, .int .i64 v4, .int .i64 v5, .int .i64 v6, .int .i64 v7, .int .i64 v8, .int .i64 v9, .int .i64 mul, .int .i64 div], .int .i64 op] K) =
    (bif bif decide (op = (11 : Int)) then true else !decide (op = (11 : Int)) then
  bif bif decide (op = (11 : Int)) then true else decide (op = (12 : Int)) then
    bif bif decide (mul < (1 : Int)) then true else !decide (mul < (1 : Int)) then
      bif bif decide (mul < (1 : Int)) then true else decide (mul > (50 : Int)) then K (XV.int IntKind.i64 (1 : Int)) else K (XV.int IntKind.i64 mul)
    else False
  else
    bif bif decide (op ≥ (13 : Int)) then decide (op ≥ (13 : Int)) else true then
      bif bif decide (op ≥ (13 : Int)) then decide (op ≤ (16 : Int)) else false then
        bif bif decide (div < (1 : Int)) then true else !decide (div < (1 : Int)) then
          bif bif decide (div < (1 : Int)) then true else decide (div > (50 : Int)) then K (XV.int IntKind.i64 (1 : Int)) else K (XV.int IntKind.i64 div)
        else False
      else K (XV.int IntKind.i64 (1 : Int))
    else False
else False) := by kernel_rfl
theorem r_alv (K : XV → Prop) : (quietGo TA5 80 (callI TA5 80 20) 12 [] K) =
    (K (XV.bool true)) := by kernel_rfl
theorem tk1 {op a b : Int} (h0 : 0 ≤ a) (h1 : a ≤ 4294967295) (h2 : 0 ≤ b) (h3 : b ≤ 4294967295) : Pure Try.prog 15 (cons [.int .i64 op, .int .u32 a, .int .u32 b]) (con (.bool (tkB op a b))) := by
  refine pureX (u := 80) (k := 20) mix (TA2ok 0) ?_
  rw [r_tk1]
  try simp only [h0, h1, h2, h3, decide_true, cond_true, pk_or, pk_and]
  unfold tkB i32
  by_cases g34 : op = 34
  · subst g34
    simp [← Int.not_lt]
  by_cases g35 : op = 35
  · subst g35
    simp [← Int.not_lt]
  by_cases g36 : op = 36
  · subst g36
    simp [← Int.not_lt]
  by_cases g37 : op = 37
  · subst g37
    simp [← Int.not_lt]
  by_cases g38 : op = 38
  · subst g38
    simp [← Int.not_lt]
  by_cases g39 : op = 39
  · subst g39
    simp [← Int.not_lt]
  simp [g34, g35, g36, g37, g38, g39]
theorem sp_tk1 : SpOk Try.prog (15, tkSp) := fun args nd v h hn => by
  simp only [tkSp] at h
  split at h
  · simp only [Option.some.injEq, Prod.mk.injEq] at h
    obtain ⟨rfl, rfl⟩ := h
    simp only [allT_cons, decide_eq_true_eq] at hn
    exact tk1 hn.1 hn.2.1 hn.2.2.1 hn.2.2.2.1
  · cases h
theorem tk2 {op a b : Int} (h0 : 0 ≤ a) (h1 : a ≤ 4294967295) (h2 : 0 ≤ b) (h3 : b ≤ 4294967295) : Pure Try.prog 16 (cons [.int .i64 op, .int .u32 a, .int .u32 b]) (con (.bool (tkB op a b))) := by
  refine pureX (u := 80) (k := 20) mix (TA2ok 0) ?_
  rw [r_tk2]
  try simp only [h0, h1, h2, h3, decide_true, cond_true, pk_or, pk_and]
  unfold tkB i32
  by_cases g34 : op = 34
  · subst g34
    simp [← Int.not_lt]
  by_cases g35 : op = 35
  · subst g35
    simp [← Int.not_lt]
  by_cases g36 : op = 36
  · subst g36
    simp [← Int.not_lt]
  by_cases g37 : op = 37
  · subst g37
    simp [← Int.not_lt]
  by_cases g38 : op = 38
  · subst g38
    simp [← Int.not_lt]
  by_cases g39 : op = 39
  · subst g39
    simp [← Int.not_lt]
  simp [g34, g35, g36, g37, g38, g39]
theorem sp_tk2 : SpOk Try.prog (16, tkSp) := fun args nd v h hn => by
  simp only [tkSp] at h
  split at h
  · simp only [Option.some.injEq, Prod.mk.injEq] at h
    obtain ⟨rfl, rfl⟩ := h
    simp only [allT_cons, decide_eq_true_eq] at hn
    exact tk2 hn.1 hn.2.1 hn.2.2.1 hn.2.2.2.1
  · cases h
theorem lt1 (v0 v1 v2 v3 v4 v5 v6 v7 v8 v9 mul div op : Int) : Pure Try.prog 17 (cons [.agg 12 [.int .i64 v0, .int .i64 v1, .int .i64 v2, .int .i64 v3, .int .i64 v4, .int .i64 v5, .int .i64 v6, .int .i64 v7, .int .i64 v8, .int .i64 v9, .int .i64 mul, .int .i64 div], .int .i64 op]) (con (.int .i64 (ltI mul div op))) := by
  refine pureX (u := 80) (k := 20) mix TA0ok ?_
  rw [r_lt1]
  unfold ltI
  by_cases hop : op = 11 ∨ op = 12 ∨ op = 13 ∨ op = 14 ∨ op = 15 ∨ op = 16
  · by_cases hm : mul < 1 <;> by_cases hm2 : mul > 50 <;> by_cases hd : div < 1 <;> by_cases hd2 : div > 50 <;> rcases hop with rfl | rfl | rfl | rfl | rfl | rfl <;> simp [hm, hm2, hd, hd2]
  · have n1 : ¬ op = 11 := by omega
    have n2 : ¬ op = 12 := by omega
    have n3 : ¬ op = 13 := by omega
    have n4 : ¬ op = 14 := by omega
    have n5 : ¬ op = 15 := by omega
    have n6 : ¬ op = 16 := by omega
    have n7 : ¬ (13 ≤ op ∧ op ≤ 16) := by omega
    rw [if_neg (by omega), if_neg n7]
    by_cases n8 : op ≥ 13
    · have n9 : ¬ op ≤ 16 := by omega
      simp [n1, n2, n3, n4, n5, n6, n8, n9]
    · simp [n1, n2, n3, n4, n5, n6, n8]
theorem sp_lt1 : SpOk Try.prog (17, ltSp) := fun args nd v h hn => by
  simp only [ltSp] at h
  split at h
  · simp only [Option.some.injEq, Prod.mk.injEq] at h
    obtain ⟨rfl, rfl⟩ := h
    exact lt1 _ _ _ _ _ _ _ _ _ _ _ _ _
  · cases h
theorem lt2 (v0 v1 v2 v3 v4 v5 v6 v7 v8 v9 mul div op : Int) : Pure Try.prog 18 (cons [.agg 12 [.int .i64 v0, .int .i64 v1, .int .i64 v2, .int .i64 v3, .int .i64 v4, .int .i64 v5, .int .i64 v6, .int .i64 v7, .int .i64 v8, .int .i64 v9, .int .i64 mul, .int .i64 div], .int .i64 op]) (con (.int .i64 (ltI mul div op))) := by
  refine pureX (u := 80) (k := 20) mix TA0ok ?_
  rw [r_lt2]
  unfold ltI
  by_cases hop : op = 11 ∨ op = 12 ∨ op = 13 ∨ op = 14 ∨ op = 15 ∨ op = 16
  · by_cases hm : mul < 1 <;> by_cases hm2 : mul > 50 <;> by_cases hd : div < 1 <;> by_cases hd2 : div > 50 <;> rcases hop with rfl | rfl | rfl | rfl | rfl | rfl <;> simp [hm, hm2, hd, hd2]
  · have n1 : ¬ op = 11 := by omega
    have n2 : ¬ op = 12 := by omega
    have n3 : ¬ op = 13 := by omega
    have n4 : ¬ op = 14 := by omega
    have n5 : ¬ op = 15 := by omega
    have n6 : ¬ op = 16 := by omega
    have n7 : ¬ (13 ≤ op ∧ op ≤ 16) := by omega
    rw [if_neg (by omega), if_neg n7]
    by_cases n8 : op ≥ 13
    · have n9 : ¬ op ≤ 16 := by omega
      simp [n1, n2, n3, n4, n5, n6, n8, n9]
    · simp [n1, n2, n3, n4, n5, n6, n8]
theorem sp_lt2 : SpOk Try.prog (18, ltSp) := fun args nd v h hn => by
  simp only [ltSp] at h
  split at h
  · simp only [Option.some.injEq, Prod.mk.injEq] at h
    obtain ⟨rfl, rfl⟩ := h
    exact lt2 _ _ _ _ _ _ _ _ _ _ _ _ _
  · cases h
theorem one_rng (b : Bool) : 0 ≤ oneI b ∧ oneI b ≤ 1 := by cases b <;> decide
theorem mod_rng (n : Int) : 0 ≤ n % 4294967296 ∧ n % 4294967296 ≤ 4294967295 := by omega
theorem ite_rng {c : Prop} [Decidable c] {x y : Int} (h1 : c → 0 ≤ x ∧ x ≤ 4294967295) (h2 : ¬ c → 0 ≤ y ∧ y ≤ 4294967295) : 0 ≤ (if c then x else y) ∧ (if c then x else y) ≤ 4294967295 := by
  by_cases h : c
  · rw [if_pos h]; exact h1 h
  · rw [if_neg h]; exact h2 h
theorem alW_rng (p : Int) {a b : Int} (h0 : 0 ≤ a) (h1 : a ≤ 4294967295) (h2 : 0 ≤ b) (h3 : b ≤ 4294967295) : 0 ≤ alW p a b ∧ alW p a b ≤ 4294967295 := by
  obtain ⟨A, rfl⟩ := Int.eq_ofNat_of_zero_le h0
  obtain ⟨B, rfl⟩ := Int.eq_ofNat_of_zero_le h2
  have hA : A < 4294967296 := by omega
  have hB : B < 4294967296 := by omega
  have g1 := and_lt (B := B) hA
  have g2 := or_lt hA hB
  have g3 := xor_lt hA hB
  have g4 := one_rng (decide (i32 (A : Int) < i32 (B : Int)))
  have g5 := one_rng (decide ((A : Int) < (B : Int)))
  have g6 : 0 ≤ (A : Int) / 2 ^ ((B : Int) % 32).toNat := Int.ediv_nonneg h0 (Int.pow_nonneg (by omega))
  have g7 : (A : Int) / 2 ^ ((B : Int) % 32).toNat ≤ A := Int.ediv_le_self _ h0
  have g8 := udiv_rng (b := (B : Int)) h0 h1 h2
  unfold alW
  rw [bAnd hA hB, bOr hA hB, bXor hA hB]
  repeat' refine ite_rng (fun _ => ?_) (fun _ => ?_)
  all_goals first | exact mod_rng _ | omega | exact umod_rng h0 h1 (by omega) h3
theorem do_rng (op d x y m : Int) {a b : Int} (h0 : 0 ≤ a) (h1 : a ≤ 4294967295) (h2 : 0 ≤ b) (h3 : b ≤ 4294967295) : 0 ≤ doI op d x y m a b ∧ doI op d x y m a b ≤ 4294967295 := by
  unfold doI
  split
  · omega
  split
  · omega
  split
  · exact alW_rng _ h0 h1 (by omega) (by omega)
  · exact alW_rng _ h0 h1 h2 h3
theorem TA5ok : TabOk Try.prog TA5 := mkT_ok (((((clok_law3.app clok_alu).app clok_isa).app clok_word).app clok_ref1).app clok_math) ⟨sp_do1, sp_tk1, sp_lt1, trivial⟩ trivial
theorem do_1 (a b : Int) : doI 1 1 2 3 0 a b = alW 1 a b := by
  unfold doI
  rw [show rtB 1 1 2 3 0 = true by decide, if_neg (by decide)]
  rfl
theorem do_2 (a b : Int) : doI 2 1 2 3 0 a b = alW 2 a b := by
  unfold doI
  rw [show rtB 2 1 2 3 0 = true by decide, if_neg (by decide)]
  rfl
theorem do_3 (a b : Int) : doI 3 1 2 3 0 a b = alW 3 a b := by
  unfold doI
  rw [show rtB 3 1 2 3 0 = true by decide, if_neg (by decide)]
  rfl
theorem do_4 (a b : Int) : doI 4 1 2 3 0 a b = alW 4 a b := by
  unfold doI
  rw [show rtB 4 1 2 3 0 = true by decide, if_neg (by decide)]
  rfl
theorem do_5 (a b : Int) : doI 5 1 2 3 0 a b = alW 5 a b := by
  unfold doI
  rw [show rtB 5 1 2 3 0 = true by decide, if_neg (by decide)]
  rfl
theorem do_6 (a b : Int) : doI 6 1 2 3 0 a b = alW 6 a b := by
  unfold doI
  rw [show rtB 6 1 2 3 0 = true by decide, if_neg (by decide)]
  rfl
theorem do_7 (a b : Int) : doI 7 1 2 3 0 a b = alW 7 a b := by
  unfold doI
  rw [show rtB 7 1 2 3 0 = true by decide, if_neg (by decide)]
  rfl
theorem do_8 (a b : Int) : doI 8 1 2 3 0 a b = alW 8 a b := by
  unfold doI
  rw [show rtB 8 1 2 3 0 = true by decide, if_neg (by decide)]
  rfl
theorem do_9 (a b : Int) : doI 9 1 2 3 0 a b = alW 9 a b := by
  unfold doI
  rw [show rtB 9 1 2 3 0 = true by decide, if_neg (by decide)]
  rfl
theorem do_10 (a b : Int) : doI 10 1 2 3 0 a b = alW 10 a b := by
  unfold doI
  rw [show rtB 10 1 2 3 0 = true by decide, if_neg (by decide)]
  rfl
theorem do_11 (a b : Int) : doI 11 1 2 3 0 a b = alW 11 a b := by
  unfold doI
  rw [show rtB 11 1 2 3 0 = true by decide, if_neg (by decide)]
  rfl
theorem do_12 (a b : Int) : doI 12 1 2 3 0 a b = alW 12 a b := by
  unfold doI
  rw [show rtB 12 1 2 3 0 = true by decide, if_neg (by decide)]
  rfl
theorem do_13 (a b : Int) : doI 13 1 2 3 0 a b = alW 13 a b := by
  unfold doI
  rw [show rtB 13 1 2 3 0 = true by decide, if_neg (by decide)]
  rfl
theorem do_14 (a b : Int) : doI 14 1 2 3 0 a b = alW 14 a b := by
  unfold doI
  rw [show rtB 14 1 2 3 0 = true by decide, if_neg (by decide)]
  rfl
theorem do_15 (a b : Int) : doI 15 1 2 3 0 a b = alW 15 a b := by
  unfold doI
  rw [show rtB 15 1 2 3 0 = true by decide, if_neg (by decide)]
  rfl
theorem do_16 (a b : Int) : doI 16 1 2 3 0 a b = alW 16 a b := by
  unfold doI
  rw [show rtB 16 1 2 3 0 = true by decide, if_neg (by decide)]
  rfl
theorem dk_13 (b : Int) : dkB 13 1 2 3 0 b = !decide (b = 0) := by
  unfold dkB
  rw [show rtB 13 1 2 3 0 = true by decide, if_neg (by decide)]
  simp
theorem dk_14 (b : Int) : dkB 14 1 2 3 0 b = !decide (b = 0) := by
  unfold dkB
  rw [show rtB 14 1 2 3 0 = true by decide, if_neg (by decide)]
  simp
theorem dk_15 (b : Int) : dkB 15 1 2 3 0 b = !decide (b = 0) := by
  unfold dkB
  rw [show rtB 15 1 2 3 0 = true by decide, if_neg (by decide)]
  simp
theorem dk_16 (b : Int) : dkB 16 1 2 3 0 b = !decide (b = 0) := by
  unfold dkB
  rw [show rtB 16 1 2 3 0 = true by decide, if_neg (by decide)]
  simp
theorem alv : Pure Try.prog 12 (cons []) (con (.bool true)) := by
  refine pureX (u := 80) (k := 20) mix TA5ok ?_
  rw [r_alv]
theorem sp_alv : SpOk Try.prog (12, alvSp) := fun args nd v h hn => by
  simp only [alvSp] at h
  split at h
  · simp only [Option.some.injEq, Prod.mk.injEq] at h
    obtain ⟨rfl, rfl⟩ := h
    exact alv
  · cases h
theorem TA3ok : TabOk Try.prog TA3 := mkT_ok (((((clok_law3.app clok_alu).app clok_isa).app clok_word).app clok_ref1).app clok_math) ⟨sp_do1, sp_do2, sp_int, sp_tk1, sp_tk2, sp_lt1, sp_lt2, sp_alv, trivial⟩ trivial
theorem TA4ok : TabOk Try.prog TA4 := mkT_ok (((((clok_law3.app clok_alu).app clok_isa).app clok_word).app clok_ref1).app clok_math) ⟨sp_do1, sp_do2, sp_int, sp_tk1, sp_tk2, sp_lt1, sp_lt2, sp_alv, sp_form1, sp_form2, sp_right1, sp_right2, trivial⟩ trivial
end Go.Proofs.Ytghmogkapedmfaa
