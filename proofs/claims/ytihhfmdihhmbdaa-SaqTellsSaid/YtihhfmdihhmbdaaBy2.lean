/- What loads and stores give. -/
import Derived.Test.YtihhfmdihhmbdaaBy1
namespace Go.Proofs.Ytihhfmdihhmbdaa
open Go.Ra
set_option linter.unusedVariables false
set_option linter.unusedSimpArgs false
def TB2 : Tab := mkT qq (cl_bytes ++ cl_ref1 ++ cl_slices) [(29, szSp), (20, szSp), (21, formSp), (30, chkSp), (17, chkSp), (41, befSp), (35, extSp), (36, extSp)] gl_slices
def o_by (f : Nat → XV) (i : Nat) : XV := .int .u8 (asN (f i))
/-- So many bytes of memory, the lowest first. -/
def wrd (f : Nat → XV) (a : Nat) : Nat → Int
  | 0 => 0
  | i + 1 => wrd f a i + asN (f (a + i)) * 2 ^ (8 * i)
/-- What a load has. -/
def loadI (n : Nat) (f : Nat → XV) (op a : Int) : Int := if op ≥ 26 ∧ op ≤ 30 ∧ chkI (szI op) a n = 0 then extI op (wrd f a.toNat (szI op).toNat) else 0
def loadG (n : Nat) (f : Nat → XV) : List XV → Option (List Bool × XV)
  | [.int .i64 op, .int .u32 a] => some ([rngB n f, decide (0 ≤ a), decide (a ≤ 4294967295)], .int .u32 (loadI n f op a))
  | _ => none
def loadSp := rowKSp 1 (.i .u8) 1099511627776 loadG
theorem TB2ok : TabOk Try.prog TB2 := mkT_ok ((clok_bytes.app clok_ref1).app clok_slices) ⟨sp_size1, sp_size2, sp_form, sp_check1, sp_check2, sp_bef, sp_sign, sp_ext, trivial⟩ glok_slices
theorem sz_load {op : Int} (h1 : op ≥ 26) (h2 : op ≤ 30) : szI op = 1 ∨ szI op = 2 ∨ szI op = 4 := by
  unfold szI
  by_cases h3 : op = 26 ∨ op = 31
  · simp [h3]
  · rw [if_neg h3]
    by_cases h4 : op = 27 ∨ op = 28 ∨ op = 32
    · simp [h4]
    · rw [if_neg h4, if_pos (by omega)]; exact .inl rfl
theorem chk_in {s a : Int} {n : Nat} (hs : s = 1 ∨ s = 2 ∨ s = 4) (h0 : 0 ≤ a) (h1 : a ≤ 4294967295) (hn : n ≤ 1099511627776) (h : chkI s a n = 0) : a + s ≤ n ∧ a % s = 0 := by
  unfold chkI at h
  split at h
  · cases h
  · rename_i h2
    split at h
    · cases h
    · rename_i h3
      have h4 : IntKind.i64.wrap a = a := wrap_i64 (by omega) (by omega)
      have h5 : IntKind.i64.wrap ((n : Int) - s) = n - s := wrap_i64 (by omega) (by omega)
      rw [h4] at h2 h3
      rw [h5] at h3
      have h6 : a.tmod s = 0 := Classical.byContradiction fun h => h2 ⟨by omega, h⟩
      rw [Int.tmod_eq_emod_of_nonneg h0] at h6
      refine ⟨?_, h6⟩
      have h7 : ¬ (s > n ∨ a > n - s) := fun h => h3 (.inl ⟨by omega, h⟩)
      omega
theorem wrd_bd {n : Nat} {f : Nat → XV} (hb : ∀ i, i < n → 0 ≤ asN (f i) ∧ asN (f i) ≤ 255) (a : Nat) : ∀ i, a + i ≤ n → 0 ≤ wrd f a i ∧ wrd f a i < 2 ^ (8 * i)
  | 0, _ => by simp [wrd]
  | i + 1, h => by
    obtain ⟨h1, h2⟩ := wrd_bd hb a i (by omega)
    obtain ⟨h3, h4⟩ := hb (a + i) (by omega)
    simp only [wrd]
    have h5 : (2 : Int) ^ (8 * (i + 1)) = 256 * 2 ^ (8 * i) := by
      rw [show 8 * (i + 1) = 8 * i + 8 by omega, Int.pow_add]
      omega
    rw [h5]
    have hp : (0 : Int) < 2 ^ (8 * i) := Int.pow_pos (by omega)
    generalize (2 : Int) ^ (8 * i) = p at *
    have h6 : asN (f (a + i)) * p ≤ 255 * p := Int.mul_le_mul_of_nonneg_right h4 (by omega)
    have h7 : 0 ≤ asN (f (a + i)) * p := Int.mul_nonneg h3 (by omega)
    omega
theorem wrd_step {n : Nat} {f : Nat → XV} (hb : ∀ i, i < n → 0 ≤ asN (f i) ∧ asN (f i) ≤ 255) (a i : Nat) (hi : i < 4) (h : a + i < n) :
    bitsI .or .u32 (wrd f a i) (IntKind.u32.wrap (IntKind.u32.wrap (asN (f (a + i))) * 2 ^ (8 * i))) = wrd f a (i + 1) := by
  obtain ⟨h1, h2⟩ := wrd_bd hb a i (by omega)
  obtain ⟨h3, h4⟩ := hb (a + i) h
  have h5 : IntKind.u32.wrap (asN (f (a + i))) = asN (f (a + i)) := wrap_u32 h3 (by omega)
  rw [h5]
  have hp : (0 : Int) < 2 ^ (8 * i) ∧ (2 : Int) ^ (8 * i) ≤ 16777216 := by
    rcases (by omega : i = 0 ∨ i = 1 ∨ i = 2 ∨ i = 3) with rfl | rfl | rfl | rfl <;> simp
  have h6 : 0 ≤ asN (f (a + i)) * 2 ^ (8 * i) := Int.mul_nonneg h3 (by omega)
  have h7 : asN (f (a + i)) * 2 ^ (8 * i) ≤ 255 * 2 ^ (8 * i) := Int.mul_le_mul_of_nonneg_right h4 (by omega)
  have h8 : IntKind.u32.wrap (asN (f (a + i)) * 2 ^ (8 * i)) = asN (f (a + i)) * 2 ^ (8 * i) := by
    generalize (2 : Int) ^ (8 * i) = p at *
    exact wrap_u32 h6 (by omega)
  rw [h8, or_u32 h1 h2 h3 (by generalize (2 : Int) ^ (8 * i) = p at *; omega)]
  rfl
theorem r_load1 (x : Bool) (n : Nat) (f : Nat → XV) (op a : Int) (r : AV) : (goS Try.prog TB2 [(.tmp 6)] r (.run c_bytes_Load) [] ⟨envX 0 [.row x 1 n (o_by f), .int .i64 op, .int .u32 a], [], 0⟩) =
    (bif bif decide (op ≥ (26 : Int)) then decide (op ≥ (26 : Int)) else true then
  bif bif !bif decide (op ≥ (26 : Int)) then decide (op ≤ (30 : Int)) else false then true else !!bif decide (op ≥ (26 : Int)) then decide (op ≤ (30 : Int)) else false then
    bif bif !bif decide (op ≥ (26 : Int)) then decide (op ≤ (30 : Int)) else false then true else decide ¬chkI (szI op) a (↑n : Int) = (0 : Int) then con (XV.int IntKind.u32 (0 : Int)) = r
    else
      LoopAt (Ok Try.prog (Tab.q TB2)) c_bytes_Load_l1
        (XSt.mk
          [((24 : Nat), XV.int IntKind.i64 (0 : Int)), ((23 : Nat), XV.int IntKind.i64 (szI op)), ((8 : Nat), XV.int IntKind.u32 (0 : Int)), ((6 : Nat), XV.int IntKind.u32 (0 : Int)),
            ((0 : Nat), XV.row x (1 : Nat) n (o_by fun (a : Nat) => f a)), ((1 : Nat), XV.int IntKind.i64 op), ((2 : Nat), XV.int IntKind.u32 a)]
          [] (0 : Nat))
        [Frm.blk (0 : Nat), Frm.seq c_bytes_Load_p1] (finR [AR.tmp (6 : Nat)] r)
  else False
 else False) := by kernel_rfl
theorem r_load2 (x : Bool) (n : Nat) (f : Nat → XV) (op a : Int) (r : AV) : (goS Try.prog TB2 [(.tmp 6)] r (.run c_ref1_Load) [] ⟨envX 0 [.row x 1 n (o_by f), .int .i64 op, .int .u32 a], [], 0⟩) =
    (bif bif decide ¬formI op = (4 : Int) then true else !decide ¬formI op = (4 : Int) then
  bif bif decide ¬formI op = (4 : Int) then true else decide ¬chkI (szI op) a (↑n : Int) = (0 : Int) then con (XV.int IntKind.u32 (0 : Int)) = r
  else
    LoopAt (Ok Try.prog (Tab.q TB2)) c_ref1_Load_l1
      (XSt.mk
        [((9 : Nat), XV.int IntKind.i64 (0 : Int)), ((8 : Nat), XV.int IntKind.u32 (0 : Int)), ((7 : Nat), XV.int IntKind.i64 (szI op)), ((6 : Nat), XV.int IntKind.u32 (0 : Int)),
          ((0 : Nat), XV.row x (1 : Nat) n (o_by fun (a : Nat) => f a)), ((1 : Nat), XV.int IntKind.i64 op), ((2 : Nat), XV.int IntKind.u32 a)]
        [] (0 : Nat))
      [Frm.blk (0 : Nat), Frm.seq c_ref1_Load_p1] (finR [AR.tmp (6 : Nat)] r)
 else False) := by kernel_rfl
theorem r_load1b (x : Bool) (n : Nat) (f : Nat → XV) (op a w sz : Int) (i : Nat) (r : AV) (A : XSt → Prop) : (goS Try.prog TB2 [(.tmp 6)] r (.run c_bytes_Load_l1) [.lp c_bytes_Load_l1 A, .blk 0, .seq c_bytes_Load_p1] ⟨[(24, .int .i64 i), (23, .int .i64 sz), (8, .int .u32 w), (6, .int .u32 0), (0, .row x 1 n (o_by f)), (1, .int .i64 op), (2, .int .u32 a)], [], 0⟩) =
    (bif decide ((↑i : Int) < sz) then
  bif decide ((0 : Int) ≤ IntKind.wrap IntKind.i64 (IntKind.wrap IntKind.i64 a + (↑i : Int))) then
    bif decide (IntKind.wrap IntKind.i64 (IntKind.wrap IntKind.i64 a + (↑i : Int)) < (↑n : Int)) then
      bif decide ((0 : Int) ≤ IntKind.wrap IntKind.i64 ((8 : Int) * (↑i : Int))) then
        A
          (XSt.mk
            [((24 : Nat), XV.int IntKind.i64 (IntKind.wrap IntKind.i64 ((↑i : Int) + (1 : Int)))),
              ((8 : Nat),
                XV.int IntKind.u32
                  (bitsI BinOp.or IntKind.u32 w
                    (IntKind.wrap IntKind.u32
                      (IntKind.wrap IntKind.u32 (asN (f (Int.toNat (IntKind.wrap IntKind.i64 (IntKind.wrap IntKind.i64 a + (↑i : Int)))))) *
                        (2 : Int) ^ Nat.min (Int.toNat (IntKind.wrap IntKind.i64 ((8 : Int) * (↑i : Int)))) (32 : Nat))))),
              ((23 : Nat), XV.int IntKind.i64 sz), ((6 : Nat), XV.int IntKind.u32 (0 : Int)), ((0 : Nat), XV.row x (1 : Nat) n (o_by fun (a : Nat) => f a)), ((1 : Nat), XV.int IntKind.i64 op),
              ((2 : Nat), XV.int IntKind.u32 a)]
            [] (0 : Nat))
      else False
    else False
  else False
 else bif decide ((0 : Int) ≤ w) then bif decide (w ≤ (4294967295 : Int)) then con (XV.int IntKind.u32 (extI op w)) = r else False else False) := by kernel_rfl
theorem r_load2b (x : Bool) (n : Nat) (f : Nat → XV) (op a w sz : Int) (i : Nat) (r : AV) (A : XSt → Prop) : (goS Try.prog TB2 [(.tmp 6)] r (.run c_ref1_Load_l1) [.lp c_ref1_Load_l1 A, .blk 0, .seq c_ref1_Load_p1] ⟨[(9, .int .i64 i), (7, .int .i64 sz), (8, .int .u32 w), (0, .row x 1 n (o_by f)), (1, .int .i64 op), (2, .int .u32 a)], [], 0⟩) =
    (bif decide ((↑i : Int) < sz) then
  bif decide ((0 : Int) ≤ IntKind.wrap IntKind.i64 (IntKind.wrap IntKind.i64 a + (↑i : Int))) then
    bif decide (IntKind.wrap IntKind.i64 (IntKind.wrap IntKind.i64 a + (↑i : Int)) < (↑n : Int)) then
      bif decide ((0 : Int) ≤ IntKind.wrap IntKind.u64 (IntKind.wrap IntKind.i64 ((8 : Int) * (↑i : Int)))) then
        A
          (XSt.mk
            [((9 : Nat), XV.int IntKind.i64 (IntKind.wrap IntKind.i64 ((↑i : Int) + (1 : Int)))),
              ((8 : Nat),
                XV.int IntKind.u32
                  (bitsI BinOp.or IntKind.u32 w
                    (IntKind.wrap IntKind.u32
                      (IntKind.wrap IntKind.u32 (asN (f (Int.toNat (IntKind.wrap IntKind.i64 (IntKind.wrap IntKind.i64 a + (↑i : Int)))))) *
                        (2 : Int) ^ Nat.min (Int.toNat (IntKind.wrap IntKind.u64 (IntKind.wrap IntKind.i64 ((8 : Int) * (↑i : Int))))) (32 : Nat))))),
              ((7 : Nat), XV.int IntKind.i64 sz), ((0 : Nat), XV.row x (1 : Nat) n (o_by fun (a : Nat) => f a)), ((1 : Nat), XV.int IntKind.i64 op), ((2 : Nat), XV.int IntKind.u32 a)]
            [] (0 : Nat))
      else False
    else False
  else False
 else bif decide ((0 : Int) ≤ w) then bif decide (w ≤ (4294967295 : Int)) then con (XV.int IntKind.u32 (extI op w)) = r else False else False) := by kernel_rfl
theorem sp_load : SpOk Try.prog (31, loadSp) := rowKSp_ok fun x n f rest nd v hn hg hnd => by
  unfold loadG at hg
  split at hg <;> simp only [Option.some.injEq, Prod.mk.injEq, reduceCtorEq] at hg
  obtain ⟨rfl, rfl⟩ := hg
  rename_i op a
  simp only [allT_cons, decide_eq_true_eq, rngB_iff] at hnd
  obtain ⟨hb, h0, h1, hnil⟩ := hnd
  refine pureS mix TB2ok t_bytes_Load (Nat.le_of_ble_eq_true rfl) ?_
  refine Eq.mpr (r_load1 x n f op a _) ?_
  unfold loadI
  by_cases h2 : op ≥ 26
  case neg => simp [h2]
  by_cases h3 : op ≤ 30
  case neg => simp [h2, h3]
  by_cases h4 : chkI (szI op) a n = 0
  case neg => simp [h2, h3, h4]
  simp only [h2, h3, h4, and_self, decide_true, decide_false, cond_true, cond_false, allN_true, Nat.le_refl, Int.toNat_natCast, Nat.beq_refl, pk_and, pk_or, Bool.not_true, Bool.not_false, not_true_eq_false, not_false_eq_true, Bool.and_true, Bool.true_and, Bool.and_self, ge_iff_le, Int.le_refl, if_true, if_false, reduceCtorEq, eq_self, BEq.rfl]
  have hs := sz_load h2 h3
  obtain ⟨h5, _⟩ := chk_in hs h0 h1 hn h4
  have hsz : ((szI op).toNat : Int) = szI op := by omega
  refine loopS mix TB2ok (fun i : Nat => ⟨[(24, .int .i64 i), (23, .int .i64 (szI op)), (8, .int .u32 (wrd f a.toNat i)), (6, .int .u32 0), (0, .row x 1 n (o_by f)), (1, .int .i64 op), (2, .int .u32 a)], [], 0⟩) (fun i => i ≤ (szI op).toNat) (fun i => (szI op).toNat - i) 0 (Nat.zero_le _) (weakN ⟨le_is rfl, le_is rfl, le_is rfl, le_is rfl, le_is rfl, le_is rfl, le_is rfl, trivial⟩ trivial (Nat.le_refl _)) ?_
  intro i hi
  rw [r_load1b]
  by_cases hlt : i < (szI op).toNat
  · have g1 : (i : Int) < szI op := by omega
    have g2 : IntKind.i64.wrap (IntKind.i64.wrap a + i) = a + i := by rw [wrap_i64 (x := a) (by omega) (by omega), wrap_i64 (by omega) (by omega)]
    have g3 : IntKind.i64.wrap (8 * (i : Int)) = 8 * i := wrap_i64 (by omega) (by omega)
    have g4 : (0 : Int) ≤ a + i := by omega
    have g5 : a + (i : Int) < n := by omega
    have g6 : (0 : Int) ≤ 8 * (i : Int) := by omega
    have g7 : Nat.min (8 * (i : Int)).toNat 32 = 8 * i := by
      have : (8 * (i : Int)).toNat = 8 * i := by omega
      rw [this]
      exact Nat.min_eq_left (by omega)
    have g8 : (a + (i : Int)).toNat = a.toNat + i := by omega
    simp only [g1, g2, g3, g4, g5, g6, g7, g8, decide_true, decide_false, cond_true, cond_false, allN_true, Nat.le_refl, Int.toNat_natCast, Nat.beq_refl, pk_and, pk_or, Bool.not_true, Bool.not_false, not_true_eq_false, not_false_eq_true, Bool.and_true, Bool.true_and, Bool.and_self, ge_iff_le, Int.le_refl, if_true, if_false, reduceCtorEq, eq_self, BEq.rfl]
    refine ⟨i + 1, by omega, weakN ⟨le_is (conI ?_), le_is rfl, le_is (conI (wrd_step hb _ _ (by omega) (by omega))), le_is rfl, le_is rfl, le_is rfl, le_is rfl, trivial⟩ trivial (Nat.le_refl _), by omega⟩
    rw [wrap_i64 (by omega) (by omega)]; rfl
  · have g1 : ¬ (i : Int) < szI op := by omega
    have g2 : i = (szI op).toNat := by omega
    obtain ⟨g3, g4⟩ := wrd_bd hb a.toNat i (by omega)
    have g5 : wrd f a.toNat i ≤ 4294967295 := by
      have : (2 : Int) ^ (8 * i) ≤ 4294967296 := by
        rcases (by omega : i = 1 ∨ i = 2 ∨ i = 4) with rfl | rfl | rfl <;> simp
      omega
    simp only [g1, g3, g5, decide_true, decide_false, cond_true, cond_false, allN_true, Nat.le_refl, Int.toNat_natCast, Nat.beq_refl, pk_and, pk_or, Bool.not_true, Bool.not_false, not_true_eq_false, not_false_eq_true, Bool.and_true, Bool.true_and, Bool.and_self, ge_iff_le, Int.le_refl, if_true, if_false, reduceCtorEq, eq_self, BEq.rfl]
    rw [g2]
theorem sp_rload : SpOk Try.prog (19, loadSp) := rowKSp_ok fun x n f rest nd v hn hg hnd => by
  unfold loadG at hg
  split at hg <;> simp only [Option.some.injEq, Prod.mk.injEq, reduceCtorEq] at hg
  obtain ⟨rfl, rfl⟩ := hg
  rename_i op a
  simp only [allT_cons, decide_eq_true_eq, rngB_iff] at hnd
  obtain ⟨hb, h0, h1, hnil⟩ := hnd
  refine pureS mix TB2ok t_ref1_Load (Nat.le_of_ble_eq_true rfl) ?_
  refine Eq.mpr (r_load2 x n f op a _) ?_
  have hform : formI op = 4 ↔ op ≥ 26 ∧ op ≤ 30 := by
    unfold formI
    repeat' split
    all_goals omega
  unfold loadI
  by_cases h2 : op ≥ 26 ∧ op ≤ 30
  case neg =>
    have h3 : ¬ formI op = 4 := fun h => h2 (hform.1 h)
    have h4 : ¬ (op ≥ 26 ∧ op ≤ 30 ∧ chkI (szI op) a n = 0) := fun h => h2 ⟨h.1, h.2.1⟩
    simp [h3, h4]
  have h3 := hform.2 h2
  by_cases h4 : chkI (szI op) a n = 0
  case neg => simp [h3, h4]
  simp only [h2, h3, h4, and_self, decide_true, decide_false, cond_true, cond_false, allN_true, Nat.le_refl, Int.toNat_natCast, Nat.beq_refl, pk_and, pk_or, Bool.not_true, Bool.not_false, not_true_eq_false, not_false_eq_true, Bool.and_true, Bool.true_and, Bool.and_self, ge_iff_le, Int.le_refl, if_true, if_false, reduceCtorEq, eq_self, BEq.rfl]
  have hs := sz_load h2.1 h2.2
  obtain ⟨h5, _⟩ := chk_in hs h0 h1 hn h4
  refine loopS mix TB2ok (fun i : Nat => ⟨[(9, .int .i64 i), (7, .int .i64 (szI op)), (8, .int .u32 (wrd f a.toNat i)), (0, .row x 1 n (o_by f)), (1, .int .i64 op), (2, .int .u32 a)], [], 0⟩) (fun i => i ≤ (szI op).toNat) (fun i => (szI op).toNat - i) 0 (Nat.zero_le _) (weakN ⟨le_is rfl, le_is rfl, le_is rfl, le_is rfl, le_is rfl, le_is rfl, trivial⟩ trivial (Nat.le_refl _)) ?_
  intro i hi
  rw [r_load2b]
  by_cases hlt : i < (szI op).toNat
  · have g1 : (i : Int) < szI op := by omega
    have g2 : IntKind.i64.wrap (IntKind.i64.wrap a + i) = a + i := by rw [wrap_i64 (x := a) (by omega) (by omega), wrap_i64 (by omega) (by omega)]
    have g3 : IntKind.u64.wrap (IntKind.i64.wrap (8 * (i : Int))) = 8 * i := by rw [wrap_i64 (by omega) (by omega), wU64]; omega
    have g4 : (0 : Int) ≤ a + i := by omega
    have g5 : a + (i : Int) < n := by omega
    have g6 : (0 : Int) ≤ 8 * (i : Int) := by omega
    have g7 : Nat.min (8 * (i : Int)).toNat 32 = 8 * i := by
      have : (8 * (i : Int)).toNat = 8 * i := by omega
      rw [this]
      exact Nat.min_eq_left (by omega)
    have g8 : (a + (i : Int)).toNat = a.toNat + i := by omega
    simp only [g1, g2, g3, g4, g5, g6, g7, g8, decide_true, decide_false, cond_true, cond_false, allN_true, Nat.le_refl, Int.toNat_natCast, Nat.beq_refl, pk_and, pk_or, Bool.not_true, Bool.not_false, not_true_eq_false, not_false_eq_true, Bool.and_true, Bool.true_and, Bool.and_self, ge_iff_le, Int.le_refl, if_true, if_false, reduceCtorEq, eq_self, BEq.rfl]
    refine ⟨i + 1, by omega, weakN ⟨le_is (conI ?_), le_is rfl, le_is (conI (wrd_step hb _ _ (by omega) (by omega))), le_is rfl, le_is rfl, le_is rfl, trivial⟩ trivial (Nat.le_refl _), by omega⟩
    rw [wrap_i64 (by omega) (by omega)]; rfl
  · have g1 : ¬ (i : Int) < szI op := by omega
    have g2 : i = (szI op).toNat := by omega
    obtain ⟨g3, g4⟩ := wrd_bd hb a.toNat i (by omega)
    have g5 : wrd f a.toNat i ≤ 4294967295 := by
      have : (2 : Int) ^ (8 * i) ≤ 4294967296 := by
        rcases (by omega : i = 1 ∨ i = 2 ∨ i = 4) with rfl | rfl | rfl <;> simp
      omega
    simp only [g1, g3, g5, decide_true, decide_false, cond_true, cond_false, allN_true, Nat.le_refl, Int.toNat_natCast, Nat.beq_refl, pk_and, pk_or, Bool.not_true, Bool.not_false, not_true_eq_false, not_false_eq_true, Bool.and_true, Bool.true_and, Bool.and_self, ge_iff_le, Int.le_refl, if_true, if_false, reduceCtorEq, eq_self, BEq.rfl]
    rw [g2]
end Go.Proofs.Ytihhfmdihhmbdaa
