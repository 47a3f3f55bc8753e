/- A loop adds up as it should. -/
import Derived.Test.YtmfbaglhmiadjaaRows
import Derived.WalkKit
import Derived.ProofKit
import Derived.OpenShut
import Derived.ShutString
import Derived.ChangeOld
import Derived.Below
import Derived.SizedLaws
import Derived.Test.YtmfbaglhmiadjaaPk6

namespace Go.Proofs.Ytmfbaglhmiadjaa
open Go.Ra
set_option linter.unusedVariables false
set_option linter.unusedSimpArgs false
def TT2 (P : PV) (R : RV) : Tab := mkT qq (cl_law6 ++ cl_slices) [(10, alvSp), (13, runSpN P R 1000)] gl_slices
theorem r_sum (P : PV) (R : RV) (n s : Int) (K : XV → Prop) : (quietGo (TT2 P R) 80 (callI (TT2 P R) 80 20) 5 [.int .i64 n, .int .i64 s] K) = (bif bif decide (n < 1) then true else !decide (n < 1) then bif bif bif decide (n < 1) then true else decide (n > 60) then true else !bif decide (n < 1) then
 true else decide (n > 60) then bif bif bif bif decide (n < 1) then true else decide (n > 60) then true else decide (s < (-8192 : Int)) then true else !bif bif decide
 (n < 1) then true else decide (n > 60) then true else decide (s < (-8192 : Int)) then bif bif bif bif decide (n < 1) then true else decide (n > 60) then true else
 decide (s < (-8192 : Int)) then true else decide (s > 8191) then K (.bool true) else bif Nat.beq 5 (PV.n P) then bif decide (0 = PV.sz P) then bif Nat.beq 0 (PV.m
 P) then bif decide (41 = asN (fld 0 (PV.f P 4)) ∧ 0 = asN (fld 1 (PV.f P 4)) ∧ 0 = asN (fld 2 (PV.f P 4)) ∧ 0 = asN (fld 3 (PV.f P 4)) ∧ 0 = asN (fld 4 (PV.f P 4)))
 then bif decide (35 = asN (fld 0 (PV.f P 3)) ∧ 0 = asN (fld 1 (PV.f P 3)) ∧ 1 = asN (fld 2 (PV.f P 3)) ∧ 0 = asN (fld 3 (PV.f P 3)) ∧ (-2 : Int) = asN (fld 4 (PV.f
 P 3))) then bif decide (17 = asN (fld 0 (PV.f P 2)) ∧ 1 = asN (fld 1 (PV.f P 2)) ∧ 1 = asN (fld 2 (PV.f P 2)) ∧ 0 = asN (fld 3 (PV.f P 2)) ∧ (-1 : Int) = asN (fld
 4 (PV.f P 2))) then bif decide (17 = asN (fld 0 (PV.f P 1)) ∧ 2 = asN (fld 1 (PV.f P 1)) ∧ 2 = asN (fld 2 (PV.f P 1)) ∧ 0 = asN (fld 3 (PV.f P 1)) ∧ s = asN (fld
 4 (PV.f P 1))) then bif decide (17 = asN (fld 0 (PV.f P 0)) ∧ 1 = asN (fld 1 (PV.f P 0)) ∧ 0 = asN (fld 2 (PV.f P 0)) ∧ 0 = asN (fld 3 (PV.f P 0)) ∧ n = asN (fld
 4 (PV.f P 0))) then bif bif decide (RV.en R = 1) then decide (RV.en R = 1) else true then bif bif bif decide (RV.en R = 1) then decide (asN (RV.rg R 1) = 0) else
 false then bif decide (RV.en R = 1) then decide (asN (RV.rg R 1) = 0) else false else true then bif bif bif bif decide (RV.en R = 1) then decide (asN (RV.rg R 1)
 = 0) else false then decide (asN (RV.rg R 2) = IntKind.wrap .u32 (IntKind.wrap .i64 (n * s))) else false then bif bif decide (RV.en R = 1) then decide (asN (RV.rg
 R 1) = 0) else false then decide (asN (RV.rg R 2) = IntKind.wrap .u32 (IntKind.wrap .i64 (n * s))) else false else true then K (.bool (bif bif bif decide (RV.en
 R = 1) then decide (asN (RV.rg R 1) = 0) else false then decide (asN (RV.rg R 2) = IntKind.wrap .u32 (IntKind.wrap .i64 (n * s))) else false then decide (RV.st R
 = IntKind.wrap .i64 ((2 : Int) + IntKind.wrap .i64 ((3 : Int) * n))) else false)) else False else False else False else False else False else False else False else
 False else False else False else False else False else False
else False) := by kernel_rfl
def sumF (n s : Int) : Nat → XV
  | 0 => mkI 17 1 0 0 n
  | 1 => mkI 17 2 2 0 s
  | 2 => mkI 17 1 1 0 (-1)
  | 3 => mkI 35 0 1 0 (-2)
  | _ => mkI 41 0 0 0 0
def sumP (n s : Int) : PV := ⟨5, sumF n s, 0, 0, fun _ => .unk⟩
theorem sum_good (n s : Int) : (sumP n s).good := ⟨by show 5 ≤ 4611686018427387904; decide, by show 0 ≤ 4611686018427387904; decide, fun i hi => absurd hi (Nat.not_lt_zero i)⟩
theorem r15 {n : Int} (h0 : 0 ≤ n) (h1 : n ≤ 15) : R15 n := ⟨h0, h1⟩
theorem sum_right {n s : Int} (h : 1 ≤ n ∧ n ≤ 60 ∧ -8192 ≤ s ∧ s ≤ 8191) : (sumP n s).right = true := by
  refine right_of ⟨by show 1 ≤ 5; decide, by show 5 ≤ 2000; decide, by show (0 : Int) ≤ 0; decide, by show (0 : Int) ≤ 65536; decide, by show ((0 : Nat) : Int) ≤ 0; decide⟩ (fun i hi => ?_) (fun i hi => ?_)
  · rcases (by have : i < 5 := hi; omega : i = 0 ∨ i = 1 ∨ i = 2 ∨ i = 3 ∨ i = 4) with rfl | rfl | rfl | rfl | rfl
    · show rtB 17 1 0 0 n = true; exact rt_addi (r15 (by omega) (by omega)) (r15 (by omega) (by omega)) (by omega) (by omega)
    · show rtB 17 2 2 0 s = true; exact rt_addi (r15 (by omega) (by omega)) (r15 (by omega) (by omega)) (by omega) (by omega)
    · show rtB 17 1 1 0 (-1) = true; exact rt_addi (r15 (by omega) (by omega)) (r15 (by omega) (by omega)) (by omega) (by omega)
    · show rtB 35 0 1 0 (-2) = true; exact rt_bne (r15 (by omega) (by omega)) (r15 (by omega) (by omega)) (by omega) (by omega)
    · exact rt_halt
  · rcases (by have : i < 5 := hi; omega : i = 0 ∨ i = 1 ∨ i = 2 ∨ i = 3 ∨ i = 4) with rfl | rfl | rfl | rfl | rfl
    · exact tg_not (by show ¬ fmI 17 = 6; decide) (by show ¬ fmI 17 = 7; decide)
    · exact tg_not (by show ¬ fmI 17 = 6; decide) (by show ¬ fmI 17 = 7; decide)
    · exact tg_not (by show ¬ fmI 17 = 6; decide) (by show ¬ fmI 17 = 7; decide)
    · exact tg_in2 (by show (0 : Int) ≤ 3 + -2; decide) (by show (3 : Int) + -2 < 5; decide)
    · exact tg_not (by show ¬ fmI 41 = 6; decide) (by show ¬ fmI 41 = 7; decide)
/-- A turn of the loop. -/
theorem sum_at {n s : Int} (h : 1 ≤ n ∧ n ≤ 60 ∧ -8192 ≤ s ∧ s ≤ 8191) : ∀ j : Nat, (j : Int) < n → (iterV (sumP n s) (1 + 3 * j)).2 = 1 ∧ (iterV (sumP n s) (1 + 3 * j)).1.en = 0 ∧ vlI (iterV (sumP n s) (1 + 3 * j)).1.rg 1 = n - j ∧ vlI (iterV (sumP n s) (1 + 3 * j)).1.rg 2 = ((j : Int) * s) % 4294967296 ∧ (iterV (sumP n s) (1 + 3 * j)).1.st = 1 + 3 * j
  | 0, hj => by
    have e : iterV (sumP n s) (1 + 3 * 0) = ((rFirst (sumP n s)).set 1 (n % 4294967296), 1) := by
      show iterV (sumP n s) (0 + 1) = _
      rw [iter_at (i := 0) (r := rFirst (sumP n s)) (pc := 0) rfl rfl rfl (by show 0 < 5; decide)]
      show insV (mkI 17 1 0 0 n) (rFirst (sumP n s)) 0 = _
      rw [ins_addi (r15 (by omega) (by omega)) (r15 (by omega) (by omega)) (by omega) (by omega)]
      rw [show vlI (rFirst (sumP n s)).rg 0 = 0 from rfl, Int.zero_add]
      rfl
    rw [e]
    refine ⟨rfl, rfl, ?_, ?_, rfl⟩
    · show n % 4294967296 = n - (0 : Nat)
      omega
    · show (0 : Int) = ((0 : Nat) : Int) * s % 4294967296
      simp
  | j + 1, hj => by
    obtain ⟨h1, h2, h3, h4, h5⟩ := sum_at h j (by omega)
    generalize hs : iterV (sumP n s) (1 + 3 * j) = t at h1 h2 h3 h4 h5
    obtain ⟨r, pc⟩ := t
    simp only at h1 h2 h3 h4 h5
    subst h1
    have g1 : iterV (sumP n s) (1 + 3 * j + 1) = (r.set 2 ((vlI r.rg 2 + s) % 4294967296), 2) := by
      rw [iter_at (i := 1) hs h2 rfl (by show 1 < 5; decide)]
      show insV (mkI 17 2 2 0 s) r 1 = _
      rw [ins_addi (r15 (by omega) (by omega)) (r15 (by omega) (by omega)) (by omega) (by omega)]
      rfl
    generalize hr1 : r.set 2 ((vlI r.rg 2 + s) % 4294967296) = r1 at g1
    have a1 : r1.en = 0 := by rw [← hr1]; exact h2
    have a2 : vlI r1.rg 1 = n - j := by rw [← hr1]; exact h3
    have a3 : vlI r1.rg 2 = (vlI r.rg 2 + s) % 4294967296 := by rw [← hr1]; rfl
    have a4 : r1.st = 2 + 3 * j := by
      rw [← hr1]
      show IntKind.i64.wrap (r.st + 1) = _
      rw [h5, wrap_i64 (by omega) (by omega)]
      omega
    have g2 : iterV (sumP n s) (1 + 3 * j + 1 + 1) = (r1.set 1 ((vlI r1.rg 1 + -1) % 4294967296), 3) := by
      rw [iter_at (i := 2) g1 a1 rfl (by show 2 < 5; decide)]
      show insV (mkI 17 1 1 0 (-1)) r1 2 = _
      rw [ins_addi (r15 (by omega) (by omega)) (r15 (by omega) (by omega)) (by omega) (by omega)]
      rfl
    generalize hr2 : r1.set 1 ((vlI r1.rg 1 + -1) % 4294967296) = r2 at g2
    have b1 : r2.en = 0 := by rw [← hr2]; exact a1
    have b2 : vlI r2.rg 1 = n - (j + 1 : Nat) := by
      rw [← hr2]
      show (vlI r1.rg 1 + -1) % 4294967296 = _
      rw [a2]; omega
    have b3 : vlI r2.rg 2 = (((j + 1 : Nat) : Int) * s) % 4294967296 := by
      rw [← hr2]
      show vlI r1.rg 2 = _
      rw [a3, h4, show ((j + 1 : Nat) : Int) * s = (j : Int) * s + s by rw [Int.natCast_succ, Int.add_mul, Int.one_mul]]
      omega
    have b4 : r2.st = 3 + 3 * j := by
      rw [← hr2]
      show IntKind.i64.wrap (r1.st + 1) = _
      rw [a4, wrap_i64 (by omega) (by omega)]
      omega
    have g3 : iterV (sumP n s) (1 + 3 * (j + 1)) = (r2.tick, 1) := by
      rw [show 1 + 3 * (j + 1) = 1 + 3 * j + 1 + 1 + 1 by omega, iter_at (i := 3) g2 b1 rfl (by show 3 < 5; decide)]
      show insV (mkI 35 0 1 0 (-2)) r2 3 = _
      rw [ins_bne, b2, show vlI r2.rg 0 = 0 from rfl, if_neg (by omega)]
      rfl
    rw [g3]
    refine ⟨rfl, b1, b2, b3, ?_⟩
    show IntKind.i64.wrap (r2.st + 1) = _
    rw [b4, wrap_i64 (by omega) (by omega)]
    omega
theorem sum_end {n s : Int} (h : 1 ≤ n ∧ n ≤ 60 ∧ -8192 ≤ s ∧ s ≤ 8191) : (runW (sumP n s) 1000).en = 1 ∧ asN ((runW (sumP n s) 1000).rg 1) = 0 ∧ asN ((runW (sumP n s) 1000).rg 2) = (n * s) % 4294967296 ∧ (runW (sumP n s) 1000).st = 2 + 3 * n := by
  obtain ⟨h1, h2, h3, h4, h5⟩ := sum_at h (n.toNat - 1) (by omega)
  generalize hj : n.toNat - 1 = j at h1 h2 h3 h4 h5
  have hn : n = (j : Int) + 1 := by omega
  generalize hs : iterV (sumP n s) (1 + 3 * j) = t at h1 h2 h3 h4 h5
  obtain ⟨r, pc⟩ := t
  simp only at h1 h2 h3 h4 h5
  subst h1
  have g1 : iterV (sumP n s) (1 + 3 * j + 1) = (r.set 2 ((vlI r.rg 2 + s) % 4294967296), 2) := by
    rw [iter_at (i := 1) hs h2 rfl (by show 1 < 5; decide)]
    show insV (mkI 17 2 2 0 s) r 1 = _
    rw [ins_addi (r15 (by omega) (by omega)) (r15 (by omega) (by omega)) (by omega) (by omega)]
    rfl
  generalize hr1 : r.set 2 ((vlI r.rg 2 + s) % 4294967296) = r1 at g1
  have a1 : r1.en = 0 := by rw [← hr1]; exact h2
  have a2 : vlI r1.rg 1 = n - j := by rw [← hr1]; exact h3
  have a3 : vlI r1.rg 2 = (vlI r.rg 2 + s) % 4294967296 := by rw [← hr1]; rfl
  have a4 : r1.st = 2 + 3 * j := by
    rw [← hr1]
    show IntKind.i64.wrap (r.st + 1) = _
    rw [h5, wrap_i64 (by omega) (by omega)]
    omega
  have g2 : iterV (sumP n s) (1 + 3 * j + 1 + 1) = (r1.set 1 ((vlI r1.rg 1 + -1) % 4294967296), 3) := by
    rw [iter_at (i := 2) g1 a1 rfl (by show 2 < 5; decide)]
    show insV (mkI 17 1 1 0 (-1)) r1 2 = _
    rw [ins_addi (r15 (by omega) (by omega)) (r15 (by omega) (by omega)) (by omega) (by omega)]
    rfl
  generalize hr2 : r1.set 1 ((vlI r1.rg 1 + -1) % 4294967296) = r2 at g2
  have b1 : r2.en = 0 := by rw [← hr2]; exact a1
  have b2 : vlI r2.rg 1 = 0 := by
    rw [← hr2]
    show (vlI r1.rg 1 + -1) % 4294967296 = _
    rw [a2]; omega
  have b3 : vlI r2.rg 2 = (n * s) % 4294967296 := by
    rw [← hr2]
    show vlI r1.rg 2 = _
    rw [a3, h4, hn, Int.add_mul, Int.one_mul]
    omega
  have b4 : r2.st = 3 + 3 * j := by
    rw [← hr2]
    show IntKind.i64.wrap (r1.st + 1) = _
    rw [a4, wrap_i64 (by omega) (by omega)]
    omega
  have g3 : iterV (sumP n s) (1 + 3 * j + 1 + 1 + 1) = (r2.tick, 4) := by
    rw [iter_at (i := 3) g2 b1 rfl (by show 3 < 5; decide)]
    show insV (mkI 35 0 1 0 (-2)) r2 3 = _
    rw [ins_bne, b2, show vlI r2.rg 0 = 0 from rfl, if_pos rfl]
    rfl
  have g4 : iterV (sumP n s) (1 + 3 * j + 1 + 1 + 1 + 1) = ({ r2.tick.tick with en := 1 }, 4) := by
    rw [iter_at (i := 4) g3 b1 rfl (by show 4 < 5; decide)]
    show insV (mkI 41 0 0 0 0) r2.tick 4 = _
    rw [ins_halt]
  have g5 : runW (sumP n s) 1000 = { r2.tick.tick with en := 1 } := by
    rw [run_stop (k := 1 + 3 * j + 1 + 1 + 1 + 1) (sum_right h) (by show _ ≤ (1000 : Int); omega) (by rw [g4]; show ¬ (1 : Int) = 0; decide), g4]
  rw [g5]
  refine ⟨rfl, b2, b3, ?_⟩
  show IntKind.i64.wrap (IntKind.i64.wrap (r2.st + 1) + 1) = _
  rw [b4, wrap_i64 (x := 3 + 3 * (j : Int) + 1) (by omega) (by omega), wrap_i64 (by omega) (by omega)]
  omega
theorem TT2ok {n s : Int} : TabOk Try.prog (TT2 (sumP n s) (runW (sumP n s) 1000)) := mkT_ok (clok_law6.app clok_slices) ⟨sp_alv, sp_runN (sum_good n s) rfl, trivial⟩ glok_slices
theorem sum_pure (n s : Int) : Pure Try.prog 5 (cons [.int .i64 n, .int .i64 s]) (con (.bool true)) := by
  refine pureX (u := 80) (k := 20) mix (TT2ok (n := n) (s := s)) ?_
  rw [r_sum]
  simp only [pk_or, pk_and, cond_true]
  refine cnd2 (fun h => trivial) (fun h => ?_)
  simp only [Bool.cond_true_left, Bool.cond_false_right, Bool.cond_true_right, Bool.cond_false_left, Bool.or_eq_false_iff, Bool.or_eq_true, Bool.and_eq_true, Bool.and_eq_false_iff, decide_eq_false_iff_not, decide_eq_true_eq, Bool.not_eq_true', Bool.not_eq_false', Bool.not_not, Int.not_lt, Int.not_le, gt_iff_lt, ge_iff_le] at h
  obtain ⟨⟨⟨c1, c2⟩, c3⟩, c4⟩ := h
  have hh : 1 ≤ n ∧ n ≤ 60 ∧ -8192 ≤ s ∧ s ≤ 8191 := by omega
  obtain ⟨e1, e2, e3, e4⟩ := sum_end hh
  have w1 : IntKind.u32.wrap (IntKind.i64.wrap (n * s)) = (n * s) % 4294967296 := by
    rw [wI64, wU32]; omega
  have w2 : IntKind.i64.wrap (2 + IntKind.i64.wrap (3 * n)) = 2 + 3 * n := by rw [wrap_i64 (x := 3 * n) (by omega) (by omega), wrap_i64 (by omega) (by omega)]
  generalize runW (sumP n s) 1000 = R at e1 e2 e3 e4
  simp only [e1, e2, e3, e4, w1, w2, sumP, sumF, mkI, fld, nth, asN_int, and_self, decide_true, decide_false, cond_true, cond_false, allN_true, Nat.le_refl, Int.toNat_natCast, Nat.beq_refl, pk_and, pk_or, Bool.not_true, Bool.not_false, not_true_eq_false, not_false_eq_true, Bool.and_true, Bool.true_and, Bool.and_self, ge_iff_le, Int.le_refl, if_true, if_false, reduceCtorEq, eq_self, BEq.rfl]
end Go.Proofs.Ytmfbaglhmiadjaa
namespace Go.Proofs.Ytmfbaglhmiadjaa.seqSums
open Go.Ra Go.ChangeShapes Go.WideShapes Go.ChangeAt Go.RowKit
open Go.ChangeMaps (open_string shut_string)
theorem own : ownKnob Try.prog.godebug = none := by kernel_rfl
def Ts : List Ty := [.int .i64, .int .i64]
theorem law (xs : List AV) (h : Ty.hasL Ts xs) : Pure Try.prog 5 xs (.sc (.bool true)) := by
  have h0 := h
  simp only [Ts, Ty.hasL] at h0
  obtain ⟨a, _, rfl, _, b, _, rfl, _, rfl⟩ := h0
  exact lawX h (sum_pure _ _)
set_option maxRecDepth 100000 in
theorem lifted (os : Os) (started : os.Started) (H : Type) (enc : TypeId × Value → H) :
    ReturnsInHanded {} Try.checked os 5 .any (Rows.seqSumsSpec.pre6 enc Try.prog Try.f5 Rows.seqSumsRow.domain false) (Rows.seqSumsSpec.post enc Try.prog Try.f5 false true false false) := by
  refine returnsInHanded_of_change_sized (C := Try.checked) own started (by kernel_rfl) Try.func5
    (ChangeSpec.witness6 (enc := enc) (C := Try.checked) false ⟨#[], #[.int .i64 0, .int .i64 0], []⟩ 8 (by kernel_rfl) (by kernel_rfl) (by kernel_rfl) (by kernel_rfl)) ?_
  intro W base args ds gs before hval hW hcnd hsz _
  refine law_post (s := Rows.seqSumsSpec) (n := 60) (Ts := Ts) (ts := [3, 3]) (tb := 4) (by kernel_rfl) rfl rfl Try.underlying4 rfl (by kernel_rfl) (by kernel_rfl) (fun ds hds => ?_) law W base args ds gs before hval hW hsz
  match ds, hds with
  | [d1, d2], _ => exact ⟨rfl, rfl, rfl⟩
theorem over : Rows.seqSumsRow.holds Try.pinned (OpenSpec.ofChange Rows.seqSumsSpec) :=
  OpenClaim.holds_of_wide 5 Try.f5 rfl rfl rfl rfl rfl rfl rfl ⟨rfl, rfl, rfl, rfl, rfl⟩ rfl rfl rfl rfl rfl (by kernel_rfl) Try.func5 (by kernel_rfl)
    (of_decide_eq_true (by kernel_rfl)) (by unfold Func.isWrapper; first | (rw [if_pos (by decide +kernel)]; kernel_rfl) | (rw [if_neg (by decide +kernel)]; exact ⟨rfl, rfl⟩))
    (fun os started H enc _ => lifted os started H enc)
theorem proved : Rows.SeqSumsSaid := over
end Go.Proofs.Ytmfbaglhmiadjaa.seqSums
namespace Go.Proofs.Ytmfbaglhmiadjaa
/-- The row, under a short name, for the claim. -/
theorem seqSums_holds : Rows.SeqSumsSaid := seqSums.proved
end Go.Proofs.Ytmfbaglhmiadjaa
#print axioms Go.Proofs.Ytmfbaglhmiadjaa.seqSums_holds
