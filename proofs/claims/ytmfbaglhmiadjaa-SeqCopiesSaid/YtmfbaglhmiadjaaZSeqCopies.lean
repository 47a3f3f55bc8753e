/- A program that copies memory copies it. -/
import Derived.Test.YtmfbaglhmiadjaaRows
import Derived.WalkKit
import Derived.ProofKit
import Derived.OpenShut
import Derived.ShutString
import Derived.ChangeOld
import Derived.Below
import Derived.SizedLaws
import Derived.Test.YtmfbaglhmiadjaaPk6

namespace Go.Proofs.Ytmfbaglhmiadjaa
open Go.Ra
set_option linter.unusedVariables false
set_option linter.unusedSimpArgs false
/-- What a run of a program leaves a named result; the data is compared at once. -/
def runSpC (P : PV) (R : RV) (fuel : Int) : List XV → Option (List Bool × XV)
  | [a, .int .i64 k] =>
    match pvF a with
    | some (⟨n, f, sz, m, d⟩, _, _) => some (PV.nd ⟨n, f, sz, m, d⟩ ++ (decide (k = fuel) :: Nat.beq n P.n :: decide (sz = P.sz) :: Nat.beq m P.m :: allN (fun i => decide (asN (d i) = asN (P.d i))) m :: eqIL ⟨n, f, sz, m, d⟩ P n), R.xv false false)
    | none => none
  | _ => none
def TCo (P : PV) (R : RV) : Tab := mkT qq (cl_law6 ++ (cl_ref1 ++ cl_slices)) [(10, alvSp), (13, runSpC P R 1000)] gl_slices
def sCo (L : Nat) (l cF d : Nat → XV) (n4 n8 : Int) (i m : Nat) : XSt := ⟨[(6, .int .i64 i), (5, .ptr 0 [] 0), (4, .int .i64 n4), (2, .bool false), (0, .row false 1 L (o_rg l))], [(1, some (.tab m 1 (o_by d))), (0, some (.agg 3 [.row true 5 6 (o_in cF), .int .i64 n8, .sl 1 [] 0 0 m 1]))], 2⟩
def sCo2 (L : Nat) (l cF d : Nat → XV) (n4 n8 : Int) (R : RV) (i m : Nat) : XSt := ⟨[(8, .int .i64 i), (7, .ptr 2 [] 0), (4, .int .i64 n4), (2, .bool false), (0, .row false 1 L (o_rg l))], [(2, some (.agg 23 [.int .i64 R.en, .agg 3 [.int .i64 R.tk, .int .i64 R.ts, .int .i64 R.tp], .int .i64 R.st, .tab 16 1 (o_rg R.rg), .row false 1 R.nm (o_by R.mm), .row false 3 R.nw (o_wr R.wf)])), (1, none), (0, some (.agg 3 [.row true 5 6 (o_in cF), .int .i64 n8, .row false 1 m (o_by d)]))], 3⟩
theorem r_co1 (P : PV) (R : RV) (L : Nat) (l : Nat → XV) (r : AV) : (goS Try.prog (TCo P R) [(.tmp 2)] r (.run c_law6_SeqCopies) [] ⟨envX 0 [.row false 1 L (o_rg l)], [], 0⟩) = (bif bif decide ((↑L : Int) < 1) then true else !decide ((↑L : Int) < 1) then bif bif decide ((↑L : Int) < 1) then true else decide ((↑L : Int) > 30) then con
 (.bool true) = r else LoopAt (Ok Try.prog (Tab.q (TCo P R))) c_law6_SeqCopies_l1 (XSt.mk [(6, .int .i64 0), (5, .ptr 0 [] 0), (4, .int .i64 (IntKind.wrap .i64 ((4
 : Int) * (↑L : Int)))), (2, .bool false), (0, .row false 1 L (o_rg fun a => l a))] [(0, some (.agg 3 [.row true 5 6 fun a => .agg 5 [.int .i64 (bif Nat.beq a 0 then
 (26 : Int) else bif Nat.beq (a - 1) 0 then (31 : Int) else bif Nat.beq (a - 1 - 1) 0 then (17 : Int) else bif Nat.beq (a - 1 - 1 - 1) 0 then (21 : Int) else bif
 Nat.beq (a - 1 - 1 - 1 - 1) 0 then (35 : Int) else (41 : Int)), .int .i64 (bif Nat.beq a 0 then (2 : Int) else bif Nat.beq (a - 1) 0 then (0 : Int) else bif Nat.beq
 (a - 1 - 1) 0 then (1 : Int) else bif Nat.beq (a - 1 - 1 - 1) 0 then (3 : Int) else bif Nat.beq (a - 1 - 1 - 1 - 1) 0 then (0 : Int) else (0 : Int)), .int .i64 (bif
 Nat.beq a 0 then (1 : Int) else bif Nat.beq (a - 1) 0 then (1 : Int) else bif Nat.beq (a - 1 - 1) 0 then (1 : Int) else bif Nat.beq (a - 1 - 1 - 1) 0 then (1 : Int)
 else bif Nat.beq (a - 1 - 1 - 1 - 1) 0 then (3 : Int) else (0 : Int)), .int .i64 (bif Nat.beq a 0 then (0 : Int) else bif Nat.beq (a - 1) 0 then (2 : Int) else bif
 Nat.beq (a - 1 - 1) 0 then (0 : Int) else bif Nat.beq (a - 1 - 1 - 1) 0 then (0 : Int) else bif Nat.beq (a - 1 - 1 - 1 - 1) 0 then (0 : Int) else (0 : Int)), .int
 .i64 (bif Nat.beq a 0 then (0 : Int) else bif Nat.beq (a - 1) 0 then IntKind.wrap .i64 ((4 : Int) * (↑L : Int)) else bif Nat.beq (a - 1 - 1) 0 then (4 : Int) else
 bif Nat.beq (a - 1 - 1 - 1) 0 then IntKind.wrap .i64 ((4 : Int) * (↑L : Int)) else bif Nat.beq (a - 1 - 1 - 1 - 1) 0 then (-4 : Int) else (0 : Int))], .int .i64
 (IntKind.wrap .i64 ((2 : Int) * IntKind.wrap .i64 ((4 : Int) * (↑L : Int)))), .row true 0 0 fun x => .unk]))] 1) [Frm.blk 0, Frm.seq c_law6_SeqCopies_p2] (finR [AR.tmp
 2] r)
else False) := by kernel_rfl
theorem r_co2 (P : PV) (R : RV) (L : Nat) (l cF d : Nat → XV) (n4 n8 : Int) (i m : Nat) (r : AV) (A : XSt → Prop) : (goS Try.prog (TCo P R) [(.tmp 2)] r (.run c_law6_SeqCopies_l1) [.lp c_law6_SeqCopies_l1 A, .blk 0, .seq c_law6_SeqCopies_p2] (sCo L l cF d n4 n8 i m)) = (bif decide ((↑i : Int) < (↑L : Int)) then bif decide ((↑i : Int) < (↑L : Int)) then bif decide (m ≤ m) then bif decide (pl m 4 * 1 ≤ 140737488355328) then A
 (XSt.mk [(6, .int .i64 (IntKind.wrap .i64 ((↑i : Int) + (1 : Int)))), (5, .ptr 0 [] 0), (4, .int .i64 n4), (2, .bool false), (0, .row false 1 L (o_rg fun a => l
 a))] [(2, some (.tab (pl m 4) 1 fun i_1 => .int .u8 (bif decide (i_1 < m) then asN (d i_1) else bif Nat.beq (i_1 - m) 0 then IntKind.wrap .u8 (asN (l i)) else bif
 Nat.beq (i_1 - m - 1) 0 then IntKind.wrap .u8 (Int.fdiv (asN (l i)) (256 : Int)) else bif Nat.beq (i_1 - m - 1 - 1) 0 then IntKind.wrap .u8 (Int.fdiv (asN (l i))
 (65536 : Int)) else IntKind.wrap .u8 (Int.fdiv (asN (l i)) (16777216 : Int))))), (1, none), (0, some (.agg 3 [.row true 5 6 (o_in fun a => cF a), .int .i64 n8, .sl
 2 [] 0 0 (pl m 4) 1]))] 3) else False else False else False
else bif decide (m ≤ m) then bif decide (PV.m (PV.mk 6 (o_in cF) n8 m fun i => o_by d (pl 0 i)) ≤ 4611686018427387904)
 then bif allN (fun i => true) (PV.m (PV.mk 6 (o_in cF) n8 m fun i => o_by d (pl 0 i))) then bif rngB (PV.m (PV.mk 6 (o_in cF) n8 m fun i => o_by d (pl 0 i))) fun
 a => .int .u8 (asN (d a)) then bif Nat.beq 6 (PV.n P) then bif decide (n8 = PV.sz P) then bif Nat.beq m (PV.m P) then bif allN (fun i => decide (asN (d i) = asN
 (PV.d P i))) m then bif decide (asN (fld 0 (cF 5)) = asN (fld 0 (PV.f P 5)) ∧ asN (fld 1 (cF 5)) = asN (fld 1 (PV.f P 5)) ∧ asN (fld 2 (cF 5)) = asN (fld 2 (PV.f
 P 5)) ∧ asN (fld 3 (cF 5)) = asN (fld 3 (PV.f P 5)) ∧ asN (fld 4 (cF 5)) = asN (fld 4 (PV.f P 5))) then bif decide (asN (fld 0 (cF 4)) = asN (fld 0 (PV.f P 4)) ∧
 asN (fld 1 (cF 4)) = asN (fld 1 (PV.f P 4)) ∧ asN (fld 2 (cF 4)) = asN (fld 2 (PV.f P 4)) ∧ asN (fld 3 (cF 4)) = asN (fld 3 (PV.f P 4)) ∧ asN (fld 4 (cF 4)) = asN
 (fld 4 (PV.f P 4))) then bif decide (asN (fld 0 (cF 3)) = asN (fld 0 (PV.f P 3)) ∧ asN (fld 1 (cF 3)) = asN (fld 1 (PV.f P 3)) ∧ asN (fld 2 (cF 3)) = asN (fld 2
 (PV.f P 3)) ∧ asN (fld 3 (cF 3)) = asN (fld 3 (PV.f P 3)) ∧ asN (fld 4 (cF 3)) = asN (fld 4 (PV.f P 3))) then bif decide (asN (fld 0 (cF 2)) = asN (fld 0 (PV.f P
 2)) ∧ asN (fld 1 (cF 2)) = asN (fld 1 (PV.f P 2)) ∧ asN (fld 2 (cF 2)) = asN (fld 2 (PV.f P 2)) ∧ asN (fld 3 (cF 2)) = asN (fld 3 (PV.f P 2)) ∧ asN (fld 4 (cF 2))
 = asN (fld 4 (PV.f P 2))) then bif decide (asN (fld 0 (cF 1)) = asN (fld 0 (PV.f P 1)) ∧ asN (fld 1 (cF 1)) = asN (fld 1 (PV.f P 1)) ∧ asN (fld 2 (cF 1)) = asN (fld
 2 (PV.f P 1)) ∧ asN (fld 3 (cF 1)) = asN (fld 3 (PV.f P 1)) ∧ asN (fld 4 (cF 1)) = asN (fld 4 (PV.f P 1))) then bif decide (asN (fld 0 (cF 0)) = asN (fld 0 (PV.f
 P 0)) ∧ asN (fld 1 (cF 0)) = asN (fld 1 (PV.f P 0)) ∧ asN (fld 2 (cF 0)) = asN (fld 2 (PV.f P 0)) ∧ asN (fld 3 (cF 0)) = asN (fld 3 (PV.f P 0)) ∧ asN (fld 4 (cF
 0)) = asN (fld 4 (PV.f P 0))) then bif bif decide ¬RV.en R = 1 then true else !decide ¬RV.en R = 1 then bif bif allN (fun i => true) (RV.nm R) then true else !!bif
 decide ¬RV.en R = 1 then true else decide ¬(↑(RV.nw R) : Int) = (↑L : Int) then bif bif allN (fun i => true) m then true else !!bif decide ¬RV.en R = 1 then true
 else decide ¬(↑(RV.nw R) : Int) = (↑L : Int) then bif bif allN (fun i => true) m then true else !!bif decide ¬RV.en R = 1 then true else decide ¬(↑(RV.nw R) : Int)
 = (↑L : Int) then bif bif decide (m + m ≤ 140737488351232) then true else !!bif decide ¬RV.en R = 1 then true else decide ¬(↑(RV.nw R) : Int) = (↑L : Int) then bif
 bif bif decide ¬RV.en R = 1 then true else decide ¬(↑(RV.nw R) : Int) = (↑L : Int) then true else !bif decide ¬RV.en R = 1 then true else decide ¬(↑(RV.nw R) : Int)
 = (↑L : Int) then bif bif bif decide ¬RV.en R = 1 then true else decide ¬(↑(RV.nw R) : Int) = (↑L : Int) then true else !strEq (RV.nm R) (fun i => asN (RV.mm R i))
 (m + m) fun i => bif decide (i < m) then asN (d i) else asN (d (i - m)) then con (.bool false) = r else LoopAt (Ok Try.prog (Tab.q (TCo P R))) c_law6_SeqCopies_l2
 (XSt.mk [(8, .int .i64 0), (7, .ptr 2 [] 0), (4, .int .i64 n4), (2, .bool false), (0, .row false 1 L (o_rg fun a => l a))] [(2, some (.agg 23 [.int .i64 (RV.en R),
 .agg 3 [.int .i64 (RV.tk R), .int .i64 (RV.ts R), .int .i64 (RV.tp R)], .int .i64 (RV.st R), .tab 16 1 (o_rg fun a => RV.rg R a), .row false 1 (RV.nm R) (o_by fun
 a => RV.mm R a), .row false 3 (RV.nw R) (o_wr fun a => RV.wf R a)])), (1, none), (0, some (.agg 3 [.row true 5 6 (o_in fun a => cF a), .int .i64 n8, .row false 1
 m fun i => .int .u8 (asN (d i))]))] 3) [Frm.blk 2, Frm.seq c_law6_SeqCopies_p1] (finR [AR.tmp 2] r) else False else False else False else False else False else False
 else False else False else False else False else False else False else False else False else False else False else False else False else False else False) := by
 kernel_rfl
theorem r_co3 (P : PV) (R : RV) (L : Nat) (l cF d : Nat → XV) (n4 n8 : Int) (i m : Nat) (r : AV) (A : XSt → Prop) : (goS Try.prog (TCo P R) [(.tmp 2)] r (.run c_law6_SeqCopies_l2) [.lp c_law6_SeqCopies_l2 A, .blk 2, .seq c_law6_SeqCopies_p1] (sCo2 L l cF d n4 n8 R i m)) = (bif decide ((↑i : Int) < (↑L : Int)) then bif decide ((↑i : Int) < (↑(RV.nw R) : Int)) then bif decide ((↑i : Int) < (↑L : Int)) then bif !(decide (asN (fld
 0 (RV.wf R i)) = IntKind.wrap .i64 (n4 + IntKind.wrap .i64 ((4 : Int) * (↑i : Int)))) && (decide (asN (fld 1 (RV.wf R i)) = 4) && (decide (asN (fld 2 (RV.wf R i))
 = asN (l i)) && true))) then con (.bool false) = r else A (XSt.mk [(8, .int .i64 (IntKind.wrap .i64 ((↑i : Int) + (1 : Int)))), (7, .ptr 2 [] 0), (4, .int .i64 n4),
 (2, .bool false), (0, .row false 1 L (o_rg fun a => l a))] [(2, some (.agg 23 [.int .i64 (RV.en R), .agg 3 [.int .i64 (RV.tk R), .int .i64 (RV.ts R), .int .i64 (RV.tp
 R)], .int .i64 (RV.st R), .tab 16 1 (o_rg fun a => RV.rg R a), .row false 1 (RV.nm R) (o_by fun a => RV.mm R a), .row false 3 (RV.nw R) (o_wr fun a => RV.wf R a)])),
 (1, none), (0, some (.agg 3 [.row true 5 6 (o_in fun a => cF a), .int .i64 n8, .row false 1 m (o_by fun a => d a)]))] 3) else False else False
else con (.bool true)
 = r) := by kernel_rfl
theorem eqDL_of {p q : PV} : ∀ {n : Nat}, allN (fun i => decide (asN (p.d i) = asN (q.d i))) n = true → allT (eqDL p q n)
  | 0, _ => by
    simp only [eqDL]
    first | trivial | exact rfl | simp [allT]
  | n + 1, h => by
    simp only [eqDL, allT_cons]
    rw [allN_iff] at h
    exact ⟨h n (Nat.lt_succ_self n), eqDL_of (allN_iff.2 fun i hi => h i (Nat.lt_succ_of_lt hi))⟩
theorem sp_runC {P : PV} {R : RV} {fuel : Int} (hP : P.good) (hR : R = runW P fuel) : SpOk Try.prog (13, runSpC P R fuel) := fun args nd v h hn => by
  simp only [runSpC] at h
  split at h
  · split at h
    · rename_i aa kk _ n f sz m d x y hp
      simp only [Option.some.injEq, Prod.mk.injEq] at h
      obtain ⟨rfl, rfl⟩ := h
      rw [allT_app, allT_cons, allT_cons, allT_cons, allT_cons, allT_cons] at hn
      obtain ⟨hn1, hk, b1, b2, b3, b4, b5⟩ := hn
      refine sp_runN hP hR [aa, .int .i64 kk] (PV.nd ⟨n, f, sz, m, d⟩ ++ decide (kk = fuel) :: eqPL ⟨n, f, sz, m, d⟩ P) _ (by simp only [runSpN, hp]) ?_
      rw [allT_app, allT_cons]
      refine ⟨hn1, hk, ?_⟩
      unfold eqPL
      rw [allT_cons, allT_cons, allT_cons, allT_app]
      refine ⟨b1, b2, b3, b5, ?_⟩
      exact eqDL_of b4
    · cases h
  · cases h
theorem TCok {P : PV} (hP : P.good) : TabOk Try.prog (TCo P (runW P 1000)) := mkT_ok (clok_law6.app (clok_ref1.app clok_slices)) ⟨sp_alv, sp_runC hP rfl, trivial⟩ glok_slices
def lV (l : Nat → XV) (i : Nat) : Int := asN (l i)
theorem dat_eq {l : Nat → XV} {i : Nat} (h : 0 ≤ asN (l i)) : con (.tab (4 * (i + 1)) 1 fun k => .int .u8 (bif decide (k < 4 * i) then asN (dV (lV l) k) else bif Nat.beq (k - 4 * i) 0 then IntKind.u8.wrap (asN (l i)) else bif Nat.beq (k - 4 * i - 1) 0 then IntKind.u8.wrap (Int.fdiv (asN (l i)) 256) else bif Nat.beq (k - 4 * i - 1 - 1) 0 then IntKind.u8.wrap (Int.fdiv (asN (l i)) 65536) else IntKind.u8.wrap (Int.fdiv (asN (l i)) 16777216))) = con (.tab (4 * (i + 1)) 1 (o_by (dV (lV l)))) := by
  simp only [con]
  congr 1
  refine tabL_congr fun k hk => ?_
  show AV.sc (.int .u8 _) = AV.sc (.int .u8 (asN (dV (lV l) k)))
  congr 2
  by_cases hlt : k < 4 * i
  · rw [decide_eq_true hlt]; rfl
  · rw [decide_eq_false hlt, cond_false]
    obtain ⟨t, rfl⟩ : ∃ t, k = 4 * i + t := ⟨k - 4 * i, by omega⟩
    have ht : t < 4 := by omega
    rw [dV_at ht, show lV l i = asN (l i) from rfl, show 4 * i + t - 4 * i = t by omega]
    rcases (by omega : t = 0 ∨ t = 1 ∨ t = 2 ∨ t = 3) with rfl | rfl | rfl | rfl
    · show IntKind.u8.wrap (asN (l i)) = asN (l i) / 1 % 256
      rw [wU8, Int.ediv_one]
    · show IntKind.u8.wrap (Int.fdiv (asN (l i)) 256) = asN (l i) / 256 % 256
      rw [wU8, Int.fdiv_eq_ediv_of_nonneg _ (by omega)]
    · show IntKind.u8.wrap (Int.fdiv (asN (l i)) 65536) = asN (l i) / 65536 % 256
      rw [wU8, Int.fdiv_eq_ediv_of_nonneg _ (by omega)]
    · show IntKind.u8.wrap (Int.fdiv (asN (l i)) 16777216) = asN (l i) / 16777216 % 256
      rw [wU8, Int.fdiv_eq_ediv_of_nonneg _ (by omega)]
theorem co_pure {L : Nat} {l : Nat → XV} (hl : ∀ i, i < L → 0 ≤ asN (l i) ∧ asN (l i) ≤ 4294967295) : Pure Try.prog 6 (cons [.row false 1 L (o_rg l)]) (con (.bool true)) := by
  by_cases hL : 1 ≤ L ∧ L ≤ 30
  case neg =>
    refine pureS mix (TCok (cop_good (L := 0) (l := fun _ => 0) (Nat.zero_le _))) t_law6_SeqCopies (Nat.le_of_ble_eq_true rfl) ?_
    refine Eq.mpr (r_co1 _ _ L l _) ?_
    by_cases c1 : (L : Int) < 1
    · simp only [c1, pk_or, pk_and, pk_t, decide_true, decide_false, cond_true, cond_false, allN_true, Nat.le_refl, Int.toNat_natCast, Nat.beq_refl, pk_and, pk_or, Bool.not_true, Bool.not_false, not_true_eq_false, not_false_eq_true, Bool.and_true, Bool.true_and, Bool.and_self, ge_iff_le, Int.le_refl, if_true, if_false, reduceCtorEq, eq_self, BEq.rfl]
    · have c2 : (L : Int) > 30 := by omega
      simp only [c1, c2, pk_or, pk_and, pk_t, decide_true, decide_false, cond_true, cond_false, allN_true, Nat.le_refl, Int.toNat_natCast, Nat.beq_refl, pk_and, pk_or, Bool.not_true, Bool.not_false, not_true_eq_false, not_false_eq_true, Bool.and_true, Bool.true_and, Bool.and_self, ge_iff_le, Int.le_refl, if_true, if_false, reduceCtorEq, eq_self, BEq.rfl]
  obtain ⟨h1, h30⟩ := hL
  have hg : (copP L (lV l)).good := cop_good h30
  obtain ⟨r0, hI, hrun⟩ := cop_end (l := lV l) h1 h30 hl
  refine pureS mix (TCok hg) t_law6_SeqCopies (Nat.le_of_ble_eq_true rfl) ?_
  refine Eq.mpr (r_co1 _ _ L l _) ?_
  have c1 : ¬ (L : Int) < 1 := by omega
  have c2 : ¬ (L : Int) > 30 := by omega
  have w1 : IntKind.i64.wrap (4 * (L : Int)) = ((4 * L : Nat) : Int) := wrap_i64 (by omega) (by omega)
  have w2 : IntKind.i64.wrap (2 * ((4 * L : Nat) : Int)) = ((8 * L : Nat) : Int) := by
    rw [wrap_i64 (by omega) (by omega)]; omega
  simp only [c1, c2, w1, w2, pk_or, pk_and, pk_t, decide_true, decide_false, cond_true, cond_false, allN_true, Nat.le_refl, Int.toNat_natCast, Nat.beq_refl, pk_and, pk_or, Bool.not_true, Bool.not_false, not_true_eq_false, not_false_eq_true, Bool.and_true, Bool.true_and, Bool.and_self, ge_iff_le, Int.le_refl, if_true, if_false, reduceCtorEq, eq_self, BEq.rfl]
  refine loopK mix (TCok hg) (fun i : Nat => sCo L l (copF (4 * L : Nat)) (dV (lV l)) (4 * L : Nat) (8 * L : Nat) i (4 * i)) (fun i => i ≤ L) (fun i => L - i) 0 (Nat.zero_le _) ?_ ?_
  · exact weakK [(0, 0)] rfl rfl rfl rfl rfl ⟨k_is rfl rfl, .ptr rfl, k_is rfl rfl, k_is rfl rfl, k_is rfl rfl, trivial⟩ ⟨⟨1, rfl⟩, .agg (.cons (k_is rfl rfl) (.cons (k_is rfl rfl) (.cons (k_nil rfl) .nil))), trivial⟩
  intro i hi
  refine Eq.mpr (r_co2 _ _ L l _ _ _ _ i _ _ _) ?_
  by_cases h : (i : Int) < L
  · have w3 : IntKind.i64.wrap ((i : Int) + 1) = ((i + 1 : Nat) : Int) := wrap_i64 (by omega) (by omega)
    have w4 : 4 * i ≤ 4 * i := Nat.le_refl _
    have w6 : pl (4 * i) 4 = 4 * (i + 1) := by rw [pl_eq]; omega
    have w5 : 4 * (i + 1) * 1 ≤ 140737488355328 := by omega
    simp only [h, w3, w4, w6, w5, pk_or, pk_and, pk_t, decide_true, decide_false, cond_true, cond_false, allN_true, Nat.le_refl, Int.toNat_natCast, Nat.beq_refl, pk_and, pk_or, Bool.not_true, Bool.not_false, not_true_eq_false, not_false_eq_true, Bool.and_true, Bool.true_and, Bool.and_self, ge_iff_le, Int.le_refl, if_true, if_false, reduceCtorEq, eq_self, BEq.rfl]
    exact ⟨i + 1, by omega, weakK [(0, 0), (1, 2)] rfl rfl rfl rfl rfl ⟨k_is rfl rfl, .ptr rfl, k_is rfl rfl, k_is rfl rfl, k_is rfl rfl, trivial⟩ ⟨k_is (dat_eq (hl i (by omega)).1) rfl, .agg (.cons (k_is rfl rfl) (.cons (k_is rfl rfl) (.cons (.sl rfl) .nil))), trivial⟩, by omega⟩
  have hT := TCok hg
  have e1 : (runW (copP L (lV l)) 1000).en = 1 := by rw [hrun]
  have e2 : (runW (copP L (lV l)) 1000).nw = L := by rw [hrun]; exact hI.nw
  have e3 : (runW (copP L (lV l)) 1000).nm = 8 * L := by rw [hrun]; exact hI.nm
  have e4 : ∀ k, k < 8 * L → asN ((runW (copP L (lV l)) 1000).mm k) = if k < 4 * L then asN (dV (lV l) k) else if k < 4 * L + 4 * L then asN (dV (lV l) (k - 4 * L)) else 0 := by rw [hrun]; exact hI.mm
  have e5 : ∀ i, i < L → asN (fld 0 ((runW (copP L (lV l)) 1000).wf i)) = 4 * L + 4 * i ∧ asN (fld 1 ((runW (copP L (lV l)) 1000).wf i)) = 4 ∧ asN (fld 2 ((runW (copP L (lV l)) 1000).wf i)) = lV l i := by rw [hrun]; exact hI.wf
  generalize runW (copP L (lV l)) 1000 = R at hT e1 e2 e3 e4 e5 ⊢
  have hiL : i = L := by omega
  subst hiL
  have w4 : 4 * i ≤ 4 * i := Nat.le_refl _
  have w7 : 4 * i ≤ 4611686018427387904 := by omega
  have w8 : ∀ k, allN (fun _ => true) k = true := fun k => allN_iff.2 fun _ _ => rfl
  have w9 : rngB (4 * i) (fun a => .int .u8 (asN (dV (lV l) a))) = true := rng_by hg.d
  have w10 : Nat.beq (4 * i) (4 * i) = true := Nat.beq_refl _
  have w11 : allN (fun k => decide (asN (dV (lV l) k) = asN (dV (lV l) k))) (4 * i) = true := allN_iff.2 fun _ _ => by simp
  have w12 : 4 * i + 4 * i ≤ 140737488351232 := by omega
  have w13 : strEq (8 * i) (fun k => asN (R.mm k)) (4 * i + 4 * i) (fun k => bif decide (k < 4 * i) then asN (dV (lV l) k) else asN (dV (lV l) (k - 4 * i))) = true := by
    unfold strEq
    rw [show 4 * i + 4 * i = 8 * i by omega, Nat.beq_refl, cond_true, allN_iff]
    intro k hk
    rw [decide_eq_true_eq]
    show byt (asN (R.mm k)) = byt (bif decide (k < 4 * i) then asN (dV (lV l) k) else asN (dV (lV l) (k - 4 * i)))
    rw [e4 k hk]
    by_cases hk4 : k < 4 * i
    · rw [if_pos hk4, decide_eq_true hk4, cond_true]
    · rw [if_neg hk4, if_pos (by omega), decide_eq_false hk4, cond_false]
  simp only [h, w4, w7, w8, w9, w10, w11, w12, w13, e1, e2, e3, copP, and_self, pk_or, pk_and, pk_t, decide_true, decide_false, cond_true, cond_false, allN_true, Nat.le_refl, Int.toNat_natCast, Nat.beq_refl, pk_and, pk_or, Bool.not_true, Bool.not_false, not_true_eq_false, not_false_eq_true, Bool.and_true, Bool.true_and, Bool.and_self, ge_iff_le, Int.le_refl, if_true, if_false, reduceCtorEq, eq_self, BEq.rfl]
  refine loopT mix hT (fun j : Nat => sCo2 i l (copF (4 * i : Nat)) (dV (lV l)) (4 * i : Nat) (8 * i : Nat) R j (4 * i)) (fun j => j ≤ i) (fun j => i - j) 0 (Nat.zero_le _) (weakX ⟨rfl, rfl, rfl, rfl, rfl, trivial⟩ ⟨by simp only [e1, e2, e3]; rfl, rfl, rfl, trivial⟩ (Nat.le_refl _)) ?_
  intro j hj
  refine Eq.mpr (r_co3 _ _ i l _ _ _ _ j _ _ _) ?_
  by_cases hlt : (j : Int) < i
  · obtain ⟨f1, f2, f3⟩ := e5 j (by omega)
    have v1 : IntKind.i64.wrap ((j : Int) + 1) = ((j + 1 : Nat) : Int) := wrap_i64 (by omega) (by omega)
    have v2 : IntKind.i64.wrap (4 * (j : Int)) = 4 * (j : Int) := wrap_i64 (by omega) (by omega)
    have v3 : IntKind.i64.wrap (((4 * i : Nat) : Int) + 4 * (j : Int)) = 4 * (i : Int) + 4 * (j : Int) := by rw [wrap_i64 (by omega) (by omega)]; omega
    have v4 : lV l j = asN (l j) := rfl
    simp only [hlt, v1, v2, v3, v4, f1, f2, f3, e1, e2, e3, pk_or, pk_and, pk_t, decide_true, decide_false, cond_true, cond_false, allN_true, Nat.le_refl, Int.toNat_natCast, Nat.beq_refl, pk_and, pk_or, Bool.not_true, Bool.not_false, not_true_eq_false, not_false_eq_true, Bool.and_true, Bool.true_and, Bool.and_self, ge_iff_le, Int.le_refl, if_true, if_false, reduceCtorEq, eq_self, BEq.rfl]
    exact ⟨j + 1, by omega, weakT ⟨le_is rfl, le_is rfl, le_is rfl, le_is rfl, le_is rfl, trivial⟩ ⟨by simp only [e1, e2, e3]; rfl, rfl, rfl, trivial⟩ (Nat.le_refl _) rfl, by omega⟩
  · simp only [hlt, pk_or, pk_and, pk_t, decide_true, decide_false, cond_true, cond_false, allN_true, Nat.le_refl, Int.toNat_natCast, Nat.beq_refl, pk_and, pk_or, Bool.not_true, Bool.not_false, not_true_eq_false, not_false_eq_true, Bool.and_true, Bool.true_and, Bool.and_self, ge_iff_le, Int.le_refl, if_true, if_false, reduceCtorEq, eq_self, BEq.rfl]
end Go.Proofs.Ytmfbaglhmiadjaa
namespace Go.Proofs.Ytmfbaglhmiadjaa.seqCopies
open Go.Ra Go.ChangeShapes Go.WideShapes Go.ChangeAt Go.RowKit
open Go.ChangeMaps (open_string shut_string)
theorem own : ownKnob Try.prog.godebug = none := by kernel_rfl
def Ts : List Ty := [.slice 1 4 (.int .u32)]
theorem law (xs : List AV) (h : Ty.hasL Ts xs) : Pure Try.prog 6 xs (.sc (.bool true)) := by
  have h0 := h
  simp only [Ts, Ty.hasL] at h0
  obtain ⟨a, _, rfl, ha, rfl⟩ := h0
  refine lawX h ?_
  exact co_pure (l := o_el (.int .u32) a) (fun i hi => has_u32 (has_at (T := .int .u32) (es := 1) (bytes := 4) ha hi))
set_option maxRecDepth 100000 in
theorem lifted (os : Os) (started : os.Started) (H : Type) (enc : TypeId × Value → H) :
    ReturnsInHanded {} Try.checked os 6 .any (Rows.seqCopiesSpec.pre6 enc Try.prog Try.f6 Rows.seqCopiesRow.domain false) (Rows.seqCopiesSpec.post enc Try.prog Try.f6 false true false false) := by
  refine returnsInHanded_of_change_sized (C := Try.checked) own started (by kernel_rfl) Try.func6
    (ChangeSpec.witness6 (enc := enc) (C := Try.checked) false ⟨#[], #[.slice none 0 0], []⟩ 8 (by kernel_rfl) (by kernel_rfl) (by kernel_rfl) (by kernel_rfl)) ?_
  intro W base args ds gs before hval hW hcnd hsz _
  refine law_post (s := Rows.seqCopiesSpec) (n := 60) (Ts := Ts) (ts := [49]) (tb := 4) (by kernel_rfl) rfl rfl Try.underlying4 rfl (by kernel_rfl) (by kernel_rfl) (fun ds hds => ?_) law W base args ds gs before hval hW hsz
  match ds, hds with
  | [d1], _ => exact ⟨rfl, rfl, rfl⟩
theorem over : Rows.seqCopiesRow.holds Try.pinned (OpenSpec.ofChange Rows.seqCopiesSpec) :=
  OpenClaim.holds_of_wide 6 Try.f6 rfl rfl rfl rfl rfl rfl rfl ⟨rfl, rfl, rfl, rfl, rfl⟩ rfl rfl rfl rfl rfl (by kernel_rfl) Try.func6 (by kernel_rfl)
    (of_decide_eq_true (by kernel_rfl)) (by unfold Func.isWrapper; first | (rw [if_pos (by decide +kernel)]; kernel_rfl) | (rw [if_neg (by decide +kernel)]; exact ⟨rfl, rfl⟩))
    (fun os started H enc _ => lifted os started H enc)
theorem proved : Rows.SeqCopiesSaid := over
end Go.Proofs.Ytmfbaglhmiadjaa.seqCopies
namespace Go.Proofs.Ytmfbaglhmiadjaa
/-- The row, under a short name, for the claim. -/
theorem seqCopies_holds : Rows.SeqCopiesSaid := seqCopies.proved
end Go.Proofs.Ytmfbaglhmiadjaa
#print axioms Go.Proofs.Ytmfbaglhmiadjaa.seqCopies_holds
