/- Memory is what it was at first, with all writes, one by one. -/
import Derived.Test.YtmfbaglhmiadjaaRows
import Derived.WalkKit
import Derived.ProofKit
import Derived.OpenShut
import Derived.ShutString
import Derived.ChangeOld
import Derived.Below
import Derived.SizedLaws
import Derived.Test.YtmfbaglhmiadjaaPk6

namespace Go.Proofs.Ytmfbaglhmiadjaa
open Go.Ra
set_option linter.unusedVariables false
set_option linter.unusedSimpArgs false
def TWr (P : PV) (R : RV) (fuel : Int) : Tab := mkT qq (cl_law6 ++ cl_law4 ++ cl_slices) [(10, alvSp), (13, runSpM P R fuel), (14, firstSp), (12, prSp), (15, chkSp), (16, mskSp), (17, stoSp)] gl_slices
def sWr (P : PV) (R : RV) (g : Nat → XV) (i : Nat) : XSt := ⟨[(8, .int .i64 i), (7, .row false 1 R.nm (o_by g)), (6, .ptr 1 [] 0), (4, .bool false), (2, .ptr 0 [] 0)], [(1, some (R.xv false false)), (0, some (P.xv false false))], 2⟩
theorem r_wr (P : PV) (R : RV) (fuel : Int) (r : AV) : (goS Try.prog (TWr P R fuel) [(.tmp 4)] r (.run c_law6_SeqWrites) [] ⟨envX 0 [P.xv false false, .int .i64 fuel], [], 0⟩) = (bif bif decide ((↑(PV.n P) : Int) ≤ 200) then decide ((↑(PV.n P) : Int) ≤ 200) else true then bif bif !bif decide ((↑(PV.n P) : Int) ≤ 200) then decide ((↑(PV.m
 P) : Int) ≤ 500) else false then true else !!bif decide ((↑(PV.n P) : Int) ≤ 200) then decide ((↑(PV.m P) : Int) ≤ 500) else false then bif bif decide (PV.n P ≤
 4611686018427387904) then true else !!bif !bif decide ((↑(PV.n P) : Int) ≤ 200) then decide ((↑(PV.m P) : Int) ≤ 500) else false then true else decide (PV.sz P >
 500) then bif bif allN (fun i => true) (PV.n P) then true else !!bif !bif decide ((↑(PV.n P) : Int) ≤ 200) then decide ((↑(PV.m P) : Int) ≤ 500) else false then
 true else decide (PV.sz P > 500) then bif bif decide (PV.m P ≤ 4611686018427387904) then true else !!bif !bif decide ((↑(PV.n P) : Int) ≤ 200) then decide ((↑(PV.m
 P) : Int) ≤ 500) else false then true else decide (PV.sz P > 500) then bif bif bif !bif decide ((↑(PV.n P) : Int) ≤ 200) then decide ((↑(PV.m P) : Int) ≤ 500) else
 false then true else decide (PV.sz P > 500) then true else !bif !bif decide ((↑(PV.n P) : Int) ≤ 200) then decide ((↑(PV.m P) : Int) ≤ 500) else false then true
 else decide (PV.sz P > 500) then bif bif bif bif !bif decide ((↑(PV.n P) : Int) ≤ 200) then decide ((↑(PV.m P) : Int) ≤ 500) else false then true else decide (PV.sz
 P > 500) then true else !prB (PV.n P) (o_in fun a => PV.f P a) (PV.sz P) (PV.m P) then true else !bif bif !bif decide ((↑(PV.n P) : Int) ≤ 200) then decide ((↑(PV.m
 P) : Int) ≤ 500) else false then true else decide (PV.sz P > 500) then true else !prB (PV.n P) (o_in fun a => PV.f P a) (PV.sz P) (PV.m P) then bif bif bif bif bif
 !bif decide ((↑(PV.n P) : Int) ≤ 200) then decide ((↑(PV.m P) : Int) ≤ 500) else false then true else decide (PV.sz P > 500) then true else !prB (PV.n P) (o_in fun
 a => PV.f P a) (PV.sz P) (PV.m P) then true else decide (fuel < 0) then true else !bif bif bif !bif decide ((↑(PV.n P) : Int) ≤ 200) then decide ((↑(PV.m P) : Int)
 ≤ 500) else false then true else decide (PV.sz P > 500) then true else !prB (PV.n P) (o_in fun a => PV.f P a) (PV.sz P) (PV.m P) then true else decide (fuel < 0)
 then bif bif bif bif bif !bif decide ((↑(PV.n P) : Int) ≤ 200) then decide ((↑(PV.m P) : Int) ≤ 500) else false then true else decide (PV.sz P > 500) then true else
 !prB (PV.n P) (o_in fun a => PV.f P a) (PV.sz P) (PV.m P) then true else decide (fuel < 0) then true else decide (fuel > 300) then con (.bool true) = r else bif
 decide (PV.n (PV.mk (PV.n P) (o_in (PV.f P)) (PV.sz P) (PV.m P) (o_by (PV.d P))) ≤ 4611686018427387904) then bif allN (fun i => true) (PV.n (PV.mk (PV.n P) (o_in
 (PV.f P)) (PV.sz P) (PV.m P) (o_by (PV.d P)))) then bif decide (PV.m (PV.mk (PV.n P) (o_in (PV.f P)) (PV.sz P) (PV.m P) (o_by (PV.d P))) ≤ 4611686018427387904) then
 bif allN (fun i => true) (PV.m (PV.mk (PV.n P) (o_in (PV.f P)) (PV.sz P) (PV.m P) (o_by (PV.d P)))) then bif rngB (PV.m (PV.mk (PV.n P) (o_in (PV.f P)) (PV.sz P)
 (PV.m P) (o_by (PV.d P)))) fun a => .int .u8 (asN (PV.d P a)) then bif decide (fuel = fuel) then bif eqPV (PV.mk (PV.n P) (o_in (PV.f P)) (PV.sz P) (PV.m P) (o_by
 (PV.d P))) P then bif decide (PV.n (PV.mk (PV.n P) (o_in (PV.f P)) (PV.sz P) (PV.m P) (o_by (PV.d P))) ≤ 4611686018427387904) then bif allN (fun i => true) (PV.n
 (PV.mk (PV.n P) (o_in (PV.f P)) (PV.sz P) (PV.m P) (o_by (PV.d P)))) then bif decide (PV.m (PV.mk (PV.n P) (o_in (PV.f P)) (PV.sz P) (PV.m P) (o_by (PV.d P))) ≤
 4611686018427387904) then bif allN (fun i => true) (PV.m (PV.mk (PV.n P) (o_in (PV.f P)) (PV.sz P) (PV.m P) (o_by (PV.d P)))) then bif rngB (PV.m (PV.mk (PV.n P)
 (o_in (PV.f P)) (PV.sz P) (PV.m P) (o_by (PV.d P)))) fun a => .int .u8 (asN (PV.d P a)) then bif decide (0 ≤ PV.sz (PV.mk (PV.n P) (o_in (PV.f P)) (PV.sz P) (PV.m
 P) (o_by (PV.d P)))) then bif decide (PV.sz (PV.mk (PV.n P) (o_in (PV.f P)) (PV.sz P) (PV.m P) (o_by (PV.d P))) ≤ 65536) then LoopAt (Ok Try.prog (Tab.q (TWr P R
 fuel))) c_law6_SeqWrites_l1 (XSt.mk [(8, .int .i64 0), (7, .row false 1 (Int.toNat (PV.sz (PV.mk (PV.n P) (o_in (PV.f P)) (PV.sz P) (PV.m P) (o_by (PV.d P))))) fun
 i => .int .u8 (bif decide (i < PV.m (PV.mk (PV.n P) (o_in (PV.f P)) (PV.sz P) (PV.m P) (o_by (PV.d P)))) then asN (PV.d P i) else (0 : Int))), (6, .ptr 1 [] 0),
 (4, .bool false), (2, .ptr 0 [] 0)] [(1, some (.agg 23 [.int .i64 (RV.en R), .agg 3 [.int .i64 (RV.tk R), .int .i64 (RV.ts R), .int .i64 (RV.tp R)], .int .i64 (RV.st
 R), .tab 16 1 (o_rg fun a => RV.rg R a), .row false 1 (RV.nm R) (o_by fun a => RV.mm R a), .row false 3 (RV.nw R) (o_wr fun a => RV.wf R a)])), (0, some (.agg 3
 [.row false 5 (PV.n P) (o_in fun a => PV.f P a), .int .i64 (PV.sz P), .row false 1 (PV.m P) (o_by fun a => PV.d P a)]))] 2) [Frm.blk 0, Frm.seq c_law6_SeqWrites_p1]
 (finR [AR.tmp 4] r) else False else False else False else False else False else False else False else False else False else False else False else False else False
 else False else False else False else False else False else False else False else False
else False) := by kernel_rfl
theorem r_wr2 (P : PV) (R : RV) (fuel : Int) (r : AV) (g : Nat → XV) (i : Nat) (A : XSt → Prop) : (goS Try.prog (TWr P R fuel) [(.tmp 4)] r (.run c_law6_SeqWrites_l1) [.lp c_law6_SeqWrites_l1 A, .blk 0, .seq c_law6_SeqWrites_p1] (sWr P R g i)) = (bif decide ((↑i : Int) < (↑(RV.nw R) : Int)) then bif decide ((↑i : Int) < (↑(RV.nw R) : Int)) then bif bif decide (asN (fld 0 (RV.wf R i)) < 0) then true else
 !decide (asN (fld 0 (RV.wf R i)) < 0) then bif bif bif decide (asN (fld 0 (RV.wf R i)) < 0) then true else decide ¬chkI (asN (fld 1 (RV.wf R i))) (IntKind.wrap .u32
 (asN (fld 0 (RV.wf R i)))) (PV.sz P) = 0 then true else !bif decide (asN (fld 0 (RV.wf R i)) < 0) then true else decide ¬chkI (asN (fld 1 (RV.wf R i))) (IntKind.wrap
 .u32 (asN (fld 0 (RV.wf R i)))) (PV.sz P) = 0 then bif bif bif decide (asN (fld 0 (RV.wf R i)) < 0) then true else decide ¬chkI (asN (fld 1 (RV.wf R i))) (IntKind.wrap
 .u32 (asN (fld 0 (RV.wf R i)))) (PV.sz P) = 0 then true else decide ¬mskI (asN (fld 2 (RV.wf R i))) (asN (fld 1 (RV.wf R i))) = asN (fld 2 (RV.wf R i)) then con
 (.bool false) = r else bif decide (RV.nm R ≤ 1099511627776) then bif allN (fun i => true) (RV.nm R) then A (XSt.mk [(8, .int .i64 (IntKind.wrap .i64 ((↑i : Int)
 + (1 : Int)))), (7, .row false 1 (RV.nm R) (o_sto (okW (RV.nm R) (asN (fld 0 (RV.wf R i))) (asN (fld 1 (RV.wf R i)))) (o_by fun a => g a) (Int.toNat (asN (fld 0
 (RV.wf R i)))) (Int.toNat (asN (fld 1 (RV.wf R i)))) (asN (fld 2 (RV.wf R i))))), (6, .ptr 1 [] 0), (4, .bool false), (2, .ptr 0 [] 0)] [(2, some (.agg 3 [.int .i64
 (asN (fld 0 (RV.wf R i))), .int .i64 (asN (fld 1 (RV.wf R i))), .int .u32 (asN (fld 2 (RV.wf R i)))])), (1, some (.agg 23 [.int .i64 (RV.en R), .agg 3 [.int .i64
 (RV.tk R), .int .i64 (RV.ts R), .int .i64 (RV.tp R)], .int .i64 (RV.st R), .tab 16 1 (o_rg fun a => RV.rg R a), .row false 1 (RV.nm R) (o_by fun a => RV.mm R a),
 .row false 3 (RV.nw R) (o_wr fun a => RV.wf R a)])), (0, some (.agg 3 [.row false 5 (PV.n P) (o_in fun a => PV.f P a), .int .i64 (PV.sz P), .row false 1 (PV.m P)
 (o_by fun a => PV.d P a)]))] 3) else False else False else False else False else False
else bif allN (fun i => true) (RV.nm R) then bif allN (fun i => true) (RV.nm
 R) then bif bif strEq (RV.nm R) (fun i => asN (g i)) (RV.nm R) fun i => asN (RV.mm R i) then strEq (RV.nm R) (fun i => asN (g i)) (RV.nm R) fun i => asN (RV.mm R
 i) else true then con (.bool (bif strEq (RV.nm R) (fun i => asN (g i)) (RV.nm R) fun i => asN (RV.mm R i) then decide (asN (RV.rg R 0) = 0) else false)) = r else
 False else False else False) := by kernel_rfl
/-- Memory behind so many writes. -/
def maW (wf m0 : Nat → XV) : Nat → Nat → XV
  | 0 => m0
  | i + 1 => o_sto true (maW wf m0 i) (asN (fld 0 (wf i))).toNat (asN (fld 1 (wf i))).toNat (asN (fld 2 (wf i)))
theorem sto_eq {f g : Nat → XV} {c : Bool} {a s i : Nat} {v : Int} (h : asN (f i) = asN (g i)) : o_sto c f a s v i = o_sto c g a s v i := by
  simp only [o_sto, h]
theorem maW_same {wf wf' m0 : Nat → XV} : ∀ k, (∀ i, i < k → asN (fld 0 (wf i)) = asN (fld 0 (wf' i)) ∧ asN (fld 1 (wf i)) = asN (fld 1 (wf' i)) ∧ asN (fld 2 (wf i)) = asN (fld 2 (wf' i))) → maW wf m0 k = maW wf' m0 k
  | 0, _ => rfl
  | k + 1, h => by
    obtain ⟨h1, h2, h3⟩ := h k (Nat.lt_succ_self k)
    simp only [maW, h1, h2, h3, maW_same k fun i hi => h i (Nat.lt_succ_of_lt hi)]
/-- A write that may be. -/
def wOK (n : Nat) (w : XV) : Prop := okW n (asN (fld 0 w)) (asN (fld 1 w)) = true ∧ mskI (asN (fld 2 w)) (asN (fld 1 w)) = asN (fld 2 w)
structure RV.told (r : RV) (m0 : Nat → XV) : Prop where
  ok : ∀ i, i < r.nw → wOK r.nm (r.wf i)
  mem : ∀ i, i < r.nm → asN (r.mm i) = asN (maW r.wf m0 r.nw i)
theorem apw_old {n i : Nat} {wf : Nat → XV} {a s v : Int} (h : i < n) : asN (fld 0 (o_apw n wf a s v i)) = asN (fld 0 (wf i)) ∧ asN (fld 1 (o_apw n wf a s v i)) = asN (fld 1 (wf i)) ∧ asN (fld 2 (o_apw n wf a s v i)) = asN (fld 2 (wf i)) := by
  unfold o_apw
  rw [decide_eq_true h, cond_true]
  exact ⟨rfl, rfl, rfl⟩
theorem apw_new {n : Nat} {wf : Nat → XV} {a s v : Int} : o_apw n wf a s v n = .agg 3 [.int .i64 a, .int .i64 s, .int .u32 v] := by
  unfold o_apw
  rw [decide_eq_false (Nat.lt_irrefl n), cond_false]
theorem and_and {w k : Int} (h : ∃ j : Nat, j ≤ 32 ∧ k = 2 ^ j - 1) : bitsI .and .u32 (bitsI .and .u32 w k) k = bitsI .and .u32 w k := by
  obtain ⟨j, hj, rfl⟩ := h
  show IntKind.u32.wrap (((BitVec.ofInt 32 (IntKind.u32.wrap (((BitVec.ofInt 32 w) &&& (BitVec.ofInt 32 (2 ^ j - 1))).toNat : Int))) &&& (BitVec.ofInt 32 (2 ^ j - 1))).toNat : Int) = IntKind.u32.wrap (((BitVec.ofInt 32 w) &&& (BitVec.ofInt 32 (2 ^ j - 1))).toNat : Int)
  generalize BitVec.ofInt 32 (2 ^ j - 1) = b
  generalize BitVec.ofInt 32 w = c
  have e : BitVec.ofInt 32 (IntKind.u32.wrap ((c &&& b).toNat : Int)) = c &&& b := by
    rw [wU32]
    apply BitVec.eq_of_toNat_eq
    have := (c &&& b).isLt
    rw [BitVec.toNat_ofInt]
    omega
  rw [e, BitVec.and_assoc, BitVec.and_self]
theorem msk_msk {w s : Int} (hs : s = 1 ∨ s = 2 ∨ s = 4) : mskI (mskI w s) s = mskI w s := by
  rcases hs with rfl | rfl | rfl
  · exact and_and ⟨8, by decide, rfl⟩
  · exact and_and ⟨16, by decide, rfl⟩
  · rfl
theorem told_sto {r : RV} {m0 : Nat → XV} {a s w : Int} (h : r.told m0) (hok : okW r.nm a s = true) : (r.sto a s (mskI w s)).told m0 := by
  have hs := (okW_iff.1 hok).1
  refine ⟨fun i hi => ?_, fun i hi => ?_⟩
  · show wOK r.nm (o_apw r.nw r.wf a s (mskI w s) i)
    by_cases hin : i < r.nw
    · obtain ⟨e1, e2, e3⟩ := apw_old (a := a) (s := s) (v := mskI w s) (wf := r.wf) hin
      unfold wOK
      rw [e1, e2, e3]
      exact h.ok i hin
    · have : i = r.nw := by have : i < r.nw + 1 := hi; omega
      subst this
      rw [apw_new]
      exact ⟨hok, msk_msk hs⟩
  · show asN (o_sto (okW r.nm a s) r.mm a.toNat s.toNat (mskI w s) i) = asN (maW (o_apw r.nw r.wf a s (mskI w s)) m0 (r.nw + 1) i)
    simp only [maW, apw_new]
    rw [hok, maW_same (wf' := r.wf) r.nw fun i hi => apw_old hi]
    exact congrArg asN (sto_eq (h.mem i hi))
theorem go_told {p : PV} (hR : allR p.n p.f = true) {r : RV} {pc : Int} {m0 : Nat → XV} (h : r.told m0) : (goV p r pc).1.told m0 := by
  unfold goV
  split
  · exact ⟨h.ok, h.mem⟩
  · rename_i hpc
    have hrt := allR_iff.1 hR pc.toNat (by omega)
    generalize p.f pc.toNat = v at hrt ⊢
    unfold insV
    split
    · exact ⟨h.ok, h.mem⟩
    split
    · exact ⟨h.ok, h.mem⟩
    split
    · exact ⟨h.ok, h.mem⟩
    split
    · rename_i hf
      split
      · rename_i hc
        have ad : 0 ≤ adV v r ∧ adV v r ≤ 4294967295 := u32_rng _
        exact told_sto h (okW_iff.2 ⟨sz_store hf, ad.1, ad.2, hc⟩)
      · exact ⟨h.ok, h.mem⟩
    split
    · split <;> exact ⟨h.ok, h.mem⟩
    · split <;> exact ⟨h.ok, h.mem⟩
theorem iter_told {p : PV} (hR : allR p.n p.f = true) : ∀ k, (iterV p k).1.told (memV p)
  | 0 => ⟨fun i hi => absurd hi (Nat.not_lt_zero i), fun i hi => rfl⟩
  | k + 1 => by
    simp only [iterV]
    split
    · exact go_told hR (iter_told hR k)
    · exact iter_told hR k
theorem run_told {p : PV} {fuel : Int} (hp : p.good) (hR : p.right = true) : (runW p fuel).told (memV p) ∧ ((runW p fuel).nm : Int) = p.sz ∧ asN ((runW p fuel).rg 0) = 0 ∧ (runW p fuel).ok := by
  obtain ⟨f0, f1⟩ := fuel_rng fuel
  obtain ⟨_, _, h0, _, _, hall, _⟩ := pr_all hR
  have h1 := iter_told hall (fuelI fuel).toNat
  have h2 := iter_nm (p := p) (fuelI fuel).toNat
  have h3 := iter_r0 hall (fuelI fuel).toNat
  have h4 := (iter_good hp hR (fuelI fuel).toNat).ok (by omega)
  unfold runW
  rw [if_pos hR]
  unfold runV
  split
  · exact ⟨⟨h1.ok, h1.mem⟩, by show ((iterV p (fuelI fuel).toNat).1.nm : Int) = p.sz; rw [h2]; omega, h3, ⟨h4.nm, h4.nw, h4.rg, h4.mm⟩⟩
  · exact ⟨h1, by rw [h2]; omega, h3, h4⟩
theorem strEq_of {n : Nat} {f g : Nat → Int} (h : ∀ i, i < n → f i = g i) : strEq n f n g = true := by
  unfold strEq
  rw [Nat.beq_refl, cond_true, allN_iff]
  intro i hi
  rw [h i hi]
  simp
theorem TWrok {P : PV} {fuel : Int} (hP : P.good) : TabOk Try.prog (TWr P (runW P fuel) fuel) := mkT_ok ((clok_law6.app clok_law4).app clok_slices) ⟨sp_alv, sp_runM hP rfl, sp_first, sp_pr2, sp_check2, sp_mask, sp_rsto, trivial⟩ glok_slices
theorem wr_pure {P : PV} {fuel : Int} (hP : P.good) : Pure Try.prog 3 (cons [P.xv false false, .int .i64 fuel]) (con (.bool true)) := by
  refine pureS mix (TWrok (fuel := fuel) hP) t_law6_SeqWrites (Nat.le_of_ble_eq_true rfl) ?_
  refine Eq.mpr (r_wr P _ fuel _) ?_
  have hn := hP.n
  have hm := hP.m
  have hd : rngB P.m (fun a => .int .u8 (asN (P.d a))) = true := rng_by hP.d
  have hw := eqPV_w P
  by_cases c1 : ((P.n : Nat) : Int) ≤ 200
  case neg => simp only [c1, hn, hm, pk_or, pk_and, pk_t, decide_true, decide_false, cond_true, cond_false, allN_true, Nat.le_refl, Int.toNat_natCast, Nat.beq_refl, pk_and, pk_or, Bool.not_true, Bool.not_false, not_true_eq_false, not_false_eq_true, Bool.and_true, Bool.true_and, Bool.and_self, ge_iff_le, Int.le_refl, if_true, if_false, reduceCtorEq, eq_self, BEq.rfl]
  by_cases c2 : ((P.m : Nat) : Int) ≤ 500
  case neg => simp only [c1, c2, hn, hm, pk_or, pk_and, pk_t, decide_true, decide_false, cond_true, cond_false, allN_true, Nat.le_refl, Int.toNat_natCast, Nat.beq_refl, pk_and, pk_or, Bool.not_true, Bool.not_false, not_true_eq_false, not_false_eq_true, Bool.and_true, Bool.true_and, Bool.and_self, ge_iff_le, Int.le_refl, if_true, if_false, reduceCtorEq, eq_self, BEq.rfl]
  by_cases c3 : P.sz > 500
  · simp only [c1, c2, c3, hn, hm, pk_or, pk_and, pk_t, decide_true, decide_false, cond_true, cond_false, allN_true, Nat.le_refl, Int.toNat_natCast, Nat.beq_refl, pk_and, pk_or, Bool.not_true, Bool.not_false, not_true_eq_false, not_false_eq_true, Bool.and_true, Bool.true_and, Bool.and_self, ge_iff_le, Int.le_refl, if_true, if_false, reduceCtorEq, eq_self, BEq.rfl]
  rcases Bool.eq_false_or_eq_true (prB P.n P.f P.sz P.m) with c4 | c4
  case inr => simp only [c1, c2, c3, c4, pr_in, hn, hm, pk_or, pk_and, pk_t, decide_true, decide_false, cond_true, cond_false, allN_true, Nat.le_refl, Int.toNat_natCast, Nat.beq_refl, pk_and, pk_or, Bool.not_true, Bool.not_false, not_true_eq_false, not_false_eq_true, Bool.and_true, Bool.true_and, Bool.and_self, ge_iff_le, Int.le_refl, if_true, if_false, reduceCtorEq, eq_self, BEq.rfl]
  by_cases c5 : fuel < 0
  · simp only [c1, c2, c3, c4, c5, pr_in, hn, hm, pk_or, pk_and, pk_t, decide_true, decide_false, cond_true, cond_false, allN_true, Nat.le_refl, Int.toNat_natCast, Nat.beq_refl, pk_and, pk_or, Bool.not_true, Bool.not_false, not_true_eq_false, not_false_eq_true, Bool.and_true, Bool.true_and, Bool.and_self, ge_iff_le, Int.le_refl, if_true, if_false, reduceCtorEq, eq_self, BEq.rfl]
  by_cases c6 : fuel > 300
  · simp only [c1, c2, c3, c4, c5, c6, pr_in, hn, hm, pk_or, pk_and, pk_t, decide_true, decide_false, cond_true, cond_false, allN_true, Nat.le_refl, Int.toNat_natCast, Nat.beq_refl, pk_and, pk_or, Bool.not_true, Bool.not_false, not_true_eq_false, not_false_eq_true, Bool.and_true, Bool.true_and, Bool.and_self, ge_iff_le, Int.le_refl, if_true, if_false, reduceCtorEq, eq_self, BEq.rfl]
  have hR : P.right = true := c4
  obtain ⟨_, _, s0, s1, _⟩ := pr_all hR
  simp only [c1, c2, c3, c4, c5, c6, pr_in, hn, hm, hd, hw, s0, s1, pk_or, pk_and, pk_t, decide_true, decide_false, cond_true, cond_false, allN_true, Nat.le_refl, Int.toNat_natCast, Nat.beq_refl, pk_and, pk_or, Bool.not_true, Bool.not_false, not_true_eq_false, not_false_eq_true, Bool.and_true, Bool.true_and, Bool.and_self, ge_iff_le, Int.le_refl, if_true, if_false, reduceCtorEq, eq_self, BEq.rfl]
  obtain ⟨g1, g2, g3, g4⟩ := run_told (fuel := fuel) hP hR
  have hnm : P.sz.toNat = (runW P fuel).nm := by omega
  refine loopT mix (TWrok (fuel := fuel) hP) (fun i : Nat => sWr P (runW P fuel) (maW (runW P fuel).wf (memV P) i) i) (fun i => i ≤ (runW P fuel).nw) (fun i => (runW P fuel).nw - i) 0 (Nat.zero_le _) (weakN ⟨le_is rfl, le_row hnm (.inl rfl) (fun i hi => rfl), le_is rfl, le_is rfl, le_is rfl, trivial⟩ ⟨rfl, rfl, trivial⟩ (Nat.le_refl _)) ?_
  intro i hi
  refine Eq.mpr (r_wr2 P _ fuel _ _ i _) ?_
  have hnw := g4.nw
  have hnm2 := g4.nm
  by_cases hlt : i < (runW P fuel).nw
  · have d1 : (i : Int) < (((runW P fuel).nw : Nat) : Int) := by omega
    have w1 : IntKind.i64.wrap ((i : Int) + 1) = ((i + 1 : Nat) : Int) := wrap_i64 (by omega) (by omega)
    obtain ⟨o1, o2⟩ := g1.ok i hlt
    obtain ⟨q1, q2, q3, q4⟩ := okW_iff.1 o1
    have d2 : ¬ asN (fld 0 ((runW P fuel).wf i)) < 0 := by omega
    have w2 : IntKind.u32.wrap (asN (fld 0 ((runW P fuel).wf i))) = asN (fld 0 ((runW P fuel).wf i)) := wrap_u32 q2 q3
    rw [g2] at q4
    simp only [d1, d2, w1, w2, q4, o1, o2, hnm2, pk_or, pk_and, pk_t, decide_true, decide_false, cond_true, cond_false, allN_true, Nat.le_refl, Int.toNat_natCast, Nat.beq_refl, pk_and, pk_or, Bool.not_true, Bool.not_false, not_true_eq_false, not_false_eq_true, Bool.and_true, Bool.true_and, Bool.and_self, ge_iff_le, Int.le_refl, if_true, if_false, reduceCtorEq, eq_self, BEq.rfl]
    refine ⟨i + 1, hlt, weakT ⟨le_is rfl, le_row rfl (.inl rfl) (fun j hj => ?_), le_is rfl, le_is rfl, le_is rfl, trivial⟩ ⟨rfl, rfl, trivial⟩ (Nat.le_refl _) rfl, by omega⟩
    rfl
  · have d1 : ¬ (i : Int) < (((runW P fuel).nw : Nat) : Int) := by omega
    have hin : i = (runW P fuel).nw := by omega
    have e1 : strEq (runW P fuel).nm (fun j => asN (maW (runW P fuel).wf (memV P) i j)) (runW P fuel).nm (fun j => asN ((runW P fuel).mm j)) = true := strEq_of fun j hj => by rw [hin]; exact (g1.mem j hj).symm
    simp only [d1, e1, g3, pk_or, pk_and, pk_t, decide_true, decide_false, cond_true, cond_false, allN_true, Nat.le_refl, Int.toNat_natCast, Nat.beq_refl, pk_and, pk_or, Bool.not_true, Bool.not_false, not_true_eq_false, not_false_eq_true, Bool.and_true, Bool.true_and, Bool.and_self, ge_iff_le, Int.le_refl, if_true, if_false, reduceCtorEq, eq_self, BEq.rfl]
abbrev tIn : Ty := .agg 5 [.int .i64, .int .i64, .int .i64, .int .i64, .int .i64]
abbrev tPr : Ty := .agg 3 [.slice 5 40 tIn, .int .i64, .slice 1 1 (.int .u8)]
def pvOf (a : AV) : PV := ⟨avN (avAt a 0), o_el tIn (avAt a 0), avI (avAt a 1), avN (avAt a 2), o_el (.int .u8) (avAt a 2)⟩
theorem pvOf_eq (a : AV) : rd tPr a = (pvOf a).xv false false := rfl
theorem pvOf_good {a : AV} (h : tPr.has a) : (pvOf a).good := by
  simp only [tPr, Ty.has, Ty.hasL] at h
  obtain ⟨_, rfl, c, _, rfl, hc, s, _, rfl, hs, d, _, rfl, hd, rfl⟩ := h
  have h1 : avN c * 40 ≤ 140737488351232 := has_nat (T := tIn) (es := 5) hc
  have h2 : avN d * 1 ≤ 140737488351232 := has_nat (T := .int .u8) (es := 1) hd
  exact ⟨by show avN c ≤ _; omega, by show avN d ≤ _; omega, fun i hi => has_u8 (has_at (T := .int .u8) (es := 1) (bytes := 1) hd hi)⟩
end Go.Proofs.Ytmfbaglhmiadjaa
namespace Go.Proofs.Ytmfbaglhmiadjaa.seqWrites
open Go.Ra Go.ChangeShapes Go.WideShapes Go.ChangeAt Go.RowKit
open Go.ChangeMaps (open_string shut_string)
theorem own : ownKnob Try.prog.godebug = none := by kernel_rfl
def Ts : List Ty := [tPr, .int .i64]
theorem law (xs : List AV) (h : Ty.hasL Ts xs) : Pure Try.prog 3 xs (.sc (.bool true)) := by
  have h0 := h
  simp only [Ts, Ty.hasL] at h0
  obtain ⟨a, _, rfl, ha, b, _, rfl, _, rfl⟩ := h0
  refine lawX h ?_
  exact wr_pure (pvOf_good ha)
set_option maxRecDepth 100000 in
theorem lifted (os : Os) (started : os.Started) (H : Type) (enc : TypeId × Value → H) :
    ReturnsInHanded {} Try.checked os 3 .any (Rows.seqWritesSpec.pre6 enc Try.prog Try.f3 Rows.seqWritesRow.domain false) (Rows.seqWritesSpec.post enc Try.prog Try.f3 false true false false) := by
  refine returnsInHanded_of_change_sized (C := Try.checked) own started (by kernel_rfl) Try.func3
    (ChangeSpec.witness6 (enc := enc) (C := Try.checked) false ⟨#[], #[.agg #[.slice none 0 0, .int .i64 0, .slice none 0 0], .int .i64 0], []⟩ 8 (by kernel_rfl) (by kernel_rfl) (by kernel_rfl) (by kernel_rfl)) ?_
  intro W base args ds gs before hval hW hcnd hsz _
  refine law_post (s := Rows.seqWritesSpec) (n := 60) (Ts := Ts) (ts := [25, 3]) (tb := 4) (by kernel_rfl) rfl rfl Try.underlying4 rfl (by kernel_rfl) (by kernel_rfl) (fun ds hds => ?_) law W base args ds gs before hval hW hsz
  match ds, hds with
  | [d1, d2], _ => exact ⟨rfl, rfl, rfl⟩
theorem over : Rows.seqWritesRow.holds Try.pinned (OpenSpec.ofChange Rows.seqWritesSpec) :=
  OpenClaim.holds_of_wide 3 Try.f3 rfl rfl rfl rfl rfl rfl rfl ⟨rfl, rfl, rfl, rfl, rfl⟩ rfl rfl rfl rfl rfl (by kernel_rfl) Try.func3 (by kernel_rfl)
    (of_decide_eq_true (by kernel_rfl)) (by unfold Func.isWrapper; first | (rw [if_pos (by decide +kernel)]; kernel_rfl) | (rw [if_neg (by decide +kernel)]; exact ⟨rfl, rfl⟩))
    (fun os started H enc _ => lifted os started H enc)
theorem proved : Rows.SeqWritesSaid := over
end Go.Proofs.Ytmfbaglhmiadjaa.seqWrites
namespace Go.Proofs.Ytmfbaglhmiadjaa
/-- The row, under a short name, for the claim. -/
theorem seqWrites_holds : Rows.SeqWritesSaid := seqWrites.proved
end Go.Proofs.Ytmfbaglhmiadjaa
#print axioms Go.Proofs.Ytmfbaglhmiadjaa.seqWrites_holds
