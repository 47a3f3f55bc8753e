/- The table of the queue of stores, and what shows that the layer is there. -/
import Derived.Test.YtihhfmdihhmbdaaSq1
namespace Go.Proofs.Ytihhfmdihhmbdaa
open Go.Ra
set_option linter.unusedVariables false
set_option linter.unusedSimpArgs false
def alvSp : List XV → Option (List Bool × XV)
  | [] => some ([], .bool true)
  | _ => none
def TQ3 : Tab := mkT qq (cl_law17 ++ cl_saq ++ cl_bytes ++ cl_ref1 ++ cl_ref15 ++ cl_slices) [(29, szSp), (20, szSp), (35, extSp), (36, extSp), (21, formSp), (33, ovlSp), (34, ovlSp)] gl_slices
def TQ : Tab := mkT qq (cl_law17 ++ cl_saq ++ cl_bytes ++ cl_ref1 ++ cl_ref15 ++ cl_slices) [(13, alvSp), (20, szSp), (21, formSp), (17, chkSp), (14, seaSp), (24, seaSp), (16, bypSp), (25, bypSp), (15, mskSp), (27, mskSp), (22, pusSp), (23, pusSp), (26, sameS 5 kEn u_eqEn), (18, stoSp), (19, loadSp)] gl_slices
def tEn : Ty := .agg 5 [.int .i64, .int .i64, .int .i64, .bool, .int .u32]
abbrev rL (m : AV) : XV := .row false 5 (avN m) (o_el tEn m)
theorem TQ3ok : TabOk Try.prog TQ3 := mkT_ok (((((clok_law17.app clok_saq).app clok_bytes).app clok_ref1).app clok_ref15).app clok_slices) ⟨sp_size1, sp_size2, sp_sign, sp_ext, sp_form, sp_ovl, sp_rovl, trivial⟩ glok_slices
theorem r_alv (K : XV → Prop) : (quietGo TQ3 80 (callI TQ3 80 20) 13 [] K) =
    (K (XV.bool true)) := by kernel_rfl
theorem pk3 (p z : Bool) : (bif (bif p then (bif !z then p else false) else true) then true else !!z) = true := by cases p <;> cases z <;> rfl
theorem pk4 (z : Bool) : (bif (bif !z then true else false) then true else !!z) = true := by cases z <;> rfl
theorem wrd_sto1 {f : Nat → XV} {A : Nat} {v : Int} : wrd (o_sto true f A 1 v) A 1 = v % 256 := by
  simp only [wrd, sto_in (f := f) (a := A) (v := v) (show 0 < 1 by omega) rfl, asN]
  omega
theorem wrd_sto2 {f : Nat → XV} {A : Nat} {v : Int} : wrd (o_sto true f A 2 v) A 2 = v % 65536 := by
  simp only [wrd, sto_in (f := f) (a := A) (v := v) (show 0 < 2 by omega) rfl, sto_in (f := f) (a := A) (v := v) (show 1 < 2 by omega) rfl, asN]
  omega
theorem wrd_sto4 {f : Nat → XV} {A : Nat} {v : Int} (h0 : 0 ≤ v) (h1 : v ≤ 4294967295) : wrd (o_sto true f A 4 v) A 4 = v := by
  simp only [wrd, sto_in (f := f) (a := A) (v := v) (show 0 < 4 by omega) rfl, sto_in (f := f) (a := A) (v := v) (show 1 < 4 by omega) rfl, sto_in (f := f) (a := A) (v := v) (show 2 < 4 by omega) rfl, sto_in (f := f) (a := A) (v := v) (show 3 < 4 by omega) rfl, asN]
  omega
theorem and_low {x : Int} (k : Nat) (hk : k < 32) (h0 : 0 ≤ x) (h1 : x ≤ 4294967295) : bitsI .and .u32 x ((2 ^ k - 1 : Nat) : Int) = x % ((2 ^ k : Nat) : Int) := by
  obtain ⟨m, rfl⟩ := Int.eq_ofNat_of_zero_le h0
  have hp : 2 ^ k < 4294967296 := by
    have := Nat.pow_lt_pow_right (a := 2) (by omega) hk
    omega
  have hq : 0 < 2 ^ k := Nat.two_pow_pos k
  have h3 : m &&& (2 ^ k - 1) = m % 2 ^ k := Nat.and_two_pow_sub_one_eq_mod m k
  have h5 : m % 2 ^ k < 2 ^ k := Nat.mod_lt _ hq
  rw [← Int.natCast_emod]
  generalize 2 ^ k = d at *
  show IntKind.u32.wrap (((BitVec.ofInt 32 (m : Int)) &&& (BitVec.ofInt 32 ((d - 1 : Nat) : Int))).toNat : Int) = _
  have e1 : (BitVec.ofInt 32 (m : Int)).toNat = m := by rw [BitVec.toNat_ofInt]; omega
  have e2 : (BitVec.ofInt 32 ((d - 1 : Nat) : Int)).toNat = d - 1 := by rw [BitVec.toNat_ofInt]; omega
  rw [BitVec.toNat_and, e1, e2, h3, wU32]
  omega
theorem msk1 {v : Int} (h0 : 0 ≤ v) (h1 : v ≤ 4294967295) : mskI v 1 = v % 256 := by
  unfold mskI; rw [if_pos rfl]; exact and_low 8 (by omega) h0 h1
theorem msk2 {v : Int} (h0 : 0 ≤ v) (h1 : v ≤ 4294967295) : mskI v 2 = v % 65536 := by
  unfold mskI; rw [if_neg (by omega), if_pos rfl]; exact and_low 16 (by omega) h0 h1
theorem msk4 {v : Int} : mskI v 4 = v := by
  unfold mskI; rw [if_neg (by omega), if_neg (by omega), if_pos rfl]
theorem bit1 {v : Int} (h0 : 0 ≤ v) (h1 : v ≤ 4294967295) : bitsI .and .u32 v 1 = v % 2 := and_low 1 (by omega) h0 h1
theorem rng_sto {n : Nat} {f : Nat → XV} {A s : Nat} {v : Int} (hb : rngB n f = true) : rngB n (o_sto true f A s v) = true := by
  rw [rngB_iff] at hb ⊢
  intro i hi
  have := hb i hi
  by_cases h : A ≤ i ∧ i < A + s
  · rw [sto_in (j := i - A) (by omega) (by omega)]
    simp only [asN]
    omega
  · rw [sto_out (by omega)]
    exact this
theorem alv17 : Pure Try.prog 13 (cons []) (con (.bool true)) := by
  refine pureX (u := 80) (k := 20) mix TQ3ok ?_
  rw [r_alv]
theorem sp_alv17 : SpOk Try.prog (13, alvSp) := fun args nd v h hn => by
  simp only [alvSp] at h
  split at h
  · simp only [Option.some.injEq, Prod.mk.injEq] at h
    obtain ⟨rfl, rfl⟩ := h
    exact alv17
  · cases h
theorem TQok : TabOk Try.prog TQ := mkT_ok (((((clok_law17.app clok_saq).app clok_bytes).app clok_ref1).app clok_ref15).app clok_slices) ⟨sp_alv17, sp_size2, sp_form, sp_check2, sp_sea, sp_rsea, sp_byp1, sp_byp2, sp_smask, sp_mask, sp_push1, sp_push2, sp_same17, sp_rsto, sp_rload, trivial⟩ glok_slices
end Go.Proofs.Ytihhfmdihhmbdaa
