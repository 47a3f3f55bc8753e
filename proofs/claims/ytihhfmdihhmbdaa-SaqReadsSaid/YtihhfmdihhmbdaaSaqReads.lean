/- What a load has of an entry is what it would read behind that store. -/
import Derived.Test.YtihhfmdihhmbdaaRows
import Derived.Test.YtihhfmdihhmbdaaSq2
import Derived.WalkKit
import Derived.ProofKit
import Derived.OpenShut
import Derived.ShutString
import Derived.ChangeOld
import Derived.Below
import Derived.SizedLaws
namespace Go.Proofs.Ytihhfmdihhmbdaa
open Go.Ra
set_option linter.unusedVariables false
set_option linter.unusedSimpArgs false
def tU8 : Ty := .int .u8
theorem r_reads (m : AV) (ea es et : Int) (k : Bool) (v op : Int) (K : XV → Prop) : (quietGo TQ 80 (callI TQ 80 20) 4 [.row false 1 (avN m) (o_el tU8 m), .agg 5 [.int .i64 ea, .int .i64 es, .int .i64 et, .bool k, .int .u32 v], .int .i64 op] K) =
    (bif bif decide ((↑(avN m) : Int) > (200 : Int)) then true else !decide ((↑(avN m) : Int) > (200 : Int)) then
  bif bif bif decide ((↑(avN m) : Int) > (200 : Int)) then true else decide (ea < (0 : Int)) then true else !bif decide ((↑(avN m) : Int) > (200 : Int)) then true else decide (ea < (0 : Int)) then
    bif bif bif decide ((↑(avN m) : Int) > (200 : Int)) then true else decide (ea < (0 : Int)) then true else decide (ea > (1000 : Int)) then K (XV.bool true)
    else
      bif decide ((0 : Int) ≤ mskI v es) then
        bif decide (mskI v es ≤ (4294967295 : Int)) then
          bif bif !bypB ea es k op ea then true else !!bypB ea es k op ea then
            bif bif !bypB ea es k op ea then true else decide ¬chkI es (IntKind.wrap IntKind.u32 ea) (↑(avN m) : Int) = (0 : Int) then K (XV.bool true)
            else
              bif decide (avN m ≤ (1099511627776 : Nat)) then
                bif allN (fun (i : Nat) => true) (avN m) then
                  bif decide (avN m ≤ (1099511627776 : Nat)) then
                    bif allN (fun (i : Nat) => true) (avN m) then
                      bif rngB (avN m) (o_sto (okW (avN m) ea es) (o_el tU8 m) (Int.toNat ea) (Int.toNat es) (mskI v es)) then
                        bif decide ((0 : Int) ≤ IntKind.wrap IntKind.u32 ea) then
                          bif decide (IntKind.wrap IntKind.u32 ea ≤ (4294967295 : Int)) then
                            K
                              (XV.bool
                                (decide
                                  ((bif bypB ea es k op ea then extI op (mskI v es) else (0 : Int)) =
                                    loadI (avN m) (o_sto (okW (avN m) ea es) (o_el tU8 m) (Int.toNat ea) (Int.toNat es) (mskI v es)) op (IntKind.wrap IntKind.u32 ea))))
                          else False
                        else False
                      else False
                    else False
                  else False
                else False
              else False
          else False
        else False
      else False
  else False
 else False) := by kernel_rfl
theorem reads_pure (m : AV) (ea es et : Int) (k : Bool) (v op : Int) (hb : rngB (avN m) (o_el tU8 m) = true) (h0 : 0 ≤ v) (h1 : v ≤ 4294967295) :
    Pure Try.prog 4 (cons [.row false 1 (avN m) (o_el tU8 m), .agg 5 [.int .i64 ea, .int .i64 es, .int .i64 et, .bool k, .int .u32 v], .int .i64 op]) (con (.bool true)) := by
  refine pureX (u := 80) (k := 20) mix TQok ?_
  rw [r_reads]
  simp only [pk_or, pk_and, pk3, pk4, cond_true]
  by_cases hn : ((avN m : Nat) : Int) > 200
  · simp [hn]
  by_cases g1 : ea < 0
  · simp [hn, g1]
  by_cases g2 : ea > 1000
  · simp [hn, g1, g2]
  have hmr : 0 ≤ mskI v es ∧ mskI v es ≤ 4294967295 := by
    by_cases e1 : es = 1
    · subst e1; rw [msk1 h0 h1]; omega
    by_cases e2 : es = 2
    · subst e2; rw [msk2 h0 h1]; omega
    by_cases e4 : es = 4
    · subst e4; rw [msk4]; omega
    unfold mskI
    rw [if_neg e1, if_neg e2, if_neg e4]
    omega
  have w1 : IntKind.u32.wrap ea = ea := wrap_u32 (by omega) (by omega)
  have c6 : avN m ≤ 1099511627776 := by omega
  have g1' : 0 ≤ ea := by omega
  have g3 : ea ≤ 4294967295 := by omega
  rw [w1]
  simp only [hn, g1, g1', g2, g3, hmr.1, hmr.2, c6, rng_sto hb, decide_true, decide_false, cond_true, cond_false, allN_true, Nat.le_refl, Int.toNat_natCast, Nat.beq_refl, pk_and, pk_or, Bool.not_true, Bool.not_false, not_true_eq_false, not_false_eq_true, Bool.and_true, Bool.true_and, Bool.and_self, ge_iff_le, Int.le_refl, if_true, if_false, reduceCtorEq, eq_self, BEq.rfl]
  by_cases hB : bypB ea es k op ea = true
  · by_cases hc : chkI es ea (avN m) = 0
    · have hB' := hB
      simp only [bypB, decide_eq_true_eq] at hB'
      obtain ⟨o1, o2, _, _, hs⟩ := hB'
      have hs' : es = 1 ∨ es = 2 ∨ es = 4 := by
        rw [hs]
        have ho : op = 26 ∨ op = 27 ∨ op = 28 ∨ op = 29 ∨ op = 30 := by omega
        rcases ho with rfl | rfl | rfl | rfl | rfl <;> decide
      have hok : okW (avN m) ea es = true := okW_iff.2 ⟨hs', g1', g3, hc⟩
      have hl : loadI (avN m) (o_sto true (o_el tU8 m) ea.toNat es.toNat (mskI v es)) op ea = extI op (mskI v es) := by
        unfold loadI
        rw [if_pos ⟨o1, o2, by rw [← hs]; exact hc⟩, ← hs]
        rcases hs' with rfl | rfl | rfl
        · rw [show (1 : Int).toNat = 1 from rfl, wrd_sto1, msk1 h0 h1]
          congr 1
          omega
        · rw [show (2 : Int).toNat = 2 from rfl, wrd_sto2, msk2 h0 h1]
          congr 1
          omega
        · rw [show (4 : Int).toNat = 4 from rfl, wrd_sto4 hmr.1 hmr.2]
      simp only [hB, hc, hok, hl, rng_sto hb, decide_true, decide_false, cond_true, cond_false, allN_true, Nat.le_refl, Int.toNat_natCast, Nat.beq_refl, pk_and, pk_or, Bool.not_true, Bool.not_false, not_true_eq_false, not_false_eq_true, Bool.and_true, Bool.true_and, Bool.and_self, ge_iff_le, Int.le_refl, if_true, if_false, reduceCtorEq, eq_self, BEq.rfl]
    · simp only [hB, hc, decide_true, decide_false, cond_true, cond_false, allN_true, Nat.le_refl, Int.toNat_natCast, Nat.beq_refl, pk_and, pk_or, Bool.not_true, Bool.not_false, not_true_eq_false, not_false_eq_true, Bool.and_true, Bool.true_and, Bool.and_self, ge_iff_le, Int.le_refl, if_true, if_false, reduceCtorEq, eq_self, BEq.rfl]
  · have hB' : bypB ea es k op ea = false := by simpa using hB
    simp only [hB', decide_true, decide_false, cond_true, cond_false, allN_true, Nat.le_refl, Int.toNat_natCast, Nat.beq_refl, pk_and, pk_or, Bool.not_true, Bool.not_false, not_true_eq_false, not_false_eq_true, Bool.and_true, Bool.true_and, Bool.and_self, ge_iff_le, Int.le_refl, if_true, if_false, reduceCtorEq, eq_self, BEq.rfl]
end Go.Proofs.Ytihhfmdihhmbdaa
namespace Go.Proofs.Ytihhfmdihhmbdaa.saqReads
open Go.Ra Go.ChangeShapes Go.WideShapes Go.ChangeAt Go.RowKit
open Go.ChangeMaps (open_string shut_string)
theorem own : ownKnob Try.prog.godebug = none := by kernel_rfl
def Ts : List Ty := [.slice 1 1 tU8, tEn, .int .i64]
theorem law (xs : List AV) (h : Ty.hasL Ts xs) : Pure Try.prog 4 xs (.sc (.bool true)) := by
  have h0 := h
  simp only [Ts, Ty.hasL] at h0
  obtain ⟨m, _, rfl, hm, e, _, rfl, he, op, _, rfl, hop, rfl⟩ := h0
  have hv : 0 ≤ avI (avAt e 4) ∧ avI (avAt e 4) ≤ 4294967295 := by
    simp only [tEn, Ty.has, Ty.hasL] at he
    obtain ⟨_, rfl, a, _, rfl, _, b, _, rfl, _, c, _, rfl, _, d, _, rfl, _, z, _, rfl, ⟨y, rfl, hy⟩, _⟩ := he
    exact has_u32 ⟨y, rfl, hy⟩
  exact lawX h (reads_pure m _ _ _ _ _ _ (rng_el hm rfl) hv.1 hv.2)
set_option maxRecDepth 100000 in
theorem lifted (os : Os) (started : os.Started) (H : Type) (enc : TypeId × Value → H) :
    ReturnsInHanded {} Try.checked os 4 .any (Rows.saqReadsSpec.pre6 enc Try.prog Try.f4 Rows.saqReadsRow.domain false) (Rows.saqReadsSpec.post enc Try.prog Try.f4 false true false false) := by
  refine returnsInHanded_of_change_sized (C := Try.checked) own started (by kernel_rfl) Try.func4
    (ChangeSpec.witness6 (enc := enc) (C := Try.checked) false ⟨#[], #[.slice none 0 0, .agg #[.int .i64 0, .int .i64 0, .int .i64 0, .bool false, .int .u32 0], .int .i64 0], []⟩ 8 (by kernel_rfl) (by kernel_rfl) (by kernel_rfl) (by kernel_rfl)) ?_
  intro W base args ds gs before hval hW hcnd hsz _
  refine law_post (s := Rows.saqReadsSpec) (n := 60) (Ts := Ts) (ts := [30, 26, 3]) (tb := 4) (by kernel_rfl) rfl rfl Try.underlying4 rfl (by kernel_rfl) (by kernel_rfl) (fun ds hds => ?_) law W base args ds gs before hval hW hsz
  match ds, hds with
  | [d1, d2, d3], _ => exact ⟨rfl, rfl, rfl⟩
theorem over : Rows.saqReadsRow.holds Try.pinned (OpenSpec.ofChange Rows.saqReadsSpec) :=
  OpenClaim.holds_of_wide 4 Try.f4 rfl rfl rfl rfl rfl rfl rfl ⟨rfl, rfl, rfl, rfl, rfl⟩ rfl rfl rfl rfl rfl (by kernel_rfl) Try.func4 (by kernel_rfl)
    (of_decide_eq_true (by kernel_rfl)) (by unfold Func.isWrapper; first | (rw [if_pos (by decide +kernel)]; kernel_rfl) | (rw [if_neg (by decide +kernel)]; exact ⟨rfl, rfl⟩))
    (fun os started H enc _ => lifted os started H enc)
theorem proved : Rows.SaqReadsSaid := over
end Go.Proofs.Ytihhfmdihhmbdaa.saqReads
namespace Go.Proofs.Ytihhfmdihhmbdaa
/-- The row, under a short name, for the claim. -/
theorem saqReads_holds : Rows.SaqReadsSaid := saqReads.proved
end Go.Proofs.Ytihhfmdihhmbdaa
#print axioms Go.Proofs.Ytihhfmdihhmbdaa.saqReads_holds
