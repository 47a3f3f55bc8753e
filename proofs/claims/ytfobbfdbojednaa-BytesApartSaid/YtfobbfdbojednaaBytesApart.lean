/- Writes that do not overlap may come in either order, and of two of one place the last one counts. -/
import Derived.Test.YtfobbfdbojednaaRows
import Derived.Test.YtfobbfdbojednaaBy4
import Derived.Test.YtfobbfdbojednaaKlaw5
import Derived.WalkKit
import Derived.ProofKit
import Derived.OpenShut
import Derived.ShutString
import Derived.ChangeOld
import Derived.Below
import Derived.SizedLaws
namespace Go.Proofs.Ytfobbfdbojednaa
open Go.Ra
set_option linter.unusedVariables false
set_option linter.unusedSimpArgs false
def TBa : Tab := mkT qq (cl_law5 ++ cl_bytes ++ cl_ref1 ++ cl_slices) [(17, stoSp), (20, ovlSp)] gl_slices
def tU8 : Ty := .int .u8
theorem TBaok : TabOk Try.prog TBa := mkT_ok (((clok_law5.app clok_bytes).app clok_ref1).app clok_slices) ⟨sp_sto, sp_rovl, trivial⟩ glok_slices
theorem r_apart (m : AV) (va vs vv wa ws wv o : Int) (r : AV) : (goS Try.prog TBa [(.tmp 8)] r (.run c_law5_BytesApart) [] ⟨envX 0 [.row false 1 (avN m) (o_el tU8 m), .agg 3 [.int .i64 va, .int .i64 vs, .int .u32 vv], .agg 3 [.int .i64 wa, .int .i64 ws, .int .u32 wv], .int .u32 o], [], 0⟩) =
    (bif decide ((↑(avN m) : Int) > (200 : Int)) then con (XV.bool true) = r
else
  bif decide (avN m ≤ (1099511627776 : Nat)) then
    bif allN (fun (i : Nat) => true) (avN m) then
      bif decide (avN m ≤ (1099511627776 : Nat)) then
        bif allN (fun (i : Nat) => true) (avN m) then
          bif decide (avN m ≤ (1099511627776 : Nat)) then
            bif allN (fun (i : Nat) => true) (avN m) then
              bif decide (avN m ≤ (1099511627776 : Nat)) then
                bif allN (fun (i : Nat) => true) (avN m) then
                  bif decide (avN m ≤ (1099511627776 : Nat)) then
                    bif allN (fun (i : Nat) => true) (avN m) then
                      bif decide (avN m ≤ (1099511627776 : Nat)) then
                        bif allN (fun (i : Nat) => true) (avN m) then
                          bif i64B va then
                            bif i64B vs then
                              bif i64B wa then
                                bif i64B ws then
                                  bif bif allN (fun (i : Nat) => true) (avN m) then true else !!ovlB va vs wa ws then
                                    bif bif allN (fun (i : Nat) => true) (avN m) then true else !!ovlB va vs wa ws then
                                      bif bif ovlB va vs wa ws then true else !ovlB va vs wa ws then
                                        bif
                                            bif allN (fun (i : Nat) => true) (avN m) then true
                                            else
                                              !bif ovlB va vs wa ws then true
                                                else
                                                  strEq (avN m)
                                                    (fun (i : Nat) =>
                                                      bif okW (avN m) wa ws && (decide (Int.toNat wa ≤ i) && decide (i < Int.toNat wa + Int.toNat ws)) then
                                                        wv / (2 : Int) ^ ((8 : Nat) * (i - Int.toNat wa)) % (256 : Int)
                                                      else
                                                        bif okW (avN m) va vs && (decide (Int.toNat va ≤ i) && decide (i < Int.toNat va + Int.toNat vs)) then
                                                          vv / (2 : Int) ^ ((8 : Nat) * (i - Int.toNat va)) % (256 : Int)
                                                        else avI (avAt m i))
                                                    (avN m) fun (i : Nat) =>
                                                    bif okW (avN m) va vs && (decide (Int.toNat va ≤ i) && decide (i < Int.toNat va + Int.toNat vs)) then
                                                      vv / (2 : Int) ^ ((8 : Nat) * (i - Int.toNat va)) % (256 : Int)
                                                    else
                                                      bif okW (avN m) wa ws && (decide (Int.toNat wa ≤ i) && decide (i < Int.toNat wa + Int.toNat ws)) then
                                                        wv / (2 : Int) ^ ((8 : Nat) * (i - Int.toNat wa)) % (256 : Int)
                                                      else avI (avAt m i) then
                                          bif
                                              bif decide (avN m ≤ (1099511627776 : Nat)) then true
                                              else
                                                !bif ovlB va vs wa ws then true
                                                  else
                                                    strEq (avN m)
                                                      (fun (i : Nat) =>
                                                        bif okW (avN m) wa ws && (decide (Int.toNat wa ≤ i) && decide (i < Int.toNat wa + Int.toNat ws)) then
                                                          wv / (2 : Int) ^ ((8 : Nat) * (i - Int.toNat wa)) % (256 : Int)
                                                        else
                                                          bif okW (avN m) va vs && (decide (Int.toNat va ≤ i) && decide (i < Int.toNat va + Int.toNat vs)) then
                                                            vv / (2 : Int) ^ ((8 : Nat) * (i - Int.toNat va)) % (256 : Int)
                                                          else avI (avAt m i))
                                                      (avN m) fun (i : Nat) =>
                                                      bif okW (avN m) va vs && (decide (Int.toNat va ≤ i) && decide (i < Int.toNat va + Int.toNat vs)) then
                                                        vv / (2 : Int) ^ ((8 : Nat) * (i - Int.toNat va)) % (256 : Int)
                                                      else
                                                        bif okW (avN m) wa ws && (decide (Int.toNat wa ≤ i) && decide (i < Int.toNat wa + Int.toNat ws)) then
                                                          wv / (2 : Int) ^ ((8 : Nat) * (i - Int.toNat wa)) % (256 : Int)
                                                        else avI (avAt m i) then
                                            bif
                                                bif allN (fun (i : Nat) => true) (avN m) then true
                                                else
                                                  !bif ovlB va vs wa ws then true
                                                    else
                                                      strEq (avN m)
                                                        (fun (i : Nat) =>
                                                          bif okW (avN m) wa ws && (decide (Int.toNat wa ≤ i) && decide (i < Int.toNat wa + Int.toNat ws)) then
                                                            wv / (2 : Int) ^ ((8 : Nat) * (i - Int.toNat wa)) % (256 : Int)
                                                          else
                                                            bif okW (avN m) va vs && (decide (Int.toNat va ≤ i) && decide (i < Int.toNat va + Int.toNat vs)) then
                                                              vv / (2 : Int) ^ ((8 : Nat) * (i - Int.toNat va)) % (256 : Int)
                                                            else avI (avAt m i))
                                                        (avN m) fun (i : Nat) =>
                                                        bif okW (avN m) va vs && (decide (Int.toNat va ≤ i) && decide (i < Int.toNat va + Int.toNat vs)) then
                                                          vv / (2 : Int) ^ ((8 : Nat) * (i - Int.toNat va)) % (256 : Int)
                                                        else
                                                          bif okW (avN m) wa ws && (decide (Int.toNat wa ≤ i) && decide (i < Int.toNat wa + Int.toNat ws)) then
                                                            wv / (2 : Int) ^ ((8 : Nat) * (i - Int.toNat wa)) % (256 : Int)
                                                          else avI (avAt m i) then
                                              bif
                                                  bif allN (fun (i : Nat) => true) (avN m) then true
                                                  else
                                                    !bif ovlB va vs wa ws then true
                                                      else
                                                        strEq (avN m)
                                                          (fun (i : Nat) =>
                                                            bif okW (avN m) wa ws && (decide (Int.toNat wa ≤ i) && decide (i < Int.toNat wa + Int.toNat ws)) then
                                                              wv / (2 : Int) ^ ((8 : Nat) * (i - Int.toNat wa)) % (256 : Int)
                                                            else
                                                              bif okW (avN m) va vs && (decide (Int.toNat va ≤ i) && decide (i < Int.toNat va + Int.toNat vs)) then
                                                                vv / (2 : Int) ^ ((8 : Nat) * (i - Int.toNat va)) % (256 : Int)
                                                              else avI (avAt m i))
                                                          (avN m) fun (i : Nat) =>
                                                          bif okW (avN m) va vs && (decide (Int.toNat va ≤ i) && decide (i < Int.toNat va + Int.toNat vs)) then
                                                            vv / (2 : Int) ^ ((8 : Nat) * (i - Int.toNat va)) % (256 : Int)
                                                          else
                                                            bif okW (avN m) wa ws && (decide (Int.toNat wa ≤ i) && decide (i < Int.toNat wa + Int.toNat ws)) then
                                                              wv / (2 : Int) ^ ((8 : Nat) * (i - Int.toNat wa)) % (256 : Int)
                                                            else avI (avAt m i) then
                                                bif
                                                    bif
                                                        bif ovlB va vs wa ws then true
                                                        else
                                                          strEq (avN m)
                                                            (fun (i : Nat) =>
                                                              bif okW (avN m) wa ws && (decide (Int.toNat wa ≤ i) && decide (i < Int.toNat wa + Int.toNat ws)) then
                                                                wv / (2 : Int) ^ ((8 : Nat) * (i - Int.toNat wa)) % (256 : Int)
                                                              else
                                                                bif okW (avN m) va vs && (decide (Int.toNat va ≤ i) && decide (i < Int.toNat va + Int.toNat vs)) then
                                                                  vv / (2 : Int) ^ ((8 : Nat) * (i - Int.toNat va)) % (256 : Int)
                                                                else avI (avAt m i))
                                                            (avN m) fun (i : Nat) =>
                                                            bif okW (avN m) va vs && (decide (Int.toNat va ≤ i) && decide (i < Int.toNat va + Int.toNat vs)) then
                                                              vv / (2 : Int) ^ ((8 : Nat) * (i - Int.toNat va)) % (256 : Int)
                                                            else
                                                              bif okW (avN m) wa ws && (decide (Int.toNat wa ≤ i) && decide (i < Int.toNat wa + Int.toNat ws)) then
                                                                wv / (2 : Int) ^ ((8 : Nat) * (i - Int.toNat wa)) % (256 : Int)
                                                              else avI (avAt m i) then
                                                      bif ovlB va vs wa ws then true
                                                      else
                                                        strEq (avN m)
                                                          (fun (i : Nat) =>
                                                            bif okW (avN m) wa ws && (decide (Int.toNat wa ≤ i) && decide (i < Int.toNat wa + Int.toNat ws)) then
                                                              wv / (2 : Int) ^ ((8 : Nat) * (i - Int.toNat wa)) % (256 : Int)
                                                            else
                                                              bif okW (avN m) va vs && (decide (Int.toNat va ≤ i) && decide (i < Int.toNat va + Int.toNat vs)) then
                                                                vv / (2 : Int) ^ ((8 : Nat) * (i - Int.toNat va)) % (256 : Int)
                                                              else avI (avAt m i))
                                                          (avN m) fun (i : Nat) =>
                                                          bif okW (avN m) va vs && (decide (Int.toNat va ≤ i) && decide (i < Int.toNat va + Int.toNat vs)) then
                                                            vv / (2 : Int) ^ ((8 : Nat) * (i - Int.toNat va)) % (256 : Int)
                                                          else
                                                            bif okW (avN m) wa ws && (decide (Int.toNat wa ≤ i) && decide (i < Int.toNat wa + Int.toNat ws)) then
                                                              wv / (2 : Int) ^ ((8 : Nat) * (i - Int.toNat wa)) % (256 : Int)
                                                            else avI (avAt m i)
                                                    else true then
                                                  con
                                                      (XV.bool
                                                        (bif
                                                            bif ovlB va vs wa ws then true
                                                            else
                                                              strEq (avN m)
                                                                (fun (i : Nat) =>
                                                                  bif okW (avN m) wa ws && (decide (Int.toNat wa ≤ i) && decide (i < Int.toNat wa + Int.toNat ws)) then
                                                                    wv / (2 : Int) ^ ((8 : Nat) * (i - Int.toNat wa)) % (256 : Int)
                                                                  else
                                                                    bif okW (avN m) va vs && (decide (Int.toNat va ≤ i) && decide (i < Int.toNat va + Int.toNat vs)) then
                                                                      vv / (2 : Int) ^ ((8 : Nat) * (i - Int.toNat va)) % (256 : Int)
                                                                    else avI (avAt m i))
                                                                (avN m) fun (i : Nat) =>
                                                                bif okW (avN m) va vs && (decide (Int.toNat va ≤ i) && decide (i < Int.toNat va + Int.toNat vs)) then
                                                                  vv / (2 : Int) ^ ((8 : Nat) * (i - Int.toNat va)) % (256 : Int)
                                                                else
                                                                  bif okW (avN m) wa ws && (decide (Int.toNat wa ≤ i) && decide (i < Int.toNat wa + Int.toNat ws)) then
                                                                    wv / (2 : Int) ^ ((8 : Nat) * (i - Int.toNat wa)) % (256 : Int)
                                                                  else avI (avAt m i) then
                                                          strEq (avN m)
                                                            (fun (i : Nat) =>
                                                              bif okW (avN m) va vs && (decide (Int.toNat va ≤ i) && decide (i < Int.toNat va + Int.toNat vs)) then
                                                                vv / (2 : Int) ^ ((8 : Nat) * (i - Int.toNat va)) % (256 : Int)
                                                              else
                                                                bif okW (avN m) va vs && (decide (Int.toNat va ≤ i) && decide (i < Int.toNat va + Int.toNat vs)) then
                                                                  o / (2 : Int) ^ ((8 : Nat) * (i - Int.toNat va)) % (256 : Int)
                                                                else avI (avAt m i))
                                                            (avN m) fun (i : Nat) =>
                                                            bif okW (avN m) va vs && (decide (Int.toNat va ≤ i) && decide (i < Int.toNat va + Int.toNat vs)) then
                                                              vv / (2 : Int) ^ ((8 : Nat) * (i - Int.toNat va)) % (256 : Int)
                                                            else avI (avAt m i)
                                                        else false)) =
                                                    r
                                                else False
                                              else False
                                            else False
                                          else False
                                        else False
                                      else False
                                    else False
                                  else False
                                else False
                              else False
                            else False
                          else False
                        else False
                      else False
                    else False
                  else False
                else False
              else False
            else False
          else False
        else False
      else False
    else False
  else False) := by kernel_rfl
theorem strEq_of {n : Nat} {f g : Nat → Int} (h : ∀ i, i < n → f i = g i) : strEq n f n g = true := by
  unfold strEq
  rw [Nat.beq_refl, cond_true, allN_iff]
  exact fun i hi => by rw [h i hi]; simp
theorem apart_pure (m : AV) (va vs vv wa ws wv o : Int) (hb : rngB (avN m) (o_el tU8 m) = true) (h1 : i64B va = true) (h2 : i64B vs = true) (h3 : i64B wa = true) (h4 : i64B ws = true) :
    Pure Try.prog 7 (cons [.row false 1 (avN m) (o_el tU8 m), .agg 3 [.int .i64 va, .int .i64 vs, .int .u32 vv], .agg 3 [.int .i64 wa, .int .i64 ws, .int .u32 wv], .int .u32 o]) (con (.bool true)) := by
  refine pureS mix TBaok t_law5_BytesApart (Nat.le_of_ble_eq_true rfl) ?_
  rw [r_apart]
  by_cases h : ((avN m : Nat) : Int) > 200
  · simp only [h, decide_true, decide_false, cond_true, cond_false, allN_true, Nat.le_refl, Int.toNat_natCast, Nat.beq_refl, pk_and, pk_or, Bool.not_true, Bool.not_false, not_true_eq_false, not_false_eq_true, Bool.and_true, Bool.true_and, Bool.and_self, ge_iff_le, Int.le_refl, if_true, if_false, reduceCtorEq, eq_self, BEq.rfl]
  · have h5 : avN m * 1 ≤ 140737488355328 := by omega
    have h6 : avN m ≤ 1099511627776 := by omega
    simp only [h, h5, h6, hb, h1, h2, h3, h4, decide_true, decide_false, cond_true, cond_false, allN_true, Nat.le_refl, Int.toNat_natCast, Nat.beq_refl, pk_and, pk_or, Bool.not_true, Bool.not_false, not_true_eq_false, not_false_eq_true, Bool.and_true, Bool.true_and, Bool.and_self, ge_iff_le, Int.le_refl, if_true, if_false, reduceCtorEq, eq_self, BEq.rfl]
    have e1 : (bif ovlB va vs wa ws then true else strEq (avN m)
                (fun i =>
                  bif okW (avN m) wa ws && (decide (wa.toNat ≤ i) && decide (i < wa.toNat + ws.toNat)) then
                    wv / 2 ^ (8 * (i - wa.toNat)) % 256
                  else
                    bif okW (avN m) va vs && (decide (va.toNat ≤ i) && decide (i < va.toNat + vs.toNat)) then
                      vv / 2 ^ (8 * (i - va.toNat)) % 256
                    else avI (avAt m i))
                (avN m) fun i =>
                bif okW (avN m) va vs && (decide (va.toNat ≤ i) && decide (i < va.toNat + vs.toNat)) then
                  vv / 2 ^ (8 * (i - va.toNat)) % 256
                else
                  bif okW (avN m) wa ws && (decide (wa.toNat ≤ i) && decide (i < wa.toNat + ws.toNat)) then
                    wv / 2 ^ (8 * (i - wa.toNat)) % 256
                  else avI (avAt m i)) = true := by
      cases ho : ovlB va vs wa ws with
      | true => rfl
      | false =>
        rw [cond_false]
        refine strEq_of fun i _ => ?_
        cases c1 : (okW (avN m) wa ws && (decide (wa.toNat ≤ i) && decide (i < wa.toNat + ws.toNat))) <;>
          cases c2 : (okW (avN m) va vs && (decide (va.toNat ≤ i) && decide (i < va.toNat + vs.toNat))) <;> try rfl
        simp only [Bool.and_eq_true, decide_eq_true_eq, okW_iff] at c1 c2
        simp only [ovlB, decide_eq_false_iff_not] at ho
        exact absurd (by omega) ho
    have e2 : strEq (avN m)
            (fun i =>
              bif okW (avN m) va vs && (decide (va.toNat ≤ i) && decide (i < va.toNat + vs.toNat)) then
                vv / 2 ^ (8 * (i - va.toNat)) % 256
              else
                bif okW (avN m) va vs && (decide (va.toNat ≤ i) && decide (i < va.toNat + vs.toNat)) then
                  o / 2 ^ (8 * (i - va.toNat)) % 256
                else avI (avAt m i))
            (avN m) (fun i =>
            bif okW (avN m) va vs && (decide (va.toNat ≤ i) && decide (i < va.toNat + vs.toNat)) then
              vv / 2 ^ (8 * (i - va.toNat)) % 256
            else avI (avAt m i)) = true := by
      refine strEq_of fun i _ => ?_
      cases c2 : (okW (avN m) va vs && (decide (va.toNat ≤ i) && decide (i < va.toNat + vs.toNat))) <;> rfl
    rw [e1, e2]; rfl
end Go.Proofs.Ytfobbfdbojednaa
namespace Go.Proofs.Ytfobbfdbojednaa.bytesApart
open Go.Ra Go.ChangeShapes Go.WideShapes Go.ChangeAt Go.RowKit
open Go.ChangeMaps (open_string shut_string)
theorem own : ownKnob Try.prog.godebug = none := by kernel_rfl
def Ts : List Ty := [.slice 1 1 tU8, .agg 3 [.int .i64, .int .i64, .int .u32], .agg 3 [.int .i64, .int .i64, .int .u32], .int .u32]
theorem law (xs : List AV) (h : Ty.hasL Ts xs) : Pure Try.prog 7 xs (.sc (.bool true)) := by
  have h0 := h
  simp only [Ts, Ty.hasL] at h0
  obtain ⟨m, _, rfl, hm, v, _, rfl, hv, w, _, rfl, hw, o, _, rfl, ho, rfl⟩ := h0
  have hl : ∀ {v : AV}, (Ty.agg 3 [.int .i64, .int .i64, .int .u32]).has v → i64B (avI (avAt v 0)) = true ∧ i64B (avI (avAt v 1)) = true := by
    intro v hv
    simp only [Ty.has, Ty.hasL] at hv
    obtain ⟨_, rfl, a, _, rfl, ⟨x, rfl, hx⟩, b, _, rfl, ⟨y, rfl, hy⟩, _⟩ := hv
    exact ⟨i64B_iff.2 (has_i64 ⟨x, rfl, hx⟩), i64B_iff.2 (has_i64 ⟨y, rfl, hy⟩)⟩
  exact lawX h (apart_pure m _ _ _ _ _ _ _ (rng_el hm rfl) (hl hv).1 (hl hv).2 (hl hw).1 (hl hw).2)
set_option maxRecDepth 100000 in
theorem lifted (os : Os) (started : os.Started) (H : Type) (enc : TypeId × Value → H) :
    ReturnsInHanded {} Try.checked os 7 .any (Rows.bytesApartSpec.pre6 enc Try.prog Try.f7 Rows.bytesApartRow.domain false) (Rows.bytesApartSpec.post enc Try.prog Try.f7 false true false false) := by
  refine returnsInHanded_of_change_sized (C := Try.checked) own started (by kernel_rfl) Try.func7
    (ChangeSpec.witness6 (enc := enc) (C := Try.checked) false ⟨#[], #[.slice none 0 0, .agg #[.int .i64 0, .int .i64 0, .int .u32 0], .agg #[.int .i64 0, .int .i64 0, .int .u32 0], .int .u32 0], []⟩ 8 (by kernel_rfl) (by kernel_rfl) (by kernel_rfl) (by kernel_rfl)) ?_
  intro W base args ds gs before hval hW hcnd hsz _
  refine law_post (s := Rows.bytesApartSpec) (n := 60) (Ts := Ts) (ts := [22, 25, 25, 23]) (tb := 4) (by kernel_rfl) rfl rfl Try.underlying4 rfl (by kernel_rfl) (by kernel_rfl) (fun ds hds => ?_) law W base args ds gs before hval hW hsz
  match ds, hds with
  | [d1, d2, d3, d4], _ => exact ⟨rfl, rfl, rfl⟩
theorem over : Rows.bytesApartRow.holds Try.pinned (OpenSpec.ofChange Rows.bytesApartSpec) :=
  OpenClaim.holds_of_wide 7 Try.f7 rfl rfl rfl rfl rfl rfl rfl ⟨rfl, rfl, rfl, rfl, rfl⟩ rfl rfl rfl rfl rfl (by kernel_rfl) Try.func7 (by kernel_rfl)
    (of_decide_eq_true (by kernel_rfl)) (by unfold Func.isWrapper; first | (rw [if_pos (by decide +kernel)]; kernel_rfl) | (rw [if_neg (by decide +kernel)]; exact ⟨rfl, rfl⟩))
    (fun os started H enc _ => lifted os started H enc)
theorem proved : Rows.BytesApartSaid := over
end Go.Proofs.Ytfobbfdbojednaa.bytesApart
namespace Go.Proofs.Ytfobbfdbojednaa
/-- The row, under a short name, for the claim. -/
theorem bytesApart_holds : Rows.BytesApartSaid := bytesApart.proved
end Go.Proofs.Ytfobbfdbojednaa
#print axioms Go.Proofs.Ytfobbfdbojednaa.bytesApart_holds
