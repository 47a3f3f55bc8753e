/- A place more, and a list without its first. -/
import Derived.Test.YtmlnhecgcbohkaaS3
namespace Go.Proofs.Ytmlnhecgcbohkaa
open Go.Ra
set_option linter.unusedVariables false
set_option linter.unusedSimpArgs false
def TS4 : Tab := mkT qq (cl_slots ++ cl_slices ++ cl_ref15) [] (gl_slices ++ gl_ref15)
def o_res (n : Nat) (f : Nat → XV) (tag : Int) (i : Nat) : XV := .agg 3 [.int .i64 (bif decide (i < n) then asN (fld 0 (f i)) else tag), .bool (bif decide (i < n) then asB (fld 1 (f i)) else false), .int .u32 (bif decide (i < n) then asN (fld 2 (f i)) else 0)]
/-- A list with a place more, if it may have one. -/
def resG (n : Nat) (f : Nat → XV) : List XV → Option (List Bool × XV)
  | [.int .i64 m, .int .i64 tag] => some ([],
      .tup [.row false 3 (bif decide ((n : Int) ≥ m) then n else n + 1) (o_res n f tag), .bool (!decide ((n : Int) ≥ m))])
  | _ => none
def resSp := rowSp 3 kSl 1000000 resG
def popC (n : Nat) (f : Nat → XV) : Bool := bif decide ((n : Int) = 0) then true else !asB (fld 1 (f 0))
def o_pop (n : Nat) (f : Nat → XV) (i : Nat) : XV := mkS kSl (f (bif popC n f then i else 1 + i))
/-- A list without its first, if that is filled. -/
def popG (n : Nat) (f : Nat → XV) : List XV → Option (List Bool × XV)
  | [] => some ([], .tup [.row false 3 (bif popC n f then n else n - 1) (o_pop n f), .int .u32 (bif popC n f then 0 else asN (fld 2 (f 0))), .bool (!popC n f)])
  | _ => none
def popSp := rowSp 3 kSl 1000000 popG
theorem TS4ok : TabOk Try.prog TS4 := mkT_ok ((clok_slots.app clok_slices).app clok_ref15) trivial (glok_slices.app glok_ref15)
theorem r_res1 (x : Bool) (n : Nat) (f : Nat → XV) (m tag : Int) (r : AV) : (goS Try.prog TS4 [(.tmp 6), (.tmp 7)] r (.run c_slots_Reserve) [] ⟨envX 0 [.row x 3 n (fun i => mkS kSl (f i)), .int .i64 m, .int .i64 tag], [], 0⟩) =
    (bif decide (n * (16 : Nat) ≤ (140737488355328 : Nat)) then
  bif allN (fun (i : Nat) => true) n then
    bif decide ((↑n : Int) ≥ m) then
      bif decide (n ≤ n) then
        con
            (XV.tup
              [XV.row false (3 : Nat) n fun (i : Nat) =>
                  XV.agg (3 : Nat) [XV.int IntKind.i64 (asN (fld (0 : Nat) (f i))), XV.bool (asB (fld (1 : Nat) (f i))), XV.int IntKind.u32 (asN (fld (2 : Nat) (f i)))],
                XV.bool false]) =
          r
      else False
    else
      bif decide (n ≤ n) then
        bif decide (pl n (1 : Nat) * (16 : Nat) ≤ (140737488355328 : Nat)) then
          bif decide (pl n (1 : Nat) ≤ pl n (1 : Nat)) then
            con
                (XV.tup
                  [XV.row false (3 : Nat) (pl n (1 : Nat)) fun (i : Nat) =>
                      XV.agg (3 : Nat)
                        [XV.int IntKind.i64 (bif decide (i < n) then asN (fld (0 : Nat) (f i)) else tag), XV.bool (bif decide (i < n) then asB (fld (1 : Nat) (f i)) else false),
                          XV.int IntKind.u32 (bif decide (i < n) then asN (fld (2 : Nat) (f i)) else (0 : Int))],
                    XV.bool true]) =
              r
          else False
        else False
      else False
  else False
 else False) := by kernel_rfl
theorem r_res2 (x : Bool) (n : Nat) (f : Nat → XV) (m tag : Int) (r : AV) : (goS Try.prog TS4 [(.tmp 6), (.tmp 7)] r (.run c_ref15_Reserve) [] ⟨envX 0 [.row x 3 n (fun i => mkS kSl (f i)), .int .i64 m, .int .i64 tag], [], 0⟩) =
    (bif decide (n * (16 : Nat) ≤ (140737488355328 : Nat)) then
  bif allN (fun (i : Nat) => true) n then
    bif decide ((↑n : Int) ≥ m) then
      bif decide (n ≤ n) then
        con
            (XV.tup
              [XV.row false (3 : Nat) n fun (i : Nat) =>
                  XV.agg (3 : Nat) [XV.int IntKind.i64 (asN (fld (0 : Nat) (f i))), XV.bool (asB (fld (1 : Nat) (f i))), XV.int IntKind.u32 (asN (fld (2 : Nat) (f i)))],
                XV.bool false]) =
          r
      else False
    else
      bif decide (n ≤ n) then
        bif decide (pl n (1 : Nat) * (16 : Nat) ≤ (140737488355328 : Nat)) then
          bif decide (pl n (1 : Nat) ≤ pl n (1 : Nat)) then
            con
                (XV.tup
                  [XV.row false (3 : Nat) (pl n (1 : Nat)) fun (i : Nat) =>
                      XV.agg (3 : Nat)
                        [XV.int IntKind.i64 (bif decide (i < n) then asN (fld (0 : Nat) (f i)) else tag), XV.bool (bif decide (i < n) then asB (fld (1 : Nat) (f i)) else false),
                          XV.int IntKind.u32 (bif decide (i < n) then asN (fld (2 : Nat) (f i)) else (0 : Int))],
                    XV.bool true]) =
              r
          else False
        else False
      else False
  else False
 else False) := by kernel_rfl
theorem r_pop1 (x : Bool) (n : Nat) (f : Nat → XV) (r : AV) : (goS Try.prog TS4 [(.tmp 2), (.tmp 3), (.tmp 4)] r (.run c_slots_Pop) [] ⟨envX 0 [.row x 3 n (fun i => mkS kSl (f i))], [], 0⟩) =
    (bif decide (n * (16 : Nat) ≤ (140737488355328 : Nat)) then
  bif allN (fun (i : Nat) => true) n then
    bif bif decide ((0 : Int) < (↑n : Int)) then true else !!decide ((↑n : Int) = (0 : Int)) then
      bif bif decide ((0 : Nat) < n) then true else !!decide ((↑n : Int) = (0 : Int)) then
        bif bif decide ((↑n : Int) = (0 : Int)) then true else !decide ((↑n : Int) = (0 : Int)) then
          bif bif decide ((↑n : Int) = (0 : Int)) then true else !asB (fld (1 : Nat) (f (0 : Nat))) then
            bif decide (n ≤ n) then
              con
                  (XV.tup
                    [XV.row false (3 : Nat) n fun (i : Nat) =>
                        XV.agg (3 : Nat) [XV.int IntKind.i64 (asN (fld (0 : Nat) (f i))), XV.bool (asB (fld (1 : Nat) (f i))), XV.int IntKind.u32 (asN (fld (2 : Nat) (f i)))],
                      XV.int IntKind.u32 (0 : Int), XV.bool false]) =
                r
            else False
          else
            bif decide ((1 : Int) ≤ (↑n : Int)) then
              bif decide ((0 : Int) < (↑n : Int)) then
                bif decide ((0 : Nat) < n) then
                  bif decide (pl (1 : Nat) (n - (1 : Nat)) ≤ n) then
                    con
                        (XV.tup
                          [XV.row false (3 : Nat) (n - (1 : Nat)) fun (i : Nat) =>
                              XV.agg (3 : Nat)
                                [XV.int IntKind.i64 (asN (fld (0 : Nat) (f (pl (1 : Nat) i)))), XV.bool (asB (fld (1 : Nat) (f (pl (1 : Nat) i)))),
                                  XV.int IntKind.u32 (asN (fld (2 : Nat) (f (pl (1 : Nat) i))))],
                            XV.int IntKind.u32 (asN (fld (2 : Nat) (f (0 : Nat)))), XV.bool true]) =
                      r
                  else False
                else False
              else False
            else False
        else False
      else False
    else False
  else False
 else False) := by kernel_rfl
theorem r_pop2 (x : Bool) (n : Nat) (f : Nat → XV) (r : AV) : (goS Try.prog TS4 [(.tmp 2), (.tmp 3), (.tmp 4)] r (.run c_ref15_PopSlot) [] ⟨envX 0 [.row x 3 n (fun i => mkS kSl (f i))], [], 0⟩) =
    (bif bif decide ((0 : Int) < (↑n : Int)) then true else !!decide ((↑n : Int) = (0 : Int)) then
  bif bif decide ((↑n : Int) = (0 : Int)) then true else !decide ((↑n : Int) = (0 : Int)) then
    bif bif decide ((↑n : Int) = (0 : Int)) then true else !asB (fld (1 : Nat) (f (0 : Nat))) then
      bif decide (n * (16 : Nat) ≤ (140737488355328 : Nat)) then
        bif allN (fun (i : Nat) => true) n then
          bif decide (n ≤ n) then
            con
                (XV.tup
                  [XV.row false (3 : Nat) n fun (i : Nat) =>
                      XV.agg (3 : Nat) [XV.int IntKind.i64 (asN (fld (0 : Nat) (f i))), XV.bool (asB (fld (1 : Nat) (f i))), XV.int IntKind.u32 (asN (fld (2 : Nat) (f i)))],
                    XV.int IntKind.u32 (0 : Int), XV.bool false]) =
              r
          else False
        else False
      else False
    else
      bif decide ((1 : Int) ≤ (↑n : Int)) then
        bif decide ((n - (1 : Nat)) * (16 : Nat) ≤ (140737488355328 : Nat)) then
          bif allN (fun (i : Nat) => true) (n - (1 : Nat)) then
            bif decide ((0 : Int) < (↑n : Int)) then
              bif decide (n - (1 : Nat) ≤ n - (1 : Nat)) then
                con
                    (XV.tup
                      [XV.row false (3 : Nat) (n - (1 : Nat)) fun (i : Nat) =>
                          XV.agg (3 : Nat)
                            [XV.int IntKind.i64 (asN (fld (0 : Nat) (f (pl (1 : Nat) i)))), XV.bool (asB (fld (1 : Nat) (f (pl (1 : Nat) i)))),
                              XV.int IntKind.u32 (asN (fld (2 : Nat) (f (pl (1 : Nat) i))))],
                        XV.int IntKind.u32 (asN (fld (2 : Nat) (f (0 : Nat)))), XV.bool true]) =
                  r
              else False
            else False
          else False
        else False
      else False
  else False
 else False) := by kernel_rfl
theorem sp_res_of {fn nt : Nat} {c : AC} (ht : trF Try.prog qq fn = some (nt, [(.tmp 6), (.tmp 7)], c)) (hnt : 3 ≤ nt) (hr : ∀ (x : Bool) (n : Nat) (f : Nat → XV) (m tag : Int) (r : AV), goS Try.prog TS4 [(.tmp 6), (.tmp 7)] r (.run c) [] ⟨envX 0 [.row x 3 n (fun i => mkS kSl (f i)), .int .i64 m, .int .i64 tag], [], 0⟩ = goS Try.prog TS4 [(.tmp 6), (.tmp 7)] r (.run c_slots_Reserve) [] ⟨envX 0 [.row x 3 n (fun i => mkS kSl (f i)), .int .i64 m, .int .i64 tag], [], 0⟩) :
    SpOk Try.prog (fn, resSp) := rowSp_ok fun x n f rest nd v hn hg hnd => by
  unfold resG at hg
  split at hg <;> simp only [Option.some.injEq, Prod.mk.injEq, reduceCtorEq] at hg
  rename_i m tag
  obtain ⟨_, rfl⟩ := hg
  refine pureS mix TS4ok ht hnt ?_
  rw [hr, r_res1]
  have h1 : n * 16 ≤ 140737488355328 := by omega
  have h2 : (n + 1) * 16 ≤ 140737488355328 := by omega
  by_cases hc : (n : Int) ≥ m
  · simp only [h1, hc, decide_true, decide_false, cond_true, cond_false, allN_true, Nat.le_refl, Int.toNat_natCast, Nat.beq_refl, pk_and, pk_or, Bool.not_true, Bool.not_false, not_true_eq_false, not_false_eq_true, Bool.and_true, Bool.true_and, Bool.and_self, ge_iff_le, Int.le_refl, if_true, if_false, reduceCtorEq, eq_self, BEq.rfl]
    refine conT2 (conR rfl fun i hi => ?_) rfl
    simp only [o_res, hi, decide_true, decide_false, cond_true, cond_false, allN_true, Nat.le_refl, Int.toNat_natCast, Nat.beq_refl, pk_and, pk_or, Bool.not_true, Bool.not_false, not_true_eq_false, not_false_eq_true, Bool.and_true, Bool.true_and, Bool.and_self, ge_iff_le, Int.le_refl, if_true, if_false, reduceCtorEq, eq_self, BEq.rfl]
  · simp only [h1, h2, hc, pl_eq, decide_true, decide_false, cond_true, cond_false, allN_true, Nat.le_refl, Int.toNat_natCast, Nat.beq_refl, pk_and, pk_or, Bool.not_true, Bool.not_false, not_true_eq_false, not_false_eq_true, Bool.and_true, Bool.true_and, Bool.and_self, ge_iff_le, Int.le_refl, if_true, if_false, reduceCtorEq, eq_self, BEq.rfl]
    rfl
theorem sp_res : SpOk Try.prog (19, resSp) := sp_res_of t_slots_Reserve (Nat.le_of_ble_eq_true rfl) fun x n f m tag r => rfl
theorem sp_rres : SpOk Try.prog (20, resSp) := sp_res_of t_ref15_Reserve (Nat.le_of_ble_eq_true rfl) fun x n f m tag r => (r_res2 x n f m tag r).trans (r_res1 x n f m tag r).symm
theorem sp_pop : SpOk Try.prog (23, popSp) := rowSp_ok fun x n f rest nd v hn hg hnd => by
  unfold popG at hg
  split at hg <;> simp only [Option.some.injEq, Prod.mk.injEq, reduceCtorEq] at hg
  obtain ⟨_, rfl⟩ := hg
  refine pureS mix TS4ok t_slots_Pop (Nat.le_of_ble_eq_true rfl) ?_
  rw [r_pop1]
  have h1 : n * 16 ≤ 140737488355328 := by omega
  unfold o_pop popC
  by_cases h0 : n = 0
  · subst h0
    simp only [Int.ofNat_zero, decide_true, decide_false, cond_true, cond_false, allN_true, Nat.le_refl, Int.toNat_natCast, Nat.beq_refl, pk_and, pk_or, Bool.not_true, Bool.not_false, not_true_eq_false, not_false_eq_true, Bool.and_true, Bool.true_and, Bool.and_self, ge_iff_le, Int.le_refl, if_true, if_false, reduceCtorEq, eq_self, BEq.rfl]
    rfl
  · have h2 : (0 : Int) < n := by omega
    have h3 : ¬ (n : Int) = 0 := by omega
    have h4 : 0 < n := by omega
    have h5 : (1 : Int) ≤ n := by omega
    have h6 : 1 + (n - 1) ≤ n := by omega
    simp only [h1, h2, h3, h4, h5, h6, pl_eq, decide_true, decide_false, cond_true, cond_false, allN_true, Nat.le_refl, Int.toNat_natCast, Nat.beq_refl, pk_and, pk_or, Bool.not_true, Bool.not_false, not_true_eq_false, not_false_eq_true, Bool.and_true, Bool.true_and, Bool.and_self, ge_iff_le, Int.le_refl, if_true, if_false, reduceCtorEq, eq_self, BEq.rfl]
    cases asB (fld 1 (f 0)) <;> rfl
theorem sp_rpop : SpOk Try.prog (24, popSp) := rowSp_ok fun x n f rest nd v hn hg hnd => by
  unfold popG at hg
  split at hg <;> simp only [Option.some.injEq, Prod.mk.injEq, reduceCtorEq] at hg
  obtain ⟨_, rfl⟩ := hg
  refine pureS mix TS4ok t_ref15_PopSlot (Nat.le_of_ble_eq_true rfl) ?_
  rw [r_pop2]
  have h1 : n * 16 ≤ 140737488355328 := by omega
  unfold o_pop popC
  by_cases h0 : n = 0
  · subst h0
    simp only [Int.ofNat_zero, decide_true, decide_false, cond_true, cond_false, allN_true, Nat.le_refl, Int.toNat_natCast, Nat.beq_refl, pk_and, pk_or, Bool.not_true, Bool.not_false, not_true_eq_false, not_false_eq_true, Bool.and_true, Bool.true_and, Bool.and_self, ge_iff_le, Int.le_refl, if_true, if_false, reduceCtorEq, eq_self, BEq.rfl]
    rfl
  · have h2 : (0 : Int) < n := by omega
    have h3 : ¬ (n : Int) = 0 := by omega
    have h4 : 0 < n := by omega
    have h5 : (1 : Int) ≤ n := by omega
    have h6 : (n - 1) * 16 ≤ 140737488355328 := by omega
    simp only [h1, h2, h3, h4, h5, h6, pl_eq, decide_true, decide_false, cond_true, cond_false, allN_true, Nat.le_refl, Int.toNat_natCast, Nat.beq_refl, pk_and, pk_or, Bool.not_true, Bool.not_false, not_true_eq_false, not_false_eq_true, Bool.and_true, Bool.true_and, Bool.and_self, ge_iff_le, Int.le_refl, if_true, if_false, reduceCtorEq, eq_self, BEq.rfl]
    cases asB (fld 1 (f 0)) <;> rfl
end Go.Proofs.Ytmlnhecgcbohkaa
