/- Register 0 is 0, whatever is written to it. -/
import Derived.Test.YtmfbaglhmiadjaaRows
import Derived.WalkKit
import Derived.ProofKit
import Derived.OpenShut
import Derived.ShutString
import Derived.ChangeOld
import Derived.Below
import Derived.SizedLaws
import Derived.Test.YtmfbaglhmiadjaaPk6

namespace Go.Proofs.Ytmfbaglhmiadjaa
open Go.Ra
set_option linter.unusedVariables false
set_option linter.unusedSimpArgs false
/-- A result whose registers are numbers. -/
def xvN (r : RV) : XV := .agg 23 [.int .i64 r.en, .agg 3 [.int .i64 r.tk, .int .i64 r.ts, .int .i64 r.tp], .int .i64 r.st, .tab 16 1 (fun i => .int .u32 (asN (r.rg i))), .row false 1 r.nm (o_by r.mm), .row false 3 r.nw (o_wr r.wf)]
/-- What a step of a named program leaves a named result. -/
def stepSpN (P : PV) (R : RV) (S : RV × Int) : List XV → Option (List Bool × XV)
  | [a, b, .int .i64 pc] =>
    match pvF a, rvF b with
    | some (⟨n, f, sz, m, d⟩, _, _), some (r, _, _) => some (PV.nd ⟨n, f, sz, m, d⟩ ++ (r.nd ++ (decide (pc = 0) :: eqRV r R :: Nat.beq n P.n :: decide (sz = P.sz) :: Nat.beq m P.m :: (eqIL ⟨n, f, sz, m, d⟩ P n ++ eqDL ⟨n, f, sz, m, d⟩ P m))), .tup [xvN S.1, .int .i64 S.2])
    | _, _ => none
  | _ => none
def TNo (P : PV) (R : RV) (S : RV × Int) : Tab := mkT qq (cl_law6 ++ cl_law4 ++ cl_slices) [(10, alvSp), (20, stepSpN P R S), (25, rtSp), (26, fmSp)] gl_slices
theorem r_no (P : PV) (R : RV) (S : RV × Int) (op d a b m en tk ts tp st : Int) (rg : Nat → Int) (n1 n2 n3 : Nat) (f1 f2 f3 : Nat → XV) (K : XV → Prop) : (quietGo (TNo P R S) 80 (callI (TNo P R S) 80 20) 9 [.agg 5 [.int .i64 op, .int .i64 d, .int .i64 a, .int .i64 b, .int .i64 m], .agg 23 [.int .i64 en, .agg 3 [.int .i64 tk, .int .i64 ts, .int .i64 tp], .int .i64 st, .tab 16 1 (fun i => .int .u32 (rg i)), .row false 1 n1 f1, .row false 3 n2 f2], .row false 1 n3 (o_by f3)] K) = (bif bif !rtB op d a b m then true else !!rtB op d a b m then bif bif bif !rtB op d a b m then true else decide (fmI op > 4) then true else !bif !rtB op d a b
 m then true else decide (fmI op > 4) then bif bif bif !rtB op d a b m then true else decide (fmI op > 4) then true else decide ((↑n3 : Int) > 200) then K (.bool
 true) else bif decide (n3 * 1 ≤ 140737488355328) then bif decide (RV.nm (RV.mk (0 : Int) tk ts tp st (fun i => .int .u32 (rg i)) n3 (o_by f3) 0 fun x => .unk) ≤
 1099511627776) then bif allN (fun i => decide (0 ≤ rg i) && decide (rg i ≤ 4294967295)) 16 then bif allN (fun i => true) (RV.nm (RV.mk (0 : Int) tk ts tp st (fun
 i => .int .u32 (rg i)) n3 (o_by f3) 0 fun x => .unk)) then bif rngB (RV.nm (RV.mk (0 : Int) tk ts tp st (fun i => .int .u32 (rg i)) n3 (o_by f3) 0 fun x => .unk))
 fun a => .int .u8 (asN (f3 a)) then bif eqRV (RV.mk (0 : Int) tk ts tp st (fun i => .int .u32 (rg i)) n3 (o_by f3) 0 fun x => .unk) R then bif Nat.beq 2 (PV.n P)
 then bif decide ((↑n3 : Int) = PV.sz P) then bif Nat.beq 0 (PV.m P) then bif decide (41 = asN (fld 0 (PV.f P 1)) ∧ 0 = asN (fld 1 (PV.f P 1)) ∧ 0 = asN (fld 2 (PV.f
 P 1)) ∧ 0 = asN (fld 3 (PV.f P 1)) ∧ 0 = asN (fld 4 (PV.f P 1))) then bif decide (op = asN (fld 0 (PV.f P 0)) ∧ 0 = asN (fld 1 (PV.f P 0)) ∧ a = asN (fld 2 (PV.f
 P 0)) ∧ b = asN (fld 3 (PV.f P 0)) ∧ m = asN (fld 4 (PV.f P 0))) then bif bif allN (fun i => decide (asN (RV.rg (Prod.fst S) i) = rg i)) 16 then allN (fun i => decide
 (asN (RV.rg (Prod.fst S) i) = rg i)) 16 else true then bif bif bif allN (fun i => decide (asN (RV.rg (Prod.fst S) i) = rg i)) 16 then decide ((↑(RV.nw (Prod.fst
 S)) : Int) = 0) else false then true else !bif allN (fun i => decide (asN (RV.rg (Prod.fst S) i) = rg i)) 16 then decide ((↑(RV.nw (Prod.fst S)) : Int) = 0) else
 false then bif bif bif decide (RV.en (Prod.fst S) = 2) then bif bif allN (fun i => decide (asN (RV.rg (Prod.fst S) i) = rg i)) 16 then decide ((↑(RV.nw (Prod.fst
 S)) : Int) = 0) else false then decide (RV.en (Prod.fst S) = 2) else false else true then true else !bif allN (fun i => decide (asN (RV.rg (Prod.fst S) i) = rg i))
 16 then decide ((↑(RV.nw (Prod.fst S)) : Int) = 0) else false then bif bif bif bif allN (fun i => decide (asN (RV.rg (Prod.fst S) i) = rg i)) 16 then decide ((↑(RV.nw
 (Prod.fst S)) : Int) = 0) else false then !bif decide (RV.en (Prod.fst S) = 2) then decide (Prod.snd S = 0) else false else false then true else !bif bif allN (fun
 i => decide (asN (RV.rg (Prod.fst S) i) = rg i)) 16 then decide ((↑(RV.nw (Prod.fst S)) : Int) = 0) else false then !bif decide (RV.en (Prod.fst S) = 2) then decide
 (Prod.snd S = 0) else false else false then bif bif bif decide (RV.en (Prod.fst S) = 0) then bif bif bif allN (fun i => decide (asN (RV.rg (Prod.fst S) i) = rg i))
 16 then decide ((↑(RV.nw (Prod.fst S)) : Int) = 0) else false then !bif decide (RV.en (Prod.fst S) = 2) then decide (Prod.snd S = 0) else false else false then decide
 (RV.en (Prod.fst S) = 0) else false else true then true else !bif bif allN (fun i => decide (asN (RV.rg (Prod.fst S) i) = rg i)) 16 then decide ((↑(RV.nw (Prod.fst
 S)) : Int) = 0) else false then !bif decide (RV.en (Prod.fst S) = 2) then decide (Prod.snd S = 0) else false else false then bif bif bif allN (fun i => decide (asN
 (RV.rg (Prod.fst S) i) = rg i)) 16 then decide ((↑(RV.nw (Prod.fst S)) : Int) = 0) else false then true else !bif allN (fun i => decide (asN (RV.rg (Prod.fst S)
 i) = rg i)) 16 then decide ((↑(RV.nw (Prod.fst S)) : Int) = 0) else false then bif bif bif bif decide (RV.en (Prod.fst S) = 2) then decide (Prod.snd S = 0) else
 false then true else bif bif allN (fun i => decide (asN (RV.rg (Prod.fst S) i) = rg i)) 16 then decide ((↑(RV.nw (Prod.fst S)) : Int) = 0) else false then !bif decide
 (RV.en (Prod.fst S) = 2) then decide (Prod.snd S = 0) else false else false then true else !bif allN (fun i => decide (asN (RV.rg (Prod.fst S) i) = rg i)) 16 then
 decide ((↑(RV.nw (Prod.fst S)) : Int) = 0) else false then bif bif bif allN (fun i => decide (asN (RV.rg (Prod.fst S) i) = rg i)) 16 then decide ((↑(RV.nw (Prod.fst
 S)) : Int) = 0) else false then bif allN (fun i => decide (asN (RV.rg (Prod.fst S) i) = rg i)) 16 then decide ((↑(RV.nw (Prod.fst S)) : Int) = 0) else false else
 true then K (.bool (bif bif allN (fun i => decide (asN (RV.rg (Prod.fst S) i) = rg i)) 16 then decide ((↑(RV.nw (Prod.fst S)) : Int) = 0) else false then bif bif
 decide (RV.en (Prod.fst S) = 2) then decide (Prod.snd S = 0) else false then true else bif decide (RV.en (Prod.fst S) = 0) then decide (Prod.snd S = 1) else false
 else false)) else False else False else False else False else False else False else False else False else False else False else False else False else False else
 False else False else False else False else False else False else False
else False) := by kernel_rfl

def noF (op a b m : Int) : Nat → XV
  | 0 => mkI op 0 a b m
  | _ => mkI 41 0 0 0 0
def noP (op a b m : Int) (n : Nat) : PV := ⟨2, noF op a b m, n, 0, fun _ => .unk⟩
def noR (tk ts tp st : Int) (rg : Nat → Int) (n : Nat) (f : Nat → XV) : RV := ⟨0, tk, ts, tp, st, fun i => .int .u32 (rg i), n, o_by f, 0, fun _ => .unk⟩
theorem sp_stepN {P : PV} {R : RV} {S : RV × Int} (hP : P.good) (hRk : R.ok) (hS : S = stepV P R 0) : SpOk Try.prog (20, stepSpN P R S) := fun args nd v h hn => by
  simp only [stepSpN] at h
  split at h
  · split at h
    · rename_i a b pc _ _ n f sz m d x y r x2 y2 hp hr
      simp only [Option.some.injEq, Prod.mk.injEq] at h
      obtain ⟨rfl, rfl⟩ := h
      rw [allT_app, allT_app, allT_cons, allT_cons, decide_eq_true_eq] at hn
      obtain ⟨hn1, hn2, hk, hR, hn3⟩ := hn
      replace hn3 := eqPL_ok (p := ⟨n, f, sz, m, d⟩) (q := P) hn3
      subst hk
      obtain ⟨a1, a2⟩ := pvF_ok hp hn1
      obtain ⟨b1, b2⟩ := rvF_ok hr hn2
      refine Pure.nilQ ?_ (.cons a1 (.cons b1 (.cons (.refl _) .nil)))
      have e : con (r.xv x2 y2) = con (R.xv x2 y2) := (eqRV_con hR x2 y2).symm
      rw [eqPV_con hn3, e]
      subst hS
      exact st1 (p := P) (r := R) (x := x) (y := y) (xm := x2) (xw := y2) (pc := 0) hP.ok hRk
    · cases h
  · cases h
theorem no_step {op d a b m tk ts tp st : Int} {rg : Nat → Int} {n : Nat} {f : Nat → XV} (hn : n ≤ 200) (hr : rtB op d a b m = true) (hf : ¬ fmI op > 4) : ∃ r pc, stepV (noP op a b m n) (noR tk ts tp st rg n f) 0 = (r, pc) ∧ (∀ i, i < 16 → asN (r.rg i) = rg i) ∧ r.nw = 0 ∧ ((r.en = 2 ∧ pc = 0) ∨ (r.en = 0 ∧ pc = 1)) := by
  have hr1 : rtP op (fmI op) d a b m := of_decide_eq_true hr
  have hr2 : rtB op 0 a b m = true := by
    refine decide_eq_true ?_
    unfold rtP at hr1 ⊢
    refine ⟨hr1.1, ?_, hr1.2.2⟩
    unfold rgP
    by_cases h : 1 ≤ fmI op ∧ fmI op ≤ 4
    · exact .inl ⟨h, by omega, by omega⟩
    · exact .inr ⟨h, rfl⟩
  have hR : (noP op a b m n).right = true := by
    refine right_of ⟨by show 1 ≤ 2; decide, by show 2 ≤ 2000; decide, by show (0 : Int) ≤ (n : Int); omega, by show (n : Int) ≤ 65536; omega, by show ((0 : Nat) : Int) ≤ (n : Int); omega⟩ (fun i hi => ?_) (fun i hi => ?_)
    · rcases (by have : i < 2 := hi; omega : i = 0 ∨ i = 1) with rfl | rfl
      · exact hr2
      · exact rt_halt
    · rcases (by have : i < 2 := hi; omega : i = 0 ∨ i = 1) with rfl | rfl
      · exact tg_not (by show ¬ fmI op = 6; omega) (by show ¬ fmI op = 7; omega)
      · exact tg_not (by show ¬ fmI 41 = 6; decide) (by show ¬ fmI 41 = 7; decide)
  have e1 : stepV (noP op a b m n) (noR tk ts tp st rg n f) 0 = insV (mkI op 0 a b m) (noR tk ts tp st rg n f) 0 := by
    unfold stepV
    rw [if_pos ⟨rfl, hR, rfl⟩]
    exact go_at (by decide) (by show (0 : Int) < ((2 : Nat) : Int); decide)
  rw [e1]
  have w1 : IntKind.i64.wrap ((0 : Int) + 1) = 1 := by decide
  have key : ∀ s : RV × Int, ((∃ v, s = ((noR tk ts tp st rg n f).set 0 v, IntKind.i64.wrap (0 + 1))) ∨ (∃ k, s = ((noR tk ts tp st rg n f).trap k 0, 0))) → ∃ r pc, s = (r, pc) ∧ (∀ i, i < 16 → asN (r.rg i) = rg i) ∧ r.nw = 0 ∧ ((r.en = 2 ∧ pc = 0) ∨ (r.en = 0 ∧ pc = 1)) := by
    intro s hs
    rcases hs with ⟨v, rfl⟩ | ⟨k, rfl⟩
    · exact ⟨_, _, rfl, fun i hi => rfl, rfl, .inr ⟨rfl, w1⟩⟩
    · exact ⟨_, _, rfl, fun i hi => rfl, rfl, .inl ⟨rfl, rfl⟩⟩
  refine key _ ?_
  have ho : iOp (mkI op 0 a b m) = op := rfl
  have hd : iD (mkI op 0 a b m) = 0 := rfl
  unfold insV
  rw [ho, hd, if_neg (by omega), if_neg (by omega), if_neg (by omega), if_neg (by omega)]
  repeat' split
  · exact .inl ⟨_, rfl⟩
  · exact .inr ⟨_, rfl⟩
  · exact .inl ⟨_, rfl⟩
  · exact .inr ⟨_, rfl⟩
theorem no_good (op a b m : Int) {n : Nat} : (noP op a b m n).good := ⟨by show 2 ≤ 4611686018427387904; decide, by show 0 ≤ 4611686018427387904; decide, fun i hi => absurd hi (Nat.not_lt_zero i)⟩
theorem TNok {P : PV} {R : RV} (hP : P.good) (hRk : R.ok) : TabOk Try.prog (TNo P R (stepV P R 0)) := mkT_ok ((clok_law6.app clok_law4).app clok_slices) ⟨sp_alv, sp_stepN hP hRk rfl, sp_right2, sp_form2, trivial⟩ glok_slices
theorem no_pure {op d a b m en tk ts tp st : Int} {rg : Nat → Int} {n1 n2 n3 : Nat} {f1 f2 f3 : Nat → XV} (hr : ∀ i, i < 16 → 0 ≤ rg i ∧ rg i ≤ 4294967295) (hb : ∀ i, i < n3 → 0 ≤ asN (f3 i) ∧ asN (f3 i) ≤ 255) : Pure Try.prog 9 (cons [.agg 5 [.int .i64 op, .int .i64 d, .int .i64 a, .int .i64 b, .int .i64 m], .agg 23 [.int .i64 en, .agg 3 [.int .i64 tk, .int .i64 ts, .int .i64 tp], .int .i64 st, .tab 16 1 (fun i => .int .u32 (rg i)), .row false 1 n1 f1, .row false 3 n2 f2], .row false 1 n3 (o_by f3)]) (con (.bool true)) := by
  by_cases hn3 : n3 ≤ 200
  case neg =>
    refine pureX (u := 80) (k := 20) mix (TNok (P := noP 0 0 0 0 0) (R := noR 0 0 0 0 (fun _ => 0) 0 (fun _ => .unk)) (no_good 0 0 0 0) ⟨by show 0 ≤ 1099511627776; decide, by show 0 ≤ 1000000; decide, fun i hi => ⟨by show (0 : Int) ≤ 0; decide, by show (0 : Int) ≤ 4294967295; decide⟩, fun i hi => absurd hi (Nat.not_lt_zero i)⟩) ?_
    rw [r_no]
    have c : decide ((n3 : Int) > 200) = true := decide_eq_true (by omega)
    simp only [pk_or, pk_and, cond_true]
    refine cnd2 (fun h => trivial) (fun h => ?_)
    simp only [Bool.cond_true_left, Bool.cond_false_right, Bool.cond_true_right, Bool.cond_false_left, Bool.or_eq_false_iff, Bool.or_eq_true, Bool.and_eq_true, Bool.and_eq_false_iff, decide_eq_false_iff_not, decide_eq_true_eq, Bool.not_eq_true', Bool.not_eq_false', Bool.not_not, Int.not_lt, Int.not_le, gt_iff_lt, ge_iff_le] at h
    omega
  have hRk : (noR tk ts tp st rg n3 f3).ok := ⟨by show n3 ≤ 1099511627776; omega, by show 0 ≤ 1000000; decide, fun i hi => hr i hi, fun i hi => hb i hi⟩
  refine pureX (u := 80) (k := 20) mix (TNok (no_good op a b m (n := n3)) hRk) ?_
  rw [r_no]
  simp only [pk_or, pk_and, cond_true]
  refine cnd2 (fun h => trivial) (fun h => ?_)
  simp only [Bool.cond_true_left, Bool.cond_false_right, Bool.cond_true_right, Bool.cond_false_left, Bool.or_eq_false_iff, Bool.or_eq_true, Bool.and_eq_true, Bool.and_eq_false_iff, decide_eq_false_iff_not, decide_eq_true_eq, Bool.not_eq_true', Bool.not_eq_false', Bool.not_not, Int.not_lt, Int.not_le, gt_iff_lt, ge_iff_le] at h
  obtain ⟨⟨c1, c2⟩, c3⟩ := h
  obtain ⟨r, pc, e0, e1, e2, e3⟩ := no_step (op := op) (d := d) (a := a) (b := b) (m := m) (tk := tk) (ts := ts) (tp := tp) (st := st) (rg := rg) (n := n3) (f := f3) hn3 (by simpa using c1) (by simpa using c2)
  rw [e0]
  have hB : allN (fun i => decide (asN (r.rg i) = rg i)) 16 = true := allN_iff.2 fun i hi => by simpa using e1 i hi
  have hG : allN (fun i => decide (0 ≤ rg i) && decide (rg i ≤ 4294967295)) 16 = true := allN_iff.2 fun i hi => by simpa using hr i hi
  have hM : rngB n3 (fun a => .int .u8 (asN (f3 a))) = true := rng_by hb
  have hT : ∀ k, allN (fun _ => true) k = true := fun k => allN_iff.2 fun _ _ => rfl
  have hE := eqRV_self (noR tk ts tp st rg n3 f3)
  have hw : n3 * 1 ≤ 140737488355328 := by omega
  have hv : n3 ≤ 1099511627776 := by omega
  unfold noR at hE
  have h00 : decide (((0 : Nat) : Int) = 0) = true := rfl
  rcases e3 with ⟨g1, g2⟩ | ⟨g1, g2⟩ <;> simp only [noP, noR, noF, mkI, fld, nth, asN_int, hB, hG, hM, hT, hE, hw, hv, e2, g1, g2, and_self, pk_or, pk_and, pk_t, decide_true, decide_false, cond_true, cond_false, allN_true, Nat.le_refl, Int.toNat_natCast, Nat.beq_refl, pk_and, pk_or, Bool.not_true, Bool.not_false, not_true_eq_false, not_false_eq_true, Bool.and_true, Bool.true_and, Bool.and_self, ge_iff_le, Int.le_refl, if_true, if_false, reduceCtorEq, eq_self, BEq.rfl] <;> exact (rfl : con (XV.bool true) = con (XV.bool true))
abbrev tIn : Ty := .agg 5 [.int .i64, .int .i64, .int .i64, .int .i64, .int .i64]
abbrev tRe : Ty := .agg 23 [.int .i64, .agg 3 [.int .i64, .int .i64, .int .i64], .int .i64, .arr 16 1 (.int .u32), .slice 1 1 (.int .u8), .slice 3 24 (.agg 3 [.int .i64, .int .i64, .int .u32])]
abbrev tBy : Ty := .slice 1 1 (.int .u8)
theorem re_regs {a : AV} (h : tRe.has a) : ∀ i, i < 16 → 0 ≤ avI (avAt (avAt a 3) i) ∧ avI (avAt (avAt a 3) i) ≤ 4294967295 := by
  simp only [tRe, Ty.has, Ty.hasL] at h
  obtain ⟨_, rfl, e, _, rfl, he, t, _, rfl, ht, s, _, rfl, hs, g, _, rfl, hg, _⟩ := h
  intro i hi
  exact has_u32 (has_arr (n := 16) (es := 1) (T := .int .u32) hg hi)
end Go.Proofs.Ytmfbaglhmiadjaa
namespace Go.Proofs.Ytmfbaglhmiadjaa.seqNought
open Go.Ra Go.ChangeShapes Go.WideShapes Go.ChangeAt Go.RowKit
open Go.ChangeMaps (open_string shut_string)
theorem own : ownKnob Try.prog.godebug = none := by kernel_rfl
def Ts : List Ty := [tIn, tRe, tBy]
theorem law (xs : List AV) (h : Ty.hasL Ts xs) : Pure Try.prog 9 xs (.sc (.bool true)) := by
  have h0 := h
  simp only [Ts, Ty.hasL] at h0
  obtain ⟨a, _, rfl, _, b, _, rfl, hb, c, _, rfl, hc, rfl⟩ := h0
  refine lawX h ?_
  exact no_pure (f3 := o_el (.int .u8) c) (re_regs hb) (fun i hi => has_u8 (has_at (T := .int .u8) (es := 1) (bytes := 1) hc hi))
set_option maxRecDepth 100000 in
theorem lifted (os : Os) (started : os.Started) (H : Type) (enc : TypeId × Value → H) :
    ReturnsInHanded {} Try.checked os 9 .any (Rows.seqNoughtSpec.pre6 enc Try.prog Try.f9 Rows.seqNoughtRow.domain false) (Rows.seqNoughtSpec.post enc Try.prog Try.f9 false true false false) := by
  refine returnsInHanded_of_change_sized (C := Try.checked) own started (by kernel_rfl) Try.func9
    (ChangeSpec.witness6 (enc := enc) (C := Try.checked) false ⟨#[], #[.agg #[.int .i64 0, .int .i64 0, .int .i64 0, .int .i64 0, .int .i64 0], .agg #[.int .i64 0, .int .i64 0, .int .i64 0, .int .i64 0, .int .i64 0, .int .u32 0, .int .u32 0, .int .u32 0, .int .u32 0, .int .u32 0, .int .u32 0, .int .u32 0, .int .u32 0, .int .u32 0, .int .u32 0, .int .u32 0, .int .u32 0, .int .u32 0, .int .u32 0, .int .u32 0, .int .u32 0, .slice none 0 0, .slice none 0 0], .slice none 0 0], []⟩ 8 (by kernel_rfl) (by kernel_rfl) (by kernel_rfl) (by kernel_rfl)) ?_
  intro W base args ds gs before hval hW hcnd hsz _
  refine law_post (s := Rows.seqNoughtSpec) (n := 60) (Ts := Ts) (ts := [44, 34, 23]) (tb := 4) (by kernel_rfl) rfl rfl Try.underlying4 rfl (by kernel_rfl) (by kernel_rfl) (fun ds hds => ?_) law W base args ds gs before hval hW hsz
  match ds, hds with
  | [d1, d2, d3], _ => exact ⟨rfl, rfl, rfl⟩
theorem over : Rows.seqNoughtRow.holds Try.pinned (OpenSpec.ofChange Rows.seqNoughtSpec) :=
  OpenClaim.holds_of_wide 9 Try.f9 rfl rfl rfl rfl rfl rfl rfl ⟨rfl, rfl, rfl, rfl, rfl⟩ rfl rfl rfl rfl rfl (by kernel_rfl) Try.func9 (by kernel_rfl)
    (of_decide_eq_true (by kernel_rfl)) (by unfold Func.isWrapper; first | (rw [if_pos (by decide +kernel)]; kernel_rfl) | (rw [if_neg (by decide +kernel)]; exact ⟨rfl, rfl⟩))
    (fun os started H enc _ => lifted os started H enc)
theorem proved : Rows.SeqNoughtSaid := over
end Go.Proofs.Ytmfbaglhmiadjaa.seqNought
namespace Go.Proofs.Ytmfbaglhmiadjaa
/-- The row, under a short name, for the claim. -/
theorem seqNought_holds : Rows.SeqNoughtSaid := seqNought.proved
end Go.Proofs.Ytmfbaglhmiadjaa
#print axioms Go.Proofs.Ytmfbaglhmiadjaa.seqNought_holds
