/- A run is its steps, one by one. -/
import Derived.Test.YtmfbaglhmiadjaaRows
import Derived.WalkKit
import Derived.ProofKit
import Derived.OpenShut
import Derived.ShutString
import Derived.ChangeOld
import Derived.Below
import Derived.SizedLaws
import Derived.Test.YtmfbaglhmiadjaaPk6

namespace Go.Proofs.Ytmfbaglhmiadjaa
open Go.Ra
set_option linter.unusedVariables false
set_option linter.unusedSimpArgs false
def TSt (P : PV) (F : Int → RV) (S : RV → Int → RV × Int) : Tab := mkT qq (cl_law6 ++ cl_law4 ++ cl_slices) [(10, alvSp), (13, runSpF P F), (20, stepSpF P S), (14, firstSp), (12, prSp), (23, sameSp)] gl_slices
def sSt (P : PV) (R : RV) (pc : Int) (fuel more : Int) (i : Nat) : XSt := ⟨[(10, .int .i64 i), (9, .int .i64 pc), (8, .ptr 1 [] 0), (6, .bool false), (3, .ptr 0 [] 0), (1, .int .i64 fuel), (2, .int .i64 more)], [(1, some (R.xv false false)), (0, some (P.xv false false))], 2⟩
theorem r_st (P : PV) (F : Int → RV) (S : RV → Int → RV × Int) (fuel more : Int) (r : AV) : (goS Try.prog (TSt P F S) [(.tmp 6)] r (.run c_law6_SeqSteps) [] ⟨envX 0 [P.xv false false, .int .i64 fuel, .int .i64 more], [], 0⟩) = (bif bif decide ((↑(PV.n P) : Int) ≤ 200) then decide ((↑(PV.n P) : Int) ≤ 200) else true then bif bif !bif decide ((↑(PV.n P) : Int) ≤ 200) then decide ((↑(PV.m
 P) : Int) ≤ 500) else false then true else !!bif decide ((↑(PV.n P) : Int) ≤ 200) then decide ((↑(PV.m P) : Int) ≤ 500) else false then bif bif decide (PV.n P ≤
 4611686018427387904) then true else !!bif !bif decide ((↑(PV.n P) : Int) ≤ 200) then decide ((↑(PV.m P) : Int) ≤ 500) else false then true else decide (PV.sz P >
 500) then bif bif allN (fun i => true) (PV.n P) then true else !!bif !bif decide ((↑(PV.n P) : Int) ≤ 200) then decide ((↑(PV.m P) : Int) ≤ 500) else false then
 true else decide (PV.sz P > 500) then bif bif decide (PV.m P ≤ 4611686018427387904) then true else !!bif !bif decide ((↑(PV.n P) : Int) ≤ 200) then decide ((↑(PV.m
 P) : Int) ≤ 500) else false then true else decide (PV.sz P > 500) then bif bif bif !bif decide ((↑(PV.n P) : Int) ≤ 200) then decide ((↑(PV.m P) : Int) ≤ 500) else
 false then true else decide (PV.sz P > 500) then true else !bif !bif decide ((↑(PV.n P) : Int) ≤ 200) then decide ((↑(PV.m P) : Int) ≤ 500) else false then true
 else decide (PV.sz P > 500) then bif bif bif bif !bif decide ((↑(PV.n P) : Int) ≤ 200) then decide ((↑(PV.m P) : Int) ≤ 500) else false then true else decide (PV.sz
 P > 500) then true else !prB (PV.n P) (o_in fun a => PV.f P a) (PV.sz P) (PV.m P) then true else !bif bif !bif decide ((↑(PV.n P) : Int) ≤ 200) then decide ((↑(PV.m
 P) : Int) ≤ 500) else false then true else decide (PV.sz P > 500) then true else !prB (PV.n P) (o_in fun a => PV.f P a) (PV.sz P) (PV.m P) then bif bif bif bif bif
 !bif decide ((↑(PV.n P) : Int) ≤ 200) then decide ((↑(PV.m P) : Int) ≤ 500) else false then true else decide (PV.sz P > 500) then true else !prB (PV.n P) (o_in fun
 a => PV.f P a) (PV.sz P) (PV.m P) then true else decide (fuel < 0) then true else !bif bif bif !bif decide ((↑(PV.n P) : Int) ≤ 200) then decide ((↑(PV.m P) : Int)
 ≤ 500) else false then true else decide (PV.sz P > 500) then true else !prB (PV.n P) (o_in fun a => PV.f P a) (PV.sz P) (PV.m P) then true else decide (fuel < 0)
 then bif bif bif bif bif bif !bif decide ((↑(PV.n P) : Int) ≤ 200) then decide ((↑(PV.m P) : Int) ≤ 500) else false then true else decide (PV.sz P > 500) then true
 else !prB (PV.n P) (o_in fun a => PV.f P a) (PV.sz P) (PV.m P) then true else decide (fuel < 0) then true else decide (fuel > 150) then true else !bif bif bif bif
 !bif decide ((↑(PV.n P) : Int) ≤ 200) then decide ((↑(PV.m P) : Int) ≤ 500) else false then true else decide (PV.sz P > 500) then true else !prB (PV.n P) (o_in fun
 a => PV.f P a) (PV.sz P) (PV.m P) then true else decide (fuel < 0) then true else decide (fuel > 150) then bif bif bif bif bif bif bif !bif decide ((↑(PV.n P) :
 Int) ≤ 200) then decide ((↑(PV.m P) : Int) ≤ 500) else false then true else decide (PV.sz P > 500) then true else !prB (PV.n P) (o_in fun a => PV.f P a) (PV.sz P)
 (PV.m P) then true else decide (fuel < 0) then true else decide (fuel > 150) then true else decide (more < 0) then true else !bif bif bif bif bif !bif decide ((↑(PV.n
 P) : Int) ≤ 200) then decide ((↑(PV.m P) : Int) ≤ 500) else false then true else decide (PV.sz P > 500) then true else !prB (PV.n P) (o_in fun a => PV.f P a) (PV.sz
 P) (PV.m P) then true else decide (fuel < 0) then true else decide (fuel > 150) then true else decide (more < 0) then bif bif bif bif bif bif bif !bif decide ((↑(PV.n
 P) : Int) ≤ 200) then decide ((↑(PV.m P) : Int) ≤ 500) else false then true else decide (PV.sz P > 500) then true else !prB (PV.n P) (o_in fun a => PV.f P a) (PV.sz
 P) (PV.m P) then true else decide (fuel < 0) then true else decide (fuel > 150) then true else decide (more < 0) then true else decide (more > 100) then con (.bool
 true) = r else bif decide (PV.n (PV.mk (PV.n P) (o_in (PV.f P)) (PV.sz P) (PV.m P) (o_by (PV.d P))) ≤ 4611686018427387904) then bif allN (fun i => true) (PV.n (PV.mk
 (PV.n P) (o_in (PV.f P)) (PV.sz P) (PV.m P) (o_by (PV.d P)))) then bif decide (PV.m (PV.mk (PV.n P) (o_in (PV.f P)) (PV.sz P) (PV.m P) (o_by (PV.d P))) ≤ 4611686018427387904)
 then bif allN (fun i => true) (PV.m (PV.mk (PV.n P) (o_in (PV.f P)) (PV.sz P) (PV.m P) (o_by (PV.d P)))) then bif rngB (PV.m (PV.mk (PV.n P) (o_in (PV.f P)) (PV.sz
 P) (PV.m P) (o_by (PV.d P)))) fun a => .int .u8 (asN (PV.d P a)) then bif decide (0 ≤ PV.sz (PV.mk (PV.n P) (o_in (PV.f P)) (PV.sz P) (PV.m P) (o_by (PV.d P))))
 then bif decide (PV.sz (PV.mk (PV.n P) (o_in (PV.f P)) (PV.sz P) (PV.m P) (o_by (PV.d P))) ≤ 65536) then LoopAt (Ok Try.prog (Tab.q (TSt P F S))) c_law6_SeqSteps_l1
 (XSt.mk [(10, .int .i64 0), (9, .int .i64 0), (8, .ptr 1 [] 0), (6, .bool false), (3, .ptr 0 [] 0), (1, .int .i64 fuel), (2, .int .i64 more)] [(1, some (.agg 23
 [.int .i64 0, .agg 3 [.int .i64 0, .int .i64 0, .int .i64 0], .int .i64 0, .tab 16 1 fun x => .int .u32 0, .row false 1 (Int.toNat (PV.sz (PV.mk (PV.n P) (o_in (PV.f
 P)) (PV.sz P) (PV.m P) (o_by (PV.d P))))) fun i => .int .u8 (bif decide (i < PV.m (PV.mk (PV.n P) (o_in (PV.f P)) (PV.sz P) (PV.m P) (o_by (PV.d P)))) then asN (PV.d
 P i) else (0 : Int)), .row true 0 0 fun x => .unk])), (0, some (.agg 3 [.row false 5 (PV.n P) (o_in fun a => PV.f P a), .int .i64 (PV.sz P), .row false 1 (PV.m P)
 (o_by fun a => PV.d P a)]))] 2) [Frm.blk 0, Frm.seq c_law6_SeqSteps_p1] (finR [AR.tmp 6] r) else False else False else False else False else False else False else
 False else False else False else False else False else False else False else False else False else False
else False) := by kernel_rfl
theorem r_st2 (P : PV) (F : Int → RV) (S : RV → Int → RV × Int) (R : RV) (pc fuel more : Int) (i : Nat) (r : AV) (A : XSt → Prop) : (goS Try.prog (TSt P F S) [(.tmp 6)] r (.run c_law6_SeqSteps_l1) [.lp c_law6_SeqSteps_l1 A, .blk 0, .seq c_law6_SeqSteps_p1] (sSt P R pc fuel more i)) = (bif bif decide ((↑i : Int) < fuel) then decide ((↑i : Int) < fuel) else true then bif bif decide ((↑i : Int) < fuel) then decide (RV.en R = 0) else false then
 bif decide (PV.n (PV.mk (PV.n P) (o_in (PV.f P)) (PV.sz P) (PV.m P) (o_by (PV.d P))) ≤ 4611686018427387904) then bif allN (fun i => true) (PV.n (PV.mk (PV.n P) (o_in
 (PV.f P)) (PV.sz P) (PV.m P) (o_by (PV.d P)))) then bif decide (PV.m (PV.mk (PV.n P) (o_in (PV.f P)) (PV.sz P) (PV.m P) (o_by (PV.d P))) ≤ 4611686018427387904) then
 bif allN (fun i => true) (PV.m (PV.mk (PV.n P) (o_in (PV.f P)) (PV.sz P) (PV.m P) (o_by (PV.d P)))) then bif rngB (PV.m (PV.mk (PV.n P) (o_in (PV.f P)) (PV.sz P)
 (PV.m P) (o_by (PV.d P)))) fun a => .int .u8 (asN (PV.d P a)) then bif decide (RV.nm (RV.mk (RV.en R) (RV.tk R) (RV.ts R) (RV.tp R) (RV.st R) (o_rg (RV.rg R)) (RV.nm
 R) (o_by (RV.mm R)) (RV.nw R) (o_wr (RV.wf R))) ≤ 1099511627776) then bif decide (RV.nw (RV.mk (RV.en R) (RV.tk R) (RV.ts R) (RV.tp R) (RV.st R) (o_rg (RV.rg R))
 (RV.nm R) (o_by (RV.mm R)) (RV.nw R) (o_wr (RV.wf R))) ≤ 1000000) then bif allN (fun i => decide (0 ≤ asN (RV.rg R i)) && decide (asN (RV.rg R i) ≤ 4294967295))
 16 then bif allN (fun i => true) (RV.nm (RV.mk (RV.en R) (RV.tk R) (RV.ts R) (RV.tp R) (RV.st R) (o_rg (RV.rg R)) (RV.nm R) (o_by (RV.mm R)) (RV.nw R) (o_wr (RV.wf
 R)))) then bif rngB (RV.nm (RV.mk (RV.en R) (RV.tk R) (RV.ts R) (RV.tp R) (RV.st R) (o_rg (RV.rg R)) (RV.nm R) (o_by (RV.mm R)) (RV.nw R) (o_wr (RV.wf R)))) fun
 a => .int .u8 (asN (RV.mm R a)) then bif allN (fun i => true) (RV.nw (RV.mk (RV.en R) (RV.tk R) (RV.ts R) (RV.tp R) (RV.st R) (o_rg (RV.rg R)) (RV.nm R) (o_by (RV.mm
 R)) (RV.nw R) (o_wr (RV.wf R)))) then bif eqPV (PV.mk (PV.n P) (o_in (PV.f P)) (PV.sz P) (PV.m P) (o_by (PV.d P))) P then A (XSt.mk [(10, .int .i64 (IntKind.wrap
 .i64 ((↑i : Int) + (1 : Int)))), (9, .int .i64 (Prod.snd (S (RV.mk (RV.en R) (RV.tk R) (RV.ts R) (RV.tp R) (RV.st R) (o_rg (RV.rg R)) (RV.nm R) (o_by (RV.mm R))
 (RV.nw R) (o_wr (RV.wf R))) pc))), (8, .ptr 1 [] 0), (6, .bool false), (3, .ptr 0 [] 0), (1, .int .i64 fuel), (2, .int .i64 more)] [(1, some (.agg 23 [.int .i64
 (RV.en (Prod.fst (S (RV.mk (RV.en R) (RV.tk R) (RV.ts R) (RV.tp R) (RV.st R) (o_rg (RV.rg R)) (RV.nm R) (o_by (RV.mm R)) (RV.nw R) (o_wr (RV.wf R))) pc))), .agg
 3 [.int .i64 (RV.tk (Prod.fst (S (RV.mk (RV.en R) (RV.tk R) (RV.ts R) (RV.tp R) (RV.st R) (o_rg (RV.rg R)) (RV.nm R) (o_by (RV.mm R)) (RV.nw R) (o_wr (RV.wf R)))
 pc))), .int .i64 (RV.ts (Prod.fst (S (RV.mk (RV.en R) (RV.tk R) (RV.ts R) (RV.tp R) (RV.st R) (o_rg (RV.rg R)) (RV.nm R) (o_by (RV.mm R)) (RV.nw R) (o_wr (RV.wf
 R))) pc))), .int .i64 (RV.tp (Prod.fst (S (RV.mk (RV.en R) (RV.tk R) (RV.ts R) (RV.tp R) (RV.st R) (o_rg (RV.rg R)) (RV.nm R) (o_by (RV.mm R)) (RV.nw R) (o_wr (RV.wf
 R))) pc)))], .int .i64 (RV.st (Prod.fst (S (RV.mk (RV.en R) (RV.tk R) (RV.ts R) (RV.tp R) (RV.st R) (o_rg (RV.rg R)) (RV.nm R) (o_by (RV.mm R)) (RV.nw R) (o_wr (RV.wf
 R))) pc))), .tab 16 1 (o_rg fun a => RV.rg (Prod.fst (S (RV.mk (RV.en R) (RV.tk R) (RV.ts R) (RV.tp R) (RV.st R) (o_rg (RV.rg R)) (RV.nm R) (o_by (RV.mm R)) (RV.nw
 R) (o_wr (RV.wf R))) pc)) a), .row false 1 (RV.nm (Prod.fst (S (RV.mk (RV.en R) (RV.tk R) (RV.ts R) (RV.tp R) (RV.st R) (o_rg (RV.rg R)) (RV.nm R) (o_by (RV.mm R))
 (RV.nw R) (o_wr (RV.wf R))) pc))) (o_by fun a => RV.mm (Prod.fst (S (RV.mk (RV.en R) (RV.tk R) (RV.ts R) (RV.tp R) (RV.st R) (o_rg (RV.rg R)) (RV.nm R) (o_by (RV.mm
 R)) (RV.nw R) (o_wr (RV.wf R))) pc)) a), .row false 3 (RV.nw (Prod.fst (S (RV.mk (RV.en R) (RV.tk R) (RV.ts R) (RV.tp R) (RV.st R) (o_rg (RV.rg R)) (RV.nm R) (o_by
 (RV.mm R)) (RV.nw R) (o_wr (RV.wf R))) pc))) (o_wr fun a => RV.wf (Prod.fst (S (RV.mk (RV.en R) (RV.tk R) (RV.ts R) (RV.tp R) (RV.st R) (o_rg (RV.rg R)) (RV.nm R)
 (o_by (RV.mm R)) (RV.nw R) (o_wr (RV.wf R))) pc)) a)])), (0, some (.agg 3 [.row false 5 (PV.n P) (o_in fun a => PV.f P a), .int .i64 (PV.sz P), .row false 1 (PV.m
 P) (o_by fun a => PV.d P a)]))] 2) else False else False else False else False else False else False else False else False else False else False else False else
 False else bif decide (PV.n (PV.mk (PV.n P) (o_in (PV.f P)) (PV.sz P) (PV.m P) (o_by (PV.d P))) ≤ 4611686018427387904) then bif allN (fun i => true) (PV.n (PV.mk
 (PV.n P) (o_in (PV.f P)) (PV.sz P) (PV.m P) (o_by (PV.d P)))) then bif decide (PV.m (PV.mk (PV.n P) (o_in (PV.f P)) (PV.sz P) (PV.m P) (o_by (PV.d P))) ≤ 4611686018427387904)
 then bif allN (fun i => true) (PV.m (PV.mk (PV.n P) (o_in (PV.f P)) (PV.sz P) (PV.m P) (o_by (PV.d P)))) then bif rngB (PV.m (PV.mk (PV.n P) (o_in (PV.f P)) (PV.sz
 P) (PV.m P) (o_by (PV.d P)))) fun a => .int .u8 (asN (PV.d P a)) then bif eqPV (PV.mk (PV.n P) (o_in (PV.f P)) (PV.sz P) (PV.m P) (o_by (PV.d P))) P then bif decide
 (PV.n (PV.mk (PV.n P) (o_in (PV.f P)) (PV.sz P) (PV.m P) (o_by (PV.d P))) ≤ 4611686018427387904) then bif allN (fun i => true) (PV.n (PV.mk (PV.n P) (o_in (PV.f
 P)) (PV.sz P) (PV.m P) (o_by (PV.d P)))) then bif decide (PV.m (PV.mk (PV.n P) (o_in (PV.f P)) (PV.sz P) (PV.m P) (o_by (PV.d P))) ≤ 4611686018427387904) then bif
 allN (fun i => true) (PV.m (PV.mk (PV.n P) (o_in (PV.f P)) (PV.sz P) (PV.m P) (o_by (PV.d P)))) then bif rngB (PV.m (PV.mk (PV.n P) (o_in (PV.f P)) (PV.sz P) (PV.m
 P) (o_by (PV.d P)))) fun a => .int .u8 (asN (PV.d P a)) then bif eqPV (PV.mk (PV.n P) (o_in (PV.f P)) (PV.sz P) (PV.m P) (o_by (PV.d P))) P then bif decide (RV.en
 R = 0) then bif decide (RV.nm (RV.mk (RV.en (F fuel)) (RV.tk (F fuel)) (RV.ts (F fuel)) (RV.tp (F fuel)) (RV.st (F fuel)) (o_rg (RV.rg (F fuel))) (RV.nm (F fuel))
 (o_by (RV.mm (F fuel))) (RV.nw (F fuel)) (o_wr (RV.wf (F fuel)))) ≤ 1099511627776) then bif decide (RV.nw (RV.mk (RV.en (F fuel)) (RV.tk (F fuel)) (RV.ts (F fuel))
 (RV.tp (F fuel)) (RV.st (F fuel)) (o_rg (RV.rg (F fuel))) (RV.nm (F fuel)) (o_by (RV.mm (F fuel))) (RV.nw (F fuel)) (o_wr (RV.wf (F fuel)))) ≤ 1000000) then bif
 allN (fun i => decide (0 ≤ asN (RV.rg (F fuel) i)) && decide (asN (RV.rg (F fuel) i) ≤ 4294967295)) 16 then bif allN (fun i => true) (RV.nm (RV.mk (RV.en (F fuel))
 (RV.tk (F fuel)) (RV.ts (F fuel)) (RV.tp (F fuel)) (RV.st (F fuel)) (o_rg (RV.rg (F fuel))) (RV.nm (F fuel)) (o_by (RV.mm (F fuel))) (RV.nw (F fuel)) (o_wr (RV.wf
 (F fuel))))) then bif rngB (RV.nm (RV.mk (RV.en (F fuel)) (RV.tk (F fuel)) (RV.ts (F fuel)) (RV.tp (F fuel)) (RV.st (F fuel)) (o_rg (RV.rg (F fuel))) (RV.nm (F fuel))
 (o_by (RV.mm (F fuel))) (RV.nw (F fuel)) (o_wr (RV.wf (F fuel))))) fun a => .int .u8 (asN (RV.mm (F fuel) a)) then bif allN (fun i => true) (RV.nw (RV.mk (RV.en
 (F fuel)) (RV.tk (F fuel)) (RV.ts (F fuel)) (RV.tp (F fuel)) (RV.st (F fuel)) (o_rg (RV.rg (F fuel))) (RV.nm (F fuel)) (o_by (RV.mm (F fuel))) (RV.nw (F fuel)) (o_wr
 (RV.wf (F fuel))))) then bif decide (RV.nm (RV.mk (3 : Int) (RV.tk R) (RV.ts R) (RV.tp R) (RV.st R) (o_rg (RV.rg R)) (RV.nm R) (o_by (RV.mm R)) (RV.nw R) (o_wr (RV.wf
 R))) ≤ 1099511627776) then bif decide (RV.nw (RV.mk (3 : Int) (RV.tk R) (RV.ts R) (RV.tp R) (RV.st R) (o_rg (RV.rg R)) (RV.nm R) (o_by (RV.mm R)) (RV.nw R) (o_wr
 (RV.wf R))) ≤ 1000000) then bif allN (fun i => decide (0 ≤ asN (RV.rg R i)) && decide (asN (RV.rg R i) ≤ 4294967295)) 16 then bif allN (fun i => true) (RV.nm (RV.mk
 (3 : Int) (RV.tk R) (RV.ts R) (RV.tp R) (RV.st R) (o_rg (RV.rg R)) (RV.nm R) (o_by (RV.mm R)) (RV.nw R) (o_wr (RV.wf R)))) then bif rngB (RV.nm (RV.mk (3 : Int)
 (RV.tk R) (RV.ts R) (RV.tp R) (RV.st R) (o_rg (RV.rg R)) (RV.nm R) (o_by (RV.mm R)) (RV.nw R) (o_wr (RV.wf R)))) fun a => .int .u8 (asN (RV.mm R a)) then bif allN
 (fun i => true) (RV.nw (RV.mk (3 : Int) (RV.tk R) (RV.ts R) (RV.tp R) (RV.st R) (o_rg (RV.rg R)) (RV.nm R) (o_by (RV.mm R)) (RV.nw R) (o_wr (RV.wf R)))) then bif
 eqRV (RV.mk (RV.en (F fuel)) (RV.tk (F fuel)) (RV.ts (F fuel)) (RV.tp (F fuel)) (RV.st (F fuel)) (o_rg (RV.rg (F fuel))) (RV.nm (F fuel)) (o_by (RV.mm (F fuel)))
 (RV.nw (F fuel)) (o_wr (RV.wf (F fuel)))) (RV.mk (3 : Int) (RV.tk R) (RV.ts R) (RV.tp R) (RV.st R) (o_rg (RV.rg R)) (RV.nm R) (o_by (RV.mm R)) (RV.nw R) (o_wr (RV.wf
 R))) then bif bif decide ((↑(RV.nw (F (IntKind.wrap .i64 (fuel + more)))) : Int) ≥ (↑(RV.nw (F fuel)) : Int)) then decide ((↑(RV.nw (F (IntKind.wrap .i64 (fuel +
 more)))) : Int) ≥ (↑(RV.nw (F fuel)) : Int)) else true then con (.bool (bif decide ((↑(RV.nw (F (IntKind.wrap .i64 (fuel + more)))) : Int) ≥ (↑(RV.nw (F fuel)) :
 Int)) then decide (RV.st (F (IntKind.wrap .i64 (fuel + more))) ≥ RV.st (F fuel)) else false)) = r else False else False else False else False else False else False
 else False else False else False else False else False else False else False else False else bif decide (PV.n (PV.mk (PV.n P) (o_in (PV.f P)) (PV.sz P) (PV.m P)
 (o_by (PV.d P))) ≤ 4611686018427387904) then bif allN (fun i => true) (PV.n (PV.mk (PV.n P) (o_in (PV.f P)) (PV.sz P) (PV.m P) (o_by (PV.d P)))) then bif decide
 (PV.m (PV.mk (PV.n P) (o_in (PV.f P)) (PV.sz P) (PV.m P) (o_by (PV.d P))) ≤ 4611686018427387904) then bif allN (fun i => true) (PV.m (PV.mk (PV.n P) (o_in (PV.f
 P)) (PV.sz P) (PV.m P) (o_by (PV.d P)))) then bif rngB (PV.m (PV.mk (PV.n P) (o_in (PV.f P)) (PV.sz P) (PV.m P) (o_by (PV.d P)))) fun a => .int .u8 (asN (PV.d P
 a)) then bif decide (RV.nm (RV.mk (RV.en R) (RV.tk R) (RV.ts R) (RV.tp R) (RV.st R) (o_rg (RV.rg R)) (RV.nm R) (o_by (RV.mm R)) (RV.nw R) (o_wr (RV.wf R))) ≤ 1099511627776)
 then bif decide (RV.nw (RV.mk (RV.en R) (RV.tk R) (RV.ts R) (RV.tp R) (RV.st R) (o_rg (RV.rg R)) (RV.nm R) (o_by (RV.mm R)) (RV.nw R) (o_wr (RV.wf R))) ≤ 1000000)
 then bif allN (fun i => decide (0 ≤ asN (RV.rg R i)) && decide (asN (RV.rg R i) ≤ 4294967295)) 16 then bif allN (fun i => true) (RV.nm (RV.mk (RV.en R) (RV.tk R)
 (RV.ts R) (RV.tp R) (RV.st R) (o_rg (RV.rg R)) (RV.nm R) (o_by (RV.mm R)) (RV.nw R) (o_wr (RV.wf R)))) then bif rngB (RV.nm (RV.mk (RV.en R) (RV.tk R) (RV.ts R)
 (RV.tp R) (RV.st R) (o_rg (RV.rg R)) (RV.nm R) (o_by (RV.mm R)) (RV.nw R) (o_wr (RV.wf R)))) fun a => .int .u8 (asN (RV.mm R a)) then bif allN (fun i => true) (RV.nw
 (RV.mk (RV.en R) (RV.tk R) (RV.ts R) (RV.tp R) (RV.st R) (o_rg (RV.rg R)) (RV.nm R) (o_by (RV.mm R)) (RV.nw R) (o_wr (RV.wf R)))) then bif eqPV (PV.mk (PV.n P) (o_in
 (PV.f P)) (PV.sz P) (PV.m P) (o_by (PV.d P))) P then bif decide (RV.nm (RV.mk (RV.en (F fuel)) (RV.tk (F fuel)) (RV.ts (F fuel)) (RV.tp (F fuel)) (RV.st (F fuel))
 (o_rg (RV.rg (F fuel))) (RV.nm (F fuel)) (o_by (RV.mm (F fuel))) (RV.nw (F fuel)) (o_wr (RV.wf (F fuel)))) ≤ 1099511627776) then bif decide (RV.nw (RV.mk (RV.en
 (F fuel)) (RV.tk (F fuel)) (RV.ts (F fuel)) (RV.tp (F fuel)) (RV.st (F fuel)) (o_rg (RV.rg (F fuel))) (RV.nm (F fuel)) (o_by (RV.mm (F fuel))) (RV.nw (F fuel)) (o_wr
 (RV.wf (F fuel)))) ≤ 1000000) then bif allN (fun i => decide (0 ≤ asN (RV.rg (F fuel) i)) && decide (asN (RV.rg (F fuel) i) ≤ 4294967295)) 16 then bif allN (fun
 i => true) (RV.nm (RV.mk (RV.en (F fuel)) (RV.tk (F fuel)) (RV.ts (F fuel)) (RV.tp (F fuel)) (RV.st (F fuel)) (o_rg (RV.rg (F fuel))) (RV.nm (F fuel)) (o_by (RV.mm
 (F fuel))) (RV.nw (F fuel)) (o_wr (RV.wf (F fuel))))) then bif rngB (RV.nm (RV.mk (RV.en (F fuel)) (RV.tk (F fuel)) (RV.ts (F fuel)) (RV.tp (F fuel)) (RV.st (F fuel))
 (o_rg (RV.rg (F fuel))) (RV.nm (F fuel)) (o_by (RV.mm (F fuel))) (RV.nw (F fuel)) (o_wr (RV.wf (F fuel))))) fun a => .int .u8 (asN (RV.mm (F fuel) a)) then bif allN
 (fun i => true) (RV.nw (RV.mk (RV.en (F fuel)) (RV.tk (F fuel)) (RV.ts (F fuel)) (RV.tp (F fuel)) (RV.st (F fuel)) (o_rg (RV.rg (F fuel))) (RV.nm (F fuel)) (o_by
 (RV.mm (F fuel))) (RV.nw (F fuel)) (o_wr (RV.wf (F fuel))))) then bif decide (RV.nm (RV.mk (RV.en R) (RV.tk R) (RV.ts R) (RV.tp R) (RV.st R) (o_rg (RV.rg R)) (RV.nm
 R) (o_by (RV.mm R)) (RV.nw R) (o_wr (RV.wf R))) ≤ 1099511627776) then bif decide (RV.nw (RV.mk (RV.en R) (RV.tk R) (RV.ts R) (RV.tp R) (RV.st R) (o_rg (RV.rg R))
 (RV.nm R) (o_by (RV.mm R)) (RV.nw R) (o_wr (RV.wf R))) ≤ 1000000) then bif allN (fun i => decide (0 ≤ asN (RV.rg R i)) && decide (asN (RV.rg R i) ≤ 4294967295))
 16 then bif allN (fun i => true) (RV.nm (RV.mk (RV.en R) (RV.tk R) (RV.ts R) (RV.tp R) (RV.st R) (o_rg (RV.rg R)) (RV.nm R) (o_by (RV.mm R)) (RV.nw R) (o_wr (RV.wf
 R)))) then bif rngB (RV.nm (RV.mk (RV.en R) (RV.tk R) (RV.ts R) (RV.tp R) (RV.st R) (o_rg (RV.rg R)) (RV.nm R) (o_by (RV.mm R)) (RV.nw R) (o_wr (RV.wf R)))) fun
 a => .int .u8 (asN (RV.mm R a)) then bif allN (fun i => true) (RV.nw (RV.mk (RV.en R) (RV.tk R) (RV.ts R) (RV.tp R) (RV.st R) (o_rg (RV.rg R)) (RV.nm R) (o_by (RV.mm
 R)) (RV.nw R) (o_wr (RV.wf R)))) then bif eqRV (RV.mk (RV.en (F fuel)) (RV.tk (F fuel)) (RV.ts (F fuel)) (RV.tp (F fuel)) (RV.st (F fuel)) (o_rg (RV.rg (F fuel)))
 (RV.nm (F fuel)) (o_by (RV.mm (F fuel))) (RV.nw (F fuel)) (o_wr (RV.wf (F fuel)))) (RV.mk (RV.en R) (RV.tk R) (RV.ts R) (RV.tp R) (RV.st R) (o_rg (RV.rg R)) (RV.nm
 R) (o_by (RV.mm R)) (RV.nw R) (o_wr (RV.wf R))) then bif bif decide (RV.nm (RV.mk (RV.en (F (IntKind.wrap .i64 (fuel + more)))) (RV.tk (F (IntKind.wrap .i64 (fuel
 + more)))) (RV.ts (F (IntKind.wrap .i64 (fuel + more)))) (RV.tp (F (IntKind.wrap .i64 (fuel + more)))) (RV.st (F (IntKind.wrap .i64 (fuel + more)))) (o_rg (RV.rg
 (F (IntKind.wrap .i64 (fuel + more))))) (RV.nm (F (IntKind.wrap .i64 (fuel + more)))) (o_by (RV.mm (F (IntKind.wrap .i64 (fuel + more))))) (RV.nw (F (IntKind.wrap
 .i64 (fuel + more)))) (o_wr (RV.wf (F (IntKind.wrap .i64 (fuel + more)))))) ≤ 1099511627776) then true else false then bif bif decide (RV.nw (RV.mk (RV.en (F (IntKind.wrap
 .i64 (fuel + more)))) (RV.tk (F (IntKind.wrap .i64 (fuel + more)))) (RV.ts (F (IntKind.wrap .i64 (fuel + more)))) (RV.tp (F (IntKind.wrap .i64 (fuel + more)))) (RV.st
 (F (IntKind.wrap .i64 (fuel + more)))) (o_rg (RV.rg (F (IntKind.wrap .i64 (fuel + more))))) (RV.nm (F (IntKind.wrap .i64 (fuel + more)))) (o_by (RV.mm (F (IntKind.wrap
 .i64 (fuel + more))))) (RV.nw (F (IntKind.wrap .i64 (fuel + more)))) (o_wr (RV.wf (F (IntKind.wrap .i64 (fuel + more)))))) ≤ 1000000) then true else false then bif
 bif allN (fun i => decide (0 ≤ asN (RV.rg (F (IntKind.wrap .i64 (fuel + more))) i)) && decide (asN (RV.rg (F (IntKind.wrap .i64 (fuel + more))) i) ≤ 4294967295))
 16 then true else false then bif bif allN (fun i => true) (RV.nm (RV.mk (RV.en (F (IntKind.wrap .i64 (fuel + more)))) (RV.tk (F (IntKind.wrap .i64 (fuel + more))))
 (RV.ts (F (IntKind.wrap .i64 (fuel + more)))) (RV.tp (F (IntKind.wrap .i64 (fuel + more)))) (RV.st (F (IntKind.wrap .i64 (fuel + more)))) (o_rg (RV.rg (F (IntKind.wrap
 .i64 (fuel + more))))) (RV.nm (F (IntKind.wrap .i64 (fuel + more)))) (o_by (RV.mm (F (IntKind.wrap .i64 (fuel + more))))) (RV.nw (F (IntKind.wrap .i64 (fuel + more))))
 (o_wr (RV.wf (F (IntKind.wrap .i64 (fuel + more))))))) then true else false then bif bif rngB (RV.nm (RV.mk (RV.en (F (IntKind.wrap .i64 (fuel + more)))) (RV.tk
 (F (IntKind.wrap .i64 (fuel + more)))) (RV.ts (F (IntKind.wrap .i64 (fuel + more)))) (RV.tp (F (IntKind.wrap .i64 (fuel + more)))) (RV.st (F (IntKind.wrap .i64 (fuel
 + more)))) (o_rg (RV.rg (F (IntKind.wrap .i64 (fuel + more))))) (RV.nm (F (IntKind.wrap .i64 (fuel + more)))) (o_by (RV.mm (F (IntKind.wrap .i64 (fuel + more)))))
 (RV.nw (F (IntKind.wrap .i64 (fuel + more)))) (o_wr (RV.wf (F (IntKind.wrap .i64 (fuel + more))))))) fun a => .int .u8 (asN (RV.mm (F (IntKind.wrap .i64 (fuel +
 more))) a)) then true else false then bif bif allN (fun i => true) (RV.nw (RV.mk (RV.en (F (IntKind.wrap .i64 (fuel + more)))) (RV.tk (F (IntKind.wrap .i64 (fuel
 + more)))) (RV.ts (F (IntKind.wrap .i64 (fuel + more)))) (RV.tp (F (IntKind.wrap .i64 (fuel + more)))) (RV.st (F (IntKind.wrap .i64 (fuel + more)))) (o_rg (RV.rg
 (F (IntKind.wrap .i64 (fuel + more))))) (RV.nm (F (IntKind.wrap .i64 (fuel + more)))) (o_by (RV.mm (F (IntKind.wrap .i64 (fuel + more))))) (RV.nw (F (IntKind.wrap
 .i64 (fuel + more)))) (o_wr (RV.wf (F (IntKind.wrap .i64 (fuel + more))))))) then true else false then bif bif decide (RV.nm (RV.mk (RV.en R) (RV.tk R) (RV.ts R)
 (RV.tp R) (RV.st R) (o_rg (RV.rg R)) (RV.nm R) (o_by (RV.mm R)) (RV.nw R) (o_wr (RV.wf R))) ≤ 1099511627776) then true else false then bif bif decide (RV.nw (RV.mk
 (RV.en R) (RV.tk R) (RV.ts R) (RV.tp R) (RV.st R) (o_rg (RV.rg R)) (RV.nm R) (o_by (RV.mm R)) (RV.nw R) (o_wr (RV.wf R))) ≤ 1000000) then true else false then bif
 bif allN (fun i => decide (0 ≤ asN (RV.rg R i)) && decide (asN (RV.rg R i) ≤ 4294967295)) 16 then true else false then bif bif allN (fun i => true) (RV.nm (RV.mk
 (RV.en R) (RV.tk R) (RV.ts R) (RV.tp R) (RV.st R) (o_rg (RV.rg R)) (RV.nm R) (o_by (RV.mm R)) (RV.nw R) (o_wr (RV.wf R)))) then true else false then bif bif rngB
 (RV.nm (RV.mk (RV.en R) (RV.tk R) (RV.ts R) (RV.tp R) (RV.st R) (o_rg (RV.rg R)) (RV.nm R) (o_by (RV.mm R)) (RV.nw R) (o_wr (RV.wf R)))) fun a => .int .u8 (asN (RV.mm
 R a)) then true else false then bif bif allN (fun i => true) (RV.nw (RV.mk (RV.en R) (RV.tk R) (RV.ts R) (RV.tp R) (RV.st R) (o_rg (RV.rg R)) (RV.nm R) (o_by (RV.mm
 R)) (RV.nw R) (o_wr (RV.wf R)))) then true else false then bif bif eqRV (RV.mk (RV.en (F (IntKind.wrap .i64 (fuel + more)))) (RV.tk (F (IntKind.wrap .i64 (fuel +
 more)))) (RV.ts (F (IntKind.wrap .i64 (fuel + more)))) (RV.tp (F (IntKind.wrap .i64 (fuel + more)))) (RV.st (F (IntKind.wrap .i64 (fuel + more)))) (o_rg (RV.rg (F
 (IntKind.wrap .i64 (fuel + more))))) (RV.nm (F (IntKind.wrap .i64 (fuel + more)))) (o_by (RV.mm (F (IntKind.wrap .i64 (fuel + more))))) (RV.nw (F (IntKind.wrap .i64
 (fuel + more)))) (o_wr (RV.wf (F (IntKind.wrap .i64 (fuel + more)))))) (RV.mk (RV.en R) (RV.tk R) (RV.ts R) (RV.tp R) (RV.st R) (o_rg (RV.rg R)) (RV.nm R) (o_by
 (RV.mm R)) (RV.nw R) (o_wr (RV.wf R))) then true else false then bif bif decide (RV.nm (RV.mk (RV.en (Prod.fst (S (RV.mk (RV.en R) (RV.tk R) (RV.ts R) (RV.tp R)
 (RV.st R) (o_rg (RV.rg R)) (RV.nm R) (o_by (RV.mm R)) (RV.nw R) (o_wr (RV.wf R))) pc))) (RV.tk (Prod.fst (S (RV.mk (RV.en R) (RV.tk R) (RV.ts R) (RV.tp R) (RV.st
 R) (o_rg (RV.rg R)) (RV.nm R) (o_by (RV.mm R)) (RV.nw R) (o_wr (RV.wf R))) pc))) (RV.ts (Prod.fst (S (RV.mk (RV.en R) (RV.tk R) (RV.ts R) (RV.tp R) (RV.st R) (o_rg
 (RV.rg R)) (RV.nm R) (o_by (RV.mm R)) (RV.nw R) (o_wr (RV.wf R))) pc))) (RV.tp (Prod.fst (S (RV.mk (RV.en R) (RV.tk R) (RV.ts R) (RV.tp R) (RV.st R) (o_rg (RV.rg
 R)) (RV.nm R) (o_by (RV.mm R)) (RV.nw R) (o_wr (RV.wf R))) pc))) (RV.st (Prod.fst (S (RV.mk (RV.en R) (RV.tk R) (RV.ts R) (RV.tp R) (RV.st R) (o_rg (RV.rg R)) (RV.nm
 R) (o_by (RV.mm R)) (RV.nw R) (o_wr (RV.wf R))) pc))) (o_rg (RV.rg (Prod.fst (S (RV.mk (RV.en R) (RV.tk R) (RV.ts R) (RV.tp R) (RV.st R) (o_rg (RV.rg R)) (RV.nm
 R) (o_by (RV.mm R)) (RV.nw R) (o_wr (RV.wf R))) pc)))) (RV.nm (Prod.fst (S (RV.mk (RV.en R) (RV.tk R) (RV.ts R) (RV.tp R) (RV.st R) (o_rg (RV.rg R)) (RV.nm R) (o_by
 (RV.mm R)) (RV.nw R) (o_wr (RV.wf R))) pc))) (o_by (RV.mm (Prod.fst (S (RV.mk (RV.en R) (RV.tk R) (RV.ts R) (RV.tp R) (RV.st R) (o_rg (RV.rg R)) (RV.nm R) (o_by
 (RV.mm R)) (RV.nw R) (o_wr (RV.wf R))) pc)))) (RV.nw (Prod.fst (S (RV.mk (RV.en R) (RV.tk R) (RV.ts R) (RV.tp R) (RV.st R) (o_rg (RV.rg R)) (RV.nm R) (o_by (RV.mm
 R)) (RV.nw R) (o_wr (RV.wf R))) pc))) (o_wr (RV.wf (Prod.fst (S (RV.mk (RV.en R) (RV.tk R) (RV.ts R) (RV.tp R) (RV.st R) (o_rg (RV.rg R)) (RV.nm R) (o_by (RV.mm
 R)) (RV.nw R) (o_wr (RV.wf R))) pc))))) ≤ 1099511627776) then true else false then bif bif decide (RV.nw (RV.mk (RV.en (Prod.fst (S (RV.mk (RV.en R) (RV.tk R) (RV.ts
 R) (RV.tp R) (RV.st R) (o_rg (RV.rg R)) (RV.nm R) (o_by (RV.mm R)) (RV.nw R) (o_wr (RV.wf R))) pc))) (RV.tk (Prod.fst (S (RV.mk (RV.en R) (RV.tk R) (RV.ts R) (RV.tp
 R) (RV.st R) (o_rg (RV.rg R)) (RV.nm R) (o_by (RV.mm R)) (RV.nw R) (o_wr (RV.wf R))) pc))) (RV.ts (Prod.fst (S (RV.mk (RV.en R) (RV.tk R) (RV.ts R) (RV.tp R) (RV.st
 R) (o_rg (RV.rg R)) (RV.nm R) (o_by (RV.mm R)) (RV.nw R) (o_wr (RV.wf R))) pc))) (RV.tp (Prod.fst (S (RV.mk (RV.en R) (RV.tk R) (RV.ts R) (RV.tp R) (RV.st R) (o_rg
 (RV.rg R)) (RV.nm R) (o_by (RV.mm R)) (RV.nw R) (o_wr (RV.wf R))) pc))) (RV.st (Prod.fst (S (RV.mk (RV.en R) (RV.tk R) (RV.ts R) (RV.tp R) (RV.st R) (o_rg (RV.rg
 R)) (RV.nm R) (o_by (RV.mm R)) (RV.nw R) (o_wr (RV.wf R))) pc))) (o_rg (RV.rg (Prod.fst (S (RV.mk (RV.en R) (RV.tk R) (RV.ts R) (RV.tp R) (RV.st R) (o_rg (RV.rg
 R)) (RV.nm R) (o_by (RV.mm R)) (RV.nw R) (o_wr (RV.wf R))) pc)))) (RV.nm (Prod.fst (S (RV.mk (RV.en R) (RV.tk R) (RV.ts R) (RV.tp R) (RV.st R) (o_rg (RV.rg R)) (RV.nm
 R) (o_by (RV.mm R)) (RV.nw R) (o_wr (RV.wf R))) pc))) (o_by (RV.mm (Prod.fst (S (RV.mk (RV.en R) (RV.tk R) (RV.ts R) (RV.tp R) (RV.st R) (o_rg (RV.rg R)) (RV.nm
 R) (o_by (RV.mm R)) (RV.nw R) (o_wr (RV.wf R))) pc)))) (RV.nw (Prod.fst (S (RV.mk (RV.en R) (RV.tk R) (RV.ts R) (RV.tp R) (RV.st R) (o_rg (RV.rg R)) (RV.nm R) (o_by
 (RV.mm R)) (RV.nw R) (o_wr (RV.wf R))) pc))) (o_wr (RV.wf (Prod.fst (S (RV.mk (RV.en R) (RV.tk R) (RV.ts R) (RV.tp R) (RV.st R) (o_rg (RV.rg R)) (RV.nm R) (o_by
 (RV.mm R)) (RV.nw R) (o_wr (RV.wf R))) pc))))) ≤ 1000000) then true else false then bif bif allN (fun i => decide ((0 : Int) ≤ asN (RV.rg (Prod.fst (S (RV.mk (RV.en
 R) (RV.tk R) (RV.ts R) (RV.tp R) (RV.st R) (o_rg (RV.rg R)) (RV.nm R) (o_by (RV.mm R)) (RV.nw R) (o_wr (RV.wf R))) pc)) i)) && decide (asN (RV.rg (Prod.fst (S (RV.mk
 (RV.en R) (RV.tk R) (RV.ts R) (RV.tp R) (RV.st R) (o_rg (RV.rg R)) (RV.nm R) (o_by (RV.mm R)) (RV.nw R) (o_wr (RV.wf R))) pc)) i) ≤ (4294967295 : Int))) 16 then
 true else false then bif bif allN (fun i => true) (RV.nm (RV.mk (RV.en (Prod.fst (S (RV.mk (RV.en R) (RV.tk R) (RV.ts R) (RV.tp R) (RV.st R) (o_rg (RV.rg R)) (RV.nm
 R) (o_by (RV.mm R)) (RV.nw R) (o_wr (RV.wf R))) pc))) (RV.tk (Prod.fst (S (RV.mk (RV.en R) (RV.tk R) (RV.ts R) (RV.tp R) (RV.st R) (o_rg (RV.rg R)) (RV.nm R) (o_by
 (RV.mm R)) (RV.nw R) (o_wr (RV.wf R))) pc))) (RV.ts (Prod.fst (S (RV.mk (RV.en R) (RV.tk R) (RV.ts R) (RV.tp R) (RV.st R) (o_rg (RV.rg R)) (RV.nm R) (o_by (RV.mm
 R)) (RV.nw R) (o_wr (RV.wf R))) pc))) (RV.tp (Prod.fst (S (RV.mk (RV.en R) (RV.tk R) (RV.ts R) (RV.tp R) (RV.st R) (o_rg (RV.rg R)) (RV.nm R) (o_by (RV.mm R)) (RV.nw
 R) (o_wr (RV.wf R))) pc))) (RV.st (Prod.fst (S (RV.mk (RV.en R) (RV.tk R) (RV.ts R) (RV.tp R) (RV.st R) (o_rg (RV.rg R)) (RV.nm R) (o_by (RV.mm R)) (RV.nw R) (o_wr
 (RV.wf R))) pc))) (o_rg (RV.rg (Prod.fst (S (RV.mk (RV.en R) (RV.tk R) (RV.ts R) (RV.tp R) (RV.st R) (o_rg (RV.rg R)) (RV.nm R) (o_by (RV.mm R)) (RV.nw R) (o_wr
 (RV.wf R))) pc)))) (RV.nm (Prod.fst (S (RV.mk (RV.en R) (RV.tk R) (RV.ts R) (RV.tp R) (RV.st R) (o_rg (RV.rg R)) (RV.nm R) (o_by (RV.mm R)) (RV.nw R) (o_wr (RV.wf
 R))) pc))) (o_by (RV.mm (Prod.fst (S (RV.mk (RV.en R) (RV.tk R) (RV.ts R) (RV.tp R) (RV.st R) (o_rg (RV.rg R)) (RV.nm R) (o_by (RV.mm R)) (RV.nw R) (o_wr (RV.wf
 R))) pc)))) (RV.nw (Prod.fst (S (RV.mk (RV.en R) (RV.tk R) (RV.ts R) (RV.tp R) (RV.st R) (o_rg (RV.rg R)) (RV.nm R) (o_by (RV.mm R)) (RV.nw R) (o_wr (RV.wf R)))
 pc))) (o_wr (RV.wf (Prod.fst (S (RV.mk (RV.en R) (RV.tk R) (RV.ts R) (RV.tp R) (RV.st R) (o_rg (RV.rg R)) (RV.nm R) (o_by (RV.mm R)) (RV.nw R) (o_wr (RV.wf R)))
 pc)))))) then true else false then bif bif rngB (RV.nm (RV.mk (RV.en (Prod.fst (S (RV.mk (RV.en R) (RV.tk R) (RV.ts R) (RV.tp R) (RV.st R) (o_rg (RV.rg R)) (RV.nm
 R) (o_by (RV.mm R)) (RV.nw R) (o_wr (RV.wf R))) pc))) (RV.tk (Prod.fst (S (RV.mk (RV.en R) (RV.tk R) (RV.ts R) (RV.tp R) (RV.st R) (o_rg (RV.rg R)) (RV.nm R) (o_by
 (RV.mm R)) (RV.nw R) (o_wr (RV.wf R))) pc))) (RV.ts (Prod.fst (S (RV.mk (RV.en R) (RV.tk R) (RV.ts R) (RV.tp R) (RV.st R) (o_rg (RV.rg R)) (RV.nm R) (o_by (RV.mm
 R)) (RV.nw R) (o_wr (RV.wf R))) pc))) (RV.tp (Prod.fst (S (RV.mk (RV.en R) (RV.tk R) (RV.ts R) (RV.tp R) (RV.st R) (o_rg (RV.rg R)) (RV.nm R) (o_by (RV.mm R)) (RV.nw
 R) (o_wr (RV.wf R))) pc))) (RV.st (Prod.fst (S (RV.mk (RV.en R) (RV.tk R) (RV.ts R) (RV.tp R) (RV.st R) (o_rg (RV.rg R)) (RV.nm R) (o_by (RV.mm R)) (RV.nw R) (o_wr
 (RV.wf R))) pc))) (o_rg (RV.rg (Prod.fst (S (RV.mk (RV.en R) (RV.tk R) (RV.ts R) (RV.tp R) (RV.st R) (o_rg (RV.rg R)) (RV.nm R) (o_by (RV.mm R)) (RV.nw R) (o_wr
 (RV.wf R))) pc)))) (RV.nm (Prod.fst (S (RV.mk (RV.en R) (RV.tk R) (RV.ts R) (RV.tp R) (RV.st R) (o_rg (RV.rg R)) (RV.nm R) (o_by (RV.mm R)) (RV.nw R) (o_wr (RV.wf
 R))) pc))) (o_by (RV.mm (Prod.fst (S (RV.mk (RV.en R) (RV.tk R) (RV.ts R) (RV.tp R) (RV.st R) (o_rg (RV.rg R)) (RV.nm R) (o_by (RV.mm R)) (RV.nw R) (o_wr (RV.wf
 R))) pc)))) (RV.nw (Prod.fst (S (RV.mk (RV.en R) (RV.tk R) (RV.ts R) (RV.tp R) (RV.st R) (o_rg (RV.rg R)) (RV.nm R) (o_by (RV.mm R)) (RV.nw R) (o_wr (RV.wf R)))
 pc))) (o_wr (RV.wf (Prod.fst (S (RV.mk (RV.en R) (RV.tk R) (RV.ts R) (RV.tp R) (RV.st R) (o_rg (RV.rg R)) (RV.nm R) (o_by (RV.mm R)) (RV.nw R) (o_wr (RV.wf R)))
 pc)))))) fun a => .int .u8 (asN (RV.mm (Prod.fst (S (RV.mk (RV.en R) (RV.tk R) (RV.ts R) (RV.tp R) (RV.st R) (o_rg (RV.rg R)) (RV.nm R) (o_by (RV.mm R)) (RV.nw R)
 (o_wr (RV.wf R))) pc)) a)) then true else false then bif bif allN (fun i => true) (RV.nw (RV.mk (RV.en (Prod.fst (S (RV.mk (RV.en R) (RV.tk R) (RV.ts R) (RV.tp R)
 (RV.st R) (o_rg (RV.rg R)) (RV.nm R) (o_by (RV.mm R)) (RV.nw R) (o_wr (RV.wf R))) pc))) (RV.tk (Prod.fst (S (RV.mk (RV.en R) (RV.tk R) (RV.ts R) (RV.tp R) (RV.st
 R) (o_rg (RV.rg R)) (RV.nm R) (o_by (RV.mm R)) (RV.nw R) (o_wr (RV.wf R))) pc))) (RV.ts (Prod.fst (S (RV.mk (RV.en R) (RV.tk R) (RV.ts R) (RV.tp R) (RV.st R) (o_rg
 (RV.rg R)) (RV.nm R) (o_by (RV.mm R)) (RV.nw R) (o_wr (RV.wf R))) pc))) (RV.tp (Prod.fst (S (RV.mk (RV.en R) (RV.tk R) (RV.ts R) (RV.tp R) (RV.st R) (o_rg (RV.rg
 R)) (RV.nm R) (o_by (RV.mm R)) (RV.nw R) (o_wr (RV.wf R))) pc))) (RV.st (Prod.fst (S (RV.mk (RV.en R) (RV.tk R) (RV.ts R) (RV.tp R) (RV.st R) (o_rg (RV.rg R)) (RV.nm
 R) (o_by (RV.mm R)) (RV.nw R) (o_wr (RV.wf R))) pc))) (o_rg (RV.rg (Prod.fst (S (RV.mk (RV.en R) (RV.tk R) (RV.ts R) (RV.tp R) (RV.st R) (o_rg (RV.rg R)) (RV.nm
 R) (o_by (RV.mm R)) (RV.nw R) (o_wr (RV.wf R))) pc)))) (RV.nm (Prod.fst (S (RV.mk (RV.en R) (RV.tk R) (RV.ts R) (RV.tp R) (RV.st R) (o_rg (RV.rg R)) (RV.nm R) (o_by
 (RV.mm R)) (RV.nw R) (o_wr (RV.wf R))) pc))) (o_by (RV.mm (Prod.fst (S (RV.mk (RV.en R) (RV.tk R) (RV.ts R) (RV.tp R) (RV.st R) (o_rg (RV.rg R)) (RV.nm R) (o_by
 (RV.mm R)) (RV.nw R) (o_wr (RV.wf R))) pc)))) (RV.nw (Prod.fst (S (RV.mk (RV.en R) (RV.tk R) (RV.ts R) (RV.tp R) (RV.st R) (o_rg (RV.rg R)) (RV.nm R) (o_by (RV.mm
 R)) (RV.nw R) (o_wr (RV.wf R))) pc))) (o_wr (RV.wf (Prod.fst (S (RV.mk (RV.en R) (RV.tk R) (RV.ts R) (RV.tp R) (RV.st R) (o_rg (RV.rg R)) (RV.nm R) (o_by (RV.mm
 R)) (RV.nw R) (o_wr (RV.wf R))) pc)))))) then true else false then bif bif decide (RV.nm (RV.mk (RV.en R) (RV.tk R) (RV.ts R) (RV.tp R) (RV.st R) (o_rg (RV.rg R))
 (RV.nm R) (o_by (RV.mm R)) (RV.nw R) (o_wr (RV.wf R))) ≤ 1099511627776) then true else false then bif bif decide (RV.nw (RV.mk (RV.en R) (RV.tk R) (RV.ts R) (RV.tp
 R) (RV.st R) (o_rg (RV.rg R)) (RV.nm R) (o_by (RV.mm R)) (RV.nw R) (o_wr (RV.wf R))) ≤ 1000000) then true else false then bif bif allN (fun i => decide (0 ≤ asN
 (RV.rg R i)) && decide (asN (RV.rg R i) ≤ 4294967295)) 16 then true else false then bif bif allN (fun i => true) (RV.nm (RV.mk (RV.en R) (RV.tk R) (RV.ts R) (RV.tp
 R) (RV.st R) (o_rg (RV.rg R)) (RV.nm R) (o_by (RV.mm R)) (RV.nw R) (o_wr (RV.wf R)))) then true else false then bif bif rngB (RV.nm (RV.mk (RV.en R) (RV.tk R) (RV.ts
 R) (RV.tp R) (RV.st R) (o_rg (RV.rg R)) (RV.nm R) (o_by (RV.mm R)) (RV.nw R) (o_wr (RV.wf R)))) fun a => .int .u8 (asN (RV.mm R a)) then true else false then bif
 bif allN (fun i => true) (RV.nw (RV.mk (RV.en R) (RV.tk R) (RV.ts R) (RV.tp R) (RV.st R) (o_rg (RV.rg R)) (RV.nm R) (o_by (RV.mm R)) (RV.nw R) (o_wr (RV.wf R))))
 then true else false then bif bif eqRV (RV.mk (RV.en (Prod.fst (S (RV.mk (RV.en R) (RV.tk R) (RV.ts R) (RV.tp R) (RV.st R) (o_rg (RV.rg R)) (RV.nm R) (o_by (RV.mm
 R)) (RV.nw R) (o_wr (RV.wf R))) pc))) (RV.tk (Prod.fst (S (RV.mk (RV.en R) (RV.tk R) (RV.ts R) (RV.tp R) (RV.st R) (o_rg (RV.rg R)) (RV.nm R) (o_by (RV.mm R)) (RV.nw
 R) (o_wr (RV.wf R))) pc))) (RV.ts (Prod.fst (S (RV.mk (RV.en R) (RV.tk R) (RV.ts R) (RV.tp R) (RV.st R) (o_rg (RV.rg R)) (RV.nm R) (o_by (RV.mm R)) (RV.nw R) (o_wr
 (RV.wf R))) pc))) (RV.tp (Prod.fst (S (RV.mk (RV.en R) (RV.tk R) (RV.ts R) (RV.tp R) (RV.st R) (o_rg (RV.rg R)) (RV.nm R) (o_by (RV.mm R)) (RV.nw R) (o_wr (RV.wf
 R))) pc))) (RV.st (Prod.fst (S (RV.mk (RV.en R) (RV.tk R) (RV.ts R) (RV.tp R) (RV.st R) (o_rg (RV.rg R)) (RV.nm R) (o_by (RV.mm R)) (RV.nw R) (o_wr (RV.wf R))) pc)))
 (o_rg (RV.rg (Prod.fst (S (RV.mk (RV.en R) (RV.tk R) (RV.ts R) (RV.tp R) (RV.st R) (o_rg (RV.rg R)) (RV.nm R) (o_by (RV.mm R)) (RV.nw R) (o_wr (RV.wf R))) pc))))
 (RV.nm (Prod.fst (S (RV.mk (RV.en R) (RV.tk R) (RV.ts R) (RV.tp R) (RV.st R) (o_rg (RV.rg R)) (RV.nm R) (o_by (RV.mm R)) (RV.nw R) (o_wr (RV.wf R))) pc))) (o_by
 (RV.mm (Prod.fst (S (RV.mk (RV.en R) (RV.tk R) (RV.ts R) (RV.tp R) (RV.st R) (o_rg (RV.rg R)) (RV.nm R) (o_by (RV.mm R)) (RV.nw R) (o_wr (RV.wf R))) pc)))) (RV.nw
 (Prod.fst (S (RV.mk (RV.en R) (RV.tk R) (RV.ts R) (RV.tp R) (RV.st R) (o_rg (RV.rg R)) (RV.nm R) (o_by (RV.mm R)) (RV.nw R) (o_wr (RV.wf R))) pc))) (o_wr (RV.wf
 (Prod.fst (S (RV.mk (RV.en R) (RV.tk R) (RV.ts R) (RV.tp R) (RV.st R) (o_rg (RV.rg R)) (RV.nm R) (o_by (RV.mm R)) (RV.nw R) (o_wr (RV.wf R))) pc))))) (RV.mk (RV.en
 R) (RV.tk R) (RV.ts R) (RV.tp R) (RV.st R) (o_rg (RV.rg R)) (RV.nm R) (o_by (RV.mm R)) (RV.nw R) (o_wr (RV.wf R))) then true else false then con (.bool (decide (Prod.snd
 (S (RV.mk (RV.en R) (RV.tk R) (RV.ts R) (RV.tp R) (RV.st R) (o_rg (RV.rg R)) (RV.nm R) (o_by (RV.mm R)) (RV.nw R) (o_wr (RV.wf R))) pc) = pc))) = r else False else
 False else False else False else False else False else False else False else False else False else False else False else False else False else False else False else
 False else False else False else False else False else False else False else False else False else False else False else False else False else False else False else
 False else False else False else False else False else False else False else False else False else False else False else False else False else False else False else
 False else False else False else False else False else False else False else False else False else False else False else False else False else False else False else
 False else False
else False) := by kernel_rfl
theorem nd_facts {r : RV} (h : r.ok) : r.nm ≤ 1099511627776 ∧ r.nw ≤ 1000000 ∧ allN (fun i => decide (0 ≤ asN (r.rg i)) && decide (asN (r.rg i) ≤ 4294967295)) 16 = true ∧ rngB r.nm (fun a => XV.int .u8 (asN (r.mm a))) = true :=
  ⟨h.nm, h.nw, allN_iff.2 fun i hi => by simpa using h.rg i hi, rng_by h.mm⟩
theorem ins_more {v : XV} {r : RV} {pc : Int} (h0 : 0 ≤ r.st) (h1 : r.st ≤ 1000000) : r.nw ≤ (insV v r pc).1.nw ∧ r.st ≤ (insV v r pc).1.st ∧ (insV v r pc).1.st ≤ r.st + 1 := by
  have e : IntKind.i64.wrap (r.st + 1) = r.st + 1 := wrap_i64 (by omega) (by omega)
  have t1 : r.tick.st = r.st + 1 := e
  have key : ∀ s : RV, (s.nw = r.nw ∨ s.nw = r.nw + 1) → (s.st = r.st ∨ s.st = IntKind.i64.wrap (r.st + 1)) → r.nw ≤ s.nw ∧ r.st ≤ s.st ∧ s.st ≤ r.st + 1 := by
    intro s g1 g2
    rw [e] at g2
    omega
  unfold insV
  repeat' split
  all_goals first
    | exact key _ (.inl rfl) (.inr rfl)
    | exact key _ (.inr rfl) (.inr rfl)
    | exact key _ (.inl rfl) (.inl rfl)
theorem go_more {p : PV} {r : RV} {pc : Int} (h0 : 0 ≤ r.st) (h1 : r.st ≤ 1000000) : r.nw ≤ (goV p r pc).1.nw ∧ r.st ≤ (goV p r pc).1.st ∧ (goV p r pc).1.st ≤ r.st + 1 := by
  unfold goV
  split
  · exact ⟨Nat.le_refl _, Int.le_refl _, by show r.st ≤ r.st + 1; omega⟩
  · exact ins_more h0 h1
theorem iter_st {p : PV} : ∀ k : Nat, k ≤ 1000000 → 0 ≤ (iterV p k).1.st ∧ (iterV p k).1.st ≤ k
  | 0, _ => ⟨Int.le_refl _, Int.le_refl _⟩
  | k + 1, h => by
    obtain ⟨h0, h1⟩ := iter_st (p := p) k (by omega)
    simp only [iterV]
    split
    · obtain ⟨g1, g2, g3⟩ := go_more (p := p) (pc := (iterV p k).2) h0 (by omega)
      omega
    · omega
theorem iter_more {p : PV} {k : Nat} : ∀ j : Nat, k + j ≤ 1000000 → (iterV p k).1.nw ≤ (iterV p (k + j)).1.nw ∧ (iterV p k).1.st ≤ (iterV p (k + j)).1.st
  | 0, _ => ⟨Nat.le_refl _, Int.le_refl _⟩
  | j + 1, h => by
    obtain ⟨h1, h2⟩ := iter_more (p := p) (k := k) j (by omega)
    obtain ⟨s0, s1⟩ := iter_st (p := p) (k + j) (by omega)
    rw [show k + (j + 1) = k + j + 1 by omega]
    simp only [iterV]
    split
    · obtain ⟨g1, g2, g3⟩ := go_more (p := p) (pc := (iterV p (k + j)).2) s0 (by omega)
      omega
    · exact ⟨h1, h2⟩
theorem runW_of {p : PV} {f : Int} (hR : p.right = true) (h0 : 0 ≤ f) (h1 : f ≤ 100000) : runW p f = if (iterV p f.toNat).1.en = 0 then { (iterV p f.toNat).1 with en := 3 } else (iterV p f.toNat).1 := by
  have e : fuelI f = f := by
    unfold fuelI
    rw [if_neg (show ¬ 100000 < f by omega)]
    by_cases h : f > 0
    · rw [if_pos h]
    · rw [if_neg h]; omega
  unfold runW
  rw [if_pos hR]
  unfold runV
  rw [e]
theorem run_can {p : PV} {f : Int} (hp : p.good) (hR : p.right = true) : (runW p f).can ∧ (runW p f).ok := by
  obtain ⟨f0, f1⟩ := fuel_rng f
  have h1 := iter_can (p := p) (fuelI f).toNat
  have h4 := (iter_good hp hR (fuelI f).toNat).ok (by omega)
  unfold runW
  rw [if_pos hR]
  unfold runV
  split
  · exact ⟨⟨h1.rg, h1.mm, h1.wf⟩, ⟨h4.nm, h4.nw, h4.rg, h4.mm⟩⟩
  · exact ⟨h1, h4⟩
theorem TStok {P : PV} (hP : P.good) : TabOk Try.prog (TSt P (runW P) (stepV P)) := mkT_ok ((clok_law6.app clok_law4).app clok_slices) ⟨sp_alv, sp_runF hP, sp_stepF hP, sp_first, sp_pr2, sp_same, trivial⟩ glok_slices
theorem st_pure {P : PV} {fuel more : Int} (hP : P.good) : Pure Try.prog 8 (cons [P.xv false false, .int .i64 fuel, .int .i64 more]) (con (.bool true)) := by
  refine pureS mix (TStok hP) t_law6_SeqSteps (Nat.le_of_ble_eq_true rfl) ?_
  refine Eq.mpr (r_st P _ _ fuel more _) ?_
  have hn := hP.n
  have hm := hP.m
  have hd : rngB P.m (fun a => .int .u8 (asN (P.d a))) = true := rng_by hP.d
  have hw := eqPV_w P
  by_cases c1 : ((P.n : Nat) : Int) ≤ 200
  case neg => simp only [c1, hn, hm, pk_or, pk_and, pk_t, decide_true, decide_false, cond_true, cond_false, allN_true, Nat.le_refl, Int.toNat_natCast, Nat.beq_refl, pk_and, pk_or, Bool.not_true, Bool.not_false, not_true_eq_false, not_false_eq_true, Bool.and_true, Bool.true_and, Bool.and_self, ge_iff_le, Int.le_refl, if_true, if_false, reduceCtorEq, eq_self, BEq.rfl]
  by_cases c2 : ((P.m : Nat) : Int) ≤ 500
  case neg => simp only [c1, c2, hn, hm, pk_or, pk_and, pk_t, decide_true, decide_false, cond_true, cond_false, allN_true, Nat.le_refl, Int.toNat_natCast, Nat.beq_refl, pk_and, pk_or, Bool.not_true, Bool.not_false, not_true_eq_false, not_false_eq_true, Bool.and_true, Bool.true_and, Bool.and_self, ge_iff_le, Int.le_refl, if_true, if_false, reduceCtorEq, eq_self, BEq.rfl]
  by_cases c3 : P.sz > 500
  · simp only [c1, c2, c3, hn, hm, pk_or, pk_and, pk_t, decide_true, decide_false, cond_true, cond_false, allN_true, Nat.le_refl, Int.toNat_natCast, Nat.beq_refl, pk_and, pk_or, Bool.not_true, Bool.not_false, not_true_eq_false, not_false_eq_true, Bool.and_true, Bool.true_and, Bool.and_self, ge_iff_le, Int.le_refl, if_true, if_false, reduceCtorEq, eq_self, BEq.rfl]
  rcases Bool.eq_false_or_eq_true (prB P.n P.f P.sz P.m) with c4 | c4
  case inr => simp only [c1, c2, c3, c4, pr_in, hn, hm, pk_or, pk_and, pk_t, decide_true, decide_false, cond_true, cond_false, allN_true, Nat.le_refl, Int.toNat_natCast, Nat.beq_refl, pk_and, pk_or, Bool.not_true, Bool.not_false, not_true_eq_false, not_false_eq_true, Bool.and_true, Bool.true_and, Bool.and_self, ge_iff_le, Int.le_refl, if_true, if_false, reduceCtorEq, eq_self, BEq.rfl]
  by_cases c5 : fuel < 0
  · simp only [c1, c2, c3, c4, c5, pr_in, hn, hm, pk_or, pk_and, pk_t, decide_true, decide_false, cond_true, cond_false, allN_true, Nat.le_refl, Int.toNat_natCast, Nat.beq_refl, pk_and, pk_or, Bool.not_true, Bool.not_false, not_true_eq_false, not_false_eq_true, Bool.and_true, Bool.true_and, Bool.and_self, ge_iff_le, Int.le_refl, if_true, if_false, reduceCtorEq, eq_self, BEq.rfl]
  by_cases c6 : fuel > 150
  · simp only [c1, c2, c3, c4, c5, c6, pr_in, hn, hm, pk_or, pk_and, pk_t, decide_true, decide_false, cond_true, cond_false, allN_true, Nat.le_refl, Int.toNat_natCast, Nat.beq_refl, pk_and, pk_or, Bool.not_true, Bool.not_false, not_true_eq_false, not_false_eq_true, Bool.and_true, Bool.true_and, Bool.and_self, ge_iff_le, Int.le_refl, if_true, if_false, reduceCtorEq, eq_self, BEq.rfl]
  by_cases c7 : more < 0
  · simp only [c1, c2, c3, c4, c5, c6, c7, pr_in, hn, hm, pk_or, pk_and, pk_t, decide_true, decide_false, cond_true, cond_false, allN_true, Nat.le_refl, Int.toNat_natCast, Nat.beq_refl, pk_and, pk_or, Bool.not_true, Bool.not_false, not_true_eq_false, not_false_eq_true, Bool.and_true, Bool.true_and, Bool.and_self, ge_iff_le, Int.le_refl, if_true, if_false, reduceCtorEq, eq_self, BEq.rfl]
  by_cases c8 : more > 100
  · simp only [c1, c2, c3, c4, c5, c6, c7, c8, pr_in, hn, hm, pk_or, pk_and, pk_t, decide_true, decide_false, cond_true, cond_false, allN_true, Nat.le_refl, Int.toNat_natCast, Nat.beq_refl, pk_and, pk_or, Bool.not_true, Bool.not_false, not_true_eq_false, not_false_eq_true, Bool.and_true, Bool.true_and, Bool.and_self, ge_iff_le, Int.le_refl, if_true, if_false, reduceCtorEq, eq_self, BEq.rfl]
  have hR : P.right = true := c4
  obtain ⟨_, _, s0, s1, _⟩ := pr_all hR
  simp only [c1, c2, c3, c4, c5, c6, c7, c8, pr_in, hn, hm, hd, hw, s0, s1, pk_or, pk_and, pk_t, decide_true, decide_false, cond_true, cond_false, allN_true, Nat.le_refl, Int.toNat_natCast, Nat.beq_refl, pk_and, pk_or, Bool.not_true, Bool.not_false, not_true_eq_false, not_false_eq_true, Bool.and_true, Bool.true_and, Bool.and_self, ge_iff_le, Int.le_refl, if_true, if_false, reduceCtorEq, eq_self, BEq.rfl]
  refine loopK mix (TStok hP) (fun i : Nat => sSt P (iterV P i).1 (iterV P i).2 fuel more i) (fun i => (i : Int) ≤ fuel) (fun i => fuel.toNat - i) 0 (by show ((0 : Nat) : Int) ≤ fuel; omega) ?_ ?_
  · exact weakK [(0, 0), (1, 1)] rfl rfl rfl rfl rfl ⟨k_is rfl rfl, k_is rfl rfl, .ptr rfl, k_is rfl rfl, .ptr rfl, k_is rfl rfl, k_is rfl rfl, trivial⟩
      ⟨.agg (.cons (k_is rfl rfl) (.cons (k_is rfl rfl) (.cons (k_is rfl rfl) (.cons (k_is rfl rfl) (.cons (k_is rfl rfl) (.cons (.fro (.inr rfl)) .nil)))))), k_is rfl rfl, trivial⟩
  intro i hi
  refine Eq.mpr (r_st2 P _ _ _ _ fuel more i _ _) ?_
  have hi2 : i ≤ 1000000 := by omega
  have hok := (iter_good hP hR i).ok hi2
  have hcan := iter_can (p := P) i
  obtain ⟨n1, n2, n3, n4⟩ := nd_facts hok
  have hcr := can_eq hcan
  have wf : IntKind.i64.wrap (fuel + more) = fuel + more := wrap_i64 (by omega) (by omega)
  obtain ⟨a1, a2⟩ := run_can (f := fuel) hP hR
  obtain ⟨am1, am2, am3, am4⟩ := nd_facts a2
  have acr := can_eq a1
  obtain ⟨b1, b2⟩ := run_can (f := fuel + more) hP hR
  obtain ⟨bm1, bm2, bm3, bm4⟩ := nd_facts b2
  have bcr := can_eq b1
  by_cases hen : (iterV P i).1.en = 0
  · have hen1 : decide ((iterV P i).1.en = 0) = true := decide_eq_true hen
    by_cases hlt : (i : Int) < fuel
    · have w1 : IntKind.i64.wrap ((i : Int) + 1) = ((i + 1 : Nat) : Int) := wrap_i64 (by omega) (by omega)
      have hs := step_go hR hen
      simp only [hen1, hlt, w1, hn, hm, hd, hw, hcr, n1, n2, n3, n4, hs, pk_or, pk_and, pk_t, decide_true, decide_false, cond_true, cond_false, allN_true, Nat.le_refl, Int.toNat_natCast, Nat.beq_refl, pk_and, pk_or, Bool.not_true, Bool.not_false, not_true_eq_false, not_false_eq_true, Bool.and_true, Bool.true_and, Bool.and_self, ge_iff_le, Int.le_refl, if_true, if_false, reduceCtorEq, eq_self, BEq.rfl]
      exact ⟨i + 1, by omega, .inl (weakT ⟨le_is rfl, le_is rfl, le_is rfl, le_is rfl, le_is rfl, le_is rfl, le_is rfl, trivial⟩ ⟨rfl, rfl, trivial⟩ (Nat.le_refl _) rfl), by omega⟩
    · have hif : (i : Int) = fuel := by omega
      have hfi : fuel.toNat = i := by omega
      have hra : runW P fuel = { (iterV P i).1 with en := 3 } := by
        rw [runW_of hR (by omega) (by omega), hfi, if_pos hen]
      have hc3 : RV.mk 3 (iterV P i).1.tk (iterV P i).1.ts (iterV P i).1.tp (iterV P i).1.st (o_rg (iterV P i).1.rg) (iterV P i).1.nm (o_by (iterV P i).1.mm) (iterV P i).1.nw (o_wr (iterV P i).1.wf) = runW P fuel := by
        rw [hra, hcan.rg, hcan.mm, hcan.wf]
      have hmore : ((runW P (fuel + more)).nw : Int) ≥ ((runW P fuel).nw : Int) ∧ (runW P (fuel + more)).st ≥ (runW P fuel).st := by
        obtain ⟨m1, m2⟩ := iter_more (p := P) (k := i) more.toNat (by omega)
        have hfm : (fuel + more).toNat = i + more.toNat := by omega
        rw [runW_of hR (by omega) (by omega), hfm, hra]
        split
        · exact ⟨by show ((iterV P (i + more.toNat)).1.nw : Int) ≥ ((iterV P i).1.nw : Int); omega, m2⟩
        · exact ⟨by show ((iterV P (i + more.toNat)).1.nw : Int) ≥ ((iterV P i).1.nw : Int); omega, m2⟩
      simp only [hen1, hlt, wf, hn, hm, hd, hw, hc3, acr, bcr, n1, n2, n3, n4, am1, am2, am3, am4, bm1, bm2, bm3, bm4, hmore.1, hmore.2, eqRV_self, pk_or, pk_and, pk_t, decide_true, decide_false, cond_true, cond_false, allN_true, Nat.le_refl, Int.toNat_natCast, Nat.beq_refl, pk_and, pk_or, Bool.not_true, Bool.not_false, not_true_eq_false, not_false_eq_true, Bool.and_true, Bool.true_and, Bool.and_self, ge_iff_le, Int.le_refl, if_true, if_false, reduceCtorEq, eq_self, BEq.rfl]
  · have hen1 : decide ((iterV P i).1.en = 0) = false := decide_eq_false hen
    have hra : runW P fuel = (iterV P i).1 := by
      rw [runW_of hR (by omega) (by omega), iter_stop hen fuel.toNat (by omega), if_neg hen]
    have hrb : runW P (fuel + more) = (iterV P i).1 := by
      rw [runW_of hR (by omega) (by omega), iter_stop hen (fuel + more).toNat (by omega), if_neg hen]
    have hs := step_stop (p := P) (pc := (iterV P i).2) hen
    have hpc : decide ((iterV P i).2 = (iterV P i).2) = true := by simp
    by_cases hlt : (i : Int) < fuel
    · simp only [hen1, hlt, wf, hn, hm, hd, hw, hra, hrb, hcr, hs, n1, n2, n3, n4, hpc, eqRV_self, pk_or, pk_and, pk_t, decide_true, decide_false, cond_true, cond_false, allN_true, Nat.le_refl, Int.toNat_natCast, Nat.beq_refl, pk_and, pk_or, Bool.not_true, Bool.not_false, not_true_eq_false, not_false_eq_true, Bool.and_true, Bool.true_and, Bool.and_self, ge_iff_le, Int.le_refl, if_true, if_false, reduceCtorEq, eq_self, BEq.rfl]
    · simp only [hen1, hlt, wf, hn, hm, hd, hw, hra, hrb, hcr, hs, n1, n2, n3, n4, hpc, eqRV_self, pk_or, pk_and, pk_t, decide_true, decide_false, cond_true, cond_false, allN_true, Nat.le_refl, Int.toNat_natCast, Nat.beq_refl, pk_and, pk_or, Bool.not_true, Bool.not_false, not_true_eq_false, not_false_eq_true, Bool.and_true, Bool.true_and, Bool.and_self, ge_iff_le, Int.le_refl, if_true, if_false, reduceCtorEq, eq_self, BEq.rfl]
abbrev tIn : Ty := .agg 5 [.int .i64, .int .i64, .int .i64, .int .i64, .int .i64]
abbrev tPr : Ty := .agg 3 [.slice 5 40 tIn, .int .i64, .slice 1 1 (.int .u8)]
def pvOf (a : AV) : PV := ⟨avN (avAt a 0), o_el tIn (avAt a 0), avI (avAt a 1), avN (avAt a 2), o_el (.int .u8) (avAt a 2)⟩
theorem pvOf_good {a : AV} (h : tPr.has a) : (pvOf a).good := by
  simp only [tPr, Ty.has, Ty.hasL] at h
  obtain ⟨_, rfl, c, _, rfl, hc, s, _, rfl, hs, d, _, rfl, hd, rfl⟩ := h
  have h1 : avN c * 40 ≤ 140737488351232 := has_nat (T := tIn) (es := 5) hc
  have h2 : avN d * 1 ≤ 140737488351232 := has_nat (T := .int .u8) (es := 1) hd
  exact ⟨by show avN c ≤ _; omega, by show avN d ≤ _; omega, fun i hi => has_u8 (has_at (T := .int .u8) (es := 1) (bytes := 1) hd hi)⟩
end Go.Proofs.Ytmfbaglhmiadjaa
namespace Go.Proofs.Ytmfbaglhmiadjaa.seqSteps
open Go.Ra Go.ChangeShapes Go.WideShapes Go.ChangeAt Go.RowKit
open Go.ChangeMaps (open_string shut_string)
theorem own : ownKnob Try.prog.godebug = none := by kernel_rfl
def Ts : List Ty := [tPr, .int .i64, .int .i64]
theorem law (xs : List AV) (h : Ty.hasL Ts xs) : Pure Try.prog 8 xs (.sc (.bool true)) := by
  have h0 := h
  simp only [Ts, Ty.hasL] at h0
  obtain ⟨a, _, rfl, ha, b, _, rfl, _, c, _, rfl, _, rfl⟩ := h0
  refine lawX h ?_
  exact st_pure (pvOf_good ha)
set_option maxRecDepth 100000 in
theorem lifted (os : Os) (started : os.Started) (H : Type) (enc : TypeId × Value → H) :
    ReturnsInHanded {} Try.checked os 8 .any (Rows.seqStepsSpec.pre6 enc Try.prog Try.f8 Rows.seqStepsRow.domain false) (Rows.seqStepsSpec.post enc Try.prog Try.f8 false true false false) := by
  refine returnsInHanded_of_change_sized (C := Try.checked) own started (by kernel_rfl) Try.func8
    (ChangeSpec.witness6 (enc := enc) (C := Try.checked) false ⟨#[], #[.agg #[.slice none 0 0, .int .i64 0, .slice none 0 0], .int .i64 0, .int .i64 0], []⟩ 8 (by kernel_rfl) (by kernel_rfl) (by kernel_rfl) (by kernel_rfl)) ?_
  intro W base args ds gs before hval hW hcnd hsz _
  refine law_post (s := Rows.seqStepsSpec) (n := 60) (Ts := Ts) (ts := [25, 3, 3]) (tb := 4) (by kernel_rfl) rfl rfl Try.underlying4 rfl (by kernel_rfl) (by kernel_rfl) (fun ds hds => ?_) law W base args ds gs before hval hW hsz
  match ds, hds with
  | [d1, d2, d3], _ => exact ⟨rfl, rfl, rfl⟩
theorem over : Rows.seqStepsRow.holds Try.pinned (OpenSpec.ofChange Rows.seqStepsSpec) :=
  OpenClaim.holds_of_wide 8 Try.f8 rfl rfl rfl rfl rfl rfl rfl ⟨rfl, rfl, rfl, rfl, rfl⟩ rfl rfl rfl rfl rfl (by kernel_rfl) Try.func8 (by kernel_rfl)
    (of_decide_eq_true (by kernel_rfl)) (by unfold Func.isWrapper; first | (rw [if_pos (by decide +kernel)]; kernel_rfl) | (rw [if_neg (by decide +kernel)]; exact ⟨rfl, rfl⟩))
    (fun os started H enc _ => lifted os started H enc)
theorem proved : Rows.SeqStepsSaid := over
end Go.Proofs.Ytmfbaglhmiadjaa.seqSteps
namespace Go.Proofs.Ytmfbaglhmiadjaa
/-- The row, under a short name, for the claim. -/
theorem seqSteps_holds : Rows.SeqStepsSaid := seqSteps.proved
end Go.Proofs.Ytmfbaglhmiadjaa
#print axioms Go.Proofs.Ytmfbaglhmiadjaa.seqSteps_holds
