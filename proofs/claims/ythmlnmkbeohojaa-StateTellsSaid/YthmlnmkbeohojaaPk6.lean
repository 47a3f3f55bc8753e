/- Texts put together. -/
import Derived.Test.YthmlnmkbeohojaaPk5
/- Which configs and states may be, as the document tells. -/
namespace Go.Proofs.Ythmlnmkbeohojaa
open Go.Ra
set_option linter.unusedVariables false
set_option linter.unusedSimpArgs false
def TO0 : Tab := mkT2 qq cl_ref15 [] gl_ref15 [] []
def rsdS : List XV → Option ((XV → Prop) → Prop) := skOf (fun q : Split × Bool × Side => [e_Split q.1, .bool q.2.1, e_Side q.2.2]) (fun q => True) (fun q => sideOk q.1 q.2.1 q.2.2) (fun y => .bool y)
def rsSt (d : Side) (s : Split) (i : Nat) : XSt := ⟨[(7, .int .i64 i), (5, .ptr 1 [] 0)], [(1, some (e_Side d)), (0, some (e_Split s))], 2⟩
def TO1 : Tab := mkT2 qq cl_ref15 [] gl_ref15 [(12, cfgS), (36, rsdS), (38, lieS), (39, rrqS)] []
theorem TO0ok : TabOk Try.prog TO0 := mkT2_ok clok_ref15 trivial glok_ref15 trivial trivial
theorem r_rc (c : Cfg) (r : XV) : (quietGo TO0 80 (callI TO0 80 20) 12 [e_Cfg c] (fun v => ResLe v r)) = (bif bif decide (Cfg.ldq c ≥ 1) then decide (Cfg.ldq c ≥ 1) else true then bif !bif decide (Cfg.ldq c ≥ 1) then decide (Cfg.ldq c ≤ 64) else false then ResLe
 (.bool false) r else bif bif decide (Cfg.sdq c ≥ 1) then decide (Cfg.sdq c ≥ 1) else true then bif !bif decide (Cfg.sdq c ≥ 1) then decide (Cfg.sdq c ≤ 64) else
 false then ResLe (.bool false) r else bif bif decide (Cfg.aeq c ≥ 1) then decide (Cfg.aeq c ≥ 1) else true then bif !bif decide (Cfg.aeq c ≥ 1) then decide (Cfg.aeq
 c ≤ 64) else false then ResLe (.bool false) r else bif bif decide (Cfg.abq c ≥ 1) then decide (Cfg.abq c ≥ 1) else true then bif !bif decide (Cfg.abq c ≥ 1) then
 decide (Cfg.abq c ≤ 64) else false then ResLe (.bool false) r else bif bif decide (Cfg.ebq c ≥ 1) then decide (Cfg.ebq c ≥ 1) else true then bif !bif decide (Cfg.ebq
 c ≥ 1) then decide (Cfg.ebq c ≤ 64) else false then ResLe (.bool false) r else bif bif decide (Cfg.saq c ≥ 1) then decide (Cfg.saq c ≥ 1) else true then bif !bif
 decide (Cfg.saq c ≥ 1) then decide (Cfg.saq c ≤ 64) else false then ResLe (.bool false) r else bif bif decide (Cfg.flight c ≥ 1) then decide (Cfg.flight c ≥ 1) else
 true then bif !bif decide (Cfg.flight c ≥ 1) then decide (Cfg.flight c ≤ 64) else false then ResLe (.bool false) r else bif bif decide (Cfg.slip c ≥ 1) then decide
 (Cfg.slip c ≥ 1) else true then bif !bif decide (Cfg.slip c ≥ 1) then decide (Cfg.slip c ≤ 64) else false then ResLe (.bool false) r else bif bif decide (Cfg.banks
 c ≥ 1) then decide (Cfg.banks c ≥ 1) else true then bif bif decide (Cfg.banks c ≥ 1) then decide (Cfg.banks c ≤ 16) else false then bif bif decide (Cfg.lat c ≥ 1)
 then decide (Cfg.lat c ≥ 1) else true then bif bif bif decide (Cfg.banks c ≥ 1) then decide (Cfg.banks c ≤ 16) else false then bif decide (Cfg.lat c ≥ 1) then decide
 (Cfg.lat c ≤ 1000) else false else false then bif bif decide (Cfg.mul c ≥ 1) then decide (Cfg.mul c ≥ 1) else true then bif bif bif bif decide (Cfg.banks c ≥ 1)
 then decide (Cfg.banks c ≤ 16) else false then bif decide (Cfg.lat c ≥ 1) then decide (Cfg.lat c ≤ 1000) else false else false then bif decide (Cfg.mul c ≥ 1) then
 decide (Cfg.mul c ≤ 50) else false else false then bif bif decide (Cfg.div c ≥ 1) then decide (Cfg.div c ≥ 1) else true then ResLe (.bool (bif bif bif bif decide
 (Cfg.banks c ≥ 1) then decide (Cfg.banks c ≤ 16) else false then bif decide (Cfg.lat c ≥ 1) then decide (Cfg.lat c ≤ 1000) else false else false then bif decide
 (Cfg.mul c ≥ 1) then decide (Cfg.mul c ≤ 50) else false else false then bif decide (Cfg.div c ≥ 1) then decide (Cfg.div c ≤ 50) else false else false)) r else False
 else bif !bif bif bif decide (Cfg.banks c ≥ 1) then decide (Cfg.banks c ≤ 16) else false then bif decide (Cfg.lat c ≥ 1) then decide (Cfg.lat c ≤ 1000) else false
 else false then bif decide (Cfg.mul c ≥ 1) then decide (Cfg.mul c ≤ 50) else false else false then ResLe (.bool false) r else False else False else bif !bif bif
 decide (Cfg.banks c ≥ 1) then decide (Cfg.banks c ≤ 16) else false then bif decide (Cfg.lat c ≥ 1) then decide (Cfg.lat c ≤ 1000) else false else false then ResLe
 (.bool false) r else False else False else bif !bif decide (Cfg.banks c ≥ 1) then decide (Cfg.banks c ≤ 16) else false then ResLe (.bool false) r else False else
 False else False else False else False else False else False else False else False
else False) := by kernel_rfl
theorem r_rs0 (s : Split) (d : Side) (r : XV) : (goQ Try.prog TO0 [(.tmp 6)] r (.run c_ref15_rightSide) [] ⟨envX 0 [e_Split s, .bool false, e_Side d], [], 0⟩) = (bif bif decide (Side.wait d ≥ 0) then decide (Side.wait d ≥ 0) else true then bif !!bif decide (Side.wait d ≥ 0) then decide (Side.wait d ≤ 1099511627776) else
 false then bif bif decide (Side.done d ≥ 0) then decide (Side.done d ≥ 0) else true then bif !bif !bif decide (Side.wait d ≥ 0) then decide (Side.wait d ≤ 1099511627776)
 else false then true else !bif decide (Side.done d ≥ 0) then decide (Side.done d ≤ 1099511627776) else false then bif bif decide (Pos.base (Side.pos d) ≥ 0) then
 decide (Pos.base (Side.pos d) ≥ 0) else true then bif bif bif bif !bif decide (Side.wait d ≥ 0) then decide (Side.wait d ≤ 1099511627776) else false then true else
 !bif decide (Side.done d ≥ 0) then decide (Side.done d ≤ 1099511627776) else false then true else !bif decide (Pos.base (Side.pos d) ≥ 0) then decide (Pos.base (Side.pos
 d) ≤ 1099511627776) else false then true else !bif bif !bif decide (Side.wait d ≥ 0) then decide (Side.wait d ≤ 1099511627776) else false then true else !bif decide
 (Side.done d ≥ 0) then decide (Side.done d ≤ 1099511627776) else false then true else !bif decide (Pos.base (Side.pos d) ≥ 0) then decide (Pos.base (Side.pos d)
 ≤ 1099511627776) else false then bif bif bif bif bif !bif decide (Side.wait d ≥ 0) then decide (Side.wait d ≤ 1099511627776) else false then true else !bif decide
 (Side.done d ≥ 0) then decide (Side.done d ≤ 1099511627776) else false then true else !bif decide (Pos.base (Side.pos d) ≥ 0) then decide (Pos.base (Side.pos d)
 ≤ 1099511627776) else false then true else decide (Pos.block (Side.pos d) < 0) then true else !bif bif bif !bif decide (Side.wait d ≥ 0) then decide (Side.wait d
 ≤ 1099511627776) else false then true else !bif decide (Side.done d ≥ 0) then decide (Side.done d ≤ 1099511627776) else false then true else !bif decide (Pos.base
 (Side.pos d) ≥ 0) then decide (Pos.base (Side.pos d) ≤ 1099511627776) else false then true else decide (Pos.block (Side.pos d) < 0) then bif bif bif bif bif bif
 !bif decide (Side.wait d ≥ 0) then decide (Side.wait d ≤ 1099511627776) else false then true else !bif decide (Side.done d ≥ 0) then decide (Side.done d ≤ 1099511627776)
 else false then true else !bif decide (Pos.base (Side.pos d) ≥ 0) then decide (Pos.base (Side.pos d) ≤ 1099511627776) else false then true else decide (Pos.block
 (Side.pos d) < 0) then true else decide (Pos.block (Side.pos d) ≥ (↑(List.length (Split.blocks s)) : Int)) then true else !bif bif bif bif !bif decide (Side.wait
 d ≥ 0) then decide (Side.wait d ≤ 1099511627776) else false then true else !bif decide (Side.done d ≥ 0) then decide (Side.done d ≤ 1099511627776) else false then
 true else !bif decide (Pos.base (Side.pos d) ≥ 0) then decide (Pos.base (Side.pos d) ≤ 1099511627776) else false then true else decide (Pos.block (Side.pos d) <
 0) then true else decide (Pos.block (Side.pos d) ≥ (↑(List.length (Split.blocks s)) : Int)) then bif !bif bif bif bif bif !bif decide (Side.wait d ≥ 0) then decide
 (Side.wait d ≤ 1099511627776) else false then true else !bif decide (Side.done d ≥ 0) then decide (Side.done d ≤ 1099511627776) else false then true else !bif decide
 (Pos.base (Side.pos d) ≥ 0) then decide (Pos.base (Side.pos d) ≤ 1099511627776) else false then true else decide (Pos.block (Side.pos d) < 0) then true else decide
 (Pos.block (Side.pos d) ≥ (↑(List.length (Split.blocks s)) : Int)) then true else decide (Pos.index (Side.pos d) < 0) then bif bif decide (Pos.block (Side.pos d)
 < 0) then true else !decide (Pos.block (Side.pos d) < 0) then bif bif decide (Pos.block (Side.pos d) < 0) then true else decide (Pos.block (Side.pos d) ≥ (↑(List.length
 (Split.blocks s)) : Int)) then bif bif bif bif bif bif bif !bif decide (Side.wait d ≥ 0) then decide (Side.wait d ≤ 1099511627776) else false then true else !bif
 decide (Side.done d ≥ 0) then decide (Side.done d ≤ 1099511627776) else false then true else !bif decide (Pos.base (Side.pos d) ≥ 0) then decide (Pos.base (Side.pos
 d) ≤ 1099511627776) else false then true else decide (Pos.block (Side.pos d) < 0) then true else decide (Pos.block (Side.pos d) ≥ (↑(List.length (Split.blocks s))
 : Int)) then true else decide (Pos.index (Side.pos d) < 0) then true else decide (Pos.index (Side.pos d) > 0) then ResLe (.bool false) r else LoopAt (Ok Try.prog
 (Tab.q TO0)) c_ref15_rightSide_l1 (XSt.mk [(7, .int .i64 0), (6, .bool false), (5, .ptr 1 [] 0)] [(1, some (e_Side d)), (0, some (e_Split s))] 2) [Frm.blk 0, Frm.seq
 c_ref15_rightSide_p1] (finQR [AR.tmp 6] r) else bif decide (0 ≤ Pos.block (Side.pos d)) then bif decide (Pos.block (Side.pos d) < (↑(List.length (Split.blocks s))
 : Int)) then bif bif bif bif bif bif bif !bif decide (Side.wait d ≥ 0) then decide (Side.wait d ≤ 1099511627776) else false then true else !bif decide (Side.done
 d ≥ 0) then decide (Side.done d ≤ 1099511627776) else false then true else !bif decide (Pos.base (Side.pos d) ≥ 0) then decide (Pos.base (Side.pos d) ≤ 1099511627776)
 else false then true else decide (Pos.block (Side.pos d) < 0) then true else decide (Pos.block (Side.pos d) ≥ (↑(List.length (Split.blocks s)) : Int)) then true
 else decide (Pos.index (Side.pos d) < 0) then true else decide (Pos.index (Side.pos d) > (↑(List.length (Block.a (ix (Split.blocks s) (Int.toNat (Pos.block (Side.pos
 d)))))) : Int)) then ResLe (.bool false) r else LoopAt (Ok Try.prog (Tab.q TO0)) c_ref15_rightSide_l1 (XSt.mk [(7, .int .i64 0), (6, .bool false), (5, .ptr 1 []
 0)] [(1, some (e_Side d)), (0, some (e_Split s))] 2) [Frm.blk 0, Frm.seq c_ref15_rightSide_p1] (finQR [AR.tmp 6] r) else False else False else False else bif bif
 bif bif bif bif !bif decide (Side.wait d ≥ 0) then decide (Side.wait d ≤ 1099511627776) else false then true else !bif decide (Side.done d ≥ 0) then decide (Side.done
 d ≤ 1099511627776) else false then true else !bif decide (Pos.base (Side.pos d) ≥ 0) then decide (Pos.base (Side.pos d) ≤ 1099511627776) else false then true else
 decide (Pos.block (Side.pos d) < 0) then true else decide (Pos.block (Side.pos d) ≥ (↑(List.length (Split.blocks s)) : Int)) then true else decide (Pos.index (Side.pos
 d) < 0) then ResLe (.bool false) r else False else False else False else False else False else bif bif !bif decide (Side.wait d ≥ 0) then decide (Side.wait d ≤ 1099511627776)
 else false then true else !bif decide (Side.done d ≥ 0) then decide (Side.done d ≤ 1099511627776) else false then ResLe (.bool false) r else False else False else
 bif !bif decide (Side.wait d ≥ 0) then decide (Side.wait d ≤ 1099511627776) else false then ResLe (.bool false) r else False
else False) := by kernel_rfl
theorem r_rs0b (s : Split) (d : Side) (r : XV) : (goQ Try.prog TO0 [(.tmp 6)] r (.run c_ref15_rightSide) [] ⟨envX 0 [e_Split s, .bool true, e_Side d], [], 0⟩) = (bif bif decide (Side.wait d ≥ 0) then decide (Side.wait d ≥ 0) else true then bif !!bif decide (Side.wait d ≥ 0) then decide (Side.wait d ≤ 1099511627776) else
 false then bif bif decide (Side.done d ≥ 0) then decide (Side.done d ≥ 0) else true then bif !bif !bif decide (Side.wait d ≥ 0) then decide (Side.wait d ≤ 1099511627776)
 else false then true else !bif decide (Side.done d ≥ 0) then decide (Side.done d ≤ 1099511627776) else false then bif bif decide (Pos.base (Side.pos d) ≥ 0) then
 decide (Pos.base (Side.pos d) ≥ 0) else true then bif bif bif bif !bif decide (Side.wait d ≥ 0) then decide (Side.wait d ≤ 1099511627776) else false then true else
 !bif decide (Side.done d ≥ 0) then decide (Side.done d ≤ 1099511627776) else false then true else !bif decide (Pos.base (Side.pos d) ≥ 0) then decide (Pos.base (Side.pos
 d) ≤ 1099511627776) else false then true else !bif bif !bif decide (Side.wait d ≥ 0) then decide (Side.wait d ≤ 1099511627776) else false then true else !bif decide
 (Side.done d ≥ 0) then decide (Side.done d ≤ 1099511627776) else false then true else !bif decide (Pos.base (Side.pos d) ≥ 0) then decide (Pos.base (Side.pos d)
 ≤ 1099511627776) else false then bif bif bif bif bif !bif decide (Side.wait d ≥ 0) then decide (Side.wait d ≤ 1099511627776) else false then true else !bif decide
 (Side.done d ≥ 0) then decide (Side.done d ≤ 1099511627776) else false then true else !bif decide (Pos.base (Side.pos d) ≥ 0) then decide (Pos.base (Side.pos d)
 ≤ 1099511627776) else false then true else decide (Pos.block (Side.pos d) < 0) then true else !bif bif bif !bif decide (Side.wait d ≥ 0) then decide (Side.wait d
 ≤ 1099511627776) else false then true else !bif decide (Side.done d ≥ 0) then decide (Side.done d ≤ 1099511627776) else false then true else !bif decide (Pos.base
 (Side.pos d) ≥ 0) then decide (Pos.base (Side.pos d) ≤ 1099511627776) else false then true else decide (Pos.block (Side.pos d) < 0) then bif bif bif bif bif bif
 !bif decide (Side.wait d ≥ 0) then decide (Side.wait d ≤ 1099511627776) else false then true else !bif decide (Side.done d ≥ 0) then decide (Side.done d ≤ 1099511627776)
 else false then true else !bif decide (Pos.base (Side.pos d) ≥ 0) then decide (Pos.base (Side.pos d) ≤ 1099511627776) else false then true else decide (Pos.block
 (Side.pos d) < 0) then true else decide (Pos.block (Side.pos d) ≥ (↑(List.length (Split.blocks s)) : Int)) then true else !bif bif bif bif !bif decide (Side.wait
 d ≥ 0) then decide (Side.wait d ≤ 1099511627776) else false then true else !bif decide (Side.done d ≥ 0) then decide (Side.done d ≤ 1099511627776) else false then
 true else !bif decide (Pos.base (Side.pos d) ≥ 0) then decide (Pos.base (Side.pos d) ≤ 1099511627776) else false then true else decide (Pos.block (Side.pos d) <
 0) then true else decide (Pos.block (Side.pos d) ≥ (↑(List.length (Split.blocks s)) : Int)) then bif !bif bif bif bif bif !bif decide (Side.wait d ≥ 0) then decide
 (Side.wait d ≤ 1099511627776) else false then true else !bif decide (Side.done d ≥ 0) then decide (Side.done d ≤ 1099511627776) else false then true else !bif decide
 (Pos.base (Side.pos d) ≥ 0) then decide (Pos.base (Side.pos d) ≤ 1099511627776) else false then true else decide (Pos.block (Side.pos d) < 0) then true else decide
 (Pos.block (Side.pos d) ≥ (↑(List.length (Split.blocks s)) : Int)) then true else decide (Pos.index (Side.pos d) < 0) then bif bif decide (Pos.block (Side.pos d)
 < 0) then true else !decide (Pos.block (Side.pos d) < 0) then bif bif decide (Pos.block (Side.pos d) < 0) then true else decide (Pos.block (Side.pos d) ≥ (↑(List.length
 (Split.blocks s)) : Int)) then bif bif bif bif bif bif bif !bif decide (Side.wait d ≥ 0) then decide (Side.wait d ≤ 1099511627776) else false then true else !bif
 decide (Side.done d ≥ 0) then decide (Side.done d ≤ 1099511627776) else false then true else !bif decide (Pos.base (Side.pos d) ≥ 0) then decide (Pos.base (Side.pos
 d) ≤ 1099511627776) else false then true else decide (Pos.block (Side.pos d) < 0) then true else decide (Pos.block (Side.pos d) ≥ (↑(List.length (Split.blocks s))
 : Int)) then true else decide (Pos.index (Side.pos d) < 0) then true else decide (Pos.index (Side.pos d) > 0) then ResLe (.bool false) r else LoopAt (Ok Try.prog
 (Tab.q TO0)) c_ref15_rightSide_l1 (XSt.mk [(7, .int .i64 0), (6, .bool false), (5, .ptr 1 [] 0)] [(1, some (e_Side d)), (0, some (e_Split s))] 2) [Frm.blk 0, Frm.seq
 c_ref15_rightSide_p1] (finQR [AR.tmp 6] r) else bif decide (0 ≤ Pos.block (Side.pos d)) then bif decide (Pos.block (Side.pos d) < (↑(List.length (Split.blocks s))
 : Int)) then bif bif bif bif bif bif bif !bif decide (Side.wait d ≥ 0) then decide (Side.wait d ≤ 1099511627776) else false then true else !bif decide (Side.done
 d ≥ 0) then decide (Side.done d ≤ 1099511627776) else false then true else !bif decide (Pos.base (Side.pos d) ≥ 0) then decide (Pos.base (Side.pos d) ≤ 1099511627776)
 else false then true else decide (Pos.block (Side.pos d) < 0) then true else decide (Pos.block (Side.pos d) ≥ (↑(List.length (Split.blocks s)) : Int)) then true
 else decide (Pos.index (Side.pos d) < 0) then true else decide (Pos.index (Side.pos d) > (↑(List.length (Block.e (ix (Split.blocks s) (Int.toNat (Pos.block (Side.pos
 d)))))) : Int)) then ResLe (.bool false) r else LoopAt (Ok Try.prog (Tab.q TO0)) c_ref15_rightSide_l1 (XSt.mk [(7, .int .i64 0), (6, .bool false), (5, .ptr 1 []
 0)] [(1, some (e_Side d)), (0, some (e_Split s))] 2) [Frm.blk 0, Frm.seq c_ref15_rightSide_p1] (finQR [AR.tmp 6] r) else False else False else False else bif bif
 bif bif bif bif !bif decide (Side.wait d ≥ 0) then decide (Side.wait d ≤ 1099511627776) else false then true else !bif decide (Side.done d ≥ 0) then decide (Side.done
 d ≤ 1099511627776) else false then true else !bif decide (Pos.base (Side.pos d) ≥ 0) then decide (Pos.base (Side.pos d) ≤ 1099511627776) else false then true else
 decide (Pos.block (Side.pos d) < 0) then true else decide (Pos.block (Side.pos d) ≥ (↑(List.length (Split.blocks s)) : Int)) then true else decide (Pos.index (Side.pos
 d) < 0) then ResLe (.bool false) r else False else False else False else False else False else bif bif !bif decide (Side.wait d ≥ 0) then decide (Side.wait d ≤ 1099511627776)
 else false then true else !bif decide (Side.done d ≥ 0) then decide (Side.done d ≤ 1099511627776) else false then ResLe (.bool false) r else False else False else
 bif !bif decide (Side.wait d ≥ 0) then decide (Side.wait d ≤ 1099511627776) else false then ResLe (.bool false) r else False
else False) := by kernel_rfl
theorem r_rs1 (d : Side) (s : Split) (i : Nat) (r : XV) (A : XSt → Prop) : (goQ Try.prog TO0 [(.tmp 6)] r (.run c_ref15_rightSide_l1) [.lp c_ref15_rightSide_l1 A, .blk 0, .seq c_ref15_rightSide_p1] (rsSt d s i)) = (bif decide ((↑i : Int) < 16) then bif decide ((↑i : Int) < 16) then bif Nat.beq (pl 16 (i * 1)) (pl 16 (i * 1)) then bif decide (i < 16) then bif decide ¬Side.ready
 d i = (-1 : Int) then bif decide ((↑i : Int) < 16) then bif Nat.beq (pl 16 (i * 1)) (pl 16 (i * 1)) then bif decide (i < 16) then bif bif decide (Side.ready d i
 ≥ 0) then decide (Side.ready d i ≥ 0) else true then bif bif decide ¬Side.ready d i = (-1 : Int) then !bif decide (Side.ready d i ≥ 0) then decide (Side.ready d
 i ≤ 1099511627776) else false else false then ResLe (.bool false) r else A (XSt.mk [(7, .int .i64 (IntKind.wrap .i64 ((↑i : Int) + (1 : Int)))), (5, .ptr 1 [] 0)]
 [(1, some (e_Side d)), (0, some (e_Split s))] 2) else False else False else False else False else bif !decide ¬Side.ready d i = (-1 : Int) then A (XSt.mk [(7, .int
 .i64 (IntKind.wrap .i64 ((↑i : Int) + (1 : Int)))), (5, .ptr 1 [] 0)] [(1, some (e_Side d)), (0, some (e_Split s))] 2) else False else False else False else False
else
 ResLe (.bool true) r) := by kernel_rfl
theorem r_rst0 (c : Cfg) (s : Split) (x : Stt) (r : XV) : (goQ Try.prog TO1 [(.tmp 6)] r (.run c_ref15_RightState) [] ⟨envX 0 [e_Cfg c, e_Split s, e_Stt x], [], 0⟩) = (∃ (s_1 : Cfg), ArgsLe [e_Cfg c] [e_Cfg s_1] ∧ PreIs True ∧ ∀ (y : Bool), y = rightCfg s_1 → bif !!y then ∃ (s_2 : Split × Bool × Side), ArgsLe [e_Split s, .bool
 false, e_Side (Stt.a x)] [e_Split (Prod.fst s_2), .bool (Prod.fst (Prod.snd s_2)), e_Side (Prod.snd (Prod.snd s_2))] ∧ PreIs True ∧ ∀ (y_1 : Bool), y_1 = sideOk
 (Prod.fst s_2) (Prod.fst (Prod.snd s_2)) (Prod.snd (Prod.snd s_2)) → bif !bif !y then true else !y_1 then ∃ (s_3 : Split × Bool × Side), ArgsLe [e_Split s, .bool
 true, e_Side (Stt.e x)] [e_Split (Prod.fst s_3), .bool (Prod.fst (Prod.snd s_3)), e_Side (Prod.snd (Prod.snd s_3))] ∧ PreIs True ∧ ∀ (y_2 : Bool), y_2 = sideOk (Prod.fst
 s_3) (Prod.fst (Prod.snd s_3)) (Prod.snd (Prod.snd s_3)) → bif !bif bif !y then true else !y_1 then true else !y_2 then bif bif decide (Stt.cycle x ≥ 0) then decide
 (Stt.cycle x ≥ 0) else true then bif !bif bif bif !y then true else !y_1 then true else !y_2 then true else !bif decide (Stt.cycle x ≥ 0) then decide (Stt.cycle
 x ≤ 1099511627776) else false then bif bif decide (Stt.lats x ≥ 0) then decide (Stt.lats x ≥ 0) else true then bif !bif bif bif bif !y then true else !y_1 then true
 else !y_2 then true else !bif decide (Stt.cycle x ≥ 0) then decide (Stt.cycle x ≤ 1099511627776) else false then true else !bif decide (Stt.lats x ≥ 0) then decide
 (Stt.lats x ≤ 1099511627776) else false then bif bif decide (Stt.picks x ≥ 0) then decide (Stt.picks x ≥ 0) else true then bif !bif bif bif bif bif !y then true
 else !y_1 then true else !y_2 then true else !bif decide (Stt.cycle x ≥ 0) then decide (Stt.cycle x ≤ 1099511627776) else false then true else !bif decide (Stt.lats
 x ≥ 0) then decide (Stt.lats x ≤ 1099511627776) else false then true else !bif decide (Stt.picks x ≥ 0) then decide (Stt.picks x ≤ 1099511627776) else false then
 bif bif decide (Stt.tags x ≥ 0) then decide (Stt.tags x ≥ 0) else true then bif bif bif bif bif bif bif !y then true else !y_1 then true else !y_2 then true else
 !bif decide (Stt.cycle x ≥ 0) then decide (Stt.cycle x ≤ 1099511627776) else false then true else !bif decide (Stt.lats x ≥ 0) then decide (Stt.lats x ≤ 1099511627776)
 else false then true else !bif decide (Stt.picks x ≥ 0) then decide (Stt.picks x ≤ 1099511627776) else false then true else !bif decide (Stt.tags x ≥ 0) then decide
 (Stt.tags x ≤ 1099511627776) else false then ResLe (.bool false) r else bif bif decide ((↑(List.length (Stt.ldq x)) : Int) > Cfg.ldq c) then true else !decide ((↑(List.length
 (Stt.ldq x)) : Int) > Cfg.ldq c) then bif bif bif decide ((↑(List.length (Stt.ldq x)) : Int) > Cfg.ldq c) then true else decide ((↑(List.length (Stt.sdq x)) : Int)
 > Cfg.sdq c) then true else !bif decide ((↑(List.length (Stt.ldq x)) : Int) > Cfg.ldq c) then true else decide ((↑(List.length (Stt.sdq x)) : Int) > Cfg.sdq c) then
 bif bif bif bif decide ((↑(List.length (Stt.ldq x)) : Int) > Cfg.ldq c) then true else decide ((↑(List.length (Stt.sdq x)) : Int) > Cfg.sdq c) then true else decide
 ((↑(List.length (Stt.aeq x)) : Int) > Cfg.aeq c) then true else !bif bif decide ((↑(List.length (Stt.ldq x)) : Int) > Cfg.ldq c) then true else decide ((↑(List.length
 (Stt.sdq x)) : Int) > Cfg.sdq c) then true else decide ((↑(List.length (Stt.aeq x)) : Int) > Cfg.aeq c) then bif bif bif bif bif decide ((↑(List.length (Stt.ldq
 x)) : Int) > Cfg.ldq c) then true else decide ((↑(List.length (Stt.sdq x)) : Int) > Cfg.sdq c) then true else decide ((↑(List.length (Stt.aeq x)) : Int) > Cfg.aeq
 c) then true else decide ((↑(List.length (Stt.abq x)) : Int) > Cfg.abq c) then true else !bif bif bif decide ((↑(List.length (Stt.ldq x)) : Int) > Cfg.ldq c) then
 true else decide ((↑(List.length (Stt.sdq x)) : Int) > Cfg.sdq c) then true else decide ((↑(List.length (Stt.aeq x)) : Int) > Cfg.aeq c) then true else decide ((↑(List.length
 (Stt.abq x)) : Int) > Cfg.abq c) then bif bif bif bif bif bif decide ((↑(List.length (Stt.ldq x)) : Int) > Cfg.ldq c) then true else decide ((↑(List.length (Stt.sdq
 x)) : Int) > Cfg.sdq c) then true else decide ((↑(List.length (Stt.aeq x)) : Int) > Cfg.aeq c) then true else decide ((↑(List.length (Stt.abq x)) : Int) > Cfg.abq
 c) then true else decide ((↑(List.length (Stt.ebq x)) : Int) > Cfg.ebq c) then true else !bif bif bif bif decide ((↑(List.length (Stt.ldq x)) : Int) > Cfg.ldq c)
 then true else decide ((↑(List.length (Stt.sdq x)) : Int) > Cfg.sdq c) then true else decide ((↑(List.length (Stt.aeq x)) : Int) > Cfg.aeq c) then true else decide
 ((↑(List.length (Stt.abq x)) : Int) > Cfg.abq c) then true else decide ((↑(List.length (Stt.ebq x)) : Int) > Cfg.ebq c) then bif bif bif bif bif bif bif decide ((↑(List.length
 (Stt.ldq x)) : Int) > Cfg.ldq c) then true else decide ((↑(List.length (Stt.sdq x)) : Int) > Cfg.sdq c) then true else decide ((↑(List.length (Stt.aeq x)) : Int)
 > Cfg.aeq c) then true else decide ((↑(List.length (Stt.abq x)) : Int) > Cfg.abq c) then true else decide ((↑(List.length (Stt.ebq x)) : Int) > Cfg.ebq c) then true
 else decide ((↑(List.length (Stt.saq x)) : Int) > Cfg.saq c) then true else !bif bif bif bif bif decide ((↑(List.length (Stt.ldq x)) : Int) > Cfg.ldq c) then true
 else decide ((↑(List.length (Stt.sdq x)) : Int) > Cfg.sdq c) then true else decide ((↑(List.length (Stt.aeq x)) : Int) > Cfg.aeq c) then true else decide ((↑(List.length
 (Stt.abq x)) : Int) > Cfg.abq c) then true else decide ((↑(List.length (Stt.ebq x)) : Int) > Cfg.ebq c) then true else decide ((↑(List.length (Stt.saq x)) : Int)
 > Cfg.saq c) then bif bif bif bif bif bif bif bif decide ((↑(List.length (Stt.ldq x)) : Int) > Cfg.ldq c) then true else decide ((↑(List.length (Stt.sdq x)) : Int)
 > Cfg.sdq c) then true else decide ((↑(List.length (Stt.aeq x)) : Int) > Cfg.aeq c) then true else decide ((↑(List.length (Stt.abq x)) : Int) > Cfg.abq c) then true
 else decide ((↑(List.length (Stt.ebq x)) : Int) > Cfg.ebq c) then true else decide ((↑(List.length (Stt.saq x)) : Int) > Cfg.saq c) then true else decide ((↑(List.length
 (Stt.table x)) : Int) > Cfg.flight c) then true else !bif bif bif bif bif bif decide ((↑(List.length (Stt.ldq x)) : Int) > Cfg.ldq c) then true else decide ((↑(List.length
 (Stt.sdq x)) : Int) > Cfg.sdq c) then true else decide ((↑(List.length (Stt.aeq x)) : Int) > Cfg.aeq c) then true else decide ((↑(List.length (Stt.abq x)) : Int)
 > Cfg.abq c) then true else decide ((↑(List.length (Stt.ebq x)) : Int) > Cfg.ebq c) then true else decide ((↑(List.length (Stt.saq x)) : Int) > Cfg.saq c) then true
 else decide ((↑(List.length (Stt.table x)) : Int) > Cfg.flight c) then bif bif bif bif bif bif bif bif decide ((↑(List.length (Stt.ldq x)) : Int) > Cfg.ldq c) then
 true else decide ((↑(List.length (Stt.sdq x)) : Int) > Cfg.sdq c) then true else decide ((↑(List.length (Stt.aeq x)) : Int) > Cfg.aeq c) then true else decide ((↑(List.length
 (Stt.abq x)) : Int) > Cfg.abq c) then true else decide ((↑(List.length (Stt.ebq x)) : Int) > Cfg.ebq c) then true else decide ((↑(List.length (Stt.saq x)) : Int)
 > Cfg.saq c) then true else decide ((↑(List.length (Stt.table x)) : Int) > Cfg.flight c) then true else decide ((↑(List.length (Stt.mem x)) : Int) > 65536) then
 ResLe (.bool false) r else LoopAt (Ok Try.prog (Tab.q TO1)) c_ref15_RightState_l1 (XSt.mk [(7, .int .i64 0), (6, .bool false), (5, .ptr 2 [] 0)] [(2, some (e_Stt
 x)), (1, some (e_Split s)), (0, some (e_Cfg c))] 3) [Frm.blk 0, Frm.seq c_ref15_RightState_p2] (finQR [AR.tmp 6] r) else False else False else False else False else
 False else False else False else False else bif bif bif bif bif bif !y then true else !y_1 then true else !y_2 then true else !bif decide (Stt.cycle x ≥ 0) then
 decide (Stt.cycle x ≤ 1099511627776) else false then true else !bif decide (Stt.lats x ≥ 0) then decide (Stt.lats x ≤ 1099511627776) else false then true else !bif
 decide (Stt.picks x ≥ 0) then decide (Stt.picks x ≤ 1099511627776) else false then ResLe (.bool false) r else False else False else bif bif bif bif bif !y then true
 else !y_1 then true else !y_2 then true else !bif decide (Stt.cycle x ≥ 0) then decide (Stt.cycle x ≤ 1099511627776) else false then true else !bif decide (Stt.lats
 x ≥ 0) then decide (Stt.lats x ≤ 1099511627776) else false then ResLe (.bool false) r else False else False else bif bif bif bif !y then true else !y_1 then true
 else !y_2 then true else !bif decide (Stt.cycle x ≥ 0) then decide (Stt.cycle x ≤ 1099511627776) else false then ResLe (.bool false) r else False else False else
 bif bif bif !y then true else !y_1 then true else !y_2 then ResLe (.bool false) r else False else bif bif !y then true else !y_1 then ResLe (.bool false) r else
 False else bif !y then ResLe (.bool false) r else False) := by kernel_rfl
theorem win_cons {lo hi n : Int} {l : List Int} : withinF lo hi (n :: l) = (bif decide (n ≥ lo) then (bif decide (n ≤ hi) then withinF lo hi l else false) else false) := by
  unfold withinF
  rw [List.all_cons]
  by_cases h1 : lo ≤ n <;> by_cases h2 : n ≤ hi <;> simp [h1, h2]
theorem win_nil {lo hi : Int} : withinF lo hi [] = true := rfl
theorem sk_rcfg : SkOk Try.prog (12, cfgS) := skOf_ok fun c _ => by
  show Pure _ _ (cons [e_Cfg c]) (con (.bool (rightCfg c)))
  refine pureR (u := 80) (k := 20) mix TO0ok ?_
  refine Eq.mpr (r_rc c _) ?_
  unfold rightCfg
  simp only [win_cons, win_nil]
  generalize decide (c.ldq ≥ 1) = ldq0
  generalize decide (c.ldq ≤ 64) = ldq1
  generalize decide (c.sdq ≥ 1) = sdq0
  generalize decide (c.sdq ≤ 64) = sdq1
  generalize decide (c.aeq ≥ 1) = aeq0
  generalize decide (c.aeq ≤ 64) = aeq1
  generalize decide (c.abq ≥ 1) = abq0
  generalize decide (c.abq ≤ 64) = abq1
  generalize decide (c.ebq ≥ 1) = ebq0
  generalize decide (c.ebq ≤ 64) = ebq1
  generalize decide (c.saq ≥ 1) = saq0
  generalize decide (c.saq ≤ 64) = saq1
  generalize decide (c.flight ≥ 1) = flight0
  generalize decide (c.flight ≤ 64) = flight1
  generalize decide (c.slip ≥ 1) = slip0
  generalize decide (c.slip ≤ 64) = slip1
  generalize decide (c.banks ≥ 1) = banks0
  generalize decide (c.banks ≤ 16) = banks1
  generalize decide (c.lat ≥ 1) = lat0
  generalize decide (c.lat ≤ 1000) = lat1
  generalize decide (c.mul ≥ 1) = mul0
  generalize decide (c.mul ≤ 50) = mul1
  generalize decide (c.div ≥ 1) = div0
  generalize decide (c.div ≤ 50) = div1
  cases ldq0 with
  | false => exact .rfl
  | true =>
  cases ldq1 with
  | false => exact .rfl
  | true =>
  cases sdq0 with
  | false => exact .rfl
  | true =>
  cases sdq1 with
  | false => exact .rfl
  | true =>
  cases aeq0 with
  | false => exact .rfl
  | true =>
  cases aeq1 with
  | false => exact .rfl
  | true =>
  cases abq0 with
  | false => exact .rfl
  | true =>
  cases abq1 with
  | false => exact .rfl
  | true =>
  cases ebq0 with
  | false => exact .rfl
  | true =>
  cases ebq1 with
  | false => exact .rfl
  | true =>
  cases saq0 with
  | false => exact .rfl
  | true =>
  cases saq1 with
  | false => exact .rfl
  | true =>
  cases flight0 with
  | false => exact .rfl
  | true =>
  cases flight1 with
  | false => exact .rfl
  | true =>
  cases slip0 with
  | false => exact .rfl
  | true =>
  cases slip1 with
  | false => exact .rfl
  | true =>
  cases banks0 with
  | false => exact .rfl
  | true =>
  cases banks1 with
  | false => exact .rfl
  | true =>
  cases lat0 with
  | false => exact .rfl
  | true =>
  cases lat1 with
  | false => exact .rfl
  | true =>
  cases mul0 with
  | false => exact .rfl
  | true =>
  cases mul1 with
  | false => exact .rfl
  | true =>
  cases div0 with
  | false => exact .rfl
  | true =>
  cases div1 with
  | false => exact .rfl
  | true =>
  exact .rfl
theorem bcons {a b : Bool} : (a && b) = (bif a then b else false) := by cases a <;> rfl
theorem side_eq {s : Split} {e : Bool} {d : Side} : sideOk s e d = (bif decide (d.wait ≥ 0) then bif decide (d.wait ≤ 1099511627776) then bif decide (d.done ≥ 0) then bif decide (d.done ≤ 1099511627776) then bif decide (d.pos.base ≥ 0) then bif decide (d.pos.base ≤ 1099511627776) then bif !decide (d.pos.block < 0) then bif !decide (d.pos.block ≥ (s.blocks.length : Int)) then bif !decide (d.pos.index < 0) then bif !decide (d.pos.index > ((cellsF s e d.pos.block).length : Int)) then withinF (-1) 1099511627776 (tabL 16 d.ready) else false else false else false else false else false else false else false else false else false else false) := by
  unfold sideOk
  rw [Bool.eq_iff_iff]
  simp only [← bcons, Bool.and_eq_true, decide_eq_true_eq, Bool.not_eq_true', decide_eq_false_iff_not]
  have e1 : withinF 0 (cellsF s e d.pos.block).length [d.pos.index] = true ↔ 0 ≤ d.pos.index ∧ d.pos.index ≤ (cellsF s e d.pos.block).length := by rw [w1F, decide_eq_true_eq]
  have e2 : withinF 0 1099511627776 [d.pos.base, d.wait, d.done] = true ↔ (0 ≤ d.pos.base ∧ d.pos.base ≤ 1099511627776) ∧ (0 ≤ d.wait ∧ d.wait ≤ 1099511627776) ∧ (0 ≤ d.done ∧ d.done ≤ 1099511627776) := by simp [withinF]
  rw [e1, e2]
  constructor
  · rintro ⟨⟨h1, h2⟩, ⟨h3, h4⟩, ⟨⟨h5, h6⟩, ⟨h7, h8⟩, h9, h10⟩, h11⟩
    exact ⟨h7, h8, h9, h10, h5, h6, by omega, by omega, by omega, by omega, h11⟩
  · rintro ⟨h7, h8, h9, h10, h5, h6, h1, h2, h3, h4, h11⟩
    exact ⟨⟨by omega, by omega⟩, ⟨by omega, by omega⟩, ⟨⟨h5, h6⟩, ⟨h7, h8⟩, h9, h10⟩, h11⟩
def rdB (n : Int) : Bool := decide (-1 ≤ n ∧ n ≤ 1099511627776)
theorem rd_win {d : Side} : withinF (-1) 1099511627776 (tabL 16 d.ready) = true ↔ ∀ i, i < 16 → rdB (d.ready i) = true := by
  unfold withinF
  rw [all_ix, tabL_len]
  exact ⟨fun h i hi => by have := h i hi; rwa [ix_tabL hi] at this, fun h i hi => by rw [ix_tabL hi]; exact h i hi⟩
theorem rs_loop {s : Split} {d : Side} : LoopAt (Ok Try.prog (Tab.q TO0)) c_ref15_rightSide_l1 (XSt.mk [(7, .int .i64 0), (6, .bool false), (5, .ptr 1 [] 0)] [(1, some (e_Side d)), (0, some (e_Split s))] 2) [Frm.blk 0, Frm.seq c_ref15_rightSide_p1] (finQR [AR.tmp 6] (.bool (withinF (-1) 1099511627776 (tabL 16 d.ready)))) := by
  refine loopQ mix TO0ok (fun i : Nat => rsSt d s i) (fun i => i ≤ 16 ∧ ∀ j, j < i → rdB (d.ready j) = true) (fun i => 16 - i) 0 ⟨Nat.zero_le _, fun j hj => by omega⟩ (.of (weakX ⟨rfl, rfl, trivial⟩ ⟨rfl, rfl, trivial⟩ (Nat.le_refl _))) ?_
  rintro i ⟨hi, hp⟩
  refine Eq.mpr (r_rs1 d s i _ _) ?_
  by_cases hlt : i < 16
  · have h1 : (i : Int) < 16 := by omega
    have w1 : IntKind.i64.wrap ((i : Int) + 1) = ((i + 1 : Nat) : Int) := wrap_i64 (by omega) (by omega)
    have nx : rdB (d.ready i) = true → ∃ j, (j ≤ 16 ∧ ∀ k, k < j → rdB (d.ready k) = true) ∧ WeakE 2 (XSt.st (XSt.mk [(7, .int .i64 ((i + 1 : Nat) : Int)), (5, .ptr 1 [] 0)] [(1, some (e_Side d)), (0, some (e_Split s))] 2)) (rsSt d s j).st ∧ 16 - j < 16 - i := fun h => by
      refine ⟨i + 1, ⟨hlt, fun j hj => ?_⟩, .of (weakX ⟨rfl, rfl, trivial⟩ ⟨rfl, rfl, trivial⟩ (Nat.le_refl _)), by omega⟩
      by_cases hji : j = i
      · subst hji; exact h
      · exact hp j (by omega)
    simp only [g1, g2, g3, g4, g5, g6, g7, allN_true, cond_true, Nat.le_refl, decide_true, pl_eq, h1, hlt, w1, Nat.beq_refl]
    by_cases hr : d.ready i = -1
    · simp only [hr, not_true_eq_false, decide_false, cond_false, Bool.not_false, cond_true]
      exact nx (by unfold rdB; rw [hr]; decide)
    · simp only [hr, not_false_eq_true, decide_true, cond_true]
      simp only [band]
      refine cnd2 (fun h => ?_) (fun h => ?_)
      · have : withinF (-1) 1099511627776 (tabL 16 d.ready) = false := by
          rw [← Bool.not_eq_true, rd_win]
          intro g
          have := g i hlt
          simp [rdB] at this h
          omega
        rw [this]
        exact .rfl
      · refine nx ?_
        simp [rdB] at h ⊢
        omega
  · have h1 : ¬ (i : Int) < 16 := by omega
    simp only [h1, decide_false, cond_false]
    rw [rd_win.2 fun j hj => hp j (by omega)]
    exact .rfl
theorem sk_rsd : SkOk Try.prog (36, rsdS) := skOf_ok fun ⟨s, e, d⟩ _ => by
  have L := rs_loop (s := s) (d := d)
  have g0 : decide (0 ≤ d.pos.block) = !decide (d.pos.block < 0) := by rw [Bool.eq_iff_iff]; simp
  have g1 : decide (d.pos.block < (s.blocks.length : Int)) = !decide (d.pos.block ≥ (s.blocks.length : Int)) := by rw [Bool.eq_iff_iff]; simp
  cases e with
  | false =>
    show Pure _ _ (cons [e_Split s, .bool false, e_Side d]) (con (.bool (sideOk s false d)))
    refine pureQ mix TO0ok t_ref15_rightSide (Nat.le_of_ble_eq_true rfl) ?_
    refine Eq.mpr (r_rs0 s d _) ?_
    rw [side_eq]
    simp only [g0, g1]
    have ce : cellsF s false d.pos.block = (ix s.blocks d.pos.block.toNat).a := rfl
    rw [ce]
    generalize withinF (-1) 1099511627776 (tabL 16 d.ready) = R at L ⊢
    generalize decide (d.wait ≥ 0) = w0
    generalize decide (d.wait ≤ 1099511627776) = w1
    generalize decide (d.done ≥ 0) = d0
    generalize decide (d.done ≤ 1099511627776) = d1
    generalize decide (d.pos.base ≥ 0) = p0
    generalize decide (d.pos.base ≤ 1099511627776) = p1
    generalize decide (d.pos.block < 0) = b0
    generalize decide (d.pos.block ≥ (s.blocks.length : Int)) = b1
    generalize decide (d.pos.index < 0) = i0
    generalize decide (d.pos.index > ((ix s.blocks d.pos.block.toNat).a.length : Int)) = i1
    cases w0 with
    | false => first | exact .rfl | (cases w1 <;> cases d0 <;> cases d1 <;> cases p0 <;> cases p1 <;> cases b0 <;> cases b1 <;> cases i0 <;> cases i1 <;> exact .rfl)
    | true =>
    cases w1 with
    | false => first | exact .rfl | (cases d0 <;> cases d1 <;> cases p0 <;> cases p1 <;> cases b0 <;> cases b1 <;> cases i0 <;> cases i1 <;> exact .rfl)
    | true =>
    cases d0 with
    | false => first | exact .rfl | (cases d1 <;> cases p0 <;> cases p1 <;> cases b0 <;> cases b1 <;> cases i0 <;> cases i1 <;> exact .rfl)
    | true =>
    cases d1 with
    | false => first | exact .rfl | (cases p0 <;> cases p1 <;> cases b0 <;> cases b1 <;> cases i0 <;> cases i1 <;> exact .rfl)
    | true =>
    cases p0 with
    | false => first | exact .rfl | (cases p1 <;> cases b0 <;> cases b1 <;> cases i0 <;> cases i1 <;> exact .rfl)
    | true =>
    cases p1 with
    | false => first | exact .rfl | (cases b0 <;> cases b1 <;> cases i0 <;> cases i1 <;> exact .rfl)
    | true =>
    cases b0 with
    | true => first | exact .rfl | (cases b1 <;> cases i0 <;> cases i1 <;> exact .rfl)
    | false =>
    cases b1 with
    | true => first | exact .rfl | (cases i0 <;> cases i1 <;> exact .rfl)
    | false =>
    cases i0 with
    | true => first | exact .rfl | (cases i1 <;> exact .rfl)
    | false =>
    cases i1 with
    | true => first | exact .rfl | exact .rfl
    | false =>
    exact L
  | true =>
    show Pure _ _ (cons [e_Split s, .bool true, e_Side d]) (con (.bool (sideOk s true d)))
    refine pureQ mix TO0ok t_ref15_rightSide (Nat.le_of_ble_eq_true rfl) ?_
    refine Eq.mpr (r_rs0b s d _) ?_
    rw [side_eq]
    simp only [g0, g1]
    have ce : cellsF s true d.pos.block = (ix s.blocks d.pos.block.toNat).e := rfl
    rw [ce]
    generalize withinF (-1) 1099511627776 (tabL 16 d.ready) = R at L ⊢
    generalize decide (d.wait ≥ 0) = w0
    generalize decide (d.wait ≤ 1099511627776) = w1
    generalize decide (d.done ≥ 0) = d0
    generalize decide (d.done ≤ 1099511627776) = d1
    generalize decide (d.pos.base ≥ 0) = p0
    generalize decide (d.pos.base ≤ 1099511627776) = p1
    generalize decide (d.pos.block < 0) = b0
    generalize decide (d.pos.block ≥ (s.blocks.length : Int)) = b1
    generalize decide (d.pos.index < 0) = i0
    generalize decide (d.pos.index > ((ix s.blocks d.pos.block.toNat).e.length : Int)) = i1
    cases w0 with
    | false => first | exact .rfl | (cases w1 <;> cases d0 <;> cases d1 <;> cases p0 <;> cases p1 <;> cases b0 <;> cases b1 <;> cases i0 <;> cases i1 <;> exact .rfl)
    | true =>
    cases w1 with
    | false => first | exact .rfl | (cases d0 <;> cases d1 <;> cases p0 <;> cases p1 <;> cases b0 <;> cases b1 <;> cases i0 <;> cases i1 <;> exact .rfl)
    | true =>
    cases d0 with
    | false => first | exact .rfl | (cases d1 <;> cases p0 <;> cases p1 <;> cases b0 <;> cases b1 <;> cases i0 <;> cases i1 <;> exact .rfl)
    | true =>
    cases d1 with
    | false => first | exact .rfl | (cases p0 <;> cases p1 <;> cases b0 <;> cases b1 <;> cases i0 <;> cases i1 <;> exact .rfl)
    | true =>
    cases p0 with
    | false => first | exact .rfl | (cases p1 <;> cases b0 <;> cases b1 <;> cases i0 <;> cases i1 <;> exact .rfl)
    | true =>
    cases p1 with
    | false => first | exact .rfl | (cases b0 <;> cases b1 <;> cases i0 <;> cases i1 <;> exact .rfl)
    | true =>
    cases b0 with
    | true => first | exact .rfl | (cases b1 <;> cases i0 <;> cases i1 <;> exact .rfl)
    | false =>
    cases b1 with
    | true => first | exact .rfl | (cases i0 <;> cases i1 <;> exact .rfl)
    | false =>
    cases i0 with
    | true => first | exact .rfl | (cases i1 <;> exact .rfl)
    | false =>
    cases i1 with
    | true => first | exact .rfl | exact .rfl
    | false =>
    exact L
theorem TO1ok : TabOk Try.prog TO1 := mkT2_ok clok_ref15 trivial glok_ref15 ⟨sk_rcfg, sk_rsd, sk_lies, sk_rrq, trivial⟩ trivial
theorem r_rst1 (c : Cfg) (s : Split) (x : Stt) (i : Nat) (r : XV) (A : XSt → Prop) : (goQ Try.prog TO1 [(.tmp 6)] r (.run c_ref15_RightState_l1) [.lp c_ref15_RightState_l1 A, .blk 0, .seq c_ref15_RightState_p2] ⟨[(7, .int .i64 i), (5, .ptr 2 [] 0)], [(2, some (e_Stt x)), (1, some (e_Split s)), (0, some (e_Cfg c))], 3⟩) = (bif decide ((↑i : Int) < (↑(List.length (Stt.saq x)) : Int)) then bif decide ((↑i : Int) < (↑(List.length (Stt.saq x)) : Int)) then ∃ (s_1 : Int × Int × Int),
 ArgsLe [.int .i64 (Entry.addr (ix (Stt.saq x) i)), .int .i64 (Entry.size (ix (Stt.saq x) i)), .int .i64 (↑(List.length (Stt.mem x)) : Int)] [.int .i64 (Prod.fst
 s_1), .int .i64 (Prod.fst (Prod.snd s_1)), .int .i64 (Prod.snd (Prod.snd s_1))] ∧ PreIs (0 ≤ Prod.snd (Prod.snd s_1) ∧ Prod.snd (Prod.snd s_1) ≤ 1000000) ∧ ∀ (y
 : Bool), y = liesB (Prod.fst s_1) (Prod.fst (Prod.snd s_1)) (Prod.snd (Prod.snd s_1)) → bif !!y then bif bif decide (Entry.step (ix (Stt.saq x) i) ≥ 0) then decide
 (Entry.step (ix (Stt.saq x) i) ≥ 0) else true then bif bif !bif !y then true else !bif decide (Entry.step (ix (Stt.saq x) i) ≥ 0) then decide (Entry.step (ix (Stt.saq
 x) i) ≤ 1099511627776) else false then true else !!bif !y then true else !bif decide (Entry.step (ix (Stt.saq x) i) ≥ 0) then decide (Entry.step (ix (Stt.saq x)
 i) ≤ 1099511627776) else false then bif bif bif Entry.known (ix (Stt.saq x) i) then bif !bif !y then true else !bif decide (Entry.step (ix (Stt.saq x) i) ≥ 0) then
 decide (Entry.step (ix (Stt.saq x) i) ≤ 1099511627776) else false then Entry.known (ix (Stt.saq x) i) else false else true then true else !!bif !y then true else
 !bif decide (Entry.step (ix (Stt.saq x) i) ≥ 0) then decide (Entry.step (ix (Stt.saq x) i) ≤ 1099511627776) else false then bif bif bif !y then true else !bif decide
 (Entry.step (ix (Stt.saq x) i) ≥ 0) then decide (Entry.step (ix (Stt.saq x) i) ≤ 1099511627776) else false then true else !bif !y then true else !bif decide (Entry.step
 (ix (Stt.saq x) i) ≥ 0) then decide (Entry.step (ix (Stt.saq x) i) ≤ 1099511627776) else false then bif bif bif !y then true else !bif decide (Entry.step (ix (Stt.saq
 x) i) ≥ 0) then decide (Entry.step (ix (Stt.saq x) i) ≤ 1099511627776) else false then true else bif Entry.known (ix (Stt.saq x) i) then decide ((↑i : Int) > 0)
 else false then ResLe (.bool false) r else A (XSt.mk [(7, .int .i64 (IntKind.wrap .i64 ((↑i : Int) + (1 : Int)))), (5, .ptr 2 [] 0)] [(3, some (e_Entry (ix (Stt.saq
 x) i))), (2, some (e_Stt x)), (1, some (e_Split s)), (0, some (e_Cfg c))] 4) else False else False else False else False else bif !y then bif bif bif Entry.known
 (ix (Stt.saq x) i) then false else true then true else true then ResLe (.bool false) r else False else False else False
else LoopAt (Ok Try.prog (Tab.q TO1)) c_ref15_RightState_l2
 (XSt.mk [(10, .int .i64 0), (9, .int .i64 0), (5, .ptr 2 [] 0)] [(2, some (e_Stt x)), (1, some (e_Split s)), (0, some (e_Cfg c))] 3) [Frm.blk 2, Frm.seq c_ref15_RightState_p1]
 (finQR [AR.tmp 6] r)) := by kernel_rfl
theorem r_rst2 (c : Cfg) (s : Split) (x : Stt) (i n : Nat) (r : XV) (A : XSt → Prop) : (goQ Try.prog TO1 [(.tmp 6)] r (.run c_ref15_RightState_l2) [.lp c_ref15_RightState_l2 A, .blk 2, .seq c_ref15_RightState_p1] ⟨[(10, .int .i64 i), (9, .int .i64 n), (5, .ptr 2 [] 0)], [(2, some (e_Stt x)), (1, some (e_Split s)), (0, some (e_Cfg c))], 3⟩) = (bif decide ((↑i : Int) < (↑(List.length (Stt.table x)) : Int)) then bif decide ((↑i : Int) < (↑(List.length (Stt.table x)) : Int)) then ∃ (s_1 : Req × Int),
 ArgsLe [e_Req (ix (Stt.table x) i), .int .i64 (↑(List.length (Stt.mem x)) : Int)] [e_Req (Prod.fst s_1), .int .i64 (Prod.snd s_1)] ∧ PreIs (0 ≤ Prod.snd s_1 ∧ Prod.snd
 s_1 ≤ 1000000) ∧ ∀ (y : Bool), y = reqOk (Prod.fst s_1) (Prod.snd s_1) → bif !y then ResLe (.bool false) r else bif Req.store (ix (Stt.table x) i) then bif bif decide
 (0 < (↑(List.length (Stt.saq x)) : Int)) then true else !!decide ((↑(List.length (Stt.saq x)) : Int) = 0) then bif bif decide ((↑(List.length (Stt.saq x)) : Int)
 = 0) then true else !decide ((↑(List.length (Stt.saq x)) : Int) = 0) then bif bif decide (0 < (↑(List.length (Stt.saq x)) : Int)) then true else !!bif decide ((↑(List.length
 (Stt.saq x)) : Int) = 0) then true else decide ¬Entry.addr (ix (Stt.saq x) 0) = Req.addr (ix (Stt.table x) i) then bif bif bif decide ((↑(List.length (Stt.saq x))
 : Int) = 0) then true else decide ¬Entry.addr (ix (Stt.saq x) 0) = Req.addr (ix (Stt.table x) i) then true else !bif decide ((↑(List.length (Stt.saq x)) : Int) =
 0) then true else decide ¬Entry.addr (ix (Stt.saq x) 0) = Req.addr (ix (Stt.table x) i) then bif bif bif decide ((↑(List.length (Stt.saq x)) : Int) = 0) then true
 else decide ¬Entry.addr (ix (Stt.saq x) 0) = Req.addr (ix (Stt.table x) i) then true else decide ¬Entry.size (ix (Stt.saq x) 0) = Req.size (ix (Stt.table x) i) then
 ResLe (.bool false) r else A (XSt.mk [(10, .int .i64 (IntKind.wrap .i64 ((↑i : Int) + (1 : Int)))), (9, .int .i64 (IntKind.wrap .i64 ((↑n : Int) + (1 : Int)))),
 (5, .ptr 2 [] 0)] [(3, some (e_Req (ix (Stt.table x) i))), (2, some (e_Stt x)), (1, some (e_Split s)), (0, some (e_Cfg c))] 4) else False else False else False else
 False else A (XSt.mk [(10, .int .i64 (IntKind.wrap .i64 ((↑i : Int) + (1 : Int)))), (9, .int .i64 (↑n : Int)), (5, .ptr 2 [] 0)] [(3, some (e_Req (ix (Stt.table
 x) i))), (2, some (e_Stt x)), (1, some (e_Split s)), (0, some (e_Cfg c))] 4) else False
else bif bif decide (0 < (↑(List.length (Stt.saq x)) : Int)) then true else
 !decide ((↑(List.length (Stt.saq x)) : Int) > 0) then bif bif decide ((↑(List.length (Stt.saq x)) : Int) > 0) then decide ((↑(List.length (Stt.saq x)) : Int) > 0)
 else true then bif bif decide ((↑n : Int) > 1) then true else !decide ((↑n : Int) > 1) then bif bif decide ((↑n : Int) > 1) then true else !(bif decide ((↑(List.length
 (Stt.saq x)) : Int) > 0) then Entry.known (ix (Stt.saq x) 0) else false) == decide ((↑n : Int) = 1) then ResLe (.bool false) r else bif bif decide (Trp.kind (Stt.trap
 x) ≥ 0) then decide (Trp.kind (Stt.trap x) ≥ 0) else true then bif bif decide (Trp.kind (Stt.trap x) ≥ 0) then decide (Trp.kind (Stt.trap x) ≤ 4) else false then
 bif bif decide (Trp.step (Stt.trap x) ≥ 0) then decide (Trp.step (Stt.trap x) ≥ 0) else true then bif bif bif decide (Trp.kind (Stt.trap x) ≥ 0) then decide (Trp.kind
 (Stt.trap x) ≤ 4) else false then bif decide (Trp.step (Stt.trap x) ≥ 0) then decide (Trp.step (Stt.trap x) ≤ 1099511627776) else false else false then bif bif decide
 (Trp.pc (Stt.trap x) ≥ 0) then decide (Trp.pc (Stt.trap x) ≥ 0) else true then bif bif bif bif bif bif decide (Trp.kind (Stt.trap x) ≥ 0) then decide (Trp.kind (Stt.trap
 x) ≤ 4) else false then bif decide (Trp.step (Stt.trap x) ≥ 0) then decide (Trp.step (Stt.trap x) ≤ 1099511627776) else false else false then bif decide (Trp.pc
 (Stt.trap x) ≥ 0) then decide (Trp.pc (Stt.trap x) ≤ 1099511627776) else false else false then !decide (Trp.kind (Stt.trap x) > 0) else false then true else !bif
 bif bif bif decide (Trp.kind (Stt.trap x) ≥ 0) then decide (Trp.kind (Stt.trap x) ≤ 4) else false then bif decide (Trp.step (Stt.trap x) ≥ 0) then decide (Trp.step
 (Stt.trap x) ≤ 1099511627776) else false else false then bif decide (Trp.pc (Stt.trap x) ≥ 0) then decide (Trp.pc (Stt.trap x) ≤ 1099511627776) else false else false
 then !decide (Trp.kind (Stt.trap x) > 0) else false then bif bif bif decide (Trp.step (Stt.trap x) = 0) then bif bif bif bif bif decide (Trp.kind (Stt.trap x) ≥
 0) then decide (Trp.kind (Stt.trap x) ≤ 4) else false then bif decide (Trp.step (Stt.trap x) ≥ 0) then decide (Trp.step (Stt.trap x) ≤ 1099511627776) else false
 else false then bif decide (Trp.pc (Stt.trap x) ≥ 0) then decide (Trp.pc (Stt.trap x) ≤ 1099511627776) else false else false then !decide (Trp.kind (Stt.trap x)
 > 0) else false then decide (Trp.step (Stt.trap x) = 0) else false else true then true else !bif bif bif bif decide (Trp.kind (Stt.trap x) ≥ 0) then decide (Trp.kind
 (Stt.trap x) ≤ 4) else false then bif decide (Trp.step (Stt.trap x) ≥ 0) then decide (Trp.step (Stt.trap x) ≤ 1099511627776) else false else false then bif decide
 (Trp.pc (Stt.trap x) ≥ 0) then decide (Trp.pc (Stt.trap x) ≤ 1099511627776) else false else false then !decide (Trp.kind (Stt.trap x) > 0) else false then bif bif
 bif bif bif decide (Trp.kind (Stt.trap x) ≥ 0) then decide (Trp.kind (Stt.trap x) ≤ 4) else false then bif decide (Trp.step (Stt.trap x) ≥ 0) then decide (Trp.step
 (Stt.trap x) ≤ 1099511627776) else false else false then bif decide (Trp.pc (Stt.trap x) ≥ 0) then decide (Trp.pc (Stt.trap x) ≤ 1099511627776) else false else false
 then true else !bif bif bif decide (Trp.kind (Stt.trap x) ≥ 0) then decide (Trp.kind (Stt.trap x) ≤ 4) else false then bif decide (Trp.step (Stt.trap x) ≥ 0) then
 decide (Trp.step (Stt.trap x) ≤ 1099511627776) else false else false then bif decide (Trp.pc (Stt.trap x) ≥ 0) then decide (Trp.pc (Stt.trap x) ≤ 1099511627776)
 else false else false then bif bif bif decide (Trp.kind (Stt.trap x) > 0) then true else bif bif bif bif decide (Trp.kind (Stt.trap x) ≥ 0) then decide (Trp.kind
 (Stt.trap x) ≤ 4) else false then bif decide (Trp.step (Stt.trap x) ≥ 0) then decide (Trp.step (Stt.trap x) ≤ 1099511627776) else false else false then bif decide
 (Trp.pc (Stt.trap x) ≥ 0) then decide (Trp.pc (Stt.trap x) ≤ 1099511627776) else false else false then !decide (Trp.kind (Stt.trap x) > 0) else false then true else
 !bif bif bif decide (Trp.kind (Stt.trap x) ≥ 0) then decide (Trp.kind (Stt.trap x) ≤ 4) else false then bif decide (Trp.step (Stt.trap x) ≥ 0) then decide (Trp.step
 (Stt.trap x) ≤ 1099511627776) else false else false then bif decide (Trp.pc (Stt.trap x) ≥ 0) then decide (Trp.pc (Stt.trap x) ≤ 1099511627776) else false else false
 then bif bif bif bif bif decide (Trp.kind (Stt.trap x) ≥ 0) then decide (Trp.kind (Stt.trap x) ≤ 4) else false then bif decide (Trp.step (Stt.trap x) ≥ 0) then decide
 (Trp.step (Stt.trap x) ≤ 1099511627776) else false else false then bif decide (Trp.pc (Stt.trap x) ≥ 0) then decide (Trp.pc (Stt.trap x) ≤ 1099511627776) else false
 else false then bif bif bif decide (Trp.kind (Stt.trap x) ≥ 0) then decide (Trp.kind (Stt.trap x) ≤ 4) else false then bif decide (Trp.step (Stt.trap x) ≥ 0) then
 decide (Trp.step (Stt.trap x) ≤ 1099511627776) else false else false then bif decide (Trp.pc (Stt.trap x) ≥ 0) then decide (Trp.pc (Stt.trap x) ≤ 1099511627776)
 else false else false else true then ResLe (.bool (bif bif bif bif decide (Trp.kind (Stt.trap x) ≥ 0) then decide (Trp.kind (Stt.trap x) ≤ 4) else false then bif
 decide (Trp.step (Stt.trap x) ≥ 0) then decide (Trp.step (Stt.trap x) ≤ 1099511627776) else false else false then bif decide (Trp.pc (Stt.trap x) ≥ 0) then decide
 (Trp.pc (Stt.trap x) ≤ 1099511627776) else false else false then bif decide (Trp.kind (Stt.trap x) > 0) then true else bif decide (Trp.step (Stt.trap x) = 0) then
 decide (Trp.pc (Stt.trap x) = 0) else false else false)) r else False else False else False else False else False else False else bif !bif bif decide (Trp.kind (Stt.trap
 x) ≥ 0) then decide (Trp.kind (Stt.trap x) ≤ 4) else false then bif decide (Trp.step (Stt.trap x) ≥ 0) then decide (Trp.step (Stt.trap x) ≤ 1099511627776) else false
 else false then bif bif bif decide (Trp.step (Stt.trap x) = 0) then false else true then true else true then bif bif bif decide (Trp.kind (Stt.trap x) > 0) then
 true else false then true else true then ResLe (.bool false) r else False else False else False else False else bif !bif decide (Trp.kind (Stt.trap x) ≥ 0) then
 decide (Trp.kind (Stt.trap x) ≤ 4) else false then bif bif bif decide (Trp.step (Stt.trap x) = 0) then false else true then true else true then bif bif bif decide
 (Trp.kind (Stt.trap x) > 0) then true else false then true else true then ResLe (.bool false) r else False else False else False else False else False else False
 else False) := by kernel_rfl
end Go.Proofs.Ythmlnmkbeohojaa

/- Which states may be, as the document tells: its loops. -/
namespace Go.Proofs.Ythmlnmkbeohojaa
open Go.Ra
set_option linter.unusedVariables false
set_option linter.unusedSimpArgs false
/-- What is left to be seen once the queues are short enough. -/
def tailB (x : Stt) : Bool := storesB x && trapOk x.trap
def rst1 (c : Cfg) (s : Split) (x : Stt) (i : Nat) : XSt := ⟨[(7, .int .i64 i), (5, .ptr 2 [] 0)], [(2, some (e_Stt x)), (1, some (e_Split s)), (0, some (e_Cfg c))], 3⟩
def rst2 (c : Cfg) (s : Split) (x : Stt) (i n : Nat) : XSt := ⟨[(10, .int .i64 i), (9, .int .i64 n), (5, .ptr 2 [] 0)], [(2, some (e_Stt x)), (1, some (e_Split s)), (0, some (e_Cfg c))], 3⟩
theorem trap_eq {t : Trp} : trapOk t = (decide (t.kind ≥ 0) && decide (t.kind ≤ 4) && (decide (t.step ≥ 0) && decide (t.step ≤ 1099511627776)) && (decide (t.pc ≥ 0) && decide (t.pc ≤ 1099511627776)) && (decide (t.kind > 0) || (decide (t.step = 0) && decide (t.pc = 0)))) := by
  unfold trapOk bigB
  rw [Bool.eq_iff_iff]
  split
  · rename_i h
    simp only [Bool.and_eq_true, Bool.or_eq_true, decide_eq_true_eq]
    constructor
    · rintro ⟨h1, h2⟩
      omega
    · rintro ⟨_, h2⟩
      omega
  · rename_i h
    simp only [Bool.and_eq_true, Bool.or_eq_true, decide_eq_true_eq]
    omega
theorem sent_eq {x : Stt} {n : Nat} (hn : n = cntSt x.table) : (!(decide ((n : Int) > 1) || !((bif decide ((x.saq.length : Int) > 0) then (ix x.saq 0).known else false) == decide ((n : Int) = 1)))) = decide (cntSt x.table = if 0 < x.saq.length ∧ (ix x.saq 0).known = true then 1 else 0) := by
  rw [← hn]
  by_cases hz : 0 < x.saq.length
  · have hz2 : (x.saq.length : Int) > 0 := by omega
    cases hk : (ix x.saq 0).known with
    | true =>
      simp only [hz, hz2, decide_true, cond_true, and_self, if_true]
      rw [Bool.eq_iff_iff]
      simp
      omega
    | false =>
      simp only [hz, hz2, decide_true, cond_true, Bool.false_eq_true, and_false, if_false]
      rw [Bool.eq_iff_iff]
      simp
      omega
  · have hz2 : ¬ (x.saq.length : Int) > 0 := by omega
    simp only [hz, hz2, decide_false, cond_false, false_and, if_false]
    rw [Bool.eq_iff_iff]
    simp
    omega
theorem rst2_loop {c : Cfg} {s : Split} {x : Stt} (ho : x.ok) (hs : allN (fun i => entOk x i (ix x.saq i)) x.saq.length = true) : LoopAt (Ok Try.prog (Tab.q TO1)) c_ref15_RightState_l2 (XSt.mk [(10, .int .i64 0), (9, .int .i64 0), (5, .ptr 2 [] 0)] [(2, some (e_Stt x)), (1, some (e_Split s)), (0, some (e_Cfg c))] 3) [Frm.blk 2, Frm.seq c_ref15_RightState_p1] (finQR [AR.tmp 6] (.bool (tailB x))) := by
  have hl : x.table.length ≤ 1000000 := ho.2.2.2.2.2.2.2.1
  have hm : x.mem.length ≤ 1000000 := ho.2.2.2.2.2.2.2.2.1
  refine loopQ mix TO1ok (fun i : Nat => rst2 c s x i (cntSt (x.table.take i))) (fun i => i ≤ x.table.length ∧ ∀ j, j < i → reqOk (ix x.table j) x.mem.length = true ∧ fstSt x (ix x.table j) = true) (fun i => x.table.length - i) 0 ⟨Nat.zero_le _, fun j hj => by omega⟩ (.of (weakX ⟨rfl, rfl, rfl, trivial⟩ ⟨rfl, rfl, rfl, trivial⟩ (Nat.le_refl _))) ?_
  rintro i ⟨hi, hp⟩
  refine Eq.mpr (r_rst2 c s x i _ _ _) ?_
  have hc : cntSt (x.table.take i) ≤ 1000000 := by
    have : cntSt (x.table.take i) ≤ (x.table.take i).length := List.countP_le_length
    have := List.length_take_le i x.table
    omega
  by_cases hlt : i < x.table.length
  · have h1 : (i : Int) < (x.table.length : Int) := by omega
    have w1 : IntKind.i64.wrap ((i : Int) + 1) = ((i + 1 : Nat) : Int) := wrap_i64 (by omega) (by omega)
    have w2 : IntKind.i64.wrap ((cntSt (x.table.take i) : Int) + 1) = ((cntSt (x.table.take i) + 1 : Nat) : Int) := wrap_i64 (by omega) (by omega)
    have st := cnt_step hlt
    have nx : ∀ n, n = cntSt (x.table.take (i + 1)) → reqOk (ix x.table i) x.mem.length = true → fstSt x (ix x.table i) = true → ∃ j, (j ≤ x.table.length ∧ ∀ k, k < j → reqOk (ix x.table k) x.mem.length = true ∧ fstSt x (ix x.table k) = true) ∧ WeakE 3 (XSt.st (XSt.mk [(10, .int .i64 ((i + 1 : Nat) : Int)), (9, .int .i64 (n : Nat)), (5, .ptr 2 [] 0)] [(3, some (e_Req (ix x.table i))), (2, some (e_Stt x)), (1, some (e_Split s)), (0, some (e_Cfg c))] 4)) (rst2 c s x j (cntSt (x.table.take j))).st ∧ x.table.length - j < x.table.length - i := fun n hn h h' => by
      subst hn
      refine ⟨i + 1, ⟨hlt, fun j hj => ?_⟩, .ofL (weakT ⟨le_is rfl, le_is rfl, le_is rfl, trivial⟩ ⟨rfl, rfl, rfl, trivial⟩ (Nat.le_refl _) rfl), by omega⟩
      by_cases hji : j = i
      · subst hji; exact ⟨h, h'⟩
      · exact hp j (by omega)
    have bad1 : reqOk (ix x.table i) x.mem.length = false → tailB x = false := fun h => by
      unfold tailB storesB
      rw [all_no (p := fun q => reqOk q x.mem.length) hlt h, hs]; rfl
    have bad2 : fstSt x (ix x.table i) = false → tailB x = false := fun h => by
      unfold tailB storesB sentB
      rw [all_no hlt h, hs, Bool.false_and, Bool.and_false]; rfl
    simp only [h1, w1, w2, decide_true, cond_true]
    refine ⟨(ix x.table i, (x.mem.length : Int)), .rfl, ⟨⟨by show (0 : Int) ≤ (x.mem.length : Int); omega, by show (x.mem.length : Int) ≤ 1000000; omega⟩⟩, ?_⟩
    intro y hy
    replace hy : y = reqOk (ix x.table i) x.mem.length := hy
    cases y with
    | false => rw [bad1 hy.symm]; exact .rfl
    | true =>
    simp only [Bool.not_true, cond_false]
    cases hst : (ix x.table i).store with
    | false =>
      rw [hst] at st
      simp only [cond_false]
      exact nx _ (by rw [st]; rfl) hy.symm (by unfold fstSt; rw [hst]; rfl)
    | true =>
      rw [hst] at st
      simp only [cond_true]
      by_cases hz : x.saq.length = 0
      · have hz' : (x.saq.length : Int) = 0 := by omega
        have hz2 : ¬ (0 : Int) < (x.saq.length : Int) := by omega
        rw [bad2 (by unfold fstSt; rw [hst]; simp [hz])]
        simp only [hz', hz2, decide_true, decide_false, cond_true, cond_false, Bool.not_true, Bool.not_false, bor, Bool.true_or, Bool.or_true]
        exact .rfl
      · have hz' : ¬ (x.saq.length : Int) = 0 := by omega
        have hz2 : (0 : Int) < (x.saq.length : Int) := by omega
        simp only [hz', hz2, decide_true, decide_false, cond_true, cond_false, Bool.not_true, Bool.not_false, bor, Bool.true_or, Bool.or_true, Bool.false_or, Bool.or_not_self]
        refine cnd2 (fun h => ?_) (fun h => ?_)
        · rw [bad2 (by
            unfold fstSt
            rw [hst, decide_eq_true hz]
            simp only [decide_not, Bool.or_eq_true, Bool.not_eq_true', decide_eq_false_iff_not] at h
            rcases h with h | h <;> simp [Ne.symm h])]
          exact .rfl
        · refine nx _ (by rw [st]; rfl) hy.symm ?_
          unfold fstSt
          rw [hst, decide_eq_true hz]
          simp only [decide_not, Bool.or_eq_false_iff, Bool.not_eq_false', decide_eq_true_eq] at h
          simp [h.1, h.2]
  · have h1 : ¬ (i : Int) < (x.table.length : Int) := by omega
    obtain rfl : i = x.table.length := by omega
    simp only [h1, decide_false, cond_false]
    rw [List.take_length]
    have a1 : x.table.all (fun q => reqOk q x.mem.length) = true := all_ix.2 fun j hj => (hp j hj).1
    have a2 : x.table.all (fstSt x) = true := all_ix.2 fun j hj => (hp j hj).2
    have e0 : tailB x = ((!(decide ((cntSt x.table : Int) > 1) || !((bif decide ((x.saq.length : Int) > 0) then (ix x.saq 0).known else false) == decide ((cntSt x.table : Int) = 1)))) && trapOk x.trap) := by
      rw [sent_eq rfl]
      unfold tailB storesB sentB
      rw [hs, a1, a2]; rfl
    have gz : decide ((0 : Int) < (x.saq.length : Int)) = decide ((x.saq.length : Int) > 0) := rfl
    rw [e0, trap_eq]
    simp only [g1, g2, g3, g4, g5, g6, g7, allN_true, cond_true, Nat.le_refl, decide_true, pl_eq, gz]
    simp only [bor, band]
    refine cnd2 (fun h => by rw [h]; exact .rfl) (fun h => ?_)
    rw [h]
    generalize decide (x.trap.kind ≥ 0) = k0
    generalize decide (x.trap.kind ≤ 4) = k1
    generalize decide (x.trap.kind > 0) = k2
    generalize decide (x.trap.step ≥ 0) = s0
    generalize decide (x.trap.step ≤ 1099511627776) = s1
    generalize decide (x.trap.pc ≥ 0) = p0
    generalize decide (x.trap.pc ≤ 1099511627776) = p1
    generalize decide (x.trap.step = 0) = s2
    generalize decide (x.trap.pc = 0) = p2
    cases k0 <;> cases k1 <;> (try exact .rfl) <;> cases s0 <;> cases s1 <;> (try exact .rfl) <;> cases p0 <;> cases p1 <;> cases k2 <;> (try exact .rfl) <;> cases s2 <;> cases p2 <;> exact .rfl
theorem rst1_loop {c : Cfg} {s : Split} {x : Stt} (ho : x.ok) : LoopAt (Ok Try.prog (Tab.q TO1)) c_ref15_RightState_l1 (XSt.mk [(7, .int .i64 0), (6, .bool false), (5, .ptr 2 [] 0)] [(2, some (e_Stt x)), (1, some (e_Split s)), (0, some (e_Cfg c))] 3) [Frm.blk 0, Frm.seq c_ref15_RightState_p2] (finQR [AR.tmp 6] (.bool (tailB x))) := by
  have hl : x.saq.length ≤ 1000000 := ho.2.2.2.2.2.2.1
  have hm : x.mem.length ≤ 1000000 := ho.2.2.2.2.2.2.2.2.1
  refine loopQ mix TO1ok (fun i : Nat => rst1 c s x i) (fun i => i ≤ x.saq.length ∧ ∀ j, j < i → entOk x j (ix x.saq j) = true) (fun i => x.saq.length - i) 0 ⟨Nat.zero_le _, fun j hj => by omega⟩ (.of (weakX ⟨rfl, rfl, trivial⟩ ⟨rfl, rfl, rfl, trivial⟩ (Nat.le_refl _))) ?_
  rintro i ⟨hi, hp⟩
  refine Eq.mpr (r_rst1 c s x i _ _) ?_
  by_cases hlt : i < x.saq.length
  · have h1 : (i : Int) < (x.saq.length : Int) := by omega
    have w1 : IntKind.i64.wrap ((i : Int) + 1) = ((i + 1 : Nat) : Int) := wrap_i64 (by omega) (by omega)
    have bad : entOk x i (ix x.saq i) = false → tailB x = false := fun h => by
      unfold tailB storesB
      rw [allN_false hlt h]; rfl
    have nx : entOk x i (ix x.saq i) = true → ∃ j, (j ≤ x.saq.length ∧ ∀ k, k < j → entOk x k (ix x.saq k) = true) ∧ WeakE 3 (XSt.st (XSt.mk [(7, .int .i64 ((i + 1 : Nat) : Int)), (5, .ptr 2 [] 0)] [(3, some (e_Entry (ix x.saq i))), (2, some (e_Stt x)), (1, some (e_Split s)), (0, some (e_Cfg c))] 4)) (rst1 c s x j).st ∧ x.saq.length - j < x.saq.length - i := fun h => by
      refine ⟨i + 1, ⟨hlt, fun j hj => ?_⟩, .ofL (weakT ⟨le_is rfl, le_is rfl, trivial⟩ ⟨rfl, rfl, rfl, trivial⟩ (Nat.le_refl _) rfl), by omega⟩
      by_cases hji : j = i
      · subst hji; exact h
      · exact hp j (by omega)
    have ed : decide ((i : Int) > 0) = decide (0 < i) := decide_eq_decide.2 (by omega)
    simp only [h1, w1, decide_true, cond_true, ed]
    refine ⟨((ix x.saq i).addr, (ix x.saq i).size, (x.mem.length : Int)), .rfl, ⟨⟨by show (0 : Int) ≤ (x.mem.length : Int); omega, by show (x.mem.length : Int) ≤ 1000000; omega⟩⟩, ?_⟩
    intro y hy
    replace hy : y = liesB (ix x.saq i).addr (ix x.saq i).size x.mem.length := hy
    have eb : bigB (ix x.saq i).step = (bif decide ((ix x.saq i).step ≥ 0) then decide ((ix x.saq i).step ≤ 1099511627776) else false) := by
      unfold bigB
      rw [Bool.eq_iff_iff, ← bcons]
      simp
    have e0 : entOk x i (ix x.saq i) = (y && (bigB (ix x.saq i).step && !((ix x.saq i).known && decide (0 < i)))) := by rw [hy]; rfl
    rw [eb] at e0
    clear hy eb
    generalize decide ((ix x.saq i).step ≥ 0) = s0 at e0 ⊢
    generalize decide ((ix x.saq i).step ≤ 1099511627776) = s1 at e0 ⊢
    generalize (ix x.saq i).known = kn at e0 ⊢
    generalize decide (0 < i) = dz at e0 ⊢
    have fin : entOk x i (ix x.saq i) = false → ResLe (.bool false) (.bool (tailB x)) := fun h => by rw [bad h]; exact .rfl
    cases y <;> cases s0 <;> cases s1 <;> cases kn <;> cases dz <;> first | exact fin e0 | exact nx e0
  · have h1 : ¬ (i : Int) < (x.saq.length : Int) := by omega
    obtain rfl : i = x.saq.length := by omega
    simp only [h1, decide_false, cond_false]
    exact rst2_loop ho (allN_iff.2 hp)
theorem rst_eq {c : Cfg} {s : Split} {x : Stt} : rightStt c s x = (bif rightCfg c then bif sideOk s false x.a then bif sideOk s true x.e then bif decide (x.cycle ≥ 0) then bif decide (x.cycle ≤ 1099511627776) then bif decide (x.lats ≥ 0) then bif decide (x.lats ≤ 1099511627776) then bif decide (x.picks ≥ 0) then bif decide (x.picks ≤ 1099511627776) then bif decide (x.tags ≥ 0) then bif decide (x.tags ≤ 1099511627776) then bif !decide ((x.ldq.length : Int) > c.ldq) then bif !decide ((x.sdq.length : Int) > c.sdq) then bif !decide ((x.aeq.length : Int) > c.aeq) then bif !decide ((x.abq.length : Int) > c.abq) then bif !decide ((x.ebq.length : Int) > c.ebq) then bif !decide ((x.saq.length : Int) > c.saq) then bif !decide ((x.table.length : Int) > c.flight) then bif !decide ((x.mem.length : Int) > 65536) then tailB x else false else false else false else false else false else false else false else false else false else false else false else false else false else false else false else false else false else false else false) := by
  have e2 : withinF 0 1099511627776 [x.cycle, x.lats, x.picks, x.tags] = true ↔ (0 ≤ x.cycle ∧ x.cycle ≤ 1099511627776) ∧ (0 ≤ x.lats ∧ x.lats ≤ 1099511627776) ∧ (0 ≤ x.picks ∧ x.picks ≤ 1099511627776) ∧ (0 ≤ x.tags ∧ x.tags ≤ 1099511627776) := by simp [withinF]
  unfold rightStt quesF tailB
  rw [Bool.eq_iff_iff]
  simp only [← bcons, Bool.and_eq_true, decide_eq_true_eq, Bool.not_eq_true', decide_eq_false_iff_not, e2, Int.not_lt, gt_iff_lt, ge_iff_le]
  constructor
  · rintro ⟨a1, a2, a3, ⟨⟨b1, b2⟩, ⟨b3, b4⟩, ⟨b5, b6⟩, b7, b8⟩, ⟨c1, c2, c3, c4, c5, c6, c7, c8⟩, d1, d2⟩
    exact ⟨a1, a2, a3, b1, b2, b3, b4, b5, b6, b7, b8, c1, c2, c3, c4, c5, c6, c7, c8, d1, d2⟩
  · rintro ⟨a1, a2, a3, b1, b2, b3, b4, b5, b6, b7, b8, c1, c2, c3, c4, c5, c6, c7, c8, d1, d2⟩
    exact ⟨a1, a2, a3, ⟨⟨b1, b2⟩, ⟨b3, b4⟩, ⟨b5, b6⟩, b7, b8⟩, ⟨c1, c2, c3, c4, c5, c6, c7, c8⟩, d1, d2⟩
theorem sk_rst : SkOk Try.prog (17, rigS) := skOf_ok fun ⟨c, s, x⟩ h => by
  have ho : x.ok := h
  show Pure _ _ (cons [e_Cfg c, e_Split s, e_Stt x]) (con (.bool (rightStt c s x)))
  refine pureQ mix TO1ok t_ref15_RightState (Nat.le_of_ble_eq_true rfl) ?_
  refine Eq.mpr (r_rst0 c s x _) ?_
  have L := rst1_loop (c := c) (s := s) ho
  rw [rst_eq]
  generalize tailB x = R at L ⊢
  generalize decide (x.cycle ≥ 0) = cycle0
  generalize decide (x.cycle ≤ 1099511627776) = cycle1
  generalize decide (x.lats ≥ 0) = lats0
  generalize decide (x.lats ≤ 1099511627776) = lats1
  generalize decide (x.picks ≥ 0) = picks0
  generalize decide (x.picks ≤ 1099511627776) = picks1
  generalize decide (x.tags ≥ 0) = tags0
  generalize decide (x.tags ≤ 1099511627776) = tags1
  generalize decide ((x.ldq.length : Int) > c.ldq) = ldq0
  generalize decide ((x.sdq.length : Int) > c.sdq) = sdq0
  generalize decide ((x.aeq.length : Int) > c.aeq) = aeq0
  generalize decide ((x.abq.length : Int) > c.abq) = abq0
  generalize decide ((x.ebq.length : Int) > c.ebq) = ebq0
  generalize decide ((x.saq.length : Int) > c.saq) = saq0
  generalize decide ((x.table.length : Int) > c.flight) = t0
  generalize decide ((x.mem.length : Int) > 65536) = m0
  refine ⟨c, .rfl, ⟨trivial⟩, ?_⟩
  intro y hy
  replace hy : y = rightCfg c := hy
  rw [← hy]
  clear hy
  cases y with
  | false => first | exact .rfl | (cases cycle0 <;> cases lats0 <;> cases picks0 <;> cases tags0 <;> exact .rfl)
  | true =>
  refine ⟨(s, false, x.a), .rfl, ⟨trivial⟩, ?_⟩
  intro y hy
  replace hy : y = sideOk s false x.a := hy
  rw [← hy]
  clear hy
  cases y with
  | false => first | exact .rfl | (cases cycle0 <;> cases lats0 <;> cases picks0 <;> cases tags0 <;> exact .rfl)
  | true =>
  refine ⟨(s, true, x.e), .rfl, ⟨trivial⟩, ?_⟩
  intro y hy
  replace hy : y = sideOk s true x.e := hy
  rw [← hy]
  clear hy
  cases y with
  | false => first | exact .rfl | (cases cycle0 <;> cases lats0 <;> cases picks0 <;> cases tags0 <;> exact .rfl)
  | true =>
  cases cycle0 with
  | false => first | exact .rfl | (cases lats0 <;> cases picks0 <;> cases tags0 <;> cases ldq0 <;> cases sdq0 <;> cases aeq0 <;> cases abq0 <;> cases ebq0 <;> exact .rfl)
  | true =>
  cases cycle1 with
  | false => first | exact .rfl | (cases lats0 <;> cases picks0 <;> cases tags0 <;> cases ldq0 <;> cases sdq0 <;> cases aeq0 <;> cases abq0 <;> cases ebq0 <;> exact .rfl)
  | true =>
  cases lats0 with
  | false => first | exact .rfl | (cases picks0 <;> cases tags0 <;> cases ldq0 <;> cases sdq0 <;> cases aeq0 <;> cases abq0 <;> cases ebq0 <;> cases saq0 <;> exact .rfl)
  | true =>
  cases lats1 with
  | false => first | exact .rfl | (cases picks0 <;> cases tags0 <;> cases ldq0 <;> cases sdq0 <;> cases aeq0 <;> cases abq0 <;> cases ebq0 <;> cases saq0 <;> exact .rfl)
  | true =>
  cases picks0 with
  | false => first | exact .rfl | (cases tags0 <;> cases ldq0 <;> cases sdq0 <;> cases aeq0 <;> cases abq0 <;> cases ebq0 <;> cases saq0 <;> cases t0 <;> exact .rfl)
  | true =>
  cases picks1 with
  | false => first | exact .rfl | (cases tags0 <;> cases ldq0 <;> cases sdq0 <;> cases aeq0 <;> cases abq0 <;> cases ebq0 <;> cases saq0 <;> cases t0 <;> exact .rfl)
  | true =>
  cases tags0 with
  | false => first | exact .rfl | (cases ldq0 <;> cases sdq0 <;> cases aeq0 <;> cases abq0 <;> cases ebq0 <;> cases saq0 <;> cases t0 <;> cases m0 <;> exact .rfl)
  | true =>
  cases tags1 with
  | false => first | exact .rfl | (cases ldq0 <;> cases sdq0 <;> cases aeq0 <;> cases abq0 <;> cases ebq0 <;> cases saq0 <;> cases t0 <;> cases m0 <;> exact .rfl)
  | true =>
  cases ldq0 with
  | true => first | exact .rfl | (cases sdq0 <;> cases aeq0 <;> cases abq0 <;> cases ebq0 <;> cases saq0 <;> cases t0 <;> cases m0 <;> exact .rfl)
  | false =>
  cases sdq0 with
  | true => first | exact .rfl | (cases aeq0 <;> cases abq0 <;> cases ebq0 <;> cases saq0 <;> cases t0 <;> cases m0 <;> exact .rfl)
  | false =>
  cases aeq0 with
  | true => first | exact .rfl | (cases abq0 <;> cases ebq0 <;> cases saq0 <;> cases t0 <;> cases m0 <;> exact .rfl)
  | false =>
  cases abq0 with
  | true => first | exact .rfl | (cases ebq0 <;> cases saq0 <;> cases t0 <;> cases m0 <;> exact .rfl)
  | false =>
  cases ebq0 with
  | true => first | exact .rfl | (cases saq0 <;> cases t0 <;> cases m0 <;> exact .rfl)
  | false =>
  cases saq0 with
  | true => first | exact .rfl | (cases t0 <;> cases m0 <;> exact .rfl)
  | false =>
  cases t0 with
  | true => first | exact .rfl | (cases m0 <;> exact .rfl)
  | false =>
  cases m0 with
  | true => first | exact .rfl
  | false =>
  exact L
end Go.Proofs.Ythmlnmkbeohojaa

/- Abstract code of the functions of law13: printed by a program from what the given translation yields. -/
namespace Go.Proofs.Ythmlnmkbeohojaa
open Go.Ra
def c_law13_Few_l1 : AC := (.seq (.seq (.ops [⟨(.some 5), (.mv (.t 4)), .none⟩, ⟨(.some 6), (.fadr 0 0 1 (.t 1)), .none⟩, ⟨(.some 7), (.load .false 1 (.t 6)), .none⟩, ⟨(.some 8), (.len .none (.t 7)), .none⟩, ⟨(.some 9), (.bin .lss (.t 5) (.t 8)), .none⟩, ⟨(.some 10), (.mv (.t 9)), .none⟩, ⟨(.some 11), (.mv (.t 3)), (.some (10, .true))⟩, ⟨(.some 12), (.bin .lss (.t 11) (.c (.sc (.int .i64 10000)))), (.some (10, .true))⟩, ⟨(.some 13), (.pick (.t 10) (.t 12) (.c (.sc (.bool .false)))), .none⟩]) (.cond (.t 13) .skip (.exit 0))) (.seq (.block 1 (.ops [⟨(.some 16), (.mv (.t 3)), .none⟩, ⟨(.some 17), (.bin .add (.t 16) (.c (.sc (.int .i64 1)))), .none⟩, ⟨(.some 18), (.fadr 0 0 1 (.t 1)), .none⟩, ⟨(.some 19), (.load .false 1 (.t 18)), .none⟩, ⟨(.some 20), (.mv (.t 4)), .none⟩, ⟨(.some 21), (.iadr .none 6 (.t 19) (.t 20)), .none⟩, ⟨(.some 22), (.fadr 4 4 1 (.t 21)), .none⟩, ⟨(.some 23), (.load .false 1 (.t 22)), .none⟩, ⟨(.some 24), (.len .none (.t 23)), .none⟩, ⟨(.some 25), (.bin .add (.t 17) (.t 24)), .none⟩, ⟨(.some 26), (.fadr 0 0 1 (.t 1)), .none⟩, ⟨(.some 27), (.load .false 1 (.t 26)), .none⟩, ⟨(.some 28), (.mv (.t 4)), .none⟩, ⟨(.some 29), (.iadr .none 6 (.t 27) (.t 28)), .none⟩, ⟨(.some 30), (.fadr 5 5 1 (.t 29)), .none⟩, ⟨(.some 31), (.load .false 1 (.t 30)), .none⟩, ⟨(.some 32), (.len .none (.t 31)), .none⟩, ⟨(.some 33), (.bin .add (.t 25) (.t 32)), .none⟩, ⟨(.some 3), (.mv (.t 33)), .none⟩])) (.ops [⟨(.some 14), (.mv (.t 4)), .none⟩, ⟨(.some 15), (.bin .add (.t 14) (.c (.sc (.int .i64 1)))), .none⟩, ⟨(.some 4), (.mv (.t 15)), .none⟩])))
def c_law13_Few_p1 : AC := (.seq (.ops [⟨(.some 34), (.mv (.t 3)), .none⟩, ⟨(.some 35), (.bin .leq (.t 34) (.c (.sc (.int .i64 1500)))), .none⟩, ⟨(.some 2), (.mv (.t 35)), .none⟩]) .ret)
def c_law13_Few : AC := (.seq (.ops [⟨(.some 1), (.box (.t 0)), .none⟩, ⟨(.some 2), (.mv (.c (.sc (.bool .false)))), .none⟩]) (.seq (.ops [⟨(.some 3), (.mv (.c (.sc (.int .i64 0)))), .none⟩]) (.seq (.seq (.ops [⟨(.some 4), (.mv (.c (.sc (.int .i64 0)))), .none⟩]) (.block 0 (.loop c_law13_Few_l1))) c_law13_Few_p1)))
theorem t_law13_Few : trF Try.prog qq 9 = some (36, [(.tmp 2)], c_law13_Few) := by kernel_rfl
/-- The functions of law13. -/
def cl_law13 : CodeL := [(9, 36, [(.tmp 2)], c_law13_Few)]
theorem clok_law13 : AllL (fun p => trF Try.prog qq p.1 = some p.2) cl_law13 := ⟨t_law13_Few, trivial⟩
end Go.Proofs.Ythmlnmkbeohojaa

/- Abstract code of the functions of law18: printed by a program from what the given translation yields. -/
namespace Go.Proofs.Ythmlnmkbeohojaa
open Go.Ra
def c_law18_Few : AC := (.seq (.ops [⟨(.some 1), (.box (.t 0)), .none⟩, ⟨(.some 2), (.mv (.c (.sc (.bool .false)))), .none⟩]) (.seq (.ops [⟨(.some 3), (.fadr 10 84 1 (.t 1)), .none⟩, ⟨(.some 4), (.load .false 1 (.t 3)), .none⟩, ⟨(.some 5), (.len .none (.t 4)), .none⟩, ⟨(.some 6), (.bin .leq (.t 5) (.c (.sc (.int .i64 1000)))), .none⟩, ⟨(.some 7), (.mv (.t 6)), .none⟩, ⟨(.some 8), (.fadr 9 83 1 (.t 1)), (.some (7, .true))⟩, ⟨(.some 9), (.load .false 1 (.t 8)), (.some (7, .true))⟩, ⟨(.some 10), (.len .none (.t 9)), (.some (7, .true))⟩, ⟨(.some 11), (.bin .leq (.t 10) (.c (.sc (.int .i64 64)))), (.some (7, .true))⟩, ⟨(.some 12), (.pick (.t 7) (.t 11) (.c (.sc (.bool .false)))), .none⟩, ⟨(.some 13), (.mv (.t 12)), .none⟩, ⟨(.some 14), (.fadr 8 82 1 (.t 1)), (.some (13, .true))⟩, ⟨(.some 15), (.load .false 1 (.t 14)), (.some (13, .true))⟩, ⟨(.some 16), (.len .none (.t 15)), (.some (13, .true))⟩, ⟨(.some 17), (.bin .leq (.t 16) (.c (.sc (.int .i64 64)))), (.some (13, .true))⟩, ⟨(.some 18), (.pick (.t 13) (.t 17) (.c (.sc (.bool .false)))), .none⟩, ⟨(.some 19), (.mv (.t 18)), .none⟩, ⟨(.some 20), (.fadr 3 77 1 (.t 1)), (.some (19, .true))⟩, ⟨(.some 21), (.load .false 1 (.t 20)), (.some (19, .true))⟩, ⟨(.some 22), (.len .none (.t 21)), (.some (19, .true))⟩, ⟨(.some 23), (.bin .leq (.t 22) (.c (.sc (.int .i64 64)))), (.some (19, .true))⟩, ⟨(.some 24), (.pick (.t 19) (.t 23) (.c (.sc (.bool .false)))), .none⟩, ⟨(.some 25), (.mv (.t 24)), .none⟩, ⟨(.some 26), (.fadr 11 85 1 (.t 1)), (.some (25, .true))⟩, ⟨(.some 27), (.load .false 1 (.t 26)), (.some (25, .true))⟩, ⟨(.some 28), (.len .none (.t 27)), (.some (25, .true))⟩, ⟨(.some 29), (.bin .leq (.t 28) (.c (.sc (.int .i64 100)))), (.some (25, .true))⟩, ⟨(.some 30), (.pick (.t 25) (.t 29) (.c (.sc (.bool .false)))), .none⟩, ⟨(.some 31), (.mv (.t 30)), .none⟩, ⟨(.some 32), (.fadr 4 78 1 (.t 1)), (.some (31, .true))⟩, ⟨(.some 33), (.load .false 1 (.t 32)), (.some (31, .true))⟩, ⟨(.some 34), (.len .none (.t 33)), (.some (31, .true))⟩, ⟨(.some 35), (.bin .leq (.t 34) (.c (.sc (.int .i64 64)))), (.some (31, .true))⟩, ⟨(.some 36), (.pick (.t 31) (.t 35) (.c (.sc (.bool .false)))), .none⟩, ⟨(.some 37), (.mv (.t 36)), .none⟩, ⟨(.some 38), (.fadr 5 79 1 (.t 1)), (.some (37, .true))⟩, ⟨(.some 39), (.load .false 1 (.t 38)), (.some (37, .true))⟩, ⟨(.some 40), (.len .none (.t 39)), (.some (37, .true))⟩, ⟨(.some 41), (.bin .leq (.t 40) (.c (.sc (.int .i64 64)))), (.some (37, .true))⟩, ⟨(.some 42), (.pick (.t 37) (.t 41) (.c (.sc (.bool .false)))), .none⟩, ⟨(.some 43), (.mv (.t 42)), .none⟩, ⟨(.some 44), (.fadr 6 80 1 (.t 1)), (.some (43, .true))⟩, ⟨(.some 45), (.load .false 1 (.t 44)), (.some (43, .true))⟩, ⟨(.some 46), (.len .none (.t 45)), (.some (43, .true))⟩, ⟨(.some 47), (.bin .leq (.t 46) (.c (.sc (.int .i64 64)))), (.some (43, .true))⟩, ⟨(.some 48), (.pick (.t 43) (.t 47) (.c (.sc (.bool .false)))), .none⟩, ⟨(.some 49), (.mv (.t 48)), .none⟩, ⟨(.some 50), (.fadr 7 81 1 (.t 1)), (.some (49, .true))⟩, ⟨(.some 51), (.load .false 1 (.t 50)), (.some (49, .true))⟩, ⟨(.some 52), (.len .none (.t 51)), (.some (49, .true))⟩, ⟨(.some 53), (.bin .leq (.t 52) (.c (.sc (.int .i64 64)))), (.some (49, .true))⟩, ⟨(.some 54), (.pick (.t 49) (.t 53) (.c (.sc (.bool .false)))), .none⟩, ⟨(.some 2), (.mv (.t 54)), .none⟩]) .ret))
theorem t_law18_Few : trF Try.prog qq 10 = some (55, [(.tmp 2)], c_law18_Few) := by kernel_rfl
/-- The functions of law18. -/
def cl_law18 : CodeL := [(10, 55, [(.tmp 2)], c_law18_Few)]
theorem clok_law18 : AllL (fun p => trF Try.prog qq p.1 = some p.2) cl_law18 := ⟨t_law18_Few, trivial⟩
end Go.Proofs.Ythmlnmkbeohojaa

/- Abstract code of the functions of law4: printed by a program from what the given translation yields. -/
namespace Go.Proofs.Ythmlnmkbeohojaa
open Go.Ra
def c_law4_Few : AC := (.seq (.ops [⟨(.some 1), (.box (.t 0)), .none⟩, ⟨(.some 2), (.mv (.c (.sc (.bool .false)))), .none⟩]) (.seq (.ops [⟨(.some 3), (.fadr 0 0 1 (.t 1)), .none⟩, ⟨(.some 4), (.load .false 1 (.t 3)), .none⟩, ⟨(.some 5), (.len .none (.t 4)), .none⟩, ⟨(.some 6), (.bin .leq (.t 5) (.c (.sc (.int .i64 200)))), .none⟩, ⟨(.some 7), (.mv (.t 6)), .none⟩, ⟨(.some 8), (.fadr 2 2 1 (.t 1)), (.some (7, .true))⟩, ⟨(.some 9), (.load .false 1 (.t 8)), (.some (7, .true))⟩, ⟨(.some 10), (.len .none (.t 9)), (.some (7, .true))⟩, ⟨(.some 11), (.bin .leq (.t 10) (.c (.sc (.int .i64 500)))), (.some (7, .true))⟩, ⟨(.some 12), (.pick (.t 7) (.t 11) (.c (.sc (.bool .false)))), .none⟩, ⟨(.some 2), (.mv (.t 12)), .none⟩]) .ret))
theorem t_law4_Few : trF Try.prog qq 8 = some (13, [(.tmp 2)], c_law4_Few) := by kernel_rfl
/-- The functions of law4. -/
def cl_law4 : CodeL := [(8, 13, [(.tmp 2)], c_law4_Few)]
theorem clok_law4 : AllL (fun p => trF Try.prog qq p.1 = some p.2) cl_law4 := ⟨t_law4_Few, trivial⟩
end Go.Proofs.Ythmlnmkbeohojaa

/- Abstract code of the functions of law19: printed by a program from what the given translation yields. -/
namespace Go.Proofs.Ythmlnmkbeohojaa
open Go.Ra
def c_law19_StateTells : AC := (.seq (.ops [⟨(.some 5), (.box (.t 0)), .none⟩, ⟨(.some 6), (.box (.t 1)), .none⟩, ⟨(.some 7), (.box (.t 2)), .none⟩, ⟨(.some 8), (.box (.t 3)), .none⟩, ⟨(.some 9), (.box (.t 4)), .none⟩, ⟨(.some 10), (.mv (.c (.sc (.bool .false)))), .none⟩]) (.seq (.ops [⟨(.some 12), (.call 7 []), .none⟩, ⟨(.some 11), (.mv (.t 12)), .none⟩]) (.seq (.seq (.ops [⟨(.some 13), (.mv (.t 11)), .none⟩, ⟨(.some 14), (.un .not (.t 13)), .none⟩, ⟨(.some 15), (.mv (.t 14)), .none⟩, ⟨(.some 16), (.load .true 3 (.t 6)), (.some (15, .false))⟩, ⟨(.some 17), (.call 8 [(.t 16)]), (.some (15, .false))⟩, ⟨(.some 18), (.un .not (.t 17)), (.some (15, .false))⟩, ⟨(.some 19), (.pick (.t 15) (.c (.sc (.bool .true))) (.t 18)), .none⟩, ⟨(.some 20), (.mv (.t 19)), .none⟩, ⟨(.some 21), (.load .true 17 (.t 7)), (.some (20, .false))⟩, ⟨(.some 22), (.call 9 [(.t 21)]), (.some (20, .false))⟩, ⟨(.some 23), (.un .not (.t 22)), (.some (20, .false))⟩, ⟨(.some 24), (.pick (.t 20) (.c (.sc (.bool .true))) (.t 23)), .none⟩, ⟨(.some 25), (.mv (.t 24)), .none⟩, ⟨(.some 26), (.load .true 92 (.t 8)), (.some (25, .false))⟩, ⟨(.some 27), (.call 10 [(.t 26)]), (.some (25, .false))⟩, ⟨(.some 28), (.un .not (.t 27)), (.some (25, .false))⟩, ⟨(.some 29), (.pick (.t 25) (.c (.sc (.bool .true))) (.t 28)), .none⟩, ⟨(.some 30), (.mv (.t 29)), .none⟩, ⟨(.some 31), (.load .true 92 (.t 9)), (.some (30, .false))⟩, ⟨(.some 32), (.call 10 [(.t 31)]), (.some (30, .false))⟩, ⟨(.some 33), (.un .not (.t 32)), (.some (30, .false))⟩, ⟨(.some 34), (.pick (.t 30) (.c (.sc (.bool .true))) (.t 33)), .none⟩]) (.cond (.t 34) (.seq (.ops [⟨(.some 35), (.mv (.t 11)), .none⟩, ⟨(.some 10), (.mv (.t 35)), .none⟩]) .ret) .skip)) (.seq (.ops [⟨(.some 36), (.load .true 12 (.t 5)), .none⟩, ⟨(.some 37), (.call 11 [(.t 36)]), .none⟩, ⟨(.some 38), (.load .true 12 (.t 5)), .none⟩, ⟨(.some 39), (.call 12 [(.t 38)]), .none⟩, ⟨(.some 40), (.eqs .false .bool (.t 37) (.t 39)), .none⟩, ⟨(.some 41), (.mv (.t 40)), .none⟩, ⟨(.some 42), (.load .true 3 (.t 6)), (.some (41, .true))⟩, ⟨(.some 43), (.call 14 [(.t 42)]), (.some (41, .true))⟩, ⟨(.some 44), (.load .true 3 (.t 6)), (.some (41, .true))⟩, ⟨(.some 45), (.call 15 [(.t 44)]), (.some (41, .true))⟩, ⟨(.some 46), (.call 13 [(.t 43), (.t 45)]), (.some (41, .true))⟩, ⟨(.some 47), (.pick (.t 41) (.t 46) (.c (.sc (.bool .false)))), .none⟩, ⟨(.some 48), (.mv (.t 47)), .none⟩, ⟨(.some 49), (.load .true 12 (.t 5)), (.some (48, .true))⟩, ⟨(.some 50), (.load .true 17 (.t 7)), (.some (48, .true))⟩, ⟨(.some 51), (.load .true 92 (.t 8)), (.some (48, .true))⟩, ⟨(.some 52), (.call 16 [(.t 49), (.t 50), (.t 51)]), (.some (48, .true))⟩, ⟨(.some 53), (.load .true 12 (.t 5)), (.some (48, .true))⟩, ⟨(.some 54), (.load .true 17 (.t 7)), (.some (48, .true))⟩, ⟨(.some 55), (.load .true 92 (.t 8)), (.some (48, .true))⟩, ⟨(.some 56), (.call 17 [(.t 53), (.t 54), (.t 55)]), (.some (48, .true))⟩, ⟨(.some 57), (.eqs .false .bool (.t 52) (.t 56)), (.some (48, .true))⟩, ⟨(.some 58), (.pick (.t 48) (.t 57) (.c (.sc (.bool .false)))), .none⟩, ⟨(.some 59), (.mv (.t 58)), .none⟩, ⟨(.some 60), (.load .true 92 (.t 8)), (.some (59, .true))⟩, ⟨(.some 61), (.load .true 92 (.t 9)), (.some (59, .true))⟩, ⟨(.some 62), (.call 18 [(.t 60), (.t 61)]), (.some (59, .true))⟩, ⟨(.some 63), (.load .true 92 (.t 8)), (.some (59, .true))⟩, ⟨(.some 64), (.load .true 92 (.t 9)), (.some (59, .true))⟩, ⟨(.some 65), (.call 13 [(.t 63), (.t 64)]), (.some (59, .true))⟩, ⟨(.some 66), (.eqs .false .bool (.t 62) (.t 65)), (.some (59, .true))⟩, ⟨(.some 67), (.pick (.t 59) (.t 66) (.c (.sc (.bool .false)))), .none⟩, ⟨(.some 68), (.mv (.t 67)), .none⟩, ⟨(.some 69), (.load .true 92 (.t 8)), (.some (68, .true))⟩, ⟨(.some 70), (.load .true 92 (.t 8)), (.some (68, .true))⟩, ⟨(.some 71), (.call 18 [(.t 69), (.t 70)]), (.some (68, .true))⟩, ⟨(.some 72), (.pick (.t 68) (.t 71) (.c (.sc (.bool .false)))), .none⟩, ⟨(.some 10), (.mv (.t 72)), .none⟩]) .ret))))
theorem t_law19_StateTells : trF Try.prog qq 3 = some (73, [(.tmp 10)], c_law19_StateTells) := by kernel_rfl
def c_law19_alive : AC := (.seq (.ops [⟨(.some 0), (.mv (.c (.sc (.bool .false)))), .none⟩]) (.seq (.ops [⟨(.some 5), (.build 5 [(.sc (.int .i64 0)), (.sc (.int .i64 0)), (.sc (.int .i64 0)), (.sc (.int .i64 0)), (.sc (.int .i64 0))] [(0, (.c (.sc (.int .i64 41))))]), .none⟩, ⟨(.some 6), (.bsl 5 [(.t 5)]), .none⟩, ⟨(.some 7), (.bsl 1 [(.c (.sc (.int .u8 5)))]), .none⟩, ⟨(.some 8), (.build 3 [(.fro .true 0 []), (.sc (.int .i64 0)), (.fro .true 0 [])] [(0, (.t 6)), (1, (.c (.sc (.int .i64 3)))), (2, (.t 7))]), .none⟩, ⟨(.some 1), (.box (.c (.agg 3 [(.fro .true 0 []), (.sc (.int .i64 0)), (.fro .true 0 [])]))), .none⟩, ⟨.none, (.store 3 (.t 1) (.t 8)), .none⟩]) (.seq (.ops [⟨(.some 9), (.load .true 3 (.t 1)), .none⟩, ⟨(.some 10), (.call 14 [(.t 9)]), .none⟩, ⟨(.some 2), (.box (.c (.agg 92 [(.sc (.int .i64 0)), (.agg 38 [(.arr 16 1 [(.sc (.int .u32 0)), (.sc (.int .u32 0)), (.sc (.int .u32 0)), (.sc (.int .u32 0)), (.sc (.int .u32 0)), (.sc (.int .u32 0)), (.sc (.int .u32 0)), (.sc (.int .u32 0)), (.sc (.int .u32 0)), (.sc (.int .u32 0)), (.sc (.int .u32 0)), (.sc (.int .u32 0)), (.sc (.int .u32 0)), (.sc (.int .u32 0)), (.sc (.int .u32 0)), (.sc (.int .u32 0))]), (.arr 16 1 [(.sc (.int .i64 0)), (.sc (.int .i64 0)), (.sc (.int .i64 0)), (.sc (.int .i64 0)), (.sc (.int .i64 0)), (.sc (.int .i64 0)), (.sc (.int .i64 0)), (.sc (.int .i64 0)), (.sc (.int .i64 0)), (.sc (.int .i64 0)), (.sc (.int .i64 0)), (.sc (.int .i64 0)), (.sc (.int .i64 0)), (.sc (.int .i64 0)), (.sc (.int .i64 0)), (.sc (.int .i64 0))]), (.agg 3 [(.sc (.int .i64 0)), (.sc (.int .i64 0)), (.sc (.int .i64 0))]), (.sc (.int .i64 0)), (.sc (.bool .false)), (.sc (.int .i64 0))]), (.agg 38 [(.arr 16 1 [(.sc (.int .u32 0)), (.sc (.int .u32 0)), (.sc (.int .u32 0)), (.sc (.int .u32 0)), (.sc (.int .u32 0)), (.sc (.int .u32 0)), (.sc (.int .u32 0)), (.sc (.int .u32 0)), (.sc (.int .u32 0)), (.sc (.int .u32 0)), (.sc (.int .u32 0)), (.sc (.int .u32 0)), (.sc (.int .u32 0)), (.sc (.int .u32 0)), (.sc (.int .u32 0)), (.sc (.int .u32 0))]), (.arr 16 1 [(.sc (.int .i64 0)), (.sc (.int .i64 0)), (.sc (.int .i64 0)), (.sc (.int .i64 0)), (.sc (.int .i64 0)), (.sc (.int .i64 0)), (.sc (.int .i64 0)), (.sc (.int .i64 0)), (.sc (.int .i64 0)), (.sc (.int .i64 0)), (.sc (.int .i64 0)), (.sc (.int .i64 0)), (.sc (.int .i64 0)), (.sc (.int .i64 0)), (.sc (.int .i64 0)), (.sc (.int .i64 0))]), (.agg 3 [(.sc (.int .i64 0)), (.sc (.int .i64 0)), (.sc (.int .i64 0))]), (.sc (.int .i64 0)), (.sc (.bool .false)), (.sc (.int .i64 0))]), (.fro .true 0 []), (.fro .true 0 []), (.fro .true 0 []), (.fro .true 0 []), (.fro .true 0 []), (.fro .true 0 []), (.fro .true 0 []), (.fro .true 0 []), (.fro .true 0 []), (.agg 3 [(.sc (.int .i64 0)), (.sc (.int .i64 0)), (.sc (.int .i64 0))]), (.sc (.int .i64 0)), (.sc (.int .i64 0)), (.sc (.int .i64 0))]))), .none⟩, ⟨.none, (.store 92 (.t 2) (.t 10)), .none⟩]) (.seq (.ops [⟨(.some 12), (.load .true 3 (.t 1)), .none⟩, ⟨(.some 13), (.call 19 [(.t 12)]), .none⟩, ⟨(.some 11), (.mv (.t 13)), .none⟩, ⟨(.some 14), (.ext (.t 11) 0), .none⟩, ⟨(.some 15), (.ext (.t 11) 1), .none⟩, ⟨(.some 3), (.box (.c (.agg 17 [(.fro .true 0 []), (.arr 16 1 [(.sc (.int .i64 0)), (.sc (.int .i64 0)), (.sc (.int .i64 0)), (.sc (.int .i64 0)), (.sc (.int .i64 0)), (.sc (.int .i64 0)), (.sc (.int .i64 0)), (.sc (.int .i64 0)), (.sc (.int .i64 0)), (.sc (.int .i64 0)), (.sc (.int .i64 0)), (.sc (.int .i64 0)), (.sc (.int .i64 0)), (.sc (.int .i64 0)), (.sc (.int .i64 0)), (.sc (.int .i64 0))])]))), .none⟩, ⟨.none, (.store 17 (.t 3) (.t 14)), .none⟩, ⟨(.some 4), (.mv (.t 15)), .none⟩]) (.seq (.ops [⟨(.some 16), (.build 12 [(.sc (.int .i64 0)), (.sc (.int .i64 0)), (.sc (.int .i64 0)), (.sc (.int .i64 0)), (.sc (.int .i64 0)), (.sc (.int .i64 0)), (.sc (.int .i64 0)), (.sc (.int .i64 0)), (.sc (.int .i64 0)), (.sc (.int .i64 0)), (.sc (.int .i64 0)), (.sc (.int .i64 0))] []), .none⟩, ⟨(.some 17), (.call 11 [(.t 16)]), .none⟩, ⟨(.some 18), (.un .not (.t 17)), .none⟩, ⟨(.some 19), (.mv (.t 18)), .none⟩, ⟨(.some 20), (.fadr 10 84 1 (.t 2)), (.some (19, .true))⟩, ⟨(.some 21), (.load .false 1 (.t 20)), (.some (19, .true))⟩, ⟨(.some 22), (.len .none (.t 21)), (.some (19, .true))⟩, ⟨(.some 23), (.bin .eql (.t 22) (.c (.sc (.int .i64 3)))), (.some (19, .true))⟩, ⟨(.some 24), (.pick (.t 19) (.t 23) (.c (.sc (.bool .false)))), .none⟩, ⟨(.some 25), (.mv (.t 24)), .none⟩, ⟨(.some 26), (.fadr 10 84 1 (.t 2)), (.some (25, .true))⟩, ⟨(.some 27), (.load .false 1 (.t 26)), (.some (25, .true))⟩, ⟨(.some 28), (.iadr .none 1 (.t 27) (.c (.sc (.int .i64 0)))), (.some (25, .true))⟩, ⟨(.some 29), (.load .false 1 (.t 28)), (.some (25, .true))⟩, ⟨(.some 30), (.bin .eql (.t 29) (.c (.sc (.int .u8 5)))), (.some (25, .true))⟩, ⟨(.some 31), (.pick (.t 25) (.t 30) (.c (.sc (.bool .false)))), .none⟩, ⟨(.some 32), (.mv (.t 31)), .none⟩, ⟨(.some 33), (.call 21 []), (.some (32, .true))⟩, ⟨(.some 34), (.load .true 17 (.t 3)), (.some (32, .true))⟩, ⟨(.some 35), (.load .true 92 (.t 2)), (.some (32, .true))⟩, ⟨(.some 36), (.call 16 [(.t 33), (.t 34), (.t 35)]), (.some (32, .true))⟩, ⟨(.some 37), (.pick (.t 32) (.t 36) (.c (.sc (.bool .false)))), .none⟩, ⟨(.some 38), (.mv (.t 37)), .none⟩, ⟨(.some 39), (.load .true 92 (.t 2)), (.some (38, .true))⟩, ⟨(.some 40), (.load .true 92 (.t 2)), (.some (38, .true))⟩, ⟨(.some 41), (.call 18 [(.t 39), (.t 40)]), (.some (38, .true))⟩, ⟨(.some 42), (.pick (.t 38) (.t 41) (.c (.sc (.bool .false)))), .none⟩, ⟨(.some 0), (.mv (.t 42)), .none⟩]) .ret)))))
theorem t_law19_alive : trF Try.prog qq 7 = some (43, [(.tmp 0)], c_law19_alive) := by kernel_rfl
def c_law19_One : AC := (.seq (.ops [⟨(.some 0), (.box (.c (.agg 12 [(.sc (.int .i64 0)), (.sc (.int .i64 0)), (.sc (.int .i64 0)), (.sc (.int .i64 0)), (.sc (.int .i64 0)), (.sc (.int .i64 0)), (.sc (.int .i64 0)), (.sc (.int .i64 0)), (.sc (.int .i64 0)), (.sc (.int .i64 0)), (.sc (.int .i64 0)), (.sc (.int .i64 0))]))), .none⟩]) (.seq (.ops [⟨(.some 1), (.build 12 [(.sc (.int .i64 0)), (.sc (.int .i64 0)), (.sc (.int .i64 0)), (.sc (.int .i64 0)), (.sc (.int .i64 0)), (.sc (.int .i64 0)), (.sc (.int .i64 0)), (.sc (.int .i64 0)), (.sc (.int .i64 0)), (.sc (.int .i64 0)), (.sc (.int .i64 0)), (.sc (.int .i64 0))] [(0, (.c (.sc (.int .i64 1)))), (1, (.c (.sc (.int .i64 1)))), (2, (.c (.sc (.int .i64 1)))), (3, (.c (.sc (.int .i64 1)))), (4, (.c (.sc (.int .i64 1)))), (5, (.c (.sc (.int .i64 1)))), (6, (.c (.sc (.int .i64 1)))), (7, (.c (.sc (.int .i64 1)))), (8, (.c (.sc (.int .i64 1)))), (9, (.c (.sc (.int .i64 1)))), (10, (.c (.sc (.int .i64 1)))), (11, (.c (.sc (.int .i64 1))))]), .none⟩, ⟨.none, (.store 12 (.t 0) (.t 1)), .none⟩]) .ret))
theorem t_law19_One : trF Try.prog qq 21 = some (2, [(.cell 0 .true 12)], c_law19_One) := by kernel_rfl
/-- The functions of law19. -/
def cl_law19 : CodeL := [(3, 73, [(.tmp 10)], c_law19_StateTells), (7, 43, [(.tmp 0)], c_law19_alive), (21, 2, [(.cell 0 .true 12)], c_law19_One)]
theorem clok_law19 : AllL (fun p => trF Try.prog qq p.1 = some p.2) cl_law19 := ⟨t_law19_StateTells, t_law19_alive, t_law19_One, trivial⟩
end Go.Proofs.Ythmlnmkbeohojaa

/- What shows that the layer of states is there. -/
namespace Go.Proofs.Ythmlnmkbeohojaa
open Go.Ra
set_option linter.unusedVariables false
set_option linter.unusedSimpArgs false
def TN0 : Tab := mkT2 qq cl_law19 [] [] [(11, cfgS), (14, fstS), (16, rigS), (18, samS), (19, splS)] []
def p0 : Prog := ⟨[⟨41, 0, 0, 0, 0⟩], 3, [5]⟩
def cfg0 : Cfg := ⟨0, 0, 0, 0, 0, 0, 0, 0, 0, 0, 0, 0⟩
def cfg1 : Cfg := ⟨1, 1, 1, 1, 1, 1, 1, 1, 1, 1, 1, 1⟩
def alvS : List XV → Option ((XV → Prop) → Prop) := skOf (fun _ : Unit => []) (fun _ => True) (fun _ => true) (fun y => .bool y)
theorem TN0ok : TabOk Try.prog TN0 := mkT2_ok clok_law19 trivial trivial ⟨sk_cfg, sk_first, sk_right, sk_sm, sk_split, trivial⟩ trivial
theorem r_alv (r : XV) : (quietGo TN0 80 (callI TN0 80 20) 7 [] (fun v => ResLe v r)) = (∃ (s : Prog), ArgsLe [.agg 3 [.row true 5 1 fun a => .agg 5 [.int .i64 41, .int .i64 0, .int .i64 0, .int .i64 0, .int .i64 0], .int .i64 3, .row true 1 1 fun
 a => .int .u8 5]] [e_Prog s] ∧ PreIs (Prog.wf s) ∧ ∀ (y : Stt), y = firstF s → ∃ (s : Prog), ArgsLe [.agg 3 [.row true 5 1 fun a => .agg 5 [.int .i64 41, .int .i64
 0, .int .i64 0, .int .i64 0, .int .i64 0], .int .i64 3, .row true 1 1 fun a => .int .u8 5]] [e_Prog s] ∧ PreIs (Prog.wf s) ∧ ∀ (y_1 : Split × Int), y_1 = splitF
 s → ∃ (s : Cfg), ArgsLe [.agg 12 [.int .i64 0, .int .i64 0, .int .i64 0, .int .i64 0, .int .i64 0, .int .i64 0, .int .i64 0, .int .i64 0, .int .i64 0, .int .i64
 0, .int .i64 0, .int .i64 0]] [e_Cfg s] ∧ PreIs True ∧ ∀ (y_2 : Bool), y_2 = rightCfg s → bif bif !y_2 then !y_2 else true then bif bif decide (0 < (↑(List.length
 (Stt.mem y)) : Int)) then true else !bif !y_2 then decide ((↑(List.length (Stt.mem y)) : Int) = 3) else false then bif bif bif !y_2 then decide ((↑(List.length (Stt.mem
 y)) : Int) = 3) else false then bif !y_2 then decide ((↑(List.length (Stt.mem y)) : Int) = 3) else false else true then bif bif bif !y_2 then decide ((↑(List.length
 (Stt.mem y)) : Int) = 3) else false then decide (ix (Stt.mem y) 0 = 5) else false then ∃ (s : Cfg × Split × Stt), ArgsLe [.agg 12 [.int .i64 1, .int .i64 1, .int
 .i64 1, .int .i64 1, .int .i64 1, .int .i64 1, .int .i64 1, .int .i64 1, .int .i64 1, .int .i64 1, .int .i64 1, .int .i64 1], e_Split (Prod.fst y_1), e_Stt y] [e_Cfg
 (Prod.fst s), e_Split (Prod.fst (Prod.snd s)), e_Stt (Prod.snd (Prod.snd s))] ∧ PreIs (Stt.ok (Prod.snd (Prod.snd s))) ∧ ∀ (y_3 : Bool), y_3 = rightStt (Prod.fst
 s) (Prod.fst (Prod.snd s)) (Prod.snd (Prod.snd s)) → bif bif bif bif !y_2 then decide ((↑(List.length (Stt.mem y)) : Int) = 3) else false then decide (ix (Stt.mem
 y) 0 = 5) else false then y_3 else false then ∃ (s : Stt × Stt), ArgsLe [e_Stt y, e_Stt y] [e_Stt (Prod.fst s), e_Stt (Prod.snd s)] ∧ PreIs (Stt.ok (Prod.fst s)
 ∧ Stt.ok (Prod.snd s)) ∧ ∀ (y_4 : Bool), y_4 = sameF (Prod.fst s) (Prod.snd s) → ResLe (.bool (bif bif bif bif !y_2 then decide ((↑(List.length (Stt.mem y)) : Int)
 = 3) else false then decide (ix (Stt.mem y) 0 = 5) else false then y_3 else false then y_4 else false)) r else bif !bif bif bif !y_2 then decide ((↑(List.length
 (Stt.mem y)) : Int) = 3) else false then decide (ix (Stt.mem y) 0 = 5) else false then y_3 else false then ResLe (.bool false) r else False else bif !bif bif !y_2
 then decide ((↑(List.length (Stt.mem y)) : Int) = 3) else false then decide (ix (Stt.mem y) 0 = 5) else false then ResLe (.bool false) r else False else False else
 False else False) := by kernel_rfl
theorem z_i64 : i64R 0 := by unfold i64R; omega
theorem z_sideW : zSide.wf := ⟨fun i _ => by show u32R 0; unfold u32R; omega, fun i _ => z_i64, ⟨z_i64, z_i64, z_i64⟩, z_i64, z_i64⟩
theorem nil_w {α : Type} {P : α → Prop} {k : Nat} : (∀ x ∈ ([] : List α), P x) ∧ ([] : List α).length * k ≤ 140737488351232 := ⟨fun x h => (by cases h), by simp⟩
theorem z_ok : zStt.ok := ⟨⟨z_i64, z_sideW, z_sideW, nil_w, nil_w, nil_w, nil_w, nil_w, nil_w, nil_w, nil_w, nil_w, ⟨z_i64, z_i64, z_i64⟩, z_i64, z_i64, z_i64⟩, by decide, by decide, by decide, by decide, by decide, by decide, by decide, by decide, by decide⟩
theorem mem_u8 {p : Prog} (hw : p.wf) : ∀ x ∈ memF p, u8R x := fun x hx => by
  obtain ⟨j, hj, rfl⟩ := List.mem_iff_getElem.1 hx
  rw [← ix_lt hj]
  have hj' : j < p.size.toNat := by rw [← mem_len]; exact hj
  unfold memF
  rw [ix_tabL hj']
  by_cases hd : j < p.data.length
  · rw [decide_eq_true hd]; exact hw.2.2.1 _ (ix_mem hd)
  · rw [decide_eq_false hd]; show u8R 0; unfold u8R; omega
theorem right_size {p : Prog} (h : rightProg p = true) : 0 ≤ p.size ∧ p.size ≤ 65536 ∧ 1 ≤ p.code.length ∧ p.code.length ≤ 2000 := by
  simp only [rightProg, Bool.and_eq_true, decide_eq_true_eq] at h
  omega
theorem start_ok {p : Prog} (hw : p.wf) (hr : rightProg p = true) : (startF p).ok := by
  obtain ⟨⟨a1, a2, a3, a4, a5, a6, a7, a8, a9, a10, a11, a12, a13⟩, b1, b2, b3, b4, b5, b6, b7, b8, b9⟩ := z_ok
  have hs := right_size hr
  have hl : (memF p).length ≤ 65536 := by rw [mem_len]; omega
  exact ⟨⟨a1, a2, a3, a4, a5, a6, a7, a8, a9, a10, ⟨mem_u8 hw, by show (memF p).length * 1 ≤ _; omega⟩, a12, a13⟩, b1, b2, b3, b4, b5, b6, b7, by show (memF p).length ≤ _; omega, b9⟩
theorem first_ok {p : Prog} (hw : p.wf) : (firstF p).ok := by
  unfold firstF
  cases hr : rightProg p with
  | true => exact start_ok hw hr
  | false => exact z_ok
theorem p0_wf : p0.wf := ⟨⟨fun x hx => (by
  obtain rfl := List.mem_singleton.1 hx
  exact ⟨by show i64R 41; unfold i64R; omega, z_i64, z_i64, z_i64, z_i64⟩), by decide⟩, by show i64R 3; unfold i64R; omega, ⟨fun x hx => (by
  obtain rfl := List.mem_singleton.1 hx
  unfold u8R; omega), by decide⟩⟩
theorem p0_mem : (firstF p0).mem = [5, 0, 0] := by kernel_rfl
theorem p0_right : rightStt cfg1 (splitF p0).1 (firstF p0) = true := by kernel_rfl
theorem cfg0_no : rightCfg cfg0 = false := by kernel_rfl
theorem p0_args : ArgsLe [.agg 3 [.row true 5 1 fun a => .agg 5 [.int .i64 41, .int .i64 0, .int .i64 0, .int .i64 0, .int .i64 0], .int .i64 3, .row true 1 1 fun a => .int .u8 5]] [e_Prog p0] := ⟨lqs_cons (lq_agg (lqs_cons (lq_lit1 (.refl _)) (lqs_cons (.refl _) (lqs_cons (lq_lit1 (.refl _)) lqs_nil)))) lqs_nil⟩
theorem sk_alv : SkOk Try.prog (7, alvS) := skOf_ok fun _ _ => by
  show Pure _ _ (cons []) (con (.bool true))
  refine pureR (u := 80) (k := 20) mix TN0ok ?_
  refine Eq.mpr (r_alv _) ?_
  refine ⟨p0, p0_args, ⟨p0_wf⟩, ?_⟩
  intro y hy
  replace hy : y = firstF p0 := hy
  refine ⟨p0, p0_args, ⟨p0_wf⟩, ?_⟩
  intro y1 hy1
  replace hy1 : y1 = splitF p0 := hy1
  refine ⟨cfg0, .rfl, ⟨trivial⟩, ?_⟩
  intro y2 hy2
  replace hy2 : y2 = rightCfg cfg0 := hy2
  rw [cfg0_no] at hy2
  have hm : y.mem = [5, 0, 0] := by rw [hy]; exact p0_mem
  have hok : y.ok := by rw [hy]; exact first_ok p0_wf
  have hr : rightStt cfg1 y1.1 y = true := by rw [hy, hy1]; exact p0_right
  clear hy hy1
  subst hy2
  have l1 : (0 : Int) < (y.mem.length : Int) := by rw [hm]; decide
  have l2 : (y.mem.length : Int) = 3 := by rw [hm]; decide
  have l3 : ix y.mem 0 = 5 := by rw [hm]; rfl
  simp only [l1, l2, l3, Bool.not_false, Bool.not_true, decide_true, cond_true, cond_false]
  refine ⟨(cfg1, y1.1, y), .rfl, ⟨hok⟩, ?_⟩
  intro y3 hy3
  replace hy3 : y3 = rightStt cfg1 y1.1 y := hy3
  rw [hr] at hy3
  subst hy3
  refine ⟨(y, y), .rfl, ⟨hok, hok⟩, ?_⟩
  intro y4 hy4
  replace hy4 : y4 = sameF y y := hy4
  rw [sameF_self] at hy4
  subst hy4
  exact .rfl
end Go.Proofs.Ythmlnmkbeohojaa

/- Which states, programs and splits are few; copies. -/
namespace Go.Proofs.Ythmlnmkbeohojaa
open Go.Ra
set_option linter.unusedVariables false
set_option linter.unusedSimpArgs false
def TF0 : Tab := mkT2 qq (cl_law18 ++ cl_law4) [] [] [] []
/-- Is a state small enough? -/
def fewF (s : Stt) : Bool := decide ((s.mem.length : Int) ≤ 1000) && (decide ((s.table.length : Int) ≤ 64) && (decide ((s.saq.length : Int) ≤ 64) && (decide ((s.ldq.length : Int) ≤ 64) && (decide ((s.writes.length : Int) ≤ 100) && (decide ((s.sdq.length : Int) ≤ 64) && (decide ((s.aeq.length : Int) ≤ 64) && (decide ((s.abq.length : Int) ≤ 64) && decide ((s.ebq.length : Int) ≤ 64))))))))
def fewS : List XV → Option ((XV → Prop) → Prop) := skOf (fun s : Stt => [e_Stt s]) (fun s => True) (fun s => fewF s) (fun y => .bool y)
def few4F (p : Prog) : Bool := decide ((p.code.length : Int) ≤ 200) && decide ((p.data.length : Int) ≤ 500)
def few4S : List XV → Option ((XV → Prop) → Prop) := skOf (fun p : Prog => [e_Prog p]) (fun p => True) (fun p => few4F p) (fun y => .bool y)
theorem TF0ok : TabOk Try.prog TF0 := mkT2_ok (clok_law18.app clok_law4) trivial trivial trivial trivial
theorem r_few (s : Stt) (r : XV) : (quietGo TF0 80 (callI TF0 80 20) 10 [e_Stt s] (fun v => ResLe v r)) = (bif bif decide ((↑(List.length (Stt.mem s)) : Int) ≤ 1000) then decide ((↑(List.length (Stt.mem s)) : Int) ≤ 1000) else true then bif bif bif decide ((↑(List.length
 (Stt.mem s)) : Int) ≤ 1000) then decide ((↑(List.length (Stt.table s)) : Int) ≤ 64) else false then bif decide ((↑(List.length (Stt.mem s)) : Int) ≤ 1000) then decide
 ((↑(List.length (Stt.table s)) : Int) ≤ 64) else false else true then bif bif bif bif decide ((↑(List.length (Stt.mem s)) : Int) ≤ 1000) then decide ((↑(List.length
 (Stt.table s)) : Int) ≤ 64) else false then decide ((↑(List.length (Stt.saq s)) : Int) ≤ 64) else false then bif bif decide ((↑(List.length (Stt.mem s)) : Int) ≤
 1000) then decide ((↑(List.length (Stt.table s)) : Int) ≤ 64) else false then decide ((↑(List.length (Stt.saq s)) : Int) ≤ 64) else false else true then bif bif
 bif bif bif decide ((↑(List.length (Stt.mem s)) : Int) ≤ 1000) then decide ((↑(List.length (Stt.table s)) : Int) ≤ 64) else false then decide ((↑(List.length (Stt.saq
 s)) : Int) ≤ 64) else false then decide ((↑(List.length (Stt.ldq s)) : Int) ≤ 64) else false then bif bif bif decide ((↑(List.length (Stt.mem s)) : Int) ≤ 1000)
 then decide ((↑(List.length (Stt.table s)) : Int) ≤ 64) else false then decide ((↑(List.length (Stt.saq s)) : Int) ≤ 64) else false then decide ((↑(List.length (Stt.ldq
 s)) : Int) ≤ 64) else false else true then bif bif bif bif bif bif decide ((↑(List.length (Stt.mem s)) : Int) ≤ 1000) then decide ((↑(List.length (Stt.table s))
 : Int) ≤ 64) else false then decide ((↑(List.length (Stt.saq s)) : Int) ≤ 64) else false then decide ((↑(List.length (Stt.ldq s)) : Int) ≤ 64) else false then decide
 ((↑(List.length (Stt.writes s)) : Int) ≤ 100) else false then bif bif bif bif decide ((↑(List.length (Stt.mem s)) : Int) ≤ 1000) then decide ((↑(List.length (Stt.table
 s)) : Int) ≤ 64) else false then decide ((↑(List.length (Stt.saq s)) : Int) ≤ 64) else false then decide ((↑(List.length (Stt.ldq s)) : Int) ≤ 64) else false then
 decide ((↑(List.length (Stt.writes s)) : Int) ≤ 100) else false else true then bif bif bif bif bif bif bif decide ((↑(List.length (Stt.mem s)) : Int) ≤ 1000) then
 decide ((↑(List.length (Stt.table s)) : Int) ≤ 64) else false then decide ((↑(List.length (Stt.saq s)) : Int) ≤ 64) else false then decide ((↑(List.length (Stt.ldq
 s)) : Int) ≤ 64) else false then decide ((↑(List.length (Stt.writes s)) : Int) ≤ 100) else false then decide ((↑(List.length (Stt.sdq s)) : Int) ≤ 64) else false
 then bif bif bif bif bif decide ((↑(List.length (Stt.mem s)) : Int) ≤ 1000) then decide ((↑(List.length (Stt.table s)) : Int) ≤ 64) else false then decide ((↑(List.length
 (Stt.saq s)) : Int) ≤ 64) else false then decide ((↑(List.length (Stt.ldq s)) : Int) ≤ 64) else false then decide ((↑(List.length (Stt.writes s)) : Int) ≤ 100) else
 false then decide ((↑(List.length (Stt.sdq s)) : Int) ≤ 64) else false else true then bif bif bif bif bif bif bif bif decide ((↑(List.length (Stt.mem s)) : Int)
 ≤ 1000) then decide ((↑(List.length (Stt.table s)) : Int) ≤ 64) else false then decide ((↑(List.length (Stt.saq s)) : Int) ≤ 64) else false then decide ((↑(List.length
 (Stt.ldq s)) : Int) ≤ 64) else false then decide ((↑(List.length (Stt.writes s)) : Int) ≤ 100) else false then decide ((↑(List.length (Stt.sdq s)) : Int) ≤ 64) else
 false then decide ((↑(List.length (Stt.aeq s)) : Int) ≤ 64) else false then bif bif bif bif bif bif decide ((↑(List.length (Stt.mem s)) : Int) ≤ 1000) then decide
 ((↑(List.length (Stt.table s)) : Int) ≤ 64) else false then decide ((↑(List.length (Stt.saq s)) : Int) ≤ 64) else false then decide ((↑(List.length (Stt.ldq s))
 : Int) ≤ 64) else false then decide ((↑(List.length (Stt.writes s)) : Int) ≤ 100) else false then decide ((↑(List.length (Stt.sdq s)) : Int) ≤ 64) else false then
 decide ((↑(List.length (Stt.aeq s)) : Int) ≤ 64) else false else true then bif bif bif bif bif bif bif bif bif decide ((↑(List.length (Stt.mem s)) : Int) ≤ 1000)
 then decide ((↑(List.length (Stt.table s)) : Int) ≤ 64) else false then decide ((↑(List.length (Stt.saq s)) : Int) ≤ 64) else false then decide ((↑(List.length (Stt.ldq
 s)) : Int) ≤ 64) else false then decide ((↑(List.length (Stt.writes s)) : Int) ≤ 100) else false then decide ((↑(List.length (Stt.sdq s)) : Int) ≤ 64) else false
 then decide ((↑(List.length (Stt.aeq s)) : Int) ≤ 64) else false then decide ((↑(List.length (Stt.abq s)) : Int) ≤ 64) else false then bif bif bif bif bif bif bif
 decide ((↑(List.length (Stt.mem s)) : Int) ≤ 1000) then decide ((↑(List.length (Stt.table s)) : Int) ≤ 64) else false then decide ((↑(List.length (Stt.saq s)) :
 Int) ≤ 64) else false then decide ((↑(List.length (Stt.ldq s)) : Int) ≤ 64) else false then decide ((↑(List.length (Stt.writes s)) : Int) ≤ 100) else false then
 decide ((↑(List.length (Stt.sdq s)) : Int) ≤ 64) else false then decide ((↑(List.length (Stt.aeq s)) : Int) ≤ 64) else false then decide ((↑(List.length (Stt.abq
 s)) : Int) ≤ 64) else false else true then ResLe (.bool (bif bif bif bif bif bif bif bif decide ((↑(List.length (Stt.mem s)) : Int) ≤ 1000) then decide ((↑(List.length
 (Stt.table s)) : Int) ≤ 64) else false then decide ((↑(List.length (Stt.saq s)) : Int) ≤ 64) else false then decide ((↑(List.length (Stt.ldq s)) : Int) ≤ 64) else
 false then decide ((↑(List.length (Stt.writes s)) : Int) ≤ 100) else false then decide ((↑(List.length (Stt.sdq s)) : Int) ≤ 64) else false then decide ((↑(List.length
 (Stt.aeq s)) : Int) ≤ 64) else false then decide ((↑(List.length (Stt.abq s)) : Int) ≤ 64) else false then decide ((↑(List.length (Stt.ebq s)) : Int) ≤ 64) else
 false)) r else False else False else False else False else False else False else False
else False) := by kernel_rfl
theorem r_few4 (p : Prog) (r : XV) : (quietGo TF0 80 (callI TF0 80 20) 8 [e_Prog p] (fun v => ResLe v r)) = (bif bif decide ((↑(List.length (Prog.code p)) : Int) ≤ 200) then decide ((↑(List.length (Prog.code p)) : Int) ≤ 200) else true then ResLe (.bool (bif decide
 ((↑(List.length (Prog.code p)) : Int) ≤ 200) then decide ((↑(List.length (Prog.data p)) : Int) ≤ 500) else false)) r
else False) := by kernel_rfl
theorem sk_few : SkOk Try.prog (10, fewS) := skOf_ok fun s _ => by
  refine pureR (u := 80) (k := 20) mix TF0ok ?_
  refine Eq.mpr (r_few s _) ?_
  simp only [pk_and, cond_true, band, Bool.and_assoc]
  exact .rfl
theorem few_ok {s : Stt} (hw : s.wf) (h : fewF s = true) : s.ok := by
  simp only [fewF, Bool.and_eq_true, decide_eq_true_eq] at h
  refine ⟨hw, ?_⟩
  omega
theorem sk_few4 : SkOk Try.prog (8, few4S) := skOf_ok fun p _ => by
  refine pureR (u := 80) (k := 20) mix TF0ok ?_
  refine Eq.mpr (r_few4 p _) ?_
  simp only [pk_and, cond_true, band, Bool.and_assoc]
  exact .rfl
end Go.Proofs.Ythmlnmkbeohojaa

/- Which splits are few. -/
namespace Go.Proofs.Ythmlnmkbeohojaa
open Go.Ra
set_option linter.unusedVariables false
set_option linter.unusedSimpArgs false
/-- How many cells and blocks the first ones have. -/
def cntB : List Block → Nat
  | [] => 0
  | b :: l => (1 + b.a.length + b.e.length) + cntB l
def few13F (s : Split) : Bool := decide (cntB s.blocks ≤ 1500)
def few13S : List XV → Option ((XV → Prop) → Prop) := skOf (fun s : Split => [e_Split s]) (fun s => s.wf) (fun s => few13F s) (fun y => .bool y)
def TF2 : Tab := mkT2 qq cl_law13 [] [] [] []
theorem TF2ok : TabOk Try.prog TF2 := mkT2_ok clok_law13 trivial trivial trivial trivial
theorem r_f13a (s : Split) (r : XV) : (goQ Try.prog TF2 [(.tmp 2)] r (.run c_law13_Few) [] ⟨envX 0 [e_Split s], [], 0⟩) = (LoopAt (Ok Try.prog (Tab.q TF2)) c_law13_Few_l1 (XSt.mk [(4, .int .i64 0), (3, .int .i64 0), (2, .bool false), (1, .ptr 0 [] 0)] [(0, some (e_Split s))] 1) [Frm.blk
 0, Frm.seq c_law13_Few_p1] (finQR [AR.tmp 2] r)) := by kernel_rfl
theorem r_f13b (s : Split) (i n : Nat) (r : XV) (A : XSt → Prop) : (goQ Try.prog TF2 [(.tmp 2)] r (.run c_law13_Few_l1) [.lp c_law13_Few_l1 A, .blk 0, .seq c_law13_Few_p1] ⟨[(4, .int .i64 i), (3, .int .i64 n), (1, .ptr 0 [] 0)], [(0, some (e_Split s))], 1⟩) = (bif bif decide ((↑i : Int) < (↑(List.length (Split.blocks s)) : Int)) then decide ((↑i : Int) < (↑(List.length (Split.blocks s)) : Int)) else true then bif bif
 decide ((↑i : Int) < (↑(List.length (Split.blocks s)) : Int)) then decide ((↑n : Int) < 10000) else false then bif decide ((↑i : Int) < (↑(List.length (Split.blocks
 s)) : Int)) then bif decide ((↑i : Int) < (↑(List.length (Split.blocks s)) : Int)) then A (XSt.mk [(4, .int .i64 (IntKind.wrap .i64 ((↑i : Int) + (1 : Int)))), (3,
 .int .i64 (IntKind.wrap .i64 (IntKind.wrap .i64 (IntKind.wrap .i64 ((↑n : Int) + (1 : Int)) + (↑(List.length (Block.a (ix (Split.blocks s) i))) : Int)) + (↑(List.length
 (Block.e (ix (Split.blocks s) i))) : Int)))), (1, .ptr 0 [] 0)] [(0, some (e_Split s))] 1) else False else False else ResLe (.bool (decide ((↑n : Int) ≤ 1500)))
 r
else False) := by kernel_rfl
theorem cntB_app (l r : List Block) : cntB (l ++ r) = cntB l + cntB r := by
  induction l with
  | nil => simp [cntB]
  | cons b l ih => simp only [List.cons_append, cntB, ih]; omega
theorem cntB_step {l : List Block} {i : Nat} (h : i < l.length) : cntB (l.take (i + 1)) = cntB (l.take i) + (1 + (ix l i).a.length + (ix l i).e.length) := by
  rw [List.take_succ_eq_append_getElem h, cntB_app, ix_lt h]
  simp [cntB]
theorem cntB_le {l : List Block} {i : Nat} : cntB (l.take i) ≤ cntB l := by
  have := cntB_app (l.take i) (l.drop i)
  rw [List.take_append_drop] at this
  omega
theorem sk_few13 : SkOk Try.prog (9, few13S) := skOf_ok fun s h => by
  have hw : s.wf := h
  have hl : s.blocks.length * 80 ≤ 140737488351232 := hw.1.2
  show Pure _ _ (cons [e_Split s]) (con (.bool (few13F s)))
  refine pureQ mix TF2ok t_law13_Few (Nat.le_of_ble_eq_true rfl) ?_
  refine Eq.mpr (r_f13a s _) ?_
  refine loopQ mix TF2ok (fun i : Nat => ⟨[(4, .int .i64 i), (3, .int .i64 (cntB (s.blocks.take i) : Nat)), (1, .ptr 0 [] 0)], [(0, some (e_Split s))], 1⟩) (fun i => i ≤ s.blocks.length) (fun i => s.blocks.length - i) 0 (Nat.zero_le _) (.of (weakX ⟨rfl, rfl, rfl, trivial⟩ ⟨rfl, trivial⟩ (Nat.le_refl _))) ?_
  intro i hi
  replace hi : i ≤ s.blocks.length := hi
  refine Eq.mpr (r_f13b s i _ _ _) ?_
  unfold few13F
  by_cases hlt : i < s.blocks.length
  · have h1 : (i : Int) < (s.blocks.length : Int) := by omega
    by_cases hn' : cntB (s.blocks.take i) < 10000
    · have hn : (cntB (s.blocks.take i) : Int) < 10000 := by omega
      simp only [h1, hn, decide_true, cond_true]
      obtain ⟨_, _, _, _, ha, he⟩ := hw.1.1 _ (ix_mem hlt)
      have ha2 := ha.2
      have he2 := he.2
      have w1 : IntKind.i64.wrap ((i : Int) + 1) = ((i + 1 : Nat) : Int) := wrap_i64 (by omega) (by omega)
      have w2 : IntKind.i64.wrap ((cntB (s.blocks.take i) : Int) + 1) = ((cntB (s.blocks.take i) + 1 : Nat) : Int) := wrap_i64 (by omega) (by omega)
      have w3 : IntKind.i64.wrap (((cntB (s.blocks.take i) + 1 : Nat) : Int) + ((ix s.blocks i).a.length : Int)) = ((cntB (s.blocks.take i) + 1 + (ix s.blocks i).a.length : Nat) : Int) := wrap_i64 (by omega) (by omega)
      have w4 : IntKind.i64.wrap (((cntB (s.blocks.take i) + 1 + (ix s.blocks i).a.length : Nat) : Int) + ((ix s.blocks i).e.length : Int)) = ((cntB (s.blocks.take (i + 1)) : Nat) : Int) := by
        rw [cntB_step hlt]
        rw [wrap_i64 (by omega) (by omega)]
        omega
      rw [w1, w2, w3, w4]
      exact ⟨i + 1, hlt, .of (weakX ⟨rfl, rfl, rfl, trivial⟩ ⟨rfl, trivial⟩ (Nat.le_refl _)), by omega⟩
    · have hn : ¬ (cntB (s.blocks.take i) : Int) < 10000 := by omega
      simp only [h1, hn, decide_true, decide_false, cond_true, cond_false]
      have := @cntB_le s.blocks i
      exact resB (decide_eq_decide.2 (by omega))
  · have h1 : ¬ (i : Int) < (s.blocks.length : Int) := by omega
    obtain rfl : i = s.blocks.length := by omega
    simp only [h1, decide_false, cond_false, cond_true]
    rw [List.take_length]
    exact resB (decide_eq_decide.2 (by omega))
end Go.Proofs.Ythmlnmkbeohojaa

