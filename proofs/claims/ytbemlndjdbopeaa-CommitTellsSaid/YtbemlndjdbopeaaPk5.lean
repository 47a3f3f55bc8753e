/- Texts put together. -/
import Derived.Test.YtbemlndjdbopeaaPk4
/- The document's sending of the first store; copies of states. -/
namespace Go.Proofs.Ytbemlndjdbopeaa
open Go.Ra
set_option linter.unusedVariables false
set_option linter.unusedSimpArgs false
def TC7 : Tab := mkT2 qq (cl_ref15 ++ cl_ref21) [(34, ovlSp)] gl_ref15 [] []
def rcanS : List XV → Option ((XV → Prop) → Prop) := skOf (fun p : Cfg × Stt => [e_Cfg p.1, e_Stt p.2]) (fun p => p.2.ok) (fun p => canF p.1 p.2) (fun y => .bool y)
def TC8 : Tab := mkT2 qq (cl_ref15 ++ cl_ref21) [(20, mskSp)] gl_ref15 [(15, rcanS)] []
def cpyS : List XV → Option ((XV → Prop) → Prop) := skOf (fun s : Stt => [e_Stt s]) (fun s => s.ok) (fun s => s) (fun y => e_Stt y)
def rsndS : List XV → Option ((XV → Prop) → Prop) := skOf (fun p : Cfg × Stt => [e_Cfg p.1, e_Stt p.2]) (fun p => p.2.ok) (fun p => sendF p.1 p.2) (fun y => e_Stt y)
theorem TC7ok : TabOk Try.prog TC7 := mkT2_ok (clok_ref15.app clok_ref21) ⟨sp_rovl, trivial⟩ glok_ref15 trivial trivial
theorem r_cpy (s : Stt) (r : XV) : (goQ Try.prog TC7 [(.cell 2 .true 92)] r (.run c_ref15_Copy) [] ⟨envX 0 [e_Stt s], [], 0⟩) = (bif decide (List.length (Stt.ldq s) * 16 ≤ 140737488355328) then bif allN (fun i => true) (List.length (Stt.ldq s)) then bif decide (List.length (Stt.sdq s)
 * 4 ≤ 140737488355328) then bif decide (List.length (Stt.aeq s) * 4 ≤ 140737488355328) then bif decide (List.length (Stt.abq s) * 1 ≤ 140737488355328) then bif decide
 (List.length (Stt.ebq s) * 1 ≤ 140737488355328) then bif decide (List.length (Stt.saq s) * 32 ≤ 140737488355328) then bif decide (List.length (Stt.table s) * 64
 ≤ 140737488355328) then bif decide (List.length (Stt.mem s) * 1 ≤ 140737488355328) then bif decide (List.length (Stt.writes s) * 24 ≤ 140737488355328) then bif decide
 (List.length (Stt.ldq s) ≤ List.length (Stt.ldq s)) then bif decide (List.length (Stt.sdq s) ≤ List.length (Stt.sdq s)) then bif decide (List.length (Stt.aeq s)
 ≤ List.length (Stt.aeq s)) then bif decide (List.length (Stt.abq s) ≤ List.length (Stt.abq s)) then bif decide (List.length (Stt.ebq s) ≤ List.length (Stt.ebq s))
 then bif decide (List.length (Stt.saq s) ≤ List.length (Stt.saq s)) then bif decide (List.length (Stt.table s) ≤ List.length (Stt.table s)) then bif decide (List.length
 (Stt.mem s) ≤ List.length (Stt.mem s)) then bif decide (List.length (Stt.writes s) ≤ List.length (Stt.writes s)) then ResLe (e_Stt s) r else False else False else
 False else False else False else False else False else False else False else False else False else False else False else False else False else False else False else
 False
else False) := by kernel_rfl
theorem r_rcan0 (c : Cfg) (s : Stt) (r : XV) : (goQ Try.prog TC7 [(.tmp 4)] r (.run c_ref21_Can) [] ⟨envX 0 [e_Cfg c, e_Stt s], [], 0⟩) = (bif bif decide (0 < (↑(List.length (Stt.saq s)) : Int)) then true else !!decide ((↑(List.length (Stt.saq s)) : Int) = 0) then bif bif decide ((↑(List.length
 (Stt.saq s)) : Int) = 0) then true else !decide ((↑(List.length (Stt.saq s)) : Int) = 0) then bif bif bif decide ((↑(List.length (Stt.saq s)) : Int) = 0) then true
 else Entry.known (ix (Stt.saq s) 0) then true else !bif decide ((↑(List.length (Stt.saq s)) : Int) = 0) then true else Entry.known (ix (Stt.saq s) 0) then bif bif
 bif bif decide ((↑(List.length (Stt.saq s)) : Int) = 0) then true else Entry.known (ix (Stt.saq s) 0) then true else decide ((↑(List.length (Stt.sdq s)) : Int) =
 0) then true else !bif bif decide ((↑(List.length (Stt.saq s)) : Int) = 0) then true else Entry.known (ix (Stt.saq s) 0) then true else decide ((↑(List.length (Stt.sdq
 s)) : Int) = 0) then bif bif decide (0 < (↑(List.length (Stt.saq s)) : Int)) then true else !bif !bif bif bif decide ((↑(List.length (Stt.saq s)) : Int) = 0) then
 true else Entry.known (ix (Stt.saq s) 0) then true else decide ((↑(List.length (Stt.sdq s)) : Int) = 0) then true else decide ((↑(List.length (Stt.table s)) : Int)
 ≥ Cfg.flight c) then decide ¬Trp.kind (Stt.trap s) = 0 else false then bif bif !bif bif bif decide ((↑(List.length (Stt.saq s)) : Int) = 0) then true else Entry.known
 (ix (Stt.saq s) 0) then true else decide ((↑(List.length (Stt.sdq s)) : Int) = 0) then true else decide ((↑(List.length (Stt.table s)) : Int) ≥ Cfg.flight c) then
 true else !!bif bif bif decide ((↑(List.length (Stt.saq s)) : Int) = 0) then true else Entry.known (ix (Stt.saq s) 0) then true else decide ((↑(List.length (Stt.sdq
 s)) : Int) = 0) then true else decide ((↑(List.length (Stt.table s)) : Int) ≥ Cfg.flight c) then bif bif bif decide ¬Trp.kind (Stt.trap s) = 0 then bif !bif bif
 bif decide ((↑(List.length (Stt.saq s)) : Int) = 0) then true else Entry.known (ix (Stt.saq s) 0) then true else decide ((↑(List.length (Stt.sdq s)) : Int) = 0)
 then true else decide ((↑(List.length (Stt.table s)) : Int) ≥ Cfg.flight c) then decide ¬Trp.kind (Stt.trap s) = 0 else false else true then true else !!bif bif
 bif decide ((↑(List.length (Stt.saq s)) : Int) = 0) then true else Entry.known (ix (Stt.saq s) 0) then true else decide ((↑(List.length (Stt.sdq s)) : Int) = 0)
 then true else decide ((↑(List.length (Stt.table s)) : Int) ≥ Cfg.flight c) then bif bif bif bif bif decide ((↑(List.length (Stt.saq s)) : Int) = 0) then true else
 Entry.known (ix (Stt.saq s) 0) then true else decide ((↑(List.length (Stt.sdq s)) : Int) = 0) then true else decide ((↑(List.length (Stt.table s)) : Int) ≥ Cfg.flight
 c) then true else !bif bif bif decide ((↑(List.length (Stt.saq s)) : Int) = 0) then true else Entry.known (ix (Stt.saq s) 0) then true else decide ((↑(List.length
 (Stt.sdq s)) : Int) = 0) then true else decide ((↑(List.length (Stt.table s)) : Int) ≥ Cfg.flight c) then bif bif bif bif bif decide ((↑(List.length (Stt.saq s))
 : Int) = 0) then true else Entry.known (ix (Stt.saq s) 0) then true else decide ((↑(List.length (Stt.sdq s)) : Int) = 0) then true else decide ((↑(List.length (Stt.table
 s)) : Int) ≥ Cfg.flight c) then true else bif decide ¬Trp.kind (Stt.trap s) = 0 then decide (Entry.step (ix (Stt.saq s) 0) ≥ Trp.step (Stt.trap s)) else false then
 ResLe (.bool false) r else bif decide (0 < (↑(List.length (Stt.saq s)) : Int)) then LoopAt (Ok Try.prog (Tab.q TC7)) c_ref21_Can_l1 (XSt.mk [(6, .int .i64 0), (5,
 .ptr 2 [] 0), (4, .bool false), (3, .ptr 1 [] 0)] [(2, some (e_Entry (ix (Stt.saq s) 0))), (1, some (e_Stt s)), (0, some (e_Cfg c))] 3) [Frm.blk 0, Frm.seq c_ref21_Can_p1]
 (finQR [AR.tmp 4] r) else False else False else False else False else False else False else False else False
else False) := by kernel_rfl
theorem r_rcan1 (c : Cfg) (s : Stt) (i : Nat) (r : XV) (A : XSt → Prop) : (goQ Try.prog TC7 [(.tmp 4)] r (.run c_ref21_Can_l1) [.lp c_ref21_Can_l1 A, .blk 0, .seq c_ref21_Can_p1] ⟨[(6, .int .i64 i), (5, .ptr 2 [] 0), (3, .ptr 1 [] 0)], [(2, some (e_Entry (ix s.saq 0))), (1, some (e_Stt s)), (0, some (e_Cfg c))], 3⟩) = (bif decide ((↑i : Int) < (↑(List.length (Stt.table s)) : Int)) then bif decide ((↑i : Int) < (↑(List.length (Stt.table s)) : Int)) then bif bif i64B (Req.addr
 (ix (Stt.table s) i)) then true else !!Req.store (ix (Stt.table s) i) then bif bif i64B (Req.size (ix (Stt.table s) i)) then true else !!Req.store (ix (Stt.table
 s) i) then bif bif i64B (Entry.addr (ix (Stt.saq s) 0)) then true else !!Req.store (ix (Stt.table s) i) then bif bif i64B (Entry.size (ix (Stt.saq s) 0)) then true
 else !!Req.store (ix (Stt.table s) i) then bif bif !Req.store (ix (Stt.table s) i) then !Req.store (ix (Stt.table s) i) else true then bif bif !Req.store (ix (Stt.table
 s) i) then ovlB (Req.addr (ix (Stt.table s) i)) (Req.size (ix (Stt.table s) i)) (Entry.addr (ix (Stt.saq s) 0)) (Entry.size (ix (Stt.saq s) 0)) else false then ResLe
 (.bool false) r else A (XSt.mk [(6, .int .i64 (IntKind.wrap .i64 ((↑i : Int) + (1 : Int)))), (5, .ptr 2 [] 0), (3, .ptr 1 [] 0)] [(3, some (e_Req (ix (Stt.table
 s) i))), (2, some (e_Entry (ix (Stt.saq s) 0))), (1, some (e_Stt s)), (0, some (e_Cfg c))] 4) else False else False else False else False else False else False
else
 ResLe (.bool true) r) := by kernel_rfl
theorem r_rsnd (c : Cfg) (s : Stt) (r : XV) : (quietGo TC8 80 (callI TC8 80 20) 19 [e_Cfg c, e_Stt s] (fun v => ResLe v r)) = (bif decide (List.length (Stt.ldq s) * 16 ≤ 140737488355328) then bif allN (fun i => true) (List.length (Stt.ldq s)) then bif decide (List.length (Stt.sdq s)
 * 4 ≤ 140737488355328) then bif decide (List.length (Stt.aeq s) * 4 ≤ 140737488355328) then bif decide (List.length (Stt.abq s) * 1 ≤ 140737488355328) then bif decide
 (List.length (Stt.ebq s) * 1 ≤ 140737488355328) then bif decide (List.length (Stt.saq s) * 32 ≤ 140737488355328) then bif decide (List.length (Stt.table s) * 64
 ≤ 140737488355328) then bif decide (List.length (Stt.mem s) * 1 ≤ 140737488355328) then bif decide (List.length (Stt.writes s) * 24 ≤ 140737488355328) then bif decide
 (List.length (Stt.ldq s) ≤ List.length (Stt.ldq s)) then bif decide (List.length (Stt.sdq s) ≤ List.length (Stt.sdq s)) then bif decide (List.length (Stt.aeq s)
 ≤ List.length (Stt.aeq s)) then bif decide (List.length (Stt.abq s) ≤ List.length (Stt.abq s)) then bif decide (List.length (Stt.ebq s) ≤ List.length (Stt.ebq s))
 then bif decide (List.length (Stt.saq s) ≤ List.length (Stt.saq s)) then bif decide (List.length (Stt.table s) ≤ List.length (Stt.table s)) then bif decide (List.length
 (Stt.mem s) ≤ List.length (Stt.mem s)) then bif decide (List.length (Stt.writes s) ≤ List.length (Stt.writes s)) then ∃ (s_1 : Cfg × Stt), ArgsLe [e_Cfg c, e_Stt
 s] [e_Cfg (Prod.fst s_1), e_Stt (Prod.snd s_1)] ∧ PreIs (Stt.ok (Prod.snd s_1)) ∧ ∀ (y : Bool), y = canF (Prod.fst s_1) (Prod.snd s_1) → bif !y then bif decide (List.length
 (Stt.ldq s) ≤ List.length (Stt.ldq s)) then bif decide (List.length (Stt.sdq s) ≤ List.length (Stt.sdq s)) then bif decide (List.length (Stt.aeq s) ≤ List.length
 (Stt.aeq s)) then bif decide (List.length (Stt.abq s) ≤ List.length (Stt.abq s)) then bif decide (List.length (Stt.ebq s) ≤ List.length (Stt.ebq s)) then bif decide
 (List.length (Stt.saq s) ≤ List.length (Stt.saq s)) then bif decide (List.length (Stt.table s) ≤ List.length (Stt.table s)) then bif decide (List.length (Stt.mem
 s) ≤ List.length (Stt.mem s)) then bif decide (List.length (Stt.writes s) ≤ List.length (Stt.writes s)) then ResLe (e_Stt s) r else False else False else False else
 False else False else False else False else False else False else bif decide (0 < (↑(List.length (Stt.saq s)) : Int)) then bif decide (0 < List.length (Stt.saq s))
 then bif decide (0 < List.length (Stt.saq s)) then bif decide (0 < (↑(List.length (Stt.sdq s)) : Int)) then bif decide (0 < List.length (Stt.sdq s)) then bif decide
 (0 < List.length (Stt.saq s)) then bif decide (0 < List.length (Stt.saq s)) then bif decide (0 < List.length (Stt.saq s)) then bif decide (1 ≤ (↑(List.length (Stt.sdq
 s)) : Int)) then bif decide (0 < List.length (Stt.saq s)) then bif decide (Entry.size (ix (Stt.saq s) 0) = 2) then bif decide (0 < List.length (Stt.saq s)) then
 bif decide (0 < List.length (Stt.saq s)) then bif decide (0 < List.length (Stt.saq s)) then bif decide (List.length (Stt.table s) ≤ List.length (Stt.table s)) then
 bif decide (pl (List.length (Stt.table s)) 1 * 64 ≤ 140737488355328) then bif decide (List.length (Stt.ldq s) ≤ List.length (Stt.ldq s)) then bif decide (pl 1 (List.length
 (Stt.sdq s) - 1) ≤ List.length (Stt.sdq s)) then bif decide (List.length (Stt.aeq s) ≤ List.length (Stt.aeq s)) then bif decide (List.length (Stt.abq s) ≤ List.length
 (Stt.abq s)) then bif decide (List.length (Stt.ebq s) ≤ List.length (Stt.ebq s)) then bif decide (List.length (Stt.saq s) ≤ List.length (Stt.saq s)) then bif decide
 (pl (List.length (Stt.table s)) 1 ≤ pl (List.length (Stt.table s)) 1) then bif decide (List.length (Stt.mem s) ≤ List.length (Stt.mem s)) then bif decide (List.length
 (Stt.writes s) ≤ List.length (Stt.writes s)) then ResLe (.agg 92 [.int .i64 (Stt.cycle s), e_Side (Stt.a s), e_Side (Stt.e s), e_row 3 e_Slot (Stt.ldq s), .row false
 1 (List.length (Stt.sdq s) - 1) fun i => e_u32 (ix (Stt.sdq s) (pl 1 i)), e_row 1 e_u32 (Stt.aeq s), e_row 1 e_bool (Stt.abq s), e_row 1 e_bool (Stt.ebq s), .row
 false 5 (List.length (Stt.saq s)) fun i => .agg 5 [.int .i64 (bif Nat.beq i 0 then Entry.addr (ix (Stt.saq s) 0) else bif Nat.beq i 0 then Entry.addr (ix (Stt.saq
 s) 0) else Entry.addr (ix (Stt.saq s) i)), .int .i64 (bif Nat.beq i 0 then Entry.size (ix (Stt.saq s) 0) else bif Nat.beq i 0 then Entry.size (ix (Stt.saq s) 0)
 else Entry.size (ix (Stt.saq s) i)), .int .i64 (bif Nat.beq i 0 then Entry.step (ix (Stt.saq s) 0) else bif Nat.beq i 0 then Entry.step (ix (Stt.saq s) 0) else Entry.step
 (ix (Stt.saq s) i)), .bool (bif Nat.beq i 0 then true else bif Nat.beq i 0 then true else Entry.known (ix (Stt.saq s) i)), .int .u32 (bif Nat.beq i 0 then mskI (ix
 (Stt.sdq s) 0) (Entry.size (ix (Stt.saq s) 0)) else bif Nat.beq i 0 then Entry.val (ix (Stt.saq s) 0) else Entry.val (ix (Stt.saq s) i))], .row false 8 (pl (List.length
 (Stt.table s)) 1) fun i => .agg 8 [.bool (bif decide (i < List.length (Stt.table s)) then Req.store (ix (Stt.table s) i) else true), .int .i64 (bif decide (i < List.length
 (Stt.table s)) then Req.op (ix (Stt.table s) i) else (32 : Int)), .int .i64 (bif decide (i < List.length (Stt.table s)) then Req.addr (ix (Stt.table s) i) else Entry.addr
 (ix (Stt.saq s) 0)), .int .i64 (bif decide (i < List.length (Stt.table s)) then Req.size (ix (Stt.table s) i) else Entry.size (ix (Stt.saq s) 0)), .int .u32 (bif
 decide (i < List.length (Stt.table s)) then Req.val (ix (Stt.table s) i) else mskI (ix (Stt.sdq s) 0) (Entry.size (ix (Stt.saq s) 0))), .int .i64 (bif decide (i
 < List.length (Stt.table s)) then Req.left (ix (Stt.table s) i) else (0 : Int)), .int .i64 (bif decide (i < List.length (Stt.table s)) then Req.reg (ix (Stt.table
 s) i) else (0 : Int)), .int .i64 (bif decide (i < List.length (Stt.table s)) then Req.tag (ix (Stt.table s) i) else (0 : Int))], e_row 1 e_u8 (Stt.mem s), e_row
 3 e_Wr (Stt.writes s), e_Trp (Stt.trap s), .int .i64 (Stt.lats s), .int .i64 (Stt.picks s), .int .i64 (Stt.tags s)]) r else False else False else False else False
 else False else False else False else False else False else False else False else False else False else False else bif decide (Entry.size (ix (Stt.saq s) 0) = 1)
 then bif decide (0 < List.length (Stt.saq s)) then bif decide (0 < List.length (Stt.saq s)) then bif decide (0 < List.length (Stt.saq s)) then bif decide (List.length
 (Stt.table s) ≤ List.length (Stt.table s)) then bif decide (pl (List.length (Stt.table s)) 1 * 64 ≤ 140737488355328) then bif decide (List.length (Stt.ldq s) ≤ List.length
 (Stt.ldq s)) then bif decide (pl 1 (List.length (Stt.sdq s) - 1) ≤ List.length (Stt.sdq s)) then bif decide (List.length (Stt.aeq s) ≤ List.length (Stt.aeq s)) then
 bif decide (List.length (Stt.abq s) ≤ List.length (Stt.abq s)) then bif decide (List.length (Stt.ebq s) ≤ List.length (Stt.ebq s)) then bif decide (List.length (Stt.saq
 s) ≤ List.length (Stt.saq s)) then bif decide (pl (List.length (Stt.table s)) 1 ≤ pl (List.length (Stt.table s)) 1) then bif decide (List.length (Stt.mem s) ≤ List.length
 (Stt.mem s)) then bif decide (List.length (Stt.writes s) ≤ List.length (Stt.writes s)) then ResLe (.agg 92 [.int .i64 (Stt.cycle s), e_Side (Stt.a s), e_Side (Stt.e
 s), e_row 3 e_Slot (Stt.ldq s), .row false 1 (List.length (Stt.sdq s) - 1) fun i => e_u32 (ix (Stt.sdq s) (pl 1 i)), e_row 1 e_u32 (Stt.aeq s), e_row 1 e_bool (Stt.abq
 s), e_row 1 e_bool (Stt.ebq s), .row false 5 (List.length (Stt.saq s)) fun i => .agg 5 [.int .i64 (bif Nat.beq i 0 then Entry.addr (ix (Stt.saq s) 0) else bif Nat.beq
 i 0 then Entry.addr (ix (Stt.saq s) 0) else Entry.addr (ix (Stt.saq s) i)), .int .i64 (bif Nat.beq i 0 then Entry.size (ix (Stt.saq s) 0) else bif Nat.beq i 0 then
 Entry.size (ix (Stt.saq s) 0) else Entry.size (ix (Stt.saq s) i)), .int .i64 (bif Nat.beq i 0 then Entry.step (ix (Stt.saq s) 0) else bif Nat.beq i 0 then Entry.step
 (ix (Stt.saq s) 0) else Entry.step (ix (Stt.saq s) i)), .bool (bif Nat.beq i 0 then true else bif Nat.beq i 0 then true else Entry.known (ix (Stt.saq s) i)), .int
 .u32 (bif Nat.beq i 0 then mskI (ix (Stt.sdq s) 0) (Entry.size (ix (Stt.saq s) 0)) else bif Nat.beq i 0 then Entry.val (ix (Stt.saq s) 0) else Entry.val (ix (Stt.saq
 s) i))], .row false 8 (pl (List.length (Stt.table s)) 1) fun i => .agg 8 [.bool (bif decide (i < List.length (Stt.table s)) then Req.store (ix (Stt.table s) i) else
 true), .int .i64 (bif decide (i < List.length (Stt.table s)) then Req.op (ix (Stt.table s) i) else (33 : Int)), .int .i64 (bif decide (i < List.length (Stt.table
 s)) then Req.addr (ix (Stt.table s) i) else Entry.addr (ix (Stt.saq s) 0)), .int .i64 (bif decide (i < List.length (Stt.table s)) then Req.size (ix (Stt.table s)
 i) else Entry.size (ix (Stt.saq s) 0)), .int .u32 (bif decide (i < List.length (Stt.table s)) then Req.val (ix (Stt.table s) i) else mskI (ix (Stt.sdq s) 0) (Entry.size
 (ix (Stt.saq s) 0))), .int .i64 (bif decide (i < List.length (Stt.table s)) then Req.left (ix (Stt.table s) i) else (0 : Int)), .int .i64 (bif decide (i < List.length
 (Stt.table s)) then Req.reg (ix (Stt.table s) i) else (0 : Int)), .int .i64 (bif decide (i < List.length (Stt.table s)) then Req.tag (ix (Stt.table s) i) else (0
 : Int))], e_row 1 e_u8 (Stt.mem s), e_row 3 e_Wr (Stt.writes s), e_Trp (Stt.trap s), .int .i64 (Stt.lats s), .int .i64 (Stt.picks s), .int .i64 (Stt.tags s)]) r
 else False else False else False else False else False else False else False else False else False else False else False else False else False else False else bif
 decide (0 < List.length (Stt.saq s)) then bif decide (0 < List.length (Stt.saq s)) then bif decide (0 < List.length (Stt.saq s)) then bif decide (List.length (Stt.table
 s) ≤ List.length (Stt.table s)) then bif decide (pl (List.length (Stt.table s)) 1 * 64 ≤ 140737488355328) then bif decide (List.length (Stt.ldq s) ≤ List.length
 (Stt.ldq s)) then bif decide (pl 1 (List.length (Stt.sdq s) - 1) ≤ List.length (Stt.sdq s)) then bif decide (List.length (Stt.aeq s) ≤ List.length (Stt.aeq s)) then
 bif decide (List.length (Stt.abq s) ≤ List.length (Stt.abq s)) then bif decide (List.length (Stt.ebq s) ≤ List.length (Stt.ebq s)) then bif decide (List.length (Stt.saq
 s) ≤ List.length (Stt.saq s)) then bif decide (pl (List.length (Stt.table s)) 1 ≤ pl (List.length (Stt.table s)) 1) then bif decide (List.length (Stt.mem s) ≤ List.length
 (Stt.mem s)) then bif decide (List.length (Stt.writes s) ≤ List.length (Stt.writes s)) then ResLe (.agg 92 [.int .i64 (Stt.cycle s), e_Side (Stt.a s), e_Side (Stt.e
 s), e_row 3 e_Slot (Stt.ldq s), .row false 1 (List.length (Stt.sdq s) - 1) fun i => e_u32 (ix (Stt.sdq s) (pl 1 i)), e_row 1 e_u32 (Stt.aeq s), e_row 1 e_bool (Stt.abq
 s), e_row 1 e_bool (Stt.ebq s), .row false 5 (List.length (Stt.saq s)) fun i => .agg 5 [.int .i64 (bif Nat.beq i 0 then Entry.addr (ix (Stt.saq s) 0) else bif Nat.beq
 i 0 then Entry.addr (ix (Stt.saq s) 0) else Entry.addr (ix (Stt.saq s) i)), .int .i64 (bif Nat.beq i 0 then Entry.size (ix (Stt.saq s) 0) else bif Nat.beq i 0 then
 Entry.size (ix (Stt.saq s) 0) else Entry.size (ix (Stt.saq s) i)), .int .i64 (bif Nat.beq i 0 then Entry.step (ix (Stt.saq s) 0) else bif Nat.beq i 0 then Entry.step
 (ix (Stt.saq s) 0) else Entry.step (ix (Stt.saq s) i)), .bool (bif Nat.beq i 0 then true else bif Nat.beq i 0 then true else Entry.known (ix (Stt.saq s) i)), .int
 .u32 (bif Nat.beq i 0 then mskI (ix (Stt.sdq s) 0) (Entry.size (ix (Stt.saq s) 0)) else bif Nat.beq i 0 then Entry.val (ix (Stt.saq s) 0) else Entry.val (ix (Stt.saq
 s) i))], .row false 8 (pl (List.length (Stt.table s)) 1) fun i => .agg 8 [.bool (bif decide (i < List.length (Stt.table s)) then Req.store (ix (Stt.table s) i) else
 true), .int .i64 (bif decide (i < List.length (Stt.table s)) then Req.op (ix (Stt.table s) i) else (31 : Int)), .int .i64 (bif decide (i < List.length (Stt.table
 s)) then Req.addr (ix (Stt.table s) i) else Entry.addr (ix (Stt.saq s) 0)), .int .i64 (bif decide (i < List.length (Stt.table s)) then Req.size (ix (Stt.table s)
 i) else Entry.size (ix (Stt.saq s) 0)), .int .u32 (bif decide (i < List.length (Stt.table s)) then Req.val (ix (Stt.table s) i) else mskI (ix (Stt.sdq s) 0) (Entry.size
 (ix (Stt.saq s) 0))), .int .i64 (bif decide (i < List.length (Stt.table s)) then Req.left (ix (Stt.table s) i) else (0 : Int)), .int .i64 (bif decide (i < List.length
 (Stt.table s)) then Req.reg (ix (Stt.table s) i) else (0 : Int)), .int .i64 (bif decide (i < List.length (Stt.table s)) then Req.tag (ix (Stt.table s) i) else (0
 : Int))], e_row 1 e_u8 (Stt.mem s), e_row 3 e_Wr (Stt.writes s), e_Trp (Stt.trap s), .int .i64 (Stt.lats s), .int .i64 (Stt.picks s), .int .i64 (Stt.tags s)]) r
 else False else False else False else False else False else False else False else False else False else False else False else False else False else False else False
 else False else False else False else False else False else False else False else False else False else False else False else False else False else False else False
 else False else False else False else False else False else False else False else False else False else False else False else False
else False) := by kernel_rfl 

theorem sk_cpy : SkOk Try.prog (18, cpyS) := skOf_ok fun s h => by
  refine pureQ mix TC7ok t_ref15_Copy (Nat.le_of_ble_eq_true rfl) ?_
  refine Eq.mpr (r_cpy s _) ?_
  obtain ⟨b1, b2, b3, b4, b5, b6, b7, b8, b9⟩ := ok_b h
  simp only [b1, b2, b3, b4, b5, b6, b7, b8, b9, allN_true, Nat.le_refl, pl_eq, decide_true, cond_true]
  exact .rfl
theorem sk_rcan : SkOk Try.prog (15, rcanS) := skOf_ok fun ⟨c, s⟩ h => by
  have h : s.ok := h
  show Pure _ _ (cons [e_Cfg c, e_Stt s]) (con (.bool (canF c s)))
  refine pureQ mix TC7ok t_ref21_Can (Nat.le_of_ble_eq_true rfl) ?_
  refine Eq.mpr (r_rcan0 c s _) ?_
  simp only [nil_len]
  by_cases g8 : s.saq = []
  · simp [g8, canF]; exact .rfl
  have l8 : 0 < s.saq.length := List.length_pos_iff.2 g8
  have l8' : (0 : Int) < (s.saq.length : Int) := by omega
  cases hk : (ix s.saq 0).known with
  | true => simp [g8, l8, hk, canF]; exact .rfl
  | false =>
    by_cases g4 : s.sdq = []
    · simp [g8, l8, hk, g4, canF]; exact .rfl
    by_cases gf : c.flight ≤ (s.table.length : Int)
    · have gf' : ¬ (s.table.length : Int) < c.flight := by omega
      simp [g8, l8, hk, g4, gf, gf', canF]; exact .rfl
    have gf' : (s.table.length : Int) < c.flight := by omega
    by_cases gt : ¬ s.trap.kind = 0 ∧ (ix s.saq 0).step ≥ s.trap.step
    · have gt2 : s.trap.step ≤ (ix s.saq 0).step := gt.2
      simp [g8, l8, hk, g4, gf, gf', gt.1, gt2, canF]; exact .rfl
    have ht : (decide (¬ s.trap.kind = 0) && decide ((ix s.saq 0).step ≥ s.trap.step)) = false := by
      rw [Bool.and_eq_false_iff, decide_eq_false_iff_not, decide_eq_false_iff_not]
      by_cases h0 : s.trap.kind = 0
      · exact .inl (by simp [h0])
      · exact .inr fun h => gt ⟨h0, h⟩
    have ht2 : (bif decide (¬ s.trap.kind = 0) then decide ((ix s.saq 0).step ≥ s.trap.step) else false) = false := by rw [← ht]; cases decide (¬ s.trap.kind = 0) <;> rfl
    have hcan : canF c s = !s.table.any (ldOf (ix s.saq 0)) := by
      unfold canF
      rw [ht, hk, decide_eq_true g8, decide_eq_true g4, decide_eq_true gf']
      rfl
    have he : (ix s.saq 0).wf := h.1.2.2.2.2.2.2.2.2.1.1 _ (ix_mem l8)
    have hr : ∀ r ∈ s.table, r.wf := h.1.2.2.2.2.2.2.2.2.2.1.1
    have hl : s.table.length ≤ 1000000 := h.2.2.2.2.2.2.2.1
    simp only [g8, hk, g4, gf, gf', l8', ht2, decide_true, decide_false, cond_true, cond_false, Bool.not_true, Bool.not_false, ge_iff_le, not_true_eq_false, not_false_eq_true, pk_or, pk_and]
    rw [hcan]
    have key : LoopAt (Ok Try.prog (Tab.q TC7)) c_ref21_Can_l1 (XSt.mk [(6, .int .i64 0), (5, .ptr 2 [] 0), (4, .bool false), (3, .ptr 1 [] 0)] [(2, some (e_Entry (ix s.saq 0))), (1, some (e_Stt s)), (0, some (e_Cfg c))] 3) [Frm.blk 0, Frm.seq c_ref21_Can_p1] (finQR [AR.tmp 4] (.bool (!s.table.any (ldOf (ix s.saq 0))))) := by
      refine loopQ mix TC7ok (fun i : Nat => ⟨[(6, .int .i64 i), (5, .ptr 2 [] 0), (3, .ptr 1 [] 0)], [(2, some (e_Entry (ix s.saq 0))), (1, some (e_Stt s)), (0, some (e_Cfg c))], 3⟩) (fun i => i ≤ s.table.length ∧ ∀ j, j < i → ldOf (ix s.saq 0) (ix s.table j) = false) (fun i => s.table.length - i) 0 ⟨Nat.zero_le _, fun j hj => by omega⟩ (.of (weakX ⟨rfl, rfl, rfl, trivial⟩ ⟨rfl, rfl, rfl, trivial⟩ (Nat.le_refl _))) ?_
      rintro i ⟨hi, hp⟩
      refine Eq.mpr (r_rcan1 c s i _ _) ?_
      by_cases hlt : i < s.table.length
      · have h1 : (i : Int) < (s.table.length : Int) := by omega
        have h2 := hr _ (ix_mem hlt)
        have w1 : IntKind.i64.wrap ((i : Int) + 1) = ((i + 1 : Nat) : Int) := wrap_i64 (by omega) (by omega)
        have e1 : ldOf (ix s.saq 0) (ix s.table i) = bif !(ix s.table i).store then ovlB (ix s.table i).addr (ix s.table i).size (ix s.saq 0).addr (ix s.saq 0).size else false := by
          unfold ldOf; cases (ix s.table i).store <;> rfl
        simp only [h1, i64B_of h2.2.1, i64B_of h2.2.2.1, i64B_of he.1, i64B_of he.2.1, w1, ← e1, decide_true, decide_false, cond_true, cond_false, allN_true, Nat.le_refl, Int.toNat_natCast, Nat.beq_refl, pk_and, pk_or, Bool.not_true, Bool.not_false, not_true_eq_false, not_false_eq_true, Bool.and_true, Bool.true_and, Bool.and_self, ge_iff_le, Int.le_refl, if_true, if_false, reduceCtorEq, eq_self, BEq.rfl]
        refine cnd2 (fun h => ?_) (fun h => ?_)
        · rw [List.any_eq_true.2 ⟨_, ix_mem hlt, h⟩]; exact .rfl
        · refine ⟨i + 1, ⟨hlt, fun j hj => ?_⟩, .ofL (weakT ⟨le_is rfl, le_is rfl, le_is rfl, trivial⟩ ⟨rfl, rfl, rfl, trivial⟩ (Nat.le_refl _) rfl), by omega⟩
          by_cases hji : j = i
          · subst hji; exact h
          · exact hp j (by omega)
      · have h1 : ¬ (i : Int) < (s.table.length : Int) := by omega
        simp only [h1, decide_true, decide_false, cond_true, cond_false, allN_true, Nat.le_refl, Int.toNat_natCast, Nat.beq_refl, pk_and, pk_or, Bool.not_true, Bool.not_false, not_true_eq_false, not_false_eq_true, Bool.and_true, Bool.true_and, Bool.and_self, ge_iff_le, Int.le_refl, if_true, if_false, reduceCtorEq, eq_self, BEq.rfl]
        have : s.table.any (ldOf (ix s.saq 0)) = false := by
          rw [← Bool.not_eq_true, List.any_eq_true]
          rintro ⟨x, hx, hp2⟩
          obtain ⟨j, hj, rfl⟩ := List.mem_iff_getElem.1 hx
          have := hp j (by omega)
          rw [ix_lt hj, hp2] at this
          cases this
        rw [this]
        exact .rfl
    exact key
theorem TC8ok : TabOk Try.prog TC8 := mkT2_ok (clok_ref15.app clok_ref21) ⟨sp_mask, trivial⟩ glok_ref15 ⟨sk_rcan, trivial⟩ trivial
theorem sk_rsnd : SkOk Try.prog (19, rsndS) := skOf_ok fun ⟨c, s⟩ h => by
  have h : s.ok := h
  refine pureR (u := 80) (k := 20) mix TC8ok ?_
  refine Eq.mpr (r_rsnd c s _) ?_
  obtain ⟨b1, b2, b3, b4, b5, b6, b7, b8, b9⟩ := ok_b h
  simp only [b1, b2, b3, b4, b5, b6, b7, b8, b9, allN_true, Nat.le_refl, pl_eq, decide_true, cond_true]
  refine ⟨(c, s), .rfl, ⟨h⟩, ?_⟩
  rintro y rfl
  show cond (!canF c s) _ _
  unfold sendF
  cases hu : canF c s with
  | false => exact .rfl
  | true =>
    have hu' := hu
    simp only [canF, Bool.and_eq_true, decide_eq_true_eq] at hu'
    have l8 : 0 < s.saq.length := List.length_pos_iff.2 hu'.1
    have l4 : 0 < s.sdq.length := List.length_pos_iff.2 hu'.2.2.1
    have l8' : (0 : Int) < (s.saq.length : Int) := by omega
    have l4' : (0 : Int) < (s.sdq.length : Int) := by omega
    have l4a : (1 : Int) ≤ (s.sdq.length : Int) := by omega
    have l4b : 1 + (s.sdq.length - 1) ≤ s.sdq.length := by omega
    have l9 : (s.table.length + 1) * 64 ≤ 140737488355328 := by have := h.2; omega
    have fin : ∀ op : Int, opI (ix s.saq 0).size = op → ResLe (.agg 92 [.int .i64 s.cycle, e_Side s.a, e_Side s.e, e_row 3 e_Slot s.ldq, .row false 1 (s.sdq.length - 1) fun i => e_u32 (ix s.sdq (1 + i)), e_row 1 e_u32 s.aeq, e_row 1 e_bool s.abq, e_row 1 e_bool s.ebq, .row false 5 s.saq.length fun i => .agg 5 [.int .i64 (bif Nat.beq i 0 then (ix s.saq 0).addr else bif Nat.beq i 0 then (ix s.saq 0).addr else (ix s.saq i).addr), .int .i64 (bif Nat.beq i 0 then (ix s.saq 0).size else bif Nat.beq i 0 then (ix s.saq 0).size else (ix s.saq i).size), .int .i64 (bif Nat.beq i 0 then (ix s.saq 0).step else bif Nat.beq i 0 then (ix s.saq 0).step else (ix s.saq i).step), .bool (bif Nat.beq i 0 then true else bif Nat.beq i 0 then true else (ix s.saq i).known), .int .u32 (bif Nat.beq i 0 then mskI (ix s.sdq 0) (ix s.saq 0).size else bif Nat.beq i 0 then (ix s.saq 0).val else (ix s.saq i).val)], .row false 8 (s.table.length + 1) fun i => .agg 8 [.bool (bif decide (i < s.table.length) then (ix s.table i).store else true), .int .i64 (bif decide (i < s.table.length) then (ix s.table i).op else op), .int .i64 (bif decide (i < s.table.length) then (ix s.table i).addr else (ix s.saq 0).addr), .int .i64 (bif decide (i < s.table.length) then (ix s.table i).size else (ix s.saq 0).size), .int .u32 (bif decide (i < s.table.length) then (ix s.table i).val else mskI (ix s.sdq 0) (ix s.saq 0).size), .int .i64 (bif decide (i < s.table.length) then (ix s.table i).left else 0), .int .i64 (bif decide (i < s.table.length) then (ix s.table i).reg else 0), .int .i64 (bif decide (i < s.table.length) then (ix s.table i).tag else 0)], e_row 1 e_u8 s.mem, e_row 3 e_Wr s.writes, e_Trp s.trap, .int .i64 s.lats, .int .i64 s.picks, .int .i64 s.tags]) (e_Stt (sendG s)) := fun op hop => by
      subst hop
      refine ⟨lq_agg ?_⟩
      repeat' (first | with_reducible exact .refl _ | exact lqs_nil | refine lqs_cons ?_ ?_ | exact .refl _)
      · refine lq_erow (by simp [sendG]) (.inl rfl) fun i hi => ?_
        show leQ (con (e_u32 (ix s.sdq (1 + i)))) (con (e_u32 (ix s.sdq.tail i)))
        rw [ix_tail, Nat.add_comm]
        exact .refl _
      · refine lq_erow (by simp [sendG]) (.inl rfl) fun i hi => ?_
        refine lq_con ?_
        by_cases hi0 : i = 0
        · subst hi0
          simp only [sendG, ix_set, l8, and_self, if_true, Nat.beq_refl, cond_true]
          rfl
        · simp only [sendG, ix_set, hi0, false_and, if_false, beq_ne hi0, cond_false]
          rfl
      · refine lq_erow (by simp [sendG]) (.inl rfl) fun i hi => ?_
        refine lq_con ?_
        by_cases hi0 : i < s.table.length
        · simp only [sendG, ix_append, hi0, if_true, decide_true, cond_true]
          rfl
        · have : i - s.table.length = 0 := by omega
          simp only [sendG, ix_append, hi0, if_false, decide_false, cond_false, this]
          rfl
    simp only [Bool.not_true, cond_false, cond_true, l8, l4, l8', l4', l4a, l4b, l9, decide_true, if_true]
    by_cases g2 : (ix s.saq 0).size = 2
    · simp only [decide_eq_true g2, cond_true]
      exact fin _ (by unfold opI; rw [if_neg (by omega), if_pos g2])
    simp only [decide_eq_false g2, cond_false]
    by_cases g1 : (ix s.saq 0).size = 1
    · simp only [decide_eq_true g1, cond_true]
      exact fin _ (by unfold opI; rw [if_pos g1])
    simp only [decide_eq_false g1, cond_false]
    exact fin _ (by unfold opI; rw [if_neg g1, if_neg g2])
end Go.Proofs.Ytbemlndjdbopeaa

/- Which states are few; sending keeps what may be. -/
namespace Go.Proofs.Ytbemlndjdbopeaa
open Go.Ra
set_option linter.unusedVariables false
set_option linter.unusedSimpArgs false
def TF0 : Tab := mkT2 qq cl_law18 [] [] [] []
/-- Is a state small enough? -/
def fewF (s : Stt) : Bool := decide ((s.mem.length : Int) ≤ 1000) && (decide ((s.table.length : Int) ≤ 64) && (decide ((s.saq.length : Int) ≤ 64) && (decide ((s.ldq.length : Int) ≤ 64) && (decide ((s.writes.length : Int) ≤ 100) && (decide ((s.sdq.length : Int) ≤ 64) && (decide ((s.aeq.length : Int) ≤ 64) && (decide ((s.abq.length : Int) ≤ 64) && decide ((s.ebq.length : Int) ≤ 64))))))))
def fewS : List XV → Option ((XV → Prop) → Prop) := skOf (fun s : Stt => [e_Stt s]) (fun s => True) (fun s => fewF s) (fun y => .bool y)
theorem TF0ok : TabOk Try.prog TF0 := mkT2_ok clok_law18 trivial trivial trivial trivial
theorem r_few (s : Stt) (r : XV) : (quietGo TF0 80 (callI TF0 80 20) 13 [e_Stt s] (fun v => ResLe v r)) = (bif bif decide ((↑(List.length (Stt.mem s)) : Int) ≤ 1000) then decide ((↑(List.length (Stt.mem s)) : Int) ≤ 1000) else true then bif bif bif decide ((↑(List.length
 (Stt.mem s)) : Int) ≤ 1000) then decide ((↑(List.length (Stt.table s)) : Int) ≤ 64) else false then bif decide ((↑(List.length (Stt.mem s)) : Int) ≤ 1000) then decide
 ((↑(List.length (Stt.table s)) : Int) ≤ 64) else false else true then bif bif bif bif decide ((↑(List.length (Stt.mem s)) : Int) ≤ 1000) then decide ((↑(List.length
 (Stt.table s)) : Int) ≤ 64) else false then decide ((↑(List.length (Stt.saq s)) : Int) ≤ 64) else false then bif bif decide ((↑(List.length (Stt.mem s)) : Int) ≤
 1000) then decide ((↑(List.length (Stt.table s)) : Int) ≤ 64) else false then decide ((↑(List.length (Stt.saq s)) : Int) ≤ 64) else false else true then bif bif
 bif bif bif decide ((↑(List.length (Stt.mem s)) : Int) ≤ 1000) then decide ((↑(List.length (Stt.table s)) : Int) ≤ 64) else false then decide ((↑(List.length (Stt.saq
 s)) : Int) ≤ 64) else false then decide ((↑(List.length (Stt.ldq s)) : Int) ≤ 64) else false then bif bif bif decide ((↑(List.length (Stt.mem s)) : Int) ≤ 1000)
 then decide ((↑(List.length (Stt.table s)) : Int) ≤ 64) else false then decide ((↑(List.length (Stt.saq s)) : Int) ≤ 64) else false then decide ((↑(List.length (Stt.ldq
 s)) : Int) ≤ 64) else false else true then bif bif bif bif bif bif decide ((↑(List.length (Stt.mem s)) : Int) ≤ 1000) then decide ((↑(List.length (Stt.table s))
 : Int) ≤ 64) else false then decide ((↑(List.length (Stt.saq s)) : Int) ≤ 64) else false then decide ((↑(List.length (Stt.ldq s)) : Int) ≤ 64) else false then decide
 ((↑(List.length (Stt.writes s)) : Int) ≤ 100) else false then bif bif bif bif decide ((↑(List.length (Stt.mem s)) : Int) ≤ 1000) then decide ((↑(List.length (Stt.table
 s)) : Int) ≤ 64) else false then decide ((↑(List.length (Stt.saq s)) : Int) ≤ 64) else false then decide ((↑(List.length (Stt.ldq s)) : Int) ≤ 64) else false then
 decide ((↑(List.length (Stt.writes s)) : Int) ≤ 100) else false else true then bif bif bif bif bif bif bif decide ((↑(List.length (Stt.mem s)) : Int) ≤ 1000) then
 decide ((↑(List.length (Stt.table s)) : Int) ≤ 64) else false then decide ((↑(List.length (Stt.saq s)) : Int) ≤ 64) else false then decide ((↑(List.length (Stt.ldq
 s)) : Int) ≤ 64) else false then decide ((↑(List.length (Stt.writes s)) : Int) ≤ 100) else false then decide ((↑(List.length (Stt.sdq s)) : Int) ≤ 64) else false
 then bif bif bif bif bif decide ((↑(List.length (Stt.mem s)) : Int) ≤ 1000) then decide ((↑(List.length (Stt.table s)) : Int) ≤ 64) else false then decide ((↑(List.length
 (Stt.saq s)) : Int) ≤ 64) else false then decide ((↑(List.length (Stt.ldq s)) : Int) ≤ 64) else false then decide ((↑(List.length (Stt.writes s)) : Int) ≤ 100) else
 false then decide ((↑(List.length (Stt.sdq s)) : Int) ≤ 64) else false else true then bif bif bif bif bif bif bif bif decide ((↑(List.length (Stt.mem s)) : Int)
 ≤ 1000) then decide ((↑(List.length (Stt.table s)) : Int) ≤ 64) else false then decide ((↑(List.length (Stt.saq s)) : Int) ≤ 64) else false then decide ((↑(List.length
 (Stt.ldq s)) : Int) ≤ 64) else false then decide ((↑(List.length (Stt.writes s)) : Int) ≤ 100) else false then decide ((↑(List.length (Stt.sdq s)) : Int) ≤ 64) else
 false then decide ((↑(List.length (Stt.aeq s)) : Int) ≤ 64) else false then bif bif bif bif bif bif decide ((↑(List.length (Stt.mem s)) : Int) ≤ 1000) then decide
 ((↑(List.length (Stt.table s)) : Int) ≤ 64) else false then decide ((↑(List.length (Stt.saq s)) : Int) ≤ 64) else false then decide ((↑(List.length (Stt.ldq s))
 : Int) ≤ 64) else false then decide ((↑(List.length (Stt.writes s)) : Int) ≤ 100) else false then decide ((↑(List.length (Stt.sdq s)) : Int) ≤ 64) else false then
 decide ((↑(List.length (Stt.aeq s)) : Int) ≤ 64) else false else true then bif bif bif bif bif bif bif bif bif decide ((↑(List.length (Stt.mem s)) : Int) ≤ 1000)
 then decide ((↑(List.length (Stt.table s)) : Int) ≤ 64) else false then decide ((↑(List.length (Stt.saq s)) : Int) ≤ 64) else false then decide ((↑(List.length (Stt.ldq
 s)) : Int) ≤ 64) else false then decide ((↑(List.length (Stt.writes s)) : Int) ≤ 100) else false then decide ((↑(List.length (Stt.sdq s)) : Int) ≤ 64) else false
 then decide ((↑(List.length (Stt.aeq s)) : Int) ≤ 64) else false then decide ((↑(List.length (Stt.abq s)) : Int) ≤ 64) else false then bif bif bif bif bif bif bif
 decide ((↑(List.length (Stt.mem s)) : Int) ≤ 1000) then decide ((↑(List.length (Stt.table s)) : Int) ≤ 64) else false then decide ((↑(List.length (Stt.saq s)) :
 Int) ≤ 64) else false then decide ((↑(List.length (Stt.ldq s)) : Int) ≤ 64) else false then decide ((↑(List.length (Stt.writes s)) : Int) ≤ 100) else false then
 decide ((↑(List.length (Stt.sdq s)) : Int) ≤ 64) else false then decide ((↑(List.length (Stt.aeq s)) : Int) ≤ 64) else false then decide ((↑(List.length (Stt.abq
 s)) : Int) ≤ 64) else false else true then ResLe (.bool (bif bif bif bif bif bif bif bif decide ((↑(List.length (Stt.mem s)) : Int) ≤ 1000) then decide ((↑(List.length
 (Stt.table s)) : Int) ≤ 64) else false then decide ((↑(List.length (Stt.saq s)) : Int) ≤ 64) else false then decide ((↑(List.length (Stt.ldq s)) : Int) ≤ 64) else
 false then decide ((↑(List.length (Stt.writes s)) : Int) ≤ 100) else false then decide ((↑(List.length (Stt.sdq s)) : Int) ≤ 64) else false then decide ((↑(List.length
 (Stt.aeq s)) : Int) ≤ 64) else false then decide ((↑(List.length (Stt.abq s)) : Int) ≤ 64) else false then decide ((↑(List.length (Stt.ebq s)) : Int) ≤ 64) else
 false)) r else False else False else False else False else False else False else False
else False) := by kernel_rfl
theorem band (a b : Bool) : (bif a then b else false) = (a && b) := by cases a <;> rfl
theorem sk_few : SkOk Try.prog (13, fewS) := skOf_ok fun s _ => by
  refine pureR (u := 80) (k := 20) mix TF0ok ?_
  refine Eq.mpr (r_few s _) ?_
  simp only [pk_and, cond_true, band, Bool.and_assoc]
  exact .rfl
theorem few_ok {s : Stt} (hw : s.wf) (h : fewF s = true) : s.ok := by
  simp only [fewF, Bool.and_eq_true, decide_eq_true_eq] at h
  refine ⟨hw, ?_⟩
  omega
theorem u32R_wrap (x : Int) : u32R (IntKind.u32.wrap x) := by rw [wU32]; unfold u32R; omega
theorem u32R_msk {w n : Int} (h : u32R w) : u32R (mskI w n) := by
  unfold mskI
  split
  · exact u32R_wrap _
  split
  · exact u32R_wrap _
  split
  · exact h
  · exact ⟨by omega, by omega⟩
theorem i64R_0 : i64R 0 := ⟨by omega, by omega⟩
theorem send_ok {c : Cfg} {s : Stt} (h : s.ok) (hn : s.table.length ≤ 999999) : (sendF c s).ok := by
  unfold sendF
  split
  · rename_i hu
    simp only [canF, Bool.and_eq_true, decide_eq_true_eq] at hu
    have l8 : 0 < s.saq.length := List.length_pos_iff.2 hu.1
    have l4 : 0 < s.sdq.length := List.length_pos_iff.2 hu.2.2.1
    obtain ⟨⟨w0, w1, w2, w3, w4, w5, w6, w7, w8, w9, w10, w11, w12, w13, w14, w15⟩, o⟩ := h
    have he : (ix s.saq 0).wf := w8.1 _ (ix_mem l8)
    have hm : u32R (mskI (ix s.sdq 0) (ix s.saq 0).size) := u32R_msk (w4.1 _ (ix_mem l4))
    have ho : i64R (opI (ix s.saq 0).size) := by
      unfold opI
      split
      · exact ⟨by omega, by omega⟩
      split
      · exact ⟨by omega, by omega⟩
      · exact ⟨by omega, by omega⟩
    have t4 : (sendG s).sdq.length = s.sdq.length - 1 := by simp [sendG]
    have t8 : (sendG s).saq.length = s.saq.length := by simp [sendG]
    have t9 : (sendG s).table.length = s.table.length + 1 := by simp [sendG]
    refine ⟨⟨w0, w1, w2, w3, ⟨fun x hx => w4.1 x (List.mem_of_mem_tail hx), by rw [t4]; omega⟩, w5, w6, w7, ⟨fun x hx => ?_, by rw [t8]; omega⟩, ⟨fun x hx => ?_, by rw [t9]; omega⟩, w10, w11, w12, w13, w14, w15⟩, ?_⟩
    · rcases List.mem_or_eq_of_mem_set hx with hx | rfl
      · exact w8.1 x hx
      · exact ⟨he.1, he.2.1, he.2.2.1, hm⟩
    · rcases List.mem_append.1 hx with hx | hx
      · exact w9.1 x hx
      · simp only [List.mem_singleton] at hx
        subst hx
        exact ⟨ho, he.1, he.2.1, hm, i64R_0, i64R_0, i64R_0⟩
    · rw [t4, t8, t9]
      show s.ldq.length ≤ 1000000 ∧ s.sdq.length - 1 ≤ 1000000 ∧ s.aeq.length ≤ 1000000 ∧ s.abq.length ≤ 1000000 ∧ s.ebq.length ≤ 1000000 ∧ s.saq.length ≤ 1000000 ∧ s.table.length + 1 ≤ 1000000 ∧ s.mem.length ≤ 1000000 ∧ s.writes.length ≤ 1000000
      omega
  · exact h
end Go.Proofs.Ytbemlndjdbopeaa

