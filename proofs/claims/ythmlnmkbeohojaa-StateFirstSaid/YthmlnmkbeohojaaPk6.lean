/- Texts put together. -/
import Derived.Test.YthmlnmkbeohojaaPk5
/- Which sides, queues, stores may be. -/
namespace Go.Proofs.Ythmlnmkbeohojaa
open Go.Ra
set_option linter.unusedVariables false
set_option linter.unusedSimpArgs false
def cellsF (s : Split) (onE : Bool) (b : Int) : List Cell := if onE then (ix s.blocks b.toNat).e else (ix s.blocks b.toNat).a
/-- May a side be? -/
def sideOk (s : Split) (onE : Bool) (d : Side) : Bool := decide (0 ≤ d.pos.block ∧ d.pos.block < s.blocks.length) && (withinF 0 (cellsF s onE d.pos.block).length [d.pos.index] && (withinF 0 1099511627776 [d.pos.base, d.wait, d.done] && withinF (-1) 1099511627776 (tabL 16 d.ready)))
def TL0 : Tab := mkT2 qq (cl_state ++ cl_slices) [] [] [(23, wnS), (59, plS), (62, reqS)] []
def rqSt (x : Stt) (i : Nat) : XSt := ⟨[(0, e_row 8 e_Req x.table), (1, .clo 61 [.fptr (e_Stt x)]), (8, .int .i64 i), (7, .int .i64 x.table.length)], [], 0⟩
def sidS : List XV → Option ((XV → Prop) → Prop) := skOf (fun q : Split × Bool × Side => [e_Split q.1, e_Side q.2.2, .clo (bif q.2.1 then 32 else 31) []]) (fun q => True) (fun q => sideOk q.1 q.2.1 q.2.2) (fun y => .bool y)
/-- Are queues short enough? -/
def quesF (c : Cfg) (x : Stt) : Bool := decide ((x.ldq.length : Int) ≤ c.ldq) && (decide ((x.sdq.length : Int) ≤ c.sdq) && (decide ((x.aeq.length : Int) ≤ c.aeq) && (decide ((x.abq.length : Int) ≤ c.abq) && (decide ((x.ebq.length : Int) ≤ c.ebq) && (decide ((x.saq.length : Int) ≤ c.saq) && (decide ((x.table.length : Int) ≤ c.flight) && decide ((x.mem.length : Int) ≤ 65536)))))))
def queS : List XV → Option ((XV → Prop) → Prop) := skOf (fun q : Cfg × Stt => [e_Cfg q.1, e_Stt q.2]) (fun q => True) (fun q => quesF q.1 q.2) (fun y => .bool y)
/-- A request that may not be. -/
def badRq (x : Stt) (q : Req) : Bool := !reqOk q x.mem.length
def irqS : List XV → Option ((XV → Prop) → Prop) := skOf (fun x : Stt => [e_row 8 e_Req x.table, .clo 61 [.fptr (e_Stt x)]]) (fun x => x.ok) (fun x => idxF (badRq x) x.table) (fun y => .int .i64 y)
/-- Is a request, if it is a store, that of the first entry? -/
def fstSt (x : Stt) (q : Req) : Bool := !q.store || (decide (¬ x.saq.length = 0) && (decide (q.addr = (ix x.saq 0).addr) && decide (q.size = (ix x.saq 0).size)))
def cntSt (l : List Req) : Nat := l.countP (fun q => q.store)
def sentB (x : Stt) : Bool := x.table.all (fstSt x) && decide (cntSt x.table = if 0 < x.saq.length ∧ (ix x.saq 0).known = true then 1 else 0)
def senS : List XV → Option ((XV → Prop) → Prop) := skOf (fun x : Stt => [e_Stt x]) (fun x => x.ok) (fun x => sentB x) (fun y => .bool y)
def TL1 : Tab := mkT2 qq (cl_state ++ cl_slices) [] [] [(23, wnS), (59, plS), (84, irqS), (63, senS)] []
def entOk (x : Stt) (i : Nat) (e : Entry) : Bool := liesB e.addr e.size x.mem.length && (bigB e.step && !(e.known && decide (0 < i)))
def storesB (x : Stt) : Bool := allN (fun i => entOk x i (ix x.saq i)) x.saq.length && (x.table.all (fun q => reqOk q x.mem.length) && sentB x)
def stoS : List XV → Option ((XV → Prop) → Prop) := skOf (fun x : Stt => [e_Stt x]) (fun x => x.ok) (fun x => storesB x) (fun y => .bool y)
def TM0 : Tab := mkT2 qq cl_state [] [] [(11, cfgS), (23, wnS), (30, sidS), (33, queS), (34, stoS), (35, trpS)] []
/-- May a state be? -/
def rightStt (c : Cfg) (s : Split) (x : Stt) : Bool := rightCfg c && (sideOk s false x.a && (sideOk s true x.e && (withinF 0 1099511627776 [x.cycle, x.lats, x.picks, x.tags] && (quesF c x && (storesB x && trapOk x.trap)))))
def rigS : List XV → Option ((XV → Prop) → Prop) := skOf (fun q : Cfg × Split × Stt => [e_Cfg q.1, e_Split q.2.1, e_Stt q.2.2]) (fun q => q.2.2.ok) (fun q => rightStt q.1 q.2.1 q.2.2) (fun y => .bool y)
theorem TL0ok : TabOk Try.prog TL0 := mkT2_ok (clok_state.app clok_slices) trivial trivial ⟨sk_wn, sk_pl, sk_req, trivial⟩ trivial
theorem r_sd1 (s : Split) (d : Side) (r : XV) : (quietGo TL0 80 (callI TL0 80 20) 30 [e_Split s, e_Side d, .clo 31 []] (fun v => ResLe v r)) = (bif bif decide (Pos.block (Side.pos d) < 0) then true else !decide (Pos.block (Side.pos d) < 0) then bif bif decide (Pos.block (Side.pos d) < 0) then true else
 decide (Pos.block (Side.pos d) ≥ (↑(List.length (Split.blocks s)) : Int)) then ResLe (.bool false) r else bif decide (0 ≤ Pos.block (Side.pos d)) then bif decide
 (Pos.block (Side.pos d) < (↑(List.length (Split.blocks s)) : Int)) then ∃ (s_1 : Int × Int × List Int), ArgsLe [.int .i64 0, .int .i64 (↑(List.length (Block.a (ix
 (Split.blocks s) (Int.toNat (Pos.block (Side.pos d)))))) : Int), .row true 1 1 fun a => .int .i64 (Pos.index (Side.pos d))] [.int .i64 (Prod.fst s_1), .int .i64
 (Prod.fst (Prod.snd s_1)), e_row 1 e_i64 (Prod.snd (Prod.snd s_1))] ∧ PreIs (List.length (Prod.snd (Prod.snd s_1)) ≤ 1000000) ∧ ∀ (y : Bool), y = withinF (Prod.fst
 s_1) (Prod.fst (Prod.snd s_1)) (Prod.snd (Prod.snd s_1)) → bif y then ∃ (s : Int × Int × List Int), ArgsLe [.int .i64 0, .int .i64 1099511627776, .row true 1 3 fun
 a => .int .i64 (bif Nat.beq a 0 then Pos.base (Side.pos d) else bif Nat.beq (a - 1) 0 then Side.wait d else Side.done d)] [.int .i64 (Prod.fst s), .int .i64 (Prod.fst
 (Prod.snd s)), e_row 1 e_i64 (Prod.snd (Prod.snd s))] ∧ PreIs (List.length (Prod.snd (Prod.snd s)) ≤ 1000000) ∧ ∀ (y_1 : Bool), y_1 = withinF (Prod.fst s) (Prod.fst
 (Prod.snd s)) (Prod.snd (Prod.snd s)) → bif bif y then y_1 else false then ∃ (s : Int × Int × List Int), ArgsLe [.int .i64 (-1 : Int), .int .i64 1099511627776, .row
 false 1 16 fun i => .int .i64 (Side.ready d i)] [.int .i64 (Prod.fst s), .int .i64 (Prod.fst (Prod.snd s)), e_row 1 e_i64 (Prod.snd (Prod.snd s))] ∧ PreIs (List.length
 (Prod.snd (Prod.snd s)) ≤ 1000000) ∧ ∀ (y_2 : Bool), y_2 = withinF (Prod.fst s) (Prod.fst (Prod.snd s)) (Prod.snd (Prod.snd s)) → ResLe (.bool (bif bif y then y_1
 else false then y_2 else false)) r else bif !bif y then y_1 else false then ResLe (.bool false) r else False else bif !y then ResLe (.bool false) r else False else
 False else False
else False) := by kernel_rfl
theorem r_sd2 (s : Split) (d : Side) (r : XV) : (quietGo TL0 80 (callI TL0 80 20) 30 [e_Split s, e_Side d, .clo 32 []] (fun v => ResLe v r)) = (bif bif decide (Pos.block (Side.pos d) < 0) then true else !decide (Pos.block (Side.pos d) < 0) then bif bif decide (Pos.block (Side.pos d) < 0) then true else
 decide (Pos.block (Side.pos d) ≥ (↑(List.length (Split.blocks s)) : Int)) then ResLe (.bool false) r else bif decide (0 ≤ Pos.block (Side.pos d)) then bif decide
 (Pos.block (Side.pos d) < (↑(List.length (Split.blocks s)) : Int)) then ∃ (s_1 : Int × Int × List Int), ArgsLe [.int .i64 0, .int .i64 (↑(List.length (Block.e (ix
 (Split.blocks s) (Int.toNat (Pos.block (Side.pos d)))))) : Int), .row true 1 1 fun a => .int .i64 (Pos.index (Side.pos d))] [.int .i64 (Prod.fst s_1), .int .i64
 (Prod.fst (Prod.snd s_1)), e_row 1 e_i64 (Prod.snd (Prod.snd s_1))] ∧ PreIs (List.length (Prod.snd (Prod.snd s_1)) ≤ 1000000) ∧ ∀ (y : Bool), y = withinF (Prod.fst
 s_1) (Prod.fst (Prod.snd s_1)) (Prod.snd (Prod.snd s_1)) → bif y then ∃ (s : Int × Int × List Int), ArgsLe [.int .i64 0, .int .i64 1099511627776, .row true 1 3 fun
 a => .int .i64 (bif Nat.beq a 0 then Pos.base (Side.pos d) else bif Nat.beq (a - 1) 0 then Side.wait d else Side.done d)] [.int .i64 (Prod.fst s), .int .i64 (Prod.fst
 (Prod.snd s)), e_row 1 e_i64 (Prod.snd (Prod.snd s))] ∧ PreIs (List.length (Prod.snd (Prod.snd s)) ≤ 1000000) ∧ ∀ (y_1 : Bool), y_1 = withinF (Prod.fst s) (Prod.fst
 (Prod.snd s)) (Prod.snd (Prod.snd s)) → bif bif y then y_1 else false then ∃ (s : Int × Int × List Int), ArgsLe [.int .i64 (-1 : Int), .int .i64 1099511627776, .row
 false 1 16 fun i => .int .i64 (Side.ready d i)] [.int .i64 (Prod.fst s), .int .i64 (Prod.fst (Prod.snd s)), e_row 1 e_i64 (Prod.snd (Prod.snd s))] ∧ PreIs (List.length
 (Prod.snd (Prod.snd s)) ≤ 1000000) ∧ ∀ (y_2 : Bool), y_2 = withinF (Prod.fst s) (Prod.fst (Prod.snd s)) (Prod.snd (Prod.snd s)) → ResLe (.bool (bif bif y then y_1
 else false then y_2 else false)) r else bif !bif y then y_1 else false then ResLe (.bool false) r else False else bif !y then ResLe (.bool false) r else False else
 False else False
else False) := by kernel_rfl
theorem r_sent0 (x : Stt) (r : XV) : (goQ Try.prog TL0 [(.tmp 2)] r (.run c_state_sent) [] ⟨envX 0 [e_Stt x], [], 0⟩) = (LoopAt (Ok Try.prog (Tab.q TL0)) c_state_sent_l1 (XSt.mk [(9, .int .i64 0), (8, .int .i64 (↑(List.length (Stt.table x)) : Int)), (7, e_row 8 e_Req (Stt.table
 x)), (3, .int .i64 0), (2, .bool false), (1, .ptr 0 [] 0)] [(0, some (e_Stt x))] 1) [Frm.blk 0, Frm.seq c_state_sent_p1] (finQR [AR.tmp 2] r)) := by kernel_rfl
theorem r_sto0 (x : Stt) (r : XV) : (goQ Try.prog TL1 [(.tmp 2)] r (.run c_state_stores) [] ⟨envX 0 [e_Stt x], [], 0⟩) = (LoopAt (Ok Try.prog (Tab.q TL1)) c_state_stores_l1 (XSt.mk [(8, .int .i64 0), (7, .int .i64 (↑(List.length (Stt.saq x)) : Int)), (6, e_row 5 e_Entry (Stt.saq
 x)), (2, .bool false), (1, .ptr 0 [] 0)] [(0, some (e_Stt x))] 1) [Frm.blk 0, Frm.seq c_state_stores_p1] (finQR [AR.tmp 2] r)) := by kernel_rfl
theorem r_iq0 (x : Stt) (r : XV) : (goQ Try.prog TL0 [(.tmp 4)] r (.run c_slices_IndexFunc_Request_Request) [] ⟨envX 0 [e_row 8 e_Req x.table, .clo 61 [.fptr (e_Stt x)]], [], 0⟩) = (LoopAt (Ok Try.prog (Tab.q TL0)) c_slices_IndexFunc_Request_Request_l1 (XSt.mk [(8, .int .i64 0), (7, .int .i64 (↑(List.length (Stt.table x)) : Int)), (4, .int
 .i64 0), (0, e_row 8 e_Req (Stt.table x)), (1, .clo 61 [.fptr (e_Stt x)])] [] 0) [Frm.blk 0, Frm.seq c_slices_IndexFunc_Request_Request_p1] (finQR [AR.tmp 4] r))
 := by kernel_rfl
theorem r_iq1 (x : Stt) (i : Nat) (r : XV) (A : XSt → Prop) : (goQ Try.prog TL0 [(.tmp 4)] r (.run c_slices_IndexFunc_Request_Request_l1) [.lp c_slices_IndexFunc_Request_Request_l1 A, .blk 0, .seq c_slices_IndexFunc_Request_Request_p1] (rqSt x i)) = (bif decide ((↑i : Int) < (↑(List.length (Stt.table x)) : Int)) then bif decide ((↑i : Int) < (↑(List.length (Stt.table x)) : Int)) then ∃ (s : List Int × Req),
 ArgsLe [e_row 1 e_u8 (Stt.mem x), e_Req (ix (Stt.table x) i)] [e_row 1 e_u8 (Prod.fst s), e_Req (Prod.snd s)] ∧ PreIs (List.length (Prod.fst s) ≤ 1000000) ∧ ∀ (y
 : Bool), y = reqOk (Prod.snd s) (↑(List.length (Prod.fst s)) : Int) → bif !y then ResLe (.int .i64 (↑i : Int)) r else A (XSt.mk [(8, .int .i64 (IntKind.wrap .i64
 ((↑i : Int) + (1 : Int)))), (0, e_row 8 e_Req (Stt.table x)), (1, .clo 61 [.fptr (e_Stt x)]), (7, .int .i64 (↑(List.length (Stt.table x)) : Int))] [] 0) else False
else
 ResLe (.int .i64 (-1 : Int)) r) := by kernel_rfl
theorem r_que (c : Cfg) (x : Stt) (r : XV) : (quietGo TL0 80 (callI TL0 80 20) 33 [e_Cfg c, e_Stt x] (fun v => ResLe v r)) = (bif bif decide ((↑(List.length (Stt.ldq x)) : Int) ≤ Cfg.ldq c) then decide ((↑(List.length (Stt.ldq x)) : Int) ≤ Cfg.ldq c) else true then bif bif bif decide
 ((↑(List.length (Stt.ldq x)) : Int) ≤ Cfg.ldq c) then decide ((↑(List.length (Stt.sdq x)) : Int) ≤ Cfg.sdq c) else false then bif decide ((↑(List.length (Stt.ldq
 x)) : Int) ≤ Cfg.ldq c) then decide ((↑(List.length (Stt.sdq x)) : Int) ≤ Cfg.sdq c) else false else true then bif bif bif bif decide ((↑(List.length (Stt.ldq x))
 : Int) ≤ Cfg.ldq c) then decide ((↑(List.length (Stt.sdq x)) : Int) ≤ Cfg.sdq c) else false then decide ((↑(List.length (Stt.aeq x)) : Int) ≤ Cfg.aeq c) else false
 then bif bif decide ((↑(List.length (Stt.ldq x)) : Int) ≤ Cfg.ldq c) then decide ((↑(List.length (Stt.sdq x)) : Int) ≤ Cfg.sdq c) else false then decide ((↑(List.length
 (Stt.aeq x)) : Int) ≤ Cfg.aeq c) else false else true then bif bif bif bif bif decide ((↑(List.length (Stt.ldq x)) : Int) ≤ Cfg.ldq c) then decide ((↑(List.length
 (Stt.sdq x)) : Int) ≤ Cfg.sdq c) else false then decide ((↑(List.length (Stt.aeq x)) : Int) ≤ Cfg.aeq c) else false then decide ((↑(List.length (Stt.abq x)) : Int)
 ≤ Cfg.abq c) else false then bif bif bif decide ((↑(List.length (Stt.ldq x)) : Int) ≤ Cfg.ldq c) then decide ((↑(List.length (Stt.sdq x)) : Int) ≤ Cfg.sdq c) else
 false then decide ((↑(List.length (Stt.aeq x)) : Int) ≤ Cfg.aeq c) else false then decide ((↑(List.length (Stt.abq x)) : Int) ≤ Cfg.abq c) else false else true then
 bif bif bif bif bif bif decide ((↑(List.length (Stt.ldq x)) : Int) ≤ Cfg.ldq c) then decide ((↑(List.length (Stt.sdq x)) : Int) ≤ Cfg.sdq c) else false then decide
 ((↑(List.length (Stt.aeq x)) : Int) ≤ Cfg.aeq c) else false then decide ((↑(List.length (Stt.abq x)) : Int) ≤ Cfg.abq c) else false then decide ((↑(List.length (Stt.ebq
 x)) : Int) ≤ Cfg.ebq c) else false then bif bif bif bif decide ((↑(List.length (Stt.ldq x)) : Int) ≤ Cfg.ldq c) then decide ((↑(List.length (Stt.sdq x)) : Int) ≤
 Cfg.sdq c) else false then decide ((↑(List.length (Stt.aeq x)) : Int) ≤ Cfg.aeq c) else false then decide ((↑(List.length (Stt.abq x)) : Int) ≤ Cfg.abq c) else false
 then decide ((↑(List.length (Stt.ebq x)) : Int) ≤ Cfg.ebq c) else false else true then bif bif bif bif bif bif bif decide ((↑(List.length (Stt.ldq x)) : Int) ≤ Cfg.ldq
 c) then decide ((↑(List.length (Stt.sdq x)) : Int) ≤ Cfg.sdq c) else false then decide ((↑(List.length (Stt.aeq x)) : Int) ≤ Cfg.aeq c) else false then decide ((↑(List.length
 (Stt.abq x)) : Int) ≤ Cfg.abq c) else false then decide ((↑(List.length (Stt.ebq x)) : Int) ≤ Cfg.ebq c) else false then decide ((↑(List.length (Stt.saq x)) : Int)
 ≤ Cfg.saq c) else false then bif bif bif bif bif decide ((↑(List.length (Stt.ldq x)) : Int) ≤ Cfg.ldq c) then decide ((↑(List.length (Stt.sdq x)) : Int) ≤ Cfg.sdq
 c) else false then decide ((↑(List.length (Stt.aeq x)) : Int) ≤ Cfg.aeq c) else false then decide ((↑(List.length (Stt.abq x)) : Int) ≤ Cfg.abq c) else false then
 decide ((↑(List.length (Stt.ebq x)) : Int) ≤ Cfg.ebq c) else false then decide ((↑(List.length (Stt.saq x)) : Int) ≤ Cfg.saq c) else false else true then bif bif
 bif bif bif bif bif bif decide ((↑(List.length (Stt.ldq x)) : Int) ≤ Cfg.ldq c) then decide ((↑(List.length (Stt.sdq x)) : Int) ≤ Cfg.sdq c) else false then decide
 ((↑(List.length (Stt.aeq x)) : Int) ≤ Cfg.aeq c) else false then decide ((↑(List.length (Stt.abq x)) : Int) ≤ Cfg.abq c) else false then decide ((↑(List.length (Stt.ebq
 x)) : Int) ≤ Cfg.ebq c) else false then decide ((↑(List.length (Stt.saq x)) : Int) ≤ Cfg.saq c) else false then decide ((↑(List.length (Stt.table x)) : Int) ≤ Cfg.flight
 c) else false then bif bif bif bif bif bif decide ((↑(List.length (Stt.ldq x)) : Int) ≤ Cfg.ldq c) then decide ((↑(List.length (Stt.sdq x)) : Int) ≤ Cfg.sdq c) else
 false then decide ((↑(List.length (Stt.aeq x)) : Int) ≤ Cfg.aeq c) else false then decide ((↑(List.length (Stt.abq x)) : Int) ≤ Cfg.abq c) else false then decide
 ((↑(List.length (Stt.ebq x)) : Int) ≤ Cfg.ebq c) else false then decide ((↑(List.length (Stt.saq x)) : Int) ≤ Cfg.saq c) else false then decide ((↑(List.length (Stt.table
 x)) : Int) ≤ Cfg.flight c) else false else true then ResLe (.bool (bif bif bif bif bif bif bif decide ((↑(List.length (Stt.ldq x)) : Int) ≤ Cfg.ldq c) then decide
 ((↑(List.length (Stt.sdq x)) : Int) ≤ Cfg.sdq c) else false then decide ((↑(List.length (Stt.aeq x)) : Int) ≤ Cfg.aeq c) else false then decide ((↑(List.length (Stt.abq
 x)) : Int) ≤ Cfg.abq c) else false then decide ((↑(List.length (Stt.ebq x)) : Int) ≤ Cfg.ebq c) else false then decide ((↑(List.length (Stt.saq x)) : Int) ≤ Cfg.saq
 c) else false then decide ((↑(List.length (Stt.table x)) : Int) ≤ Cfg.flight c) else false then decide ((↑(List.length (Stt.mem x)) : Int) ≤ 65536) else false))
 r else False else False else False else False else False else False
else False) := by kernel_rfl
theorem r_sent1 (x : Stt) (i n : Nat) (r : XV) (A : XSt → Prop) : (goQ Try.prog TL0 [(.tmp 2)] r (.run c_state_sent_l1) [.lp c_state_sent_l1 A, .blk 0, .seq c_state_sent_p1] ⟨[(9, .int .i64 i), (8, .int .i64 x.table.length), (7, e_row 8 e_Req x.table), (3, .int .i64 n), (1, .ptr 0 [] 0)], [(0, some (e_Stt x))], 1⟩) = (bif decide ((↑i : Int) < (↑(List.length (Stt.table x)) : Int)) then bif decide ((↑i : Int) < (↑(List.length (Stt.table x)) : Int)) then bif !Req.store (ix (Stt.table
 x) i) then A (XSt.mk [(9, .int .i64 (IntKind.wrap .i64 ((↑i : Int) + (1 : Int)))), (8, .int .i64 (↑(List.length (Stt.table x)) : Int)), (7, e_row 8 e_Req (Stt.table
 x)), (3, .int .i64 (↑n : Int)), (1, .ptr 0 [] 0)] [(1, some (e_Req (ix (Stt.table x) i))), (0, some (e_Stt x))] 2) else bif bif decide (0 < (↑(List.length (Stt.saq
 x)) : Int)) then true else !!decide ((↑(List.length (Stt.saq x)) : Int) = 0) then bif bif decide ((↑(List.length (Stt.saq x)) : Int) = 0) then true else !decide
 ((↑(List.length (Stt.saq x)) : Int) = 0) then bif bif decide (0 < (↑(List.length (Stt.saq x)) : Int)) then true else !!bif decide ((↑(List.length (Stt.saq x)) :
 Int) = 0) then true else decide ¬Req.addr (ix (Stt.table x) i) = Entry.addr (ix (Stt.saq x) 0) then bif bif bif decide ((↑(List.length (Stt.saq x)) : Int) = 0) then
 true else decide ¬Req.addr (ix (Stt.table x) i) = Entry.addr (ix (Stt.saq x) 0) then true else !bif decide ((↑(List.length (Stt.saq x)) : Int) = 0) then true else
 decide ¬Req.addr (ix (Stt.table x) i) = Entry.addr (ix (Stt.saq x) 0) then bif bif bif decide ((↑(List.length (Stt.saq x)) : Int) = 0) then true else decide ¬Req.addr
 (ix (Stt.table x) i) = Entry.addr (ix (Stt.saq x) 0) then true else decide ¬Req.size (ix (Stt.table x) i) = Entry.size (ix (Stt.saq x) 0) then ResLe (.bool false)
 r else A (XSt.mk [(9, .int .i64 (IntKind.wrap .i64 ((↑i : Int) + (1 : Int)))), (3, .int .i64 (IntKind.wrap .i64 ((↑n : Int) + (1 : Int)))), (8, .int .i64 (↑(List.length
 (Stt.table x)) : Int)), (7, e_row 8 e_Req (Stt.table x)), (1, .ptr 0 [] 0)] [(1, some (e_Req (ix (Stt.table x) i))), (0, some (e_Stt x))] 2) else False else False
 else False else False else False
else bif bif decide (0 < (↑(List.length (Stt.saq x)) : Int)) then true else !decide ((↑(List.length (Stt.saq x)) : Int) > 0) then
 bif bif decide ((↑(List.length (Stt.saq x)) : Int) > 0) then decide ((↑(List.length (Stt.saq x)) : Int) > 0) else true then bif bif decide ((↑(List.length (Stt.saq
 x)) : Int) > 0) then Entry.known (ix (Stt.saq x) 0) else false then ResLe (.bool (decide ((↑n : Int) = 1))) r else ResLe (.bool (decide ((↑n : Int) = 0))) r else
 False else False) := by kernel_rfl
theorem r_sto1 (x : Stt) (i : Nat) (r : XV) (A : XSt → Prop) : (goQ Try.prog TL1 [(.tmp 2)] r (.run c_state_stores_l1) [.lp c_state_stores_l1 A, .blk 0, .seq c_state_stores_p1] ⟨[(8, .int .i64 i), (7, .int .i64 x.saq.length), (6, e_row 5 e_Entry x.saq), (1, .ptr 0 [] 0)], [(0, some (e_Stt x))], 1⟩) = (bif decide ((↑i : Int) < (↑(List.length (Stt.saq x)) : Int)) then bif decide ((↑i : Int) < (↑(List.length (Stt.saq x)) : Int)) then ∃ (s : List Int × Int × Int),
 ArgsLe [e_row 1 e_u8 (Stt.mem x), .int .i64 (Entry.addr (ix (Stt.saq x) i)), .int .i64 (Entry.size (ix (Stt.saq x) i))] [e_row 1 e_u8 (Prod.fst s), .int .i64 (Prod.fst
 (Prod.snd s)), .int .i64 (Prod.snd (Prod.snd s))] ∧ PreIs (List.length (Prod.fst s) ≤ 1000000) ∧ ∀ (y : Bool), y = liesB (Prod.fst (Prod.snd s)) (Prod.snd (Prod.snd
 s)) (↑(List.length (Prod.fst s)) : Int) → bif !!y then ∃ (s : Int × Int × List Int), ArgsLe [.int .i64 0, .int .i64 1099511627776, .row true 1 1 fun a => .int .i64
 (Entry.step (ix (Stt.saq x) i))] [.int .i64 (Prod.fst s), .int .i64 (Prod.fst (Prod.snd s)), e_row 1 e_i64 (Prod.snd (Prod.snd s))] ∧ PreIs (List.length (Prod.snd
 (Prod.snd s)) ≤ 1000000) ∧ ∀ (y_1 : Bool), y_1 = withinF (Prod.fst s) (Prod.fst (Prod.snd s)) (Prod.snd (Prod.snd s)) → bif bif !bif !y then true else !y_1 then
 true else !!bif !y then true else !y_1 then bif bif bif Entry.known (ix (Stt.saq x) i) then bif !bif !y then true else !y_1 then Entry.known (ix (Stt.saq x) i) else
 false else true then true else !!bif !y then true else !y_1 then bif bif bif !y then true else !y_1 then true else !bif !y then true else !y_1 then bif bif bif !y
 then true else !y_1 then true else bif Entry.known (ix (Stt.saq x) i) then decide ((↑i : Int) > 0) else false then ResLe (.bool false) r else A (XSt.mk [(8, .int
 .i64 (IntKind.wrap .i64 ((↑i : Int) + (1 : Int)))), (7, .int .i64 (↑(List.length (Stt.saq x)) : Int)), (6, e_row 5 e_Entry (Stt.saq x)), (1, .ptr 0 [] 0)] [(1, some
 (e_Entry (ix (Stt.saq x) i))), (0, some (e_Stt x))] 2) else False else False else False else bif !y then bif bif bif Entry.known (ix (Stt.saq x) i) then false else
 true then true else true then ResLe (.bool false) r else False else False else False
else ∃ (s : Stt), ArgsLe [e_row 8 e_Req (Stt.table x), .clo 61 [.fptr (e_Stt
 x)]] [e_row 8 e_Req (Stt.table s), .clo 61 [.fptr (e_Stt s)]] ∧ PreIs (Stt.ok s) ∧ ∀ (y : Int), y = idxF (badRq s) (Stt.table s) → bif !decide (y ≥ 0) then ∃ (s
 : Stt), ArgsLe [e_Stt x] [e_Stt s] ∧ PreIs (Stt.ok s) ∧ ∀ (y_1 : Bool), y_1 = sentB s → ResLe (.bool (bif !decide (y ≥ 0) then y_1 else false)) r else bif !!decide
 (y ≥ 0) then ResLe (.bool false) r else False) := by kernel_rfl
theorem w_big {n : Int} : withinF 0 1099511627776 [n] = bigB n := w1F
theorem sk_sSide : SkOk Try.prog (30, sidS) := skOf_ok fun ⟨s, e, d⟩ _ => by
  have key : ∀ b : Int, ¬ (0 ≤ b ∧ b < s.blocks.length) → (decide (b < 0) || decide (b ≥ (s.blocks.length : Int))) = true := fun b h => by
    rw [Bool.or_eq_true, decide_eq_true_eq, decide_eq_true_eq]; omega
  cases e with
  | false =>
    show Pure _ _ (cons [e_Split s, e_Side d, .clo 31 []]) (con (.bool (sideOk s false d)))
    refine pureR (u := 80) (k := 20) mix TL0ok ?_
    refine Eq.mpr (r_sd1 s d _) ?_
    simp only [g1, g2, g3, g4, g5, g6, g7, allN_true, cond_true, Nat.le_refl, decide_true, pl_eq]
    simp only [bor, band]
    unfold sideOk
    by_cases hb : 0 ≤ d.pos.block ∧ d.pos.block < s.blocks.length
    case neg =>
      rw [key _ hb, decide_eq_false hb]
      exact .rfl
    obtain ⟨b1, b2⟩ := hb
    have b3 : ¬ d.pos.block < 0 := by omega
    have b4 : ¬ d.pos.block ≥ (s.blocks.length : Int) := by omega
    simp only [b1, b2, b3, b4, and_self, decide_true, decide_false, Bool.or_self, cond_true, cond_false, Bool.true_and]
    refine ⟨(0, ((ix s.blocks d.pos.block.toNat).a.length : Int), [d.pos.index]), ⟨lqs_cons (.refl _) (lqs_cons (.refl _) (lqs_cons (lq_lit1 (.refl _)) lqs_nil))⟩, ⟨by show 1 ≤ 1000000; omega⟩, ?_⟩
    intro y hy
    replace hy : y = withinF 0 (cellsF s false d.pos.block).length [d.pos.index] := hy
    rw [← hy]
    clear hy
    cases y with
    | false => exact .rfl
    | true =>
    refine ⟨(0, 1099511627776, [d.pos.base, d.wait, d.done]), ⟨lqs_cons (.refl _) (lqs_cons (.refl _) (lqs_cons (lq_lit3 (.refl _) (.refl _) (.refl _)) lqs_nil))⟩, ⟨by show 3 ≤ 1000000; omega⟩, ?_⟩
    intro y hy
    replace hy : y = withinF 0 1099511627776 [d.pos.base, d.wait, d.done] := hy
    rw [← hy]
    clear hy
    cases y with
    | false => exact .rfl
    | true =>
    refine ⟨(-1, 1099511627776, tabL 16 d.ready), ⟨lqs_cons (.refl _) (lqs_cons (.refl _) (lqs_cons (lq_lit tabL_len.symm fun _ i hi => ?_) lqs_nil))⟩, ⟨by show (tabL 16 d.ready).length ≤ 1000000; rw [tabL_len]; omega⟩, ?_⟩
    · rw [ix_tabL hi]; rfl
    intro y hy
    replace hy : y = withinF (-1) 1099511627776 (tabL 16 d.ready) := hy
    rw [← hy]
    clear hy
    cases y <;> exact .rfl
  | true =>
    show Pure _ _ (cons [e_Split s, e_Side d, .clo 32 []]) (con (.bool (sideOk s true d)))
    refine pureR (u := 80) (k := 20) mix TL0ok ?_
    refine Eq.mpr (r_sd2 s d _) ?_
    simp only [g1, g2, g3, g4, g5, g6, g7, allN_true, cond_true, Nat.le_refl, decide_true, pl_eq]
    simp only [bor, band]
    unfold sideOk
    by_cases hb : 0 ≤ d.pos.block ∧ d.pos.block < s.blocks.length
    case neg =>
      rw [key _ hb, decide_eq_false hb]
      exact .rfl
    obtain ⟨b1, b2⟩ := hb
    have b3 : ¬ d.pos.block < 0 := by omega
    have b4 : ¬ d.pos.block ≥ (s.blocks.length : Int) := by omega
    simp only [b1, b2, b3, b4, and_self, decide_true, decide_false, Bool.or_self, cond_true, cond_false, Bool.true_and]
    refine ⟨(0, ((ix s.blocks d.pos.block.toNat).e.length : Int), [d.pos.index]), ⟨lqs_cons (.refl _) (lqs_cons (.refl _) (lqs_cons (lq_lit1 (.refl _)) lqs_nil))⟩, ⟨by show 1 ≤ 1000000; omega⟩, ?_⟩
    intro y hy
    replace hy : y = withinF 0 (cellsF s true d.pos.block).length [d.pos.index] := hy
    rw [← hy]
    clear hy
    cases y with
    | false => exact .rfl
    | true =>
    refine ⟨(0, 1099511627776, [d.pos.base, d.wait, d.done]), ⟨lqs_cons (.refl _) (lqs_cons (.refl _) (lqs_cons (lq_lit3 (.refl _) (.refl _) (.refl _)) lqs_nil))⟩, ⟨by show 3 ≤ 1000000; omega⟩, ?_⟩
    intro y hy
    replace hy : y = withinF 0 1099511627776 [d.pos.base, d.wait, d.done] := hy
    rw [← hy]
    clear hy
    cases y with
    | false => exact .rfl
    | true =>
    refine ⟨(-1, 1099511627776, tabL 16 d.ready), ⟨lqs_cons (.refl _) (lqs_cons (.refl _) (lqs_cons (lq_lit tabL_len.symm fun _ i hi => ?_) lqs_nil))⟩, ⟨by show (tabL 16 d.ready).length ≤ 1000000; rw [tabL_len]; omega⟩, ?_⟩
    · rw [ix_tabL hi]; rfl
    intro y hy
    replace hy : y = withinF (-1) 1099511627776 (tabL 16 d.ready) := hy
    rw [← hy]
    clear hy
    cases y <;> exact .rfl
theorem sk_que : SkOk Try.prog (33, queS) := skOf_ok fun ⟨c, x⟩ _ => by
  show Pure _ _ (cons [e_Cfg c, e_Stt x]) (con (.bool (quesF c x)))
  refine pureR (u := 80) (k := 20) mix TL0ok ?_
  refine Eq.mpr (r_que c x _) ?_
  simp only [g1, g2, g3, g4, g5, g6, g7, allN_true, cond_true, Nat.le_refl, decide_true, pl_eq]
  simp only [band]
  refine resB ?_
  unfold quesF
  simp only [Bool.and_assoc]
theorem sk_irq : SkOk Try.prog (84, irqS) := skOf_ok fun x h => by
  have ho : x.ok := h
  have hl : x.table.length ≤ 1000000 := ho.2.2.2.2.2.2.2.1
  have hm : x.mem.length ≤ 1000000 := ho.2.2.2.2.2.2.2.2.1
  show Pure _ _ (cons [e_row 8 e_Req x.table, .clo 61 [.fptr (e_Stt x)]]) (con (.int .i64 (idxF (badRq x) x.table)))
  refine pureQ mix TL0ok t_slices_IndexFunc_Request_Request (Nat.le_of_ble_eq_true rfl) ?_
  refine Eq.mpr (r_iq0 x _) ?_
  refine loopQ mix TL0ok (fun i : Nat => rqSt x i) (fun i => i ≤ x.table.length ∧ ∀ j, j < i → badRq x (ix x.table j) = false) (fun i => x.table.length - i) 0 ⟨Nat.zero_le _, fun j hj => by omega⟩ (.of (weakX ⟨rfl, rfl, rfl, rfl, trivial⟩ trivial (Nat.le_refl _))) ?_
  rintro i ⟨hi1, hp⟩
  refine Eq.mpr (r_iq1 x i _ _) ?_
  by_cases hlt : i < x.table.length
  · have h1 : (i : Int) < (x.table.length : Int) := by omega
    have w1 : IntKind.i64.wrap ((i : Int) + 1) = ((i + 1 : Nat) : Int) := wrap_i64 (by omega) (by omega)
    simp only [g1, g2, g3, g4, g5, g6, g7, allN_true, cond_true, Nat.le_refl, decide_true, pl_eq, h1, w1]
    refine ⟨(x.mem, ix x.table i), .rfl, ⟨hm⟩, ?_⟩
    intro y hy
    replace hy : y = reqOk (ix x.table i) x.mem.length := hy
    subst hy
    refine cnd2 (fun h => ?_) (fun h => ?_)
    · have e : idxF (badRq x) x.table = i := idxF_some hlt h hp
      rw [e]; exact .rfl
    · refine ⟨i + 1, ⟨hlt, fun j hj => ?_⟩, .of (weakX ⟨rfl, rfl, rfl, rfl, trivial⟩ trivial (Nat.le_refl _)), by omega⟩
      by_cases hji : j = i
      · subst hji; exact h
      · exact hp j (by omega)
  · have h1 : ¬ (i : Int) < (x.table.length : Int) := by omega
    simp only [h1, decide_false, cond_false]
    have e : idxF (badRq x) x.table = -1 := idxF_none fun j hj => hp j (by omega)
    rw [e]; exact .rfl
theorem cnt_step {l : List Req} {i : Nat} (h : i < l.length) : cntSt (l.take (i + 1)) = cntSt (l.take i) + if (ix l i).store then 1 else 0 := by
  unfold cntSt
  rw [List.take_succ_eq_append_getElem h, List.countP_append, ix_lt h]
  simp [List.countP_cons]
theorem all_ix {α : Type} [Inhabited α] {l : List α} {p : α → Bool} : l.all p = true ↔ ∀ j, j < l.length → p (ix l j) = true := by
  rw [List.all_eq_true]
  constructor
  · exact fun h j hj => h _ (ix_mem hj)
  · intro h y hy
    obtain ⟨j, hj, rfl⟩ := List.mem_iff_getElem.1 hy
    have := h j hj
    rwa [ix_lt hj] at this
theorem all_no {α : Type} [Inhabited α] {l : List α} {p : α → Bool} {j : Nat} (hj : j < l.length) (h : p (ix l j) = false) : l.all p = false := by
  rw [← Bool.not_eq_true, all_ix]
  intro g
  rw [g j hj] at h
  cases h
theorem sk_sent : SkOk Try.prog (63, senS) := skOf_ok fun x h => by
  have ho : x.ok := h
  have hl : x.table.length ≤ 1000000 := ho.2.2.2.2.2.2.2.1
  show Pure _ _ (cons [e_Stt x]) (con (.bool (sentB x)))
  refine pureQ mix TL0ok t_state_sent (Nat.le_of_ble_eq_true rfl) ?_
  refine Eq.mpr (r_sent0 x _) ?_
  refine loopQ mix TL0ok (fun i : Nat => ⟨[(9, .int .i64 i), (8, .int .i64 x.table.length), (7, e_row 8 e_Req x.table), (3, .int .i64 (cntSt (x.table.take i))), (1, .ptr 0 [] 0)], [(0, some (e_Stt x))], 1⟩) (fun i => i ≤ x.table.length ∧ ∀ j, j < i → fstSt x (ix x.table j) = true) (fun i => x.table.length - i) 0 ⟨Nat.zero_le _, fun j hj => by omega⟩ (.of (weakX ⟨rfl, rfl, rfl, rfl, rfl, trivial⟩ ⟨rfl, trivial⟩ (Nat.le_refl _))) ?_
  rintro i ⟨hi1, hp⟩
  refine Eq.mpr (r_sent1 x i _ _ _) ?_
  have hc : cntSt (x.table.take i) ≤ 1000000 := by
    have : cntSt (x.table.take i) ≤ (x.table.take i).length := List.countP_le_length
    have := List.length_take_le i x.table
    omega
  have zz : ((x.saq.length : Int) = 0) ↔ x.saq.length = 0 := by omega
  by_cases hlt : i < x.table.length
  · have h1 : (i : Int) < (x.table.length : Int) := by omega
    have w1 : IntKind.i64.wrap ((i : Int) + 1) = ((i + 1 : Nat) : Int) := wrap_i64 (by omega) (by omega)
    have w2 : IntKind.i64.wrap ((cntSt (x.table.take i) : Int) + 1) = ((cntSt (x.table.take i) + 1 : Nat) : Int) := wrap_i64 (by omega) (by omega)
    have st := cnt_step hlt
    simp only [g1, g2, g3, g4, g5, g6, g7, allN_true, cond_true, Nat.le_refl, decide_true, pl_eq, h1, w1, w2]
    have nx : fstSt x (ix x.table i) = true → ∀ j, j < i + 1 → fstSt x (ix x.table j) = true := fun h j hj => by
      by_cases hji : j = i
      · subst hji; exact h
      · exact hp j (by omega)
    cases hs : (ix x.table i).store with
    | false =>
      simp only [Bool.not_false, cond_true]
      rw [hs] at st
      refine ⟨i + 1, ⟨hlt, nx (by unfold fstSt; rw [hs]; rfl)⟩, ?_, by omega⟩
      rw [st]
      exact .ofL (weakT ⟨le_is rfl, le_is rfl, le_is rfl, le_is rfl, le_is rfl, trivial⟩ ⟨rfl, trivial⟩ (Nat.le_refl _) rfl)
    | true =>
      simp only [Bool.not_true, cond_false]
      rw [hs] at st
      have bad : fstSt x (ix x.table i) = false → sentB x = false := fun h => by
        unfold sentB
        rw [all_no hlt h]; rfl
      by_cases hz : x.saq.length = 0
      · have hz' : (x.saq.length : Int) = 0 := by omega
        have hz2 : ¬ (0 : Int) < (x.saq.length : Int) := by omega
        rw [bad (by unfold fstSt; rw [hs]; simp [hz])]
        simp only [hz', hz2, decide_true, decide_false, cond_true, cond_false, Bool.not_true, Bool.not_false, bor, Bool.true_or, Bool.or_true]
        exact .rfl
      · have hz' : ¬ (x.saq.length : Int) = 0 := by omega
        have hz2 : (0 : Int) < (x.saq.length : Int) := by omega
        simp only [hz', hz2, decide_true, decide_false, cond_true, cond_false, Bool.not_true, Bool.not_false, bor, Bool.true_or, Bool.or_true, Bool.false_or, Bool.or_not_self]
        refine cnd2 (fun h => ?_) (fun h => ?_)
        · rw [bad (by
            unfold fstSt
            rw [hs, decide_eq_true hz]
            simp only [decide_not, Bool.or_eq_true, Bool.not_eq_true', decide_eq_false_iff_not] at h
            rcases h with h | h <;> simp [h])]
          exact .rfl
        · refine ⟨i + 1, ⟨hlt, nx ?_⟩, ?_, by omega⟩
          · unfold fstSt
            rw [hs, decide_eq_true hz]
            simp only [decide_not, Bool.or_eq_false_iff, Bool.not_eq_false', decide_eq_true_eq] at h
            simp [h.1, h.2]
          · rw [st]
            exact .ofL (weakT ⟨le_is rfl, le_is rfl, le_is rfl, le_is rfl, le_is rfl, trivial⟩ ⟨rfl, trivial⟩ (Nat.le_refl _) rfl)
  · have h1 : ¬ (i : Int) < (x.table.length : Int) := by omega
    obtain rfl : i = x.table.length := by omega
    have ha : x.table.all (fstSt x) = true := all_ix.2 hp
    simp only [h1, decide_false, cond_false, g1, g2, g3, g4, g5, g6, g7, allN_true, cond_true, Nat.le_refl, decide_true, pl_eq]
    unfold sentB
    rw [ha, List.take_length]
    by_cases hz : 0 < x.saq.length
    · have hz2 : (0 : Int) < (x.saq.length : Int) := by omega
      have hz3 : (x.saq.length : Int) > 0 := hz2
      simp only [hz2, hz3, decide_true, cond_true, Bool.not_true, hz, true_and, Bool.true_and]
      refine cnd2 (fun h => ?_) (fun h => ?_)
      · rw [if_pos h]
        exact resB (decide_eq_decide.2 (by omega))
      · rw [if_neg (by rw [h]; simp)]
        exact resB (decide_eq_decide.2 (by omega))
    · have hz2 : ¬ (0 : Int) < (x.saq.length : Int) := by omega
      have hz3 : ¬ (x.saq.length : Int) > 0 := hz2
      simp only [hz2, hz3, decide_false, cond_false, cond_true, Bool.not_false, hz, false_and, if_false, Bool.true_and]
      exact resB (decide_eq_decide.2 (by omega))
theorem TL1ok : TabOk Try.prog TL1 := mkT2_ok (clok_state.app clok_slices) trivial trivial ⟨sk_wn, sk_pl, sk_irq, sk_sent, trivial⟩ trivial
theorem sk_stores : SkOk Try.prog (34, stoS) := skOf_ok fun x h => by
  have ho : x.ok := h
  have hl : x.saq.length ≤ 1000000 := ho.2.2.2.2.2.2.1
  have hm : x.mem.length ≤ 1000000 := ho.2.2.2.2.2.2.2.2.1
  show Pure _ _ (cons [e_Stt x]) (con (.bool (storesB x)))
  refine pureQ mix TL1ok t_state_stores (Nat.le_of_ble_eq_true rfl) ?_
  refine Eq.mpr (r_sto0 x _) ?_
  refine loopQ mix TL1ok (fun i : Nat => ⟨[(8, .int .i64 i), (7, .int .i64 x.saq.length), (6, e_row 5 e_Entry x.saq), (1, .ptr 0 [] 0)], [(0, some (e_Stt x))], 1⟩) (fun i => i ≤ x.saq.length ∧ ∀ j, j < i → entOk x j (ix x.saq j) = true) (fun i => x.saq.length - i) 0 ⟨Nat.zero_le _, fun j hj => by omega⟩ (.of (weakX ⟨rfl, rfl, rfl, rfl, trivial⟩ ⟨rfl, trivial⟩ (Nat.le_refl _))) ?_
  rintro i ⟨hi1, hp⟩
  refine Eq.mpr (r_sto1 x i _ _) ?_
  by_cases hlt : i < x.saq.length
  · have h1 : (i : Int) < (x.saq.length : Int) := by omega
    have w1 : IntKind.i64.wrap ((i : Int) + 1) = ((i + 1 : Nat) : Int) := wrap_i64 (by omega) (by omega)
    have bad : entOk x i (ix x.saq i) = false → storesB x = false := fun h => by
      unfold storesB
      rw [allN_false hlt h]; rfl
    have nx : entOk x i (ix x.saq i) = true → ∃ j, (j ≤ x.saq.length ∧ ∀ k, k < j → entOk x k (ix x.saq k) = true) ∧ WeakE 1 (XSt.st (XSt.mk [(8, .int .i64 ((i + 1 : Nat) : Int)), (7, .int .i64 x.saq.length), (6, e_row 5 e_Entry x.saq), (1, .ptr 0 [] 0)] [(1, some (e_Entry (ix x.saq i))), (0, some (e_Stt x))] 2)) (XSt.st (XSt.mk [(8, .int .i64 (j : Nat)), (7, .int .i64 x.saq.length), (6, e_row 5 e_Entry x.saq), (1, .ptr 0 [] 0)] [(0, some (e_Stt x))] 1)) ∧ x.saq.length - j < x.saq.length - i := fun h => by
      refine ⟨i + 1, ⟨hlt, fun j hj => ?_⟩, .ofL (weakT ⟨le_is rfl, le_is rfl, le_is rfl, le_is rfl, trivial⟩ ⟨rfl, trivial⟩ (Nat.le_refl _) rfl), by omega⟩
      by_cases hji : j = i
      · subst hji; exact h
      · exact hp j (by omega)
    have ed : decide ((i : Int) > 0) = decide (0 < i) := decide_eq_decide.2 (by omega)
    simp only [h1, w1, decide_true, cond_true, ed]
    refine ⟨(x.mem, (ix x.saq i).addr, (ix x.saq i).size), .rfl, ⟨hm⟩, ?_⟩
    intro y hy
    replace hy : y = liesB (ix x.saq i).addr (ix x.saq i).size x.mem.length := hy
    have e0 : entOk x i (ix x.saq i) = (y && (bigB (ix x.saq i).step && !((ix x.saq i).known && decide (0 < i)))) := by rw [hy]; rfl
    clear hy
    cases y with
    | false =>
      rw [bad e0]
      cases (ix x.saq i).known <;> exact .rfl
    | true =>
    refine ⟨(0, 1099511627776, [(ix x.saq i).step]), ⟨lqs_cons (.refl _) (lqs_cons (.refl _) (lqs_cons (lq_lit1 (.refl _)) lqs_nil))⟩, ⟨by show 1 ≤ 1000000; omega⟩, ?_⟩
    intro y hy
    replace hy : y = withinF 0 1099511627776 [(ix x.saq i).step] := hy
    rw [w_big] at hy
    rw [← hy] at e0
    clear hy
    cases y with
    | false =>
      rw [bad e0]
      cases (ix x.saq i).known <;> exact .rfl
    | true =>
      cases hk : (ix x.saq i).known with
      | false => rw [hk] at e0; exact nx e0
      | true =>
        rw [hk] at e0
        cases hd : decide (0 < i) with
        | false => rw [hd] at e0; exact nx e0
        | true => rw [hd] at e0; rw [bad e0]; exact .rfl
  · have h1 : ¬ (i : Int) < (x.saq.length : Int) := by omega
    obtain rfl : i = x.saq.length := by omega
    have ha : allN (fun i => entOk x i (ix x.saq i)) x.saq.length = true := allN_iff.2 hp
    simp only [h1, decide_false, cond_false]
    refine ⟨x, .rfl, ⟨ho⟩, ?_⟩
    intro y hy
    replace hy : y = idxF (badRq x) x.table := hy
    subst hy
    have e1 : x.table.all (fun q => reqOk q x.mem.length) = !x.table.any (badRq x) := by
      rw [List.not_any_eq_all_not]
      congr 1
      funext q
      unfold badRq
      rw [Bool.not_not]
    have e0 : storesB x = (!x.table.any (badRq x) && sentB x) := by
      unfold storesB
      rw [ha, e1]
      rfl
    rw [e0]
    simp only [idxF_ge]
    cases x.table.any (badRq x) with
    | true => exact .rfl
    | false =>
    refine ⟨x, .rfl, ⟨ho⟩, ?_⟩
    intro y hy
    replace hy : y = sentB x := hy
    rw [← hy]
    cases y <;> exact .rfl
theorem sk_trap : SkOk Try.prog (35, trpS) := skOf_ok fun t _ => by
  show Pure _ _ (cons [e_Trp t]) (con (.bool (trapOk t)))
  refine pureR (u := 80) (k := 20) mix TK1ok ?_
  refine Eq.mpr (r_tp t _) ?_
  unfold trapOk
  by_cases hk : t.kind = 0
  · simp only [hk, decide_true, cond_true, if_true, g1, g2, g3, g4, g5, g6, g7, allN_true, cond_true, Nat.le_refl, decide_true, pl_eq]
    simp only [band]
    exact .rfl
  · simp only [hk, decide_false, cond_false, if_false]
    refine ⟨(1, 4, [t.kind]), ⟨lqs_cons (.refl _) (lqs_cons (.refl _) (lqs_cons (lq_lit1 (.refl _)) lqs_nil))⟩, ⟨by show 1 ≤ 1000000; omega⟩, ?_⟩
    intro y hy
    replace hy : y = withinF 1 4 [t.kind] := hy
    rw [← w1F, ← hy]
    clear hy
    cases y with
    | false => exact .rfl
    | true =>
    refine ⟨(0, 1099511627776, [t.step, t.pc]), ⟨lqs_cons (.refl _) (lqs_cons (.refl _) (lqs_cons (lq_lit2 (.refl _) (.refl _)) lqs_nil))⟩, ⟨by show 2 ≤ 1000000; omega⟩, ?_⟩
    intro y hy
    replace hy : y = withinF 0 1099511627776 [t.step, t.pc] := hy
    have e : withinF 0 1099511627776 [t.step, t.pc] = (bigB t.step && bigB t.pc) := by simp [withinF, bigB]
    rw [← e, ← hy]
    exact .rfl
theorem TM0ok : TabOk Try.prog TM0 := mkT2_ok clok_state trivial trivial ⟨sk_cfg, sk_wn, sk_sSide, sk_que, sk_stores, sk_trap, trivial⟩ trivial
theorem r_right (c : Cfg) (s : Split) (x : Stt) (r : XV) : (quietGo TM0 80 (callI TM0 80 20) 16 [e_Cfg c, e_Split s, e_Stt x] (fun v => ResLe v r)) = (∃ (s_1 : Cfg), ArgsLe [e_Cfg c] [e_Cfg s_1] ∧ PreIs True ∧ ∀ (y : Bool), y = rightCfg s_1 → bif y then ∃ (s_2 : Split × Bool × Side), ArgsLe [e_Split s, e_Side
 (Stt.a x), .clo 31 []] [e_Split (Prod.fst s_2), e_Side (Prod.snd (Prod.snd s_2)), .clo (bif Prod.fst (Prod.snd s_2) then 32 else 31) []] ∧ PreIs True ∧ ∀ (y_1 :
 Bool), y_1 = sideOk (Prod.fst s_2) (Prod.fst (Prod.snd s_2)) (Prod.snd (Prod.snd s_2)) → bif bif y then y_1 else false then ∃ (s_3 : Split × Bool × Side), ArgsLe
 [e_Split s, e_Side (Stt.e x), .clo 32 []] [e_Split (Prod.fst s_3), e_Side (Prod.snd (Prod.snd s_3)), .clo (bif Prod.fst (Prod.snd s_3) then 32 else 31) []] ∧ PreIs
 True ∧ ∀ (y_2 : Bool), y_2 = sideOk (Prod.fst s_3) (Prod.fst (Prod.snd s_3)) (Prod.snd (Prod.snd s_3)) → bif bif bif y then y_1 else false then y_2 else false then
 ∃ (s : Int × Int × List Int), ArgsLe [.int .i64 0, .int .i64 1099511627776, .row true 1 4 fun a => .int .i64 (bif Nat.beq a 0 then Stt.cycle x else bif Nat.beq (a
 - 1) 0 then Stt.lats x else bif Nat.beq (a - 1 - 1) 0 then Stt.picks x else Stt.tags x)] [.int .i64 (Prod.fst s), .int .i64 (Prod.fst (Prod.snd s)), e_row 1 e_i64
 (Prod.snd (Prod.snd s))] ∧ PreIs (List.length (Prod.snd (Prod.snd s)) ≤ 1000000) ∧ ∀ (y_3 : Bool), y_3 = withinF (Prod.fst s) (Prod.fst (Prod.snd s)) (Prod.snd (Prod.snd
 s)) → bif bif bif bif y then y_1 else false then y_2 else false then y_3 else false then ∃ (s : Cfg × Stt), ArgsLe [e_Cfg c, e_Stt x] [e_Cfg (Prod.fst s), e_Stt
 (Prod.snd s)] ∧ PreIs True ∧ ∀ (y_4 : Bool), y_4 = quesF (Prod.fst s) (Prod.snd s) → bif bif bif bif bif y then y_1 else false then y_2 else false then y_3 else
 false then y_4 else false then ∃ (s : Stt), ArgsLe [e_Stt x] [e_Stt s] ∧ PreIs (Stt.ok s) ∧ ∀ (y_5 : Bool), y_5 = storesB s → bif bif bif bif bif bif y then y_1
 else false then y_2 else false then y_3 else false then y_4 else false then y_5 else false then ∃ (s : Trp), ArgsLe [e_Trp (Stt.trap x)] [e_Trp s] ∧ PreIs True ∧
 ∀ (y_6 : Bool), y_6 = trapOk s → ResLe (.bool (bif bif bif bif bif bif y then y_1 else false then y_2 else false then y_3 else false then y_4 else false then y_5
 else false then y_6 else false)) r else bif !bif bif bif bif bif y then y_1 else false then y_2 else false then y_3 else false then y_4 else false then y_5 else
 false then ResLe (.bool false) r else False else bif !bif bif bif bif y then y_1 else false then y_2 else false then y_3 else false then y_4 else false then ResLe
 (.bool false) r else False else bif !bif bif bif y then y_1 else false then y_2 else false then y_3 else false then ResLe (.bool false) r else False else bif !bif
 bif y then y_1 else false then y_2 else false then ResLe (.bool false) r else False else bif !bif y then y_1 else false then ResLe (.bool false) r else False else
 bif !y then ResLe (.bool false) r else False) := by kernel_rfl
theorem sk_right : SkOk Try.prog (16, rigS) := skOf_ok fun ⟨c, s, x⟩ h => by
  have ho : x.ok := h
  show Pure _ _ (cons [e_Cfg c, e_Split s, e_Stt x]) (con (.bool (rightStt c s x)))
  refine pureR (u := 80) (k := 20) mix TM0ok ?_
  refine Eq.mpr (r_right c s x _) ?_
  unfold rightStt
  refine ⟨c, .rfl, ⟨trivial⟩, ?_⟩
  intro y hy
  replace hy : y = rightCfg c := hy
  rw [← hy]
  clear hy
  cases y with
  | false => exact .rfl
  | true =>
  refine ⟨(s, false, x.a), .rfl, ⟨trivial⟩, ?_⟩
  intro y hy
  replace hy : y = sideOk s false x.a := hy
  rw [← hy]
  clear hy
  cases y with
  | false => exact .rfl
  | true =>
  refine ⟨(s, true, x.e), .rfl, ⟨trivial⟩, ?_⟩
  intro y hy
  replace hy : y = sideOk s true x.e := hy
  rw [← hy]
  clear hy
  cases y with
  | false => exact .rfl
  | true =>
  refine ⟨(0, 1099511627776, [x.cycle, x.lats, x.picks, x.tags]), ⟨lqs_cons (.refl _) (lqs_cons (.refl _) (lqs_cons (lq_lit rfl fun _ i hi => by
    match i, hi with
    | 0, _ => rfl
    | 1, _ => rfl
    | 2, _ => rfl
    | 3, _ => rfl
    | n + 4, h => omega) lqs_nil))⟩, ⟨by show 4 ≤ 1000000; omega⟩, ?_⟩
  intro y hy
  replace hy : y = withinF 0 1099511627776 [x.cycle, x.lats, x.picks, x.tags] := hy
  rw [← hy]
  clear hy
  cases y with
  | false => exact .rfl
  | true =>
  refine ⟨(c, x), .rfl, ⟨trivial⟩, ?_⟩
  intro y hy
  replace hy : y = quesF c x := hy
  rw [← hy]
  clear hy
  cases y with
  | false => exact .rfl
  | true =>
  refine ⟨x, .rfl, ⟨ho⟩, ?_⟩
  intro y hy
  replace hy : y = storesB x := hy
  rw [← hy]
  clear hy
  cases y with
  | false => exact .rfl
  | true =>
  refine ⟨x.trap, .rfl, ⟨trivial⟩, ?_⟩
  intro y hy
  replace hy : y = trapOk x.trap := hy
  rw [← hy]
  clear hy
  cases y <;> exact .rfl
end Go.Proofs.Ythmlnmkbeohojaa

/- Which configs and states may be, as the document tells. -/
namespace Go.Proofs.Ythmlnmkbeohojaa
open Go.Ra
set_option linter.unusedVariables false
set_option linter.unusedSimpArgs false
def TO0 : Tab := mkT2 qq cl_ref15 [] gl_ref15 [] []
theorem TO0ok : TabOk Try.prog TO0 := mkT2_ok clok_ref15 trivial glok_ref15 trivial trivial
theorem r_rc (c : Cfg) (r : XV) : (quietGo TO0 80 (callI TO0 80 20) 12 [e_Cfg c] (fun v => ResLe v r)) = (bif bif decide (Cfg.ldq c ≥ 1) then decide (Cfg.ldq c ≥ 1) else true then bif !bif decide (Cfg.ldq c ≥ 1) then decide (Cfg.ldq c ≤ 64) else false then ResLe
 (.bool false) r else bif bif decide (Cfg.sdq c ≥ 1) then decide (Cfg.sdq c ≥ 1) else true then bif !bif decide (Cfg.sdq c ≥ 1) then decide (Cfg.sdq c ≤ 64) else
 false then ResLe (.bool false) r else bif bif decide (Cfg.aeq c ≥ 1) then decide (Cfg.aeq c ≥ 1) else true then bif !bif decide (Cfg.aeq c ≥ 1) then decide (Cfg.aeq
 c ≤ 64) else false then ResLe (.bool false) r else bif bif decide (Cfg.abq c ≥ 1) then decide (Cfg.abq c ≥ 1) else true then bif !bif decide (Cfg.abq c ≥ 1) then
 decide (Cfg.abq c ≤ 64) else false then ResLe (.bool false) r else bif bif decide (Cfg.ebq c ≥ 1) then decide (Cfg.ebq c ≥ 1) else true then bif !bif decide (Cfg.ebq
 c ≥ 1) then decide (Cfg.ebq c ≤ 64) else false then ResLe (.bool false) r else bif bif decide (Cfg.saq c ≥ 1) then decide (Cfg.saq c ≥ 1) else true then bif !bif
 decide (Cfg.saq c ≥ 1) then decide (Cfg.saq c ≤ 64) else false then ResLe (.bool false) r else bif bif decide (Cfg.flight c ≥ 1) then decide (Cfg.flight c ≥ 1) else
 true then bif !bif decide (Cfg.flight c ≥ 1) then decide (Cfg.flight c ≤ 64) else false then ResLe (.bool false) r else bif bif decide (Cfg.slip c ≥ 1) then decide
 (Cfg.slip c ≥ 1) else true then bif !bif decide (Cfg.slip c ≥ 1) then decide (Cfg.slip c ≤ 64) else false then ResLe (.bool false) r else bif bif decide (Cfg.banks
 c ≥ 1) then decide (Cfg.banks c ≥ 1) else true then bif bif decide (Cfg.banks c ≥ 1) then decide (Cfg.banks c ≤ 16) else false then bif bif decide (Cfg.lat c ≥ 1)
 then decide (Cfg.lat c ≥ 1) else true then bif bif bif decide (Cfg.banks c ≥ 1) then decide (Cfg.banks c ≤ 16) else false then bif decide (Cfg.lat c ≥ 1) then decide
 (Cfg.lat c ≤ 1000) else false else false then bif bif decide (Cfg.mul c ≥ 1) then decide (Cfg.mul c ≥ 1) else true then bif bif bif bif decide (Cfg.banks c ≥ 1)
 then decide (Cfg.banks c ≤ 16) else false then bif decide (Cfg.lat c ≥ 1) then decide (Cfg.lat c ≤ 1000) else false else false then bif decide (Cfg.mul c ≥ 1) then
 decide (Cfg.mul c ≤ 50) else false else false then bif bif decide (Cfg.div c ≥ 1) then decide (Cfg.div c ≥ 1) else true then ResLe (.bool (bif bif bif bif decide
 (Cfg.banks c ≥ 1) then decide (Cfg.banks c ≤ 16) else false then bif decide (Cfg.lat c ≥ 1) then decide (Cfg.lat c ≤ 1000) else false else false then bif decide
 (Cfg.mul c ≥ 1) then decide (Cfg.mul c ≤ 50) else false else false then bif decide (Cfg.div c ≥ 1) then decide (Cfg.div c ≤ 50) else false else false)) r else False
 else bif !bif bif bif decide (Cfg.banks c ≥ 1) then decide (Cfg.banks c ≤ 16) else false then bif decide (Cfg.lat c ≥ 1) then decide (Cfg.lat c ≤ 1000) else false
 else false then bif decide (Cfg.mul c ≥ 1) then decide (Cfg.mul c ≤ 50) else false else false then ResLe (.bool false) r else False else False else bif !bif bif
 decide (Cfg.banks c ≥ 1) then decide (Cfg.banks c ≤ 16) else false then bif decide (Cfg.lat c ≥ 1) then decide (Cfg.lat c ≤ 1000) else false else false then ResLe
 (.bool false) r else False else False else bif !bif decide (Cfg.banks c ≥ 1) then decide (Cfg.banks c ≤ 16) else false then ResLe (.bool false) r else False else
 False else False else False else False else False else False else False else False
else False) := by kernel_rfl
theorem win_cons {lo hi n : Int} {l : List Int} : withinF lo hi (n :: l) = (bif decide (n ≥ lo) then (bif decide (n ≤ hi) then withinF lo hi l else false) else false) := by
  unfold withinF
  rw [List.all_cons]
  by_cases h1 : lo ≤ n <;> by_cases h2 : n ≤ hi <;> simp [h1, h2]
theorem win_nil {lo hi : Int} : withinF lo hi [] = true := rfl
theorem sk_rcfg : SkOk Try.prog (12, cfgS) := skOf_ok fun c _ => by
  show Pure _ _ (cons [e_Cfg c]) (con (.bool (rightCfg c)))
  refine pureR (u := 80) (k := 20) mix TO0ok ?_
  refine Eq.mpr (r_rc c _) ?_
  unfold rightCfg
  simp only [win_cons, win_nil]
  generalize decide (c.ldq ≥ 1) = ldq0
  generalize decide (c.ldq ≤ 64) = ldq1
  generalize decide (c.sdq ≥ 1) = sdq0
  generalize decide (c.sdq ≤ 64) = sdq1
  generalize decide (c.aeq ≥ 1) = aeq0
  generalize decide (c.aeq ≤ 64) = aeq1
  generalize decide (c.abq ≥ 1) = abq0
  generalize decide (c.abq ≤ 64) = abq1
  generalize decide (c.ebq ≥ 1) = ebq0
  generalize decide (c.ebq ≤ 64) = ebq1
  generalize decide (c.saq ≥ 1) = saq0
  generalize decide (c.saq ≤ 64) = saq1
  generalize decide (c.flight ≥ 1) = flight0
  generalize decide (c.flight ≤ 64) = flight1
  generalize decide (c.slip ≥ 1) = slip0
  generalize decide (c.slip ≤ 64) = slip1
  generalize decide (c.banks ≥ 1) = banks0
  generalize decide (c.banks ≤ 16) = banks1
  generalize decide (c.lat ≥ 1) = lat0
  generalize decide (c.lat ≤ 1000) = lat1
  generalize decide (c.mul ≥ 1) = mul0
  generalize decide (c.mul ≤ 50) = mul1
  generalize decide (c.div ≥ 1) = div0
  generalize decide (c.div ≤ 50) = div1
  cases ldq0 with
  | false => exact .rfl
  | true =>
  cases ldq1 with
  | false => exact .rfl
  | true =>
  cases sdq0 with
  | false => exact .rfl
  | true =>
  cases sdq1 with
  | false => exact .rfl
  | true =>
  cases aeq0 with
  | false => exact .rfl
  | true =>
  cases aeq1 with
  | false => exact .rfl
  | true =>
  cases abq0 with
  | false => exact .rfl
  | true =>
  cases abq1 with
  | false => exact .rfl
  | true =>
  cases ebq0 with
  | false => exact .rfl
  | true =>
  cases ebq1 with
  | false => exact .rfl
  | true =>
  cases saq0 with
  | false => exact .rfl
  | true =>
  cases saq1 with
  | false => exact .rfl
  | true =>
  cases flight0 with
  | false => exact .rfl
  | true =>
  cases flight1 with
  | false => exact .rfl
  | true =>
  cases slip0 with
  | false => exact .rfl
  | true =>
  cases slip1 with
  | false => exact .rfl
  | true =>
  cases banks0 with
  | false => exact .rfl
  | true =>
  cases banks1 with
  | false => exact .rfl
  | true =>
  cases lat0 with
  | false => exact .rfl
  | true =>
  cases lat1 with
  | false => exact .rfl
  | true =>
  cases mul0 with
  | false => exact .rfl
  | true =>
  cases mul1 with
  | false => exact .rfl
  | true =>
  cases div0 with
  | false => exact .rfl
  | true =>
  cases div1 with
  | false => exact .rfl
  | true =>
  exact .rfl
end Go.Proofs.Ythmlnmkbeohojaa

/- Which states may be, as the document tells: its loops. -/
namespace Go.Proofs.Ythmlnmkbeohojaa
open Go.Ra
set_option linter.unusedVariables false
set_option linter.unusedSimpArgs false
end Go.Proofs.Ythmlnmkbeohojaa

/- Abstract code of the functions of law18: printed by a program from what the given translation yields. -/
namespace Go.Proofs.Ythmlnmkbeohojaa
open Go.Ra
def c_law18_Few : AC := (.seq (.ops [⟨(.some 1), (.box (.t 0)), .none⟩, ⟨(.some 2), (.mv (.c (.sc (.bool .false)))), .none⟩]) (.seq (.ops [⟨(.some 3), (.fadr 10 84 1 (.t 1)), .none⟩, ⟨(.some 4), (.load .false 1 (.t 3)), .none⟩, ⟨(.some 5), (.len .none (.t 4)), .none⟩, ⟨(.some 6), (.bin .leq (.t 5) (.c (.sc (.int .i64 1000)))), .none⟩, ⟨(.some 7), (.mv (.t 6)), .none⟩, ⟨(.some 8), (.fadr 9 83 1 (.t 1)), (.some (7, .true))⟩, ⟨(.some 9), (.load .false 1 (.t 8)), (.some (7, .true))⟩, ⟨(.some 10), (.len .none (.t 9)), (.some (7, .true))⟩, ⟨(.some 11), (.bin .leq (.t 10) (.c (.sc (.int .i64 64)))), (.some (7, .true))⟩, ⟨(.some 12), (.pick (.t 7) (.t 11) (.c (.sc (.bool .false)))), .none⟩, ⟨(.some 13), (.mv (.t 12)), .none⟩, ⟨(.some 14), (.fadr 8 82 1 (.t 1)), (.some (13, .true))⟩, ⟨(.some 15), (.load .false 1 (.t 14)), (.some (13, .true))⟩, ⟨(.some 16), (.len .none (.t 15)), (.some (13, .true))⟩, ⟨(.some 17), (.bin .leq (.t 16) (.c (.sc (.int .i64 64)))), (.some (13, .true))⟩, ⟨(.some 18), (.pick (.t 13) (.t 17) (.c (.sc (.bool .false)))), .none⟩, ⟨(.some 19), (.mv (.t 18)), .none⟩, ⟨(.some 20), (.fadr 3 77 1 (.t 1)), (.some (19, .true))⟩, ⟨(.some 21), (.load .false 1 (.t 20)), (.some (19, .true))⟩, ⟨(.some 22), (.len .none (.t 21)), (.some (19, .true))⟩, ⟨(.some 23), (.bin .leq (.t 22) (.c (.sc (.int .i64 64)))), (.some (19, .true))⟩, ⟨(.some 24), (.pick (.t 19) (.t 23) (.c (.sc (.bool .false)))), .none⟩, ⟨(.some 25), (.mv (.t 24)), .none⟩, ⟨(.some 26), (.fadr 11 85 1 (.t 1)), (.some (25, .true))⟩, ⟨(.some 27), (.load .false 1 (.t 26)), (.some (25, .true))⟩, ⟨(.some 28), (.len .none (.t 27)), (.some (25, .true))⟩, ⟨(.some 29), (.bin .leq (.t 28) (.c (.sc (.int .i64 100)))), (.some (25, .true))⟩, ⟨(.some 30), (.pick (.t 25) (.t 29) (.c (.sc (.bool .false)))), .none⟩, ⟨(.some 31), (.mv (.t 30)), .none⟩, ⟨(.some 32), (.fadr 4 78 1 (.t 1)), (.some (31, .true))⟩, ⟨(.some 33), (.load .false 1 (.t 32)), (.some (31, .true))⟩, ⟨(.some 34), (.len .none (.t 33)), (.some (31, .true))⟩, ⟨(.some 35), (.bin .leq (.t 34) (.c (.sc (.int .i64 64)))), (.some (31, .true))⟩, ⟨(.some 36), (.pick (.t 31) (.t 35) (.c (.sc (.bool .false)))), .none⟩, ⟨(.some 37), (.mv (.t 36)), .none⟩, ⟨(.some 38), (.fadr 5 79 1 (.t 1)), (.some (37, .true))⟩, ⟨(.some 39), (.load .false 1 (.t 38)), (.some (37, .true))⟩, ⟨(.some 40), (.len .none (.t 39)), (.some (37, .true))⟩, ⟨(.some 41), (.bin .leq (.t 40) (.c (.sc (.int .i64 64)))), (.some (37, .true))⟩, ⟨(.some 42), (.pick (.t 37) (.t 41) (.c (.sc (.bool .false)))), .none⟩, ⟨(.some 43), (.mv (.t 42)), .none⟩, ⟨(.some 44), (.fadr 6 80 1 (.t 1)), (.some (43, .true))⟩, ⟨(.some 45), (.load .false 1 (.t 44)), (.some (43, .true))⟩, ⟨(.some 46), (.len .none (.t 45)), (.some (43, .true))⟩, ⟨(.some 47), (.bin .leq (.t 46) (.c (.sc (.int .i64 64)))), (.some (43, .true))⟩, ⟨(.some 48), (.pick (.t 43) (.t 47) (.c (.sc (.bool .false)))), .none⟩, ⟨(.some 49), (.mv (.t 48)), .none⟩, ⟨(.some 50), (.fadr 7 81 1 (.t 1)), (.some (49, .true))⟩, ⟨(.some 51), (.load .false 1 (.t 50)), (.some (49, .true))⟩, ⟨(.some 52), (.len .none (.t 51)), (.some (49, .true))⟩, ⟨(.some 53), (.bin .leq (.t 52) (.c (.sc (.int .i64 64)))), (.some (49, .true))⟩, ⟨(.some 54), (.pick (.t 49) (.t 53) (.c (.sc (.bool .false)))), .none⟩, ⟨(.some 2), (.mv (.t 54)), .none⟩]) .ret))
theorem t_law18_Few : trF Try.prog qq 10 = some (55, [(.tmp 2)], c_law18_Few) := by kernel_rfl
/-- The functions of law18. -/
def cl_law18 : CodeL := [(10, 55, [(.tmp 2)], c_law18_Few)]
theorem clok_law18 : AllL (fun p => trF Try.prog qq p.1 = some p.2) cl_law18 := ⟨t_law18_Few, trivial⟩
end Go.Proofs.Ythmlnmkbeohojaa

/- Abstract code of the functions of law13: printed by a program from what the given translation yields. -/
namespace Go.Proofs.Ythmlnmkbeohojaa
open Go.Ra
end Go.Proofs.Ythmlnmkbeohojaa

/- Abstract code of the functions of law4: printed by a program from what the given translation yields. -/
namespace Go.Proofs.Ythmlnmkbeohojaa
open Go.Ra
def c_law4_Few : AC := (.seq (.ops [⟨(.some 1), (.box (.t 0)), .none⟩, ⟨(.some 2), (.mv (.c (.sc (.bool .false)))), .none⟩]) (.seq (.ops [⟨(.some 3), (.fadr 0 0 1 (.t 1)), .none⟩, ⟨(.some 4), (.load .false 1 (.t 3)), .none⟩, ⟨(.some 5), (.len .none (.t 4)), .none⟩, ⟨(.some 6), (.bin .leq (.t 5) (.c (.sc (.int .i64 200)))), .none⟩, ⟨(.some 7), (.mv (.t 6)), .none⟩, ⟨(.some 8), (.fadr 2 2 1 (.t 1)), (.some (7, .true))⟩, ⟨(.some 9), (.load .false 1 (.t 8)), (.some (7, .true))⟩, ⟨(.some 10), (.len .none (.t 9)), (.some (7, .true))⟩, ⟨(.some 11), (.bin .leq (.t 10) (.c (.sc (.int .i64 500)))), (.some (7, .true))⟩, ⟨(.some 12), (.pick (.t 7) (.t 11) (.c (.sc (.bool .false)))), .none⟩, ⟨(.some 2), (.mv (.t 12)), .none⟩]) .ret))
theorem t_law4_Few : trF Try.prog qq 8 = some (13, [(.tmp 2)], c_law4_Few) := by kernel_rfl
/-- The functions of law4. -/
def cl_law4 : CodeL := [(8, 13, [(.tmp 2)], c_law4_Few)]
theorem clok_law4 : AllL (fun p => trF Try.prog qq p.1 = some p.2) cl_law4 := ⟨t_law4_Few, trivial⟩
end Go.Proofs.Ythmlnmkbeohojaa

/- Abstract code of the functions of law19: printed by a program from what the given translation yields. -/
namespace Go.Proofs.Ythmlnmkbeohojaa
open Go.Ra
def c_law19_StateFirst : AC := (.seq (.ops [⟨(.some 2), (.box (.t 0)), .none⟩, ⟨(.some 3), (.box (.t 1)), .none⟩, ⟨(.some 4), (.mv (.c (.sc (.bool .false)))), .none⟩]) (.seq (.ops [⟨(.some 9), (.call 7 []), .none⟩, ⟨(.some 5), (.mv (.t 9)), .none⟩]) (.seq (.ops [⟨(.some 11), (.load .true 3 (.t 3)), .none⟩, ⟨(.some 12), (.call 19 [(.t 11)]), .none⟩, ⟨(.some 10), (.mv (.t 12)), .none⟩, ⟨(.some 13), (.ext (.t 10) 0), .none⟩, ⟨(.some 14), (.ext (.t 10) 1), .none⟩, ⟨(.some 6), (.box (.c (.agg 17 [(.fro .true 0 []), (.arr 16 1 [(.sc (.int .i64 0)), (.sc (.int .i64 0)), (.sc (.int .i64 0)), (.sc (.int .i64 0)), (.sc (.int .i64 0)), (.sc (.int .i64 0)), (.sc (.int .i64 0)), (.sc (.int .i64 0)), (.sc (.int .i64 0)), (.sc (.int .i64 0)), (.sc (.int .i64 0)), (.sc (.int .i64 0)), (.sc (.int .i64 0)), (.sc (.int .i64 0)), (.sc (.int .i64 0)), (.sc (.int .i64 0))])]))), .none⟩, ⟨.none, (.store 17 (.t 6) (.t 13)), .none⟩, ⟨(.some 7), (.mv (.t 14)), .none⟩]) (.seq (.seq (.ops [⟨(.some 15), (.mv (.t 5)), .none⟩, ⟨(.some 16), (.un .not (.t 15)), .none⟩, ⟨(.some 17), (.mv (.t 16)), .none⟩, ⟨(.some 18), (.load .true 3 (.t 3)), (.some (17, .false))⟩, ⟨(.some 19), (.call 8 [(.t 18)]), (.some (17, .false))⟩, ⟨(.some 20), (.un .not (.t 19)), (.some (17, .false))⟩, ⟨(.some 21), (.pick (.t 17) (.c (.sc (.bool .true))) (.t 20)), .none⟩, ⟨(.some 22), (.mv (.t 21)), .none⟩, ⟨(.some 23), (.fadr 1 1 1 (.t 3)), (.some (22, .false))⟩, ⟨(.some 24), (.load .false 1 (.t 23)), (.some (22, .false))⟩, ⟨(.some 25), (.bin .gtr (.t 24) (.c (.sc (.int .i64 1000)))), (.some (22, .false))⟩, ⟨(.some 26), (.pick (.t 22) (.c (.sc (.bool .true))) (.t 25)), .none⟩, ⟨(.some 27), (.mv (.t 26)), .none⟩, ⟨(.some 28), (.mv (.t 7)), (.some (27, .false))⟩, ⟨(.some 29), (.bin .neq (.t 28) (.c (.sc (.int .i64 0)))), (.some (27, .false))⟩, ⟨(.some 30), (.pick (.t 27) (.c (.sc (.bool .true))) (.t 29)), .none⟩, ⟨(.some 31), (.mv (.t 30)), .none⟩, ⟨(.some 32), (.load .true 12 (.t 2)), (.some (31, .false))⟩, ⟨(.some 33), (.call 12 [(.t 32)]), (.some (31, .false))⟩, ⟨(.some 34), (.un .not (.t 33)), (.some (31, .false))⟩, ⟨(.some 35), (.pick (.t 31) (.c (.sc (.bool .true))) (.t 34)), .none⟩]) (.cond (.t 35) (.seq (.ops [⟨(.some 36), (.mv (.t 5)), .none⟩, ⟨(.some 4), (.mv (.t 36)), .none⟩]) .ret) .skip)) (.seq (.ops [⟨(.some 37), (.load .true 3 (.t 3)), .none⟩, ⟨(.some 38), (.call 14 [(.t 37)]), .none⟩, ⟨(.some 8), (.box (.c (.agg 92 [(.sc (.int .i64 0)), (.agg 38 [(.arr 16 1 [(.sc (.int .u32 0)), (.sc (.int .u32 0)), (.sc (.int .u32 0)), (.sc (.int .u32 0)), (.sc (.int .u32 0)), (.sc (.int .u32 0)), (.sc (.int .u32 0)), (.sc (.int .u32 0)), (.sc (.int .u32 0)), (.sc (.int .u32 0)), (.sc (.int .u32 0)), (.sc (.int .u32 0)), (.sc (.int .u32 0)), (.sc (.int .u32 0)), (.sc (.int .u32 0)), (.sc (.int .u32 0))]), (.arr 16 1 [(.sc (.int .i64 0)), (.sc (.int .i64 0)), (.sc (.int .i64 0)), (.sc (.int .i64 0)), (.sc (.int .i64 0)), (.sc (.int .i64 0)), (.sc (.int .i64 0)), (.sc (.int .i64 0)), (.sc (.int .i64 0)), (.sc (.int .i64 0)), (.sc (.int .i64 0)), (.sc (.int .i64 0)), (.sc (.int .i64 0)), (.sc (.int .i64 0)), (.sc (.int .i64 0)), (.sc (.int .i64 0))]), (.agg 3 [(.sc (.int .i64 0)), (.sc (.int .i64 0)), (.sc (.int .i64 0))]), (.sc (.int .i64 0)), (.sc (.bool .false)), (.sc (.int .i64 0))]), (.agg 38 [(.arr 16 1 [(.sc (.int .u32 0)), (.sc (.int .u32 0)), (.sc (.int .u32 0)), (.sc (.int .u32 0)), (.sc (.int .u32 0)), (.sc (.int .u32 0)), (.sc (.int .u32 0)), (.sc (.int .u32 0)), (.sc (.int .u32 0)), (.sc (.int .u32 0)), (.sc (.int .u32 0)), (.sc (.int .u32 0)), (.sc (.int .u32 0)), (.sc (.int .u32 0)), (.sc (.int .u32 0)), (.sc (.int .u32 0))]), (.arr 16 1 [(.sc (.int .i64 0)), (.sc (.int .i64 0)), (.sc (.int .i64 0)), (.sc (.int .i64 0)), (.sc (.int .i64 0)), (.sc (.int .i64 0)), (.sc (.int .i64 0)), (.sc (.int .i64 0)), (.sc (.int .i64 0)), (.sc (.int .i64 0)), (.sc (.int .i64 0)), (.sc (.int .i64 0)), (.sc (.int .i64 0)), (.sc (.int .i64 0)), (.sc (.int .i64 0)), (.sc (.int .i64 0))]), (.agg 3 [(.sc (.int .i64 0)), (.sc (.int .i64 0)), (.sc (.int .i64 0))]), (.sc (.int .i64 0)), (.sc (.bool .false)), (.sc (.int .i64 0))]), (.fro .true 0 []), (.fro .true 0 []), (.fro .true 0 []), (.fro .true 0 []), (.fro .true 0 []), (.fro .true 0 []), (.fro .true 0 []), (.fro .true 0 []), (.fro .true 0 []), (.agg 3 [(.sc (.int .i64 0)), (.sc (.int .i64 0)), (.sc (.int .i64 0))]), (.sc (.int .i64 0)), (.sc (.int .i64 0)), (.sc (.int .i64 0))]))), .none⟩, ⟨.none, (.store 92 (.t 8) (.t 38)), .none⟩]) (.seq (.ops [⟨(.some 39), (.load .true 12 (.t 2)), .none⟩, ⟨(.some 40), (.load .true 17 (.t 6)), .none⟩, ⟨(.some 41), (.load .true 92 (.t 8)), .none⟩, ⟨(.some 42), (.call 16 [(.t 39), (.t 40), (.t 41)]), .none⟩, ⟨(.some 43), (.mv (.t 42)), .none⟩, ⟨(.some 44), (.fadr 10 84 1 (.t 8)), (.some (43, .true))⟩, ⟨(.some 45), (.load .false 1 (.t 44)), (.some (43, .true))⟩, ⟨(.some 46), (.len .none (.t 45)), (.some (43, .true))⟩, ⟨(.some 47), (.fadr 1 1 1 (.t 3)), (.some (43, .true))⟩, ⟨(.some 48), (.load .false 1 (.t 47)), (.some (43, .true))⟩, ⟨(.some 49), (.bin .eql (.t 46) (.t 48)), (.some (43, .true))⟩, ⟨(.some 50), (.pick (.t 43) (.t 49) (.c (.sc (.bool .false)))), .none⟩, ⟨(.some 51), (.mv (.t 50)), .none⟩, ⟨(.some 52), (.fadr 10 84 1 (.t 8)), (.some (51, .true))⟩, ⟨(.some 53), (.load .false 1 (.t 52)), (.some (51, .true))⟩, ⟨(.some 54), (.b2s (.t 53)), (.some (51, .true))⟩, ⟨(.some 55), (.load .true 3 (.t 3)), (.some (51, .true))⟩, ⟨(.some 56), (.call 20 [(.t 55)]), (.some (51, .true))⟩, ⟨(.some 57), (.b2s (.t 56)), (.some (51, .true))⟩, ⟨(.some 58), (.bin .eql (.t 54) (.t 57)), (.some (51, .true))⟩, ⟨(.some 59), (.pick (.t 51) (.t 58) (.c (.sc (.bool .false)))), .none⟩, ⟨(.some 4), (.mv (.t 59)), .none⟩]) .ret))))))
theorem t_law19_StateFirst : trF Try.prog qq 4 = some (60, [(.tmp 4)], c_law19_StateFirst) := by kernel_rfl
def c_law19_alive : AC := (.seq (.ops [⟨(.some 0), (.mv (.c (.sc (.bool .false)))), .none⟩]) (.seq (.ops [⟨(.some 5), (.build 5 [(.sc (.int .i64 0)), (.sc (.int .i64 0)), (.sc (.int .i64 0)), (.sc (.int .i64 0)), (.sc (.int .i64 0))] [(0, (.c (.sc (.int .i64 41))))]), .none⟩, ⟨(.some 6), (.bsl 5 [(.t 5)]), .none⟩, ⟨(.some 7), (.bsl 1 [(.c (.sc (.int .u8 5)))]), .none⟩, ⟨(.some 8), (.build 3 [(.fro .true 0 []), (.sc (.int .i64 0)), (.fro .true 0 [])] [(0, (.t 6)), (1, (.c (.sc (.int .i64 3)))), (2, (.t 7))]), .none⟩, ⟨(.some 1), (.box (.c (.agg 3 [(.fro .true 0 []), (.sc (.int .i64 0)), (.fro .true 0 [])]))), .none⟩, ⟨.none, (.store 3 (.t 1) (.t 8)), .none⟩]) (.seq (.ops [⟨(.some 9), (.load .true 3 (.t 1)), .none⟩, ⟨(.some 10), (.call 14 [(.t 9)]), .none⟩, ⟨(.some 2), (.box (.c (.agg 92 [(.sc (.int .i64 0)), (.agg 38 [(.arr 16 1 [(.sc (.int .u32 0)), (.sc (.int .u32 0)), (.sc (.int .u32 0)), (.sc (.int .u32 0)), (.sc (.int .u32 0)), (.sc (.int .u32 0)), (.sc (.int .u32 0)), (.sc (.int .u32 0)), (.sc (.int .u32 0)), (.sc (.int .u32 0)), (.sc (.int .u32 0)), (.sc (.int .u32 0)), (.sc (.int .u32 0)), (.sc (.int .u32 0)), (.sc (.int .u32 0)), (.sc (.int .u32 0))]), (.arr 16 1 [(.sc (.int .i64 0)), (.sc (.int .i64 0)), (.sc (.int .i64 0)), (.sc (.int .i64 0)), (.sc (.int .i64 0)), (.sc (.int .i64 0)), (.sc (.int .i64 0)), (.sc (.int .i64 0)), (.sc (.int .i64 0)), (.sc (.int .i64 0)), (.sc (.int .i64 0)), (.sc (.int .i64 0)), (.sc (.int .i64 0)), (.sc (.int .i64 0)), (.sc (.int .i64 0)), (.sc (.int .i64 0))]), (.agg 3 [(.sc (.int .i64 0)), (.sc (.int .i64 0)), (.sc (.int .i64 0))]), (.sc (.int .i64 0)), (.sc (.bool .false)), (.sc (.int .i64 0))]), (.agg 38 [(.arr 16 1 [(.sc (.int .u32 0)), (.sc (.int .u32 0)), (.sc (.int .u32 0)), (.sc (.int .u32 0)), (.sc (.int .u32 0)), (.sc (.int .u32 0)), (.sc (.int .u32 0)), (.sc (.int .u32 0)), (.sc (.int .u32 0)), (.sc (.int .u32 0)), (.sc (.int .u32 0)), (.sc (.int .u32 0)), (.sc (.int .u32 0)), (.sc (.int .u32 0)), (.sc (.int .u32 0)), (.sc (.int .u32 0))]), (.arr 16 1 [(.sc (.int .i64 0)), (.sc (.int .i64 0)), (.sc (.int .i64 0)), (.sc (.int .i64 0)), (.sc (.int .i64 0)), (.sc (.int .i64 0)), (.sc (.int .i64 0)), (.sc (.int .i64 0)), (.sc (.int .i64 0)), (.sc (.int .i64 0)), (.sc (.int .i64 0)), (.sc (.int .i64 0)), (.sc (.int .i64 0)), (.sc (.int .i64 0)), (.sc (.int .i64 0)), (.sc (.int .i64 0))]), (.agg 3 [(.sc (.int .i64 0)), (.sc (.int .i64 0)), (.sc (.int .i64 0))]), (.sc (.int .i64 0)), (.sc (.bool .false)), (.sc (.int .i64 0))]), (.fro .true 0 []), (.fro .true 0 []), (.fro .true 0 []), (.fro .true 0 []), (.fro .true 0 []), (.fro .true 0 []), (.fro .true 0 []), (.fro .true 0 []), (.fro .true 0 []), (.agg 3 [(.sc (.int .i64 0)), (.sc (.int .i64 0)), (.sc (.int .i64 0))]), (.sc (.int .i64 0)), (.sc (.int .i64 0)), (.sc (.int .i64 0))]))), .none⟩, ⟨.none, (.store 92 (.t 2) (.t 10)), .none⟩]) (.seq (.ops [⟨(.some 12), (.load .true 3 (.t 1)), .none⟩, ⟨(.some 13), (.call 19 [(.t 12)]), .none⟩, ⟨(.some 11), (.mv (.t 13)), .none⟩, ⟨(.some 14), (.ext (.t 11) 0), .none⟩, ⟨(.some 15), (.ext (.t 11) 1), .none⟩, ⟨(.some 3), (.box (.c (.agg 17 [(.fro .true 0 []), (.arr 16 1 [(.sc (.int .i64 0)), (.sc (.int .i64 0)), (.sc (.int .i64 0)), (.sc (.int .i64 0)), (.sc (.int .i64 0)), (.sc (.int .i64 0)), (.sc (.int .i64 0)), (.sc (.int .i64 0)), (.sc (.int .i64 0)), (.sc (.int .i64 0)), (.sc (.int .i64 0)), (.sc (.int .i64 0)), (.sc (.int .i64 0)), (.sc (.int .i64 0)), (.sc (.int .i64 0)), (.sc (.int .i64 0))])]))), .none⟩, ⟨.none, (.store 17 (.t 3) (.t 14)), .none⟩, ⟨(.some 4), (.mv (.t 15)), .none⟩]) (.seq (.ops [⟨(.some 16), (.build 12 [(.sc (.int .i64 0)), (.sc (.int .i64 0)), (.sc (.int .i64 0)), (.sc (.int .i64 0)), (.sc (.int .i64 0)), (.sc (.int .i64 0)), (.sc (.int .i64 0)), (.sc (.int .i64 0)), (.sc (.int .i64 0)), (.sc (.int .i64 0)), (.sc (.int .i64 0)), (.sc (.int .i64 0))] []), .none⟩, ⟨(.some 17), (.call 11 [(.t 16)]), .none⟩, ⟨(.some 18), (.un .not (.t 17)), .none⟩, ⟨(.some 19), (.mv (.t 18)), .none⟩, ⟨(.some 20), (.fadr 10 84 1 (.t 2)), (.some (19, .true))⟩, ⟨(.some 21), (.load .false 1 (.t 20)), (.some (19, .true))⟩, ⟨(.some 22), (.len .none (.t 21)), (.some (19, .true))⟩, ⟨(.some 23), (.bin .eql (.t 22) (.c (.sc (.int .i64 3)))), (.some (19, .true))⟩, ⟨(.some 24), (.pick (.t 19) (.t 23) (.c (.sc (.bool .false)))), .none⟩, ⟨(.some 25), (.mv (.t 24)), .none⟩, ⟨(.some 26), (.fadr 10 84 1 (.t 2)), (.some (25, .true))⟩, ⟨(.some 27), (.load .false 1 (.t 26)), (.some (25, .true))⟩, ⟨(.some 28), (.iadr .none 1 (.t 27) (.c (.sc (.int .i64 0)))), (.some (25, .true))⟩, ⟨(.some 29), (.load .false 1 (.t 28)), (.some (25, .true))⟩, ⟨(.some 30), (.bin .eql (.t 29) (.c (.sc (.int .u8 5)))), (.some (25, .true))⟩, ⟨(.some 31), (.pick (.t 25) (.t 30) (.c (.sc (.bool .false)))), .none⟩, ⟨(.some 32), (.mv (.t 31)), .none⟩, ⟨(.some 33), (.call 21 []), (.some (32, .true))⟩, ⟨(.some 34), (.load .true 17 (.t 3)), (.some (32, .true))⟩, ⟨(.some 35), (.load .true 92 (.t 2)), (.some (32, .true))⟩, ⟨(.some 36), (.call 16 [(.t 33), (.t 34), (.t 35)]), (.some (32, .true))⟩, ⟨(.some 37), (.pick (.t 32) (.t 36) (.c (.sc (.bool .false)))), .none⟩, ⟨(.some 38), (.mv (.t 37)), .none⟩, ⟨(.some 39), (.load .true 92 (.t 2)), (.some (38, .true))⟩, ⟨(.some 40), (.load .true 92 (.t 2)), (.some (38, .true))⟩, ⟨(.some 41), (.call 18 [(.t 39), (.t 40)]), (.some (38, .true))⟩, ⟨(.some 42), (.pick (.t 38) (.t 41) (.c (.sc (.bool .false)))), .none⟩, ⟨(.some 0), (.mv (.t 42)), .none⟩]) .ret)))))
theorem t_law19_alive : trF Try.prog qq 7 = some (43, [(.tmp 0)], c_law19_alive) := by kernel_rfl
def c_law19_One : AC := (.seq (.ops [⟨(.some 0), (.box (.c (.agg 12 [(.sc (.int .i64 0)), (.sc (.int .i64 0)), (.sc (.int .i64 0)), (.sc (.int .i64 0)), (.sc (.int .i64 0)), (.sc (.int .i64 0)), (.sc (.int .i64 0)), (.sc (.int .i64 0)), (.sc (.int .i64 0)), (.sc (.int .i64 0)), (.sc (.int .i64 0)), (.sc (.int .i64 0))]))), .none⟩]) (.seq (.ops [⟨(.some 1), (.build 12 [(.sc (.int .i64 0)), (.sc (.int .i64 0)), (.sc (.int .i64 0)), (.sc (.int .i64 0)), (.sc (.int .i64 0)), (.sc (.int .i64 0)), (.sc (.int .i64 0)), (.sc (.int .i64 0)), (.sc (.int .i64 0)), (.sc (.int .i64 0)), (.sc (.int .i64 0)), (.sc (.int .i64 0))] [(0, (.c (.sc (.int .i64 1)))), (1, (.c (.sc (.int .i64 1)))), (2, (.c (.sc (.int .i64 1)))), (3, (.c (.sc (.int .i64 1)))), (4, (.c (.sc (.int .i64 1)))), (5, (.c (.sc (.int .i64 1)))), (6, (.c (.sc (.int .i64 1)))), (7, (.c (.sc (.int .i64 1)))), (8, (.c (.sc (.int .i64 1)))), (9, (.c (.sc (.int .i64 1)))), (10, (.c (.sc (.int .i64 1)))), (11, (.c (.sc (.int .i64 1))))]), .none⟩, ⟨.none, (.store 12 (.t 0) (.t 1)), .none⟩]) .ret))
theorem t_law19_One : trF Try.prog qq 21 = some (2, [(.cell 0 .true 12)], c_law19_One) := by kernel_rfl
/-- The functions of law19. -/
def cl_law19 : CodeL := [(4, 60, [(.tmp 4)], c_law19_StateFirst), (7, 43, [(.tmp 0)], c_law19_alive), (21, 2, [(.cell 0 .true 12)], c_law19_One)]
theorem clok_law19 : AllL (fun p => trF Try.prog qq p.1 = some p.2) cl_law19 := ⟨t_law19_StateFirst, t_law19_alive, t_law19_One, trivial⟩
end Go.Proofs.Ythmlnmkbeohojaa

/- What shows that the layer of states is there. -/
namespace Go.Proofs.Ythmlnmkbeohojaa
open Go.Ra
set_option linter.unusedVariables false
set_option linter.unusedSimpArgs false
def TN0 : Tab := mkT2 qq cl_law19 [] [] [(11, cfgS), (14, fstS), (16, rigS), (18, samS), (19, splS)] []
def p0 : Prog := ⟨[⟨41, 0, 0, 0, 0⟩], 3, [5]⟩
def cfg0 : Cfg := ⟨0, 0, 0, 0, 0, 0, 0, 0, 0, 0, 0, 0⟩
def cfg1 : Cfg := ⟨1, 1, 1, 1, 1, 1, 1, 1, 1, 1, 1, 1⟩
def alvS : List XV → Option ((XV → Prop) → Prop) := skOf (fun _ : Unit => []) (fun _ => True) (fun _ => true) (fun y => .bool y)
theorem TN0ok : TabOk Try.prog TN0 := mkT2_ok clok_law19 trivial trivial ⟨sk_cfg, sk_first, sk_right, sk_sm, sk_split, trivial⟩ trivial
theorem r_alv (r : XV) : (quietGo TN0 80 (callI TN0 80 20) 7 [] (fun v => ResLe v r)) = (∃ (s : Prog), ArgsLe [.agg 3 [.row true 5 1 fun a => .agg 5 [.int .i64 41, .int .i64 0, .int .i64 0, .int .i64 0, .int .i64 0], .int .i64 3, .row true 1 1 fun
 a => .int .u8 5]] [e_Prog s] ∧ PreIs (Prog.wf s) ∧ ∀ (y : Stt), y = firstF s → ∃ (s : Prog), ArgsLe [.agg 3 [.row true 5 1 fun a => .agg 5 [.int .i64 41, .int .i64
 0, .int .i64 0, .int .i64 0, .int .i64 0], .int .i64 3, .row true 1 1 fun a => .int .u8 5]] [e_Prog s] ∧ PreIs (Prog.wf s) ∧ ∀ (y_1 : Split × Int), y_1 = splitF
 s → ∃ (s : Cfg), ArgsLe [.agg 12 [.int .i64 0, .int .i64 0, .int .i64 0, .int .i64 0, .int .i64 0, .int .i64 0, .int .i64 0, .int .i64 0, .int .i64 0, .int .i64
 0, .int .i64 0, .int .i64 0]] [e_Cfg s] ∧ PreIs True ∧ ∀ (y_2 : Bool), y_2 = rightCfg s → bif bif !y_2 then !y_2 else true then bif bif decide (0 < (↑(List.length
 (Stt.mem y)) : Int)) then true else !bif !y_2 then decide ((↑(List.length (Stt.mem y)) : Int) = 3) else false then bif bif bif !y_2 then decide ((↑(List.length (Stt.mem
 y)) : Int) = 3) else false then bif !y_2 then decide ((↑(List.length (Stt.mem y)) : Int) = 3) else false else true then bif bif bif !y_2 then decide ((↑(List.length
 (Stt.mem y)) : Int) = 3) else false then decide (ix (Stt.mem y) 0 = 5) else false then ∃ (s : Cfg × Split × Stt), ArgsLe [.agg 12 [.int .i64 1, .int .i64 1, .int
 .i64 1, .int .i64 1, .int .i64 1, .int .i64 1, .int .i64 1, .int .i64 1, .int .i64 1, .int .i64 1, .int .i64 1, .int .i64 1], e_Split (Prod.fst y_1), e_Stt y] [e_Cfg
 (Prod.fst s), e_Split (Prod.fst (Prod.snd s)), e_Stt (Prod.snd (Prod.snd s))] ∧ PreIs (Stt.ok (Prod.snd (Prod.snd s))) ∧ ∀ (y_3 : Bool), y_3 = rightStt (Prod.fst
 s) (Prod.fst (Prod.snd s)) (Prod.snd (Prod.snd s)) → bif bif bif bif !y_2 then decide ((↑(List.length (Stt.mem y)) : Int) = 3) else false then decide (ix (Stt.mem
 y) 0 = 5) else false then y_3 else false then ∃ (s : Stt × Stt), ArgsLe [e_Stt y, e_Stt y] [e_Stt (Prod.fst s), e_Stt (Prod.snd s)] ∧ PreIs (Stt.ok (Prod.fst s)
 ∧ Stt.ok (Prod.snd s)) ∧ ∀ (y_4 : Bool), y_4 = sameF (Prod.fst s) (Prod.snd s) → ResLe (.bool (bif bif bif bif !y_2 then decide ((↑(List.length (Stt.mem y)) : Int)
 = 3) else false then decide (ix (Stt.mem y) 0 = 5) else false then y_3 else false then y_4 else false)) r else bif !bif bif bif !y_2 then decide ((↑(List.length
 (Stt.mem y)) : Int) = 3) else false then decide (ix (Stt.mem y) 0 = 5) else false then y_3 else false then ResLe (.bool false) r else False else bif !bif bif !y_2
 then decide ((↑(List.length (Stt.mem y)) : Int) = 3) else false then decide (ix (Stt.mem y) 0 = 5) else false then ResLe (.bool false) r else False else False else
 False else False) := by kernel_rfl
theorem z_i64 : i64R 0 := by unfold i64R; omega
theorem z_sideW : zSide.wf := ⟨fun i _ => by show u32R 0; unfold u32R; omega, fun i _ => z_i64, ⟨z_i64, z_i64, z_i64⟩, z_i64, z_i64⟩
theorem nil_w {α : Type} {P : α → Prop} {k : Nat} : (∀ x ∈ ([] : List α), P x) ∧ ([] : List α).length * k ≤ 140737488351232 := ⟨fun x h => (by cases h), by simp⟩
theorem z_ok : zStt.ok := ⟨⟨z_i64, z_sideW, z_sideW, nil_w, nil_w, nil_w, nil_w, nil_w, nil_w, nil_w, nil_w, nil_w, ⟨z_i64, z_i64, z_i64⟩, z_i64, z_i64, z_i64⟩, by decide, by decide, by decide, by decide, by decide, by decide, by decide, by decide, by decide⟩
theorem mem_u8 {p : Prog} (hw : p.wf) : ∀ x ∈ memF p, u8R x := fun x hx => by
  obtain ⟨j, hj, rfl⟩ := List.mem_iff_getElem.1 hx
  rw [← ix_lt hj]
  have hj' : j < p.size.toNat := by rw [← mem_len]; exact hj
  unfold memF
  rw [ix_tabL hj']
  by_cases hd : j < p.data.length
  · rw [decide_eq_true hd]; exact hw.2.2.1 _ (ix_mem hd)
  · rw [decide_eq_false hd]; show u8R 0; unfold u8R; omega
theorem right_size {p : Prog} (h : rightProg p = true) : 0 ≤ p.size ∧ p.size ≤ 65536 ∧ 1 ≤ p.code.length ∧ p.code.length ≤ 2000 := by
  simp only [rightProg, Bool.and_eq_true, decide_eq_true_eq] at h
  omega
theorem start_ok {p : Prog} (hw : p.wf) (hr : rightProg p = true) : (startF p).ok := by
  obtain ⟨⟨a1, a2, a3, a4, a5, a6, a7, a8, a9, a10, a11, a12, a13⟩, b1, b2, b3, b4, b5, b6, b7, b8, b9⟩ := z_ok
  have hs := right_size hr
  have hl : (memF p).length ≤ 65536 := by rw [mem_len]; omega
  exact ⟨⟨a1, a2, a3, a4, a5, a6, a7, a8, a9, a10, ⟨mem_u8 hw, by show (memF p).length * 1 ≤ _; omega⟩, a12, a13⟩, b1, b2, b3, b4, b5, b6, b7, by show (memF p).length ≤ _; omega, b9⟩
theorem first_ok {p : Prog} (hw : p.wf) : (firstF p).ok := by
  unfold firstF
  cases hr : rightProg p with
  | true => exact start_ok hw hr
  | false => exact z_ok
theorem p0_wf : p0.wf := ⟨⟨fun x hx => (by
  obtain rfl := List.mem_singleton.1 hx
  exact ⟨by show i64R 41; unfold i64R; omega, z_i64, z_i64, z_i64, z_i64⟩), by decide⟩, by show i64R 3; unfold i64R; omega, ⟨fun x hx => (by
  obtain rfl := List.mem_singleton.1 hx
  unfold u8R; omega), by decide⟩⟩
theorem p0_mem : (firstF p0).mem = [5, 0, 0] := by kernel_rfl
theorem p0_right : rightStt cfg1 (splitF p0).1 (firstF p0) = true := by kernel_rfl
theorem cfg0_no : rightCfg cfg0 = false := by kernel_rfl
theorem p0_args : ArgsLe [.agg 3 [.row true 5 1 fun a => .agg 5 [.int .i64 41, .int .i64 0, .int .i64 0, .int .i64 0, .int .i64 0], .int .i64 3, .row true 1 1 fun a => .int .u8 5]] [e_Prog p0] := ⟨lqs_cons (lq_agg (lqs_cons (lq_lit1 (.refl _)) (lqs_cons (.refl _) (lqs_cons (lq_lit1 (.refl _)) lqs_nil)))) lqs_nil⟩
theorem sk_alv : SkOk Try.prog (7, alvS) := skOf_ok fun _ _ => by
  show Pure _ _ (cons []) (con (.bool true))
  refine pureR (u := 80) (k := 20) mix TN0ok ?_
  refine Eq.mpr (r_alv _) ?_
  refine ⟨p0, p0_args, ⟨p0_wf⟩, ?_⟩
  intro y hy
  replace hy : y = firstF p0 := hy
  refine ⟨p0, p0_args, ⟨p0_wf⟩, ?_⟩
  intro y1 hy1
  replace hy1 : y1 = splitF p0 := hy1
  refine ⟨cfg0, .rfl, ⟨trivial⟩, ?_⟩
  intro y2 hy2
  replace hy2 : y2 = rightCfg cfg0 := hy2
  rw [cfg0_no] at hy2
  have hm : y.mem = [5, 0, 0] := by rw [hy]; exact p0_mem
  have hok : y.ok := by rw [hy]; exact first_ok p0_wf
  have hr : rightStt cfg1 y1.1 y = true := by rw [hy, hy1]; exact p0_right
  clear hy hy1
  subst hy2
  have l1 : (0 : Int) < (y.mem.length : Int) := by rw [hm]; decide
  have l2 : (y.mem.length : Int) = 3 := by rw [hm]; decide
  have l3 : ix y.mem 0 = 5 := by rw [hm]; rfl
  simp only [l1, l2, l3, Bool.not_false, Bool.not_true, decide_true, cond_true, cond_false]
  refine ⟨(cfg1, y1.1, y), .rfl, ⟨hok⟩, ?_⟩
  intro y3 hy3
  replace hy3 : y3 = rightStt cfg1 y1.1 y := hy3
  rw [hr] at hy3
  subst hy3
  refine ⟨(y, y), .rfl, ⟨hok, hok⟩, ?_⟩
  intro y4 hy4
  replace hy4 : y4 = sameF y y := hy4
  rw [sameF_self] at hy4
  subst hy4
  exact .rfl
end Go.Proofs.Ythmlnmkbeohojaa

/- Which states, programs and splits are few; copies. -/
namespace Go.Proofs.Ythmlnmkbeohojaa
open Go.Ra
set_option linter.unusedVariables false
set_option linter.unusedSimpArgs false
def TF0 : Tab := mkT2 qq (cl_law18 ++ cl_law4) [] [] [] []
def few4F (p : Prog) : Bool := decide ((p.code.length : Int) ≤ 200) && decide ((p.data.length : Int) ≤ 500)
def few4S : List XV → Option ((XV → Prop) → Prop) := skOf (fun p : Prog => [e_Prog p]) (fun p => True) (fun p => few4F p) (fun y => .bool y)
theorem TF0ok : TabOk Try.prog TF0 := mkT2_ok (clok_law18.app clok_law4) trivial trivial trivial trivial
theorem r_few4 (p : Prog) (r : XV) : (quietGo TF0 80 (callI TF0 80 20) 8 [e_Prog p] (fun v => ResLe v r)) = (bif bif decide ((↑(List.length (Prog.code p)) : Int) ≤ 200) then decide ((↑(List.length (Prog.code p)) : Int) ≤ 200) else true then ResLe (.bool (bif decide
 ((↑(List.length (Prog.code p)) : Int) ≤ 200) then decide ((↑(List.length (Prog.data p)) : Int) ≤ 500) else false)) r
else False) := by kernel_rfl
theorem sk_few4 : SkOk Try.prog (8, few4S) := skOf_ok fun p _ => by
  refine pureR (u := 80) (k := 20) mix TF0ok ?_
  refine Eq.mpr (r_few4 p _) ?_
  simp only [pk_and, cond_true, band, Bool.and_assoc]
  exact .rfl
end Go.Proofs.Ythmlnmkbeohojaa

