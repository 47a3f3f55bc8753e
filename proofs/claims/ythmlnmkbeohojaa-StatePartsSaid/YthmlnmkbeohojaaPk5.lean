/- Texts put together. -/
import Derived.Test.YthmlnmkbeohojaaPk4
/- The split of a program by an owner. -/
namespace Go.Proofs.Ythmlnmkbeohojaa
open Go.Ra
set_option linter.unusedVariables false
set_option linter.unusedSimpArgs false
def TT8 : Tab := mkT2 qq cl_ref10 [] [] [(67, clsS), (69, emtS)] [(68, cutM)]
/-- Blocks, of which the cells' rows are told by functions. -/
def wTab (bl : List Block) (xA xE : Nat → Bool) (eA eE nA nE : Nat → Nat) (fA fE : Nat → Nat → XV) (j : Nat) : XV := .agg 6 [.int .i64 (ix bl j).src, .int .i64 (ix bl j).dst, .int .i64 (ix bl j).next, .int .i64 (ix bl j).taken, .row (xA j) (eA j) (nA j) (fA j), .row (xE j) (eE j) (nE j) (fE j)]
def wtS (p : Prog) (o : Nat → Int) (bl : List Block) (f : Nat → XV) (i : Nat) : XSt := ⟨[(7, .int .i64 i), (6, .ptr 4 [] 0), (4, .ptr 2 [] 0), (3, .ptr 1 [] 0), (2, .ptr 0 [] 0)], [(4, some (.agg 17 [.sl 3 [] 0 0 bl.length 6, .tab 16 1 fun i => .int .i64 (o i)])), (3, some (.tab bl.length 6 f)), (2, some (.agg 17 [.row true 0 0 fun x => .unk, .tab 16 1 fun x => .int .i64 0])), (1, some (.tab 16 1 fun i => .int .i64 (o i))), (0, some (e_Prog p))], 5⟩
def wiS (p : Prog) (o : Nat → Int) (bl : List Block) (f f' : Nat → XV) (i : Nat) (m : Nat) (ca ce : List Cell) : XSt := ⟨[(9, .int .i64 m), (8, .ptr 3 [1] (i * 6)), (7, .int .i64 i), (6, .ptr 4 [] 0), (4, .ptr 2 [] 0), (3, .ptr 1 [] 0), (2, .ptr 0 [] 0)], [(6, some (.tab ce.length 9 (fun k => e_Cell (ix ce k)))), (5, some (.tab ca.length 9 (fun k => e_Cell (ix ca k)))), (4, some (.agg 17 [.sl 3 [] 0 0 bl.length 6, .tab 16 1 fun i => .int .i64 (o i)])), (3, some (.agg (bl.length * 6) [.tab i 6 f, .agg 6 [.int .i64 (ix bl i).src, .int .i64 (ix bl i).dst, .int .i64 (ix bl i).next, .int .i64 (ix bl i).taken, .sl 5 [] 0 0 ca.length 9, .sl 6 [] 0 0 ce.length 9], .tab (bl.length - i - 1) 6 f'])), (2, some (.agg 17 [.row true 0 0 fun x => .unk, .tab 16 1 fun x => .int .i64 0])), (1, some (.tab 16 1 fun i => .int .i64 (o i))), (0, some (e_Prog p))], 7⟩
/-- A's cells of the first so many instructions of a block, and E's. -/
def emA (p : Prog) (o : Nat → Int) (b : Block) (k : Nat) : List Cell := (List.range k).flatMap fun j => (emitF (ix p.code (b.src.toNat + j)) o ((b.src.toNat + j : Nat) : Int) (j : Int)).1
def emE (p : Prog) (o : Nat → Int) (b : Block) (k : Nat) : List Cell := (List.range k).flatMap fun j => (emitF (ix p.code (b.src.toNat + j)) o ((b.src.toNat + j : Nat) : Int) (j : Int)).2
def blkN (b : Block) : Nat := (b.dst - b.src).toNat
def withB (p : Prog) (o : Nat → Int) (b : Block) : Block := ⟨b.src, b.dst, b.next, b.taken, emA p o b (blkN b), emE p o b (blkN b)⟩
/-- A program's split by an owner. -/
def withF (p : Prog) (o : Nat → Int) : Split × Int := if closedF p o then (⟨(cutF p).map (withB p o), o⟩, 0) else (⟨[], fun _ => 0⟩, 1)
def splitF (p : Prog) : Split × Int := withF p (ownerF p)
def e_SplitE (y : Split × Int) : XV := .tup [e_Split y.1, .int .i64 y.2]
def witS : List XV → Option ((XV → Prop) → Prop) := skOf (fun q : Prog × (Nat → Int) => [e_Prog q.1, e_own q.2]) (fun q => q.1.wf) (fun q => withF q.1 q.2) (fun y => e_SplitE y)
def splS : List XV → Option ((XV → Prop) → Prop) := skOf (fun p : Prog => [e_Prog p]) (fun p => p.wf) (fun p => splitF p) (fun y => e_SplitE y)
/-- The blocks, of which the first so many have their cells. -/
def wF (p : Prog) (o : Nat → Int) (bl : List Block) (i : Nat) : Nat → XV := wTab bl (fun j => !decide (j < i)) (fun j => !decide (j < i)) (fun j => bif decide (j < i) then 9 else 0) (fun j => bif decide (j < i) then 9 else 0)
  (fun j => bif decide (j < i) then (emA p o (ix bl j) (blkN (ix bl j))).length else 0) (fun j => bif decide (j < i) then (emE p o (ix bl j) (blkN (ix bl j))).length else 0)
  (fun j k => bif decide (j < i) then e_Cell (ix (emA p o (ix bl j) (blkN (ix bl j))) k) else .unk) (fun j k => bif decide (j < i) then e_Cell (ix (emE p o (ix bl j) (blkN (ix bl j))) k) else .unk)
def TT9 : Tab := mkT2 qq cl_ref10 [] [] [(48, onrS), (47, witS)] []
theorem r_with0 (p : Prog) (o : Nat → Int) (r : XV) : (goQ Try.prog TT8 [(.cell 4 .true 17), (.tmp 5)] r (.run c_ref10_With) [] ⟨envX 0 [e_Prog p, e_own o], [], 0⟩) = (∃ (s : Prog × (Nat → Int)), ArgsLe [e_Prog p, .tab 16 1 fun i => .int .i64 (o i)] [e_Prog (Prod.fst s), e_own (Prod.snd s)] ∧ PreIs (Prog.wf (Prod.fst s)) ∧
 ∀ (y : Bool), y = closedF (Prod.fst s) (Prod.snd s) → bif !y then ResLe (.tup [.agg 17 [.row true 0 0 fun x => .unk, .tab 16 1 fun x => .int .i64 0], .int .i64 1])
 r else ∃ (s : Prog), ArgsLe [e_Prog p] [e_Prog s] ∧ PreIs (Prog.wf s) ∧ ∀ (y : List Block), y = cutF s → LoopAt (Ok Try.prog (Tab.q TT8)) c_ref10_With_l2 (XSt.mk
 [(7, .int .i64 0), (6, .ptr 4 [] 0), (5, .int .i64 0), (4, .ptr 2 [] 0), (3, .ptr 1 [] 0), (2, .ptr 0 [] 0)] [(4, some (.agg 17 [.sl 3 [] 0 0 (List.length y) 6,
 .tab 16 1 fun i => .int .i64 (o i)])), (3, some (.tab (List.length y) 6 fun i => e_blk0 (ix y i))), (2, some (.agg 17 [.row true 0 0 fun x => .unk, .tab 16 1 fun
 x => .int .i64 0])), (1, some (.tab 16 1 fun i => .int .i64 (o i))), (0, some (e_Prog p))] 5) [Frm.blk 0, Frm.seq c_ref10_With_p2] (finQR [AR.cell 4 true 17, AR.tmp
 5] r)) := by kernel_rfl
theorem r_with2 (p : Prog) (o : Nat → Int) (bl : List Block) (xA xE : Nat → Bool) (eA eE nA nE : Nat → Nat) (fA fE : Nat → Nat → XV) (i : Nat) (r : XV) (B : XSt → Prop) : (goQ Try.prog TT8 [(.cell 4 .true 17), (.tmp 5)] r (.run c_ref10_With_l2) [.lp c_ref10_With_l2 B, .blk 0, .seq c_ref10_With_p2] (wtS p o bl (wTab bl xA xE eA eE nA nE fA fE) i)) = (bif decide ((↑i : Int) < (↑(List.length bl) : Int)) then bif decide ((↑i : Int) < (↑(List.length bl) : Int)) then bif Nat.beq (pl (i * 6) 0) (pl (i * 6) 0) then
 bif decide (i < List.length bl) then LoopAt (Ok Try.prog (Tab.q TT8)) c_ref10_With_l1 (XSt.mk [(9, .int .i64 (Block.src (ix bl i))), (8, .ptr 3 [i] (i * 6)), (7,
 .int .i64 (↑i : Int)), (6, .ptr 4 [] 0), (4, .ptr 2 [] 0), (3, .ptr 1 [] 0), (2, .ptr 0 [] 0)] [(4, some (.agg 17 [.sl 3 [] 0 0 (List.length bl) 6, .tab 16 1 fun
 i => .int .i64 (o i)])), (3, some (.tab (List.length bl) 6 fun j => .agg 6 [.int .i64 (Block.src (ix bl j)), .int .i64 (Block.dst (ix bl j)), .int .i64 (Block.next
 (ix bl j)), .int .i64 (Block.taken (ix bl j)), .row (xA j) (eA j) (nA j) fun a => fA j a, .row (xE j) (eE j) (nE j) fun a => fE j a])), (2, some (.agg 17 [.row true
 0 0 fun x => .unk, .tab 16 1 fun x => .int .i64 0])), (1, some (.tab 16 1 fun i => .int .i64 (o i))), (0, some (e_Prog p))] 5) [Frm.blk 2, Frm.blk 1, Frm.seq c_ref10_With_p1,
 Frm.lp c_ref10_With_l2 B, Frm.blk 0, Frm.seq c_ref10_With_p2] (finQR [AR.cell 4 true 17, AR.tmp 5] r) else False else False else False
else bif decide (List.length
 bl ≤ List.length bl) then ResLe (.tup [.agg 17 [.row false 6 (List.length bl) fun i => .agg 6 [.int .i64 (Block.src (ix bl i)), .int .i64 (Block.dst (ix bl i)),
 .int .i64 (Block.next (ix bl i)), .int .i64 (Block.taken (ix bl i)), .row (xA i) (eA i) (nA i) fun a => fA i a, .row (xE i) (eE i) (nE i) fun a => fE i a], .tab
 16 1 fun i => .int .i64 (o i)], .int .i64 0]) r else False) := by kernel_rfl
theorem r_with1 (p : Prog) (o : Nat → Int) (bl : List Block) (f f' : Nat → XV) (i m : Nat) (ca ce : List Cell) (r : XV) (A B : XSt → Prop) : (goQ Try.prog TT8 [(.cell 4 .true 17), (.tmp 5)] r (.run c_ref10_With_l1) [.lp c_ref10_With_l1 A, .blk 2, .blk 1, .seq c_ref10_With_p1, .lp c_ref10_With_l2 B, .blk 0, .seq c_ref10_With_p2] (wiS p o bl f f' i m ca ce)) = (bif Nat.beq (pl (sizesX (List.take 1 [.tab i 6 fun a => f a, .agg 6 [.int .i64 (Block.src (ix bl i)), .int .i64 (Block.dst (ix bl i)), .int .i64 (Block.next
 (ix bl i)), .int .i64 (Block.taken (ix bl i)), .sl 5 [] 0 0 (List.length ca) 9, .sl 6 [] 0 0 (List.length ce) 9], .tab (List.length bl - i - 1) 6 fun a => f' a]))
 1) (pl (i * 6) 1) then bif decide ((↑m : Int) < Block.dst (ix bl i)) then bif decide ((↑m : Int) < (↑(List.length (Prog.code p)) : Int)) then bif Nat.beq (pl (sizesX
 (List.take 1 [.tab i 6 fun a => f a, .agg 6 [.int .i64 (Block.src (ix bl i)), .int .i64 (Block.dst (ix bl i)), .int .i64 (Block.next (ix bl i)), .int .i64 (Block.taken
 (ix bl i)), .sl 5 [] 0 0 (List.length ca) 9, .sl 6 [] 0 0 (List.length ce) 9], .tab (List.length bl - i - 1) 6 fun a => f' a])) 0) (pl (i * 6) 0) then ∃ (s : Ins
 × (Nat → Int) × Int × Int), ArgsLe [e_Ins (ix (Prog.code p) m), .tab 16 1 fun i => .int .i64 (o i), .int .i64 (↑m : Int), .int .i64 (IntKind.wrap .i64 ((↑m : Int)
 - Block.src (ix bl i)))] [e_Ins (Prod.fst s), e_own (Prod.fst (Prod.snd s)), .int .i64 (Prod.fst (Prod.snd (Prod.snd s))), .int .i64 (Prod.snd (Prod.snd (Prod.snd
 s)))] ∧ PreIs True ∧ ∀ (y : List Cell × List Cell), y = emitF (Prod.fst s) (Prod.fst (Prod.snd s)) (Prod.fst (Prod.snd (Prod.snd s))) (Prod.snd (Prod.snd (Prod.snd
 s))) → bif Nat.beq (pl (sizesX (List.take 1 [.tab i 6 fun a => f a, .agg 6 [.int .i64 (Block.src (ix bl i)), .int .i64 (Block.dst (ix bl i)), .int .i64 (Block.next
 (ix bl i)), .int .i64 (Block.taken (ix bl i)), .sl 5 [] 0 0 (List.length ca) 9, .sl 6 [] 0 0 (List.length ce) 9], .tab (List.length bl - i - 1) 6 fun a => f' a]))
 4) (pl (i * 6) 4) then bif decide (List.length ca ≤ List.length ca) then bif decide (pl (List.length ca) (List.length (Prod.fst y)) * 72 ≤ 140737488355328) then
 bif Nat.beq (pl (sizesX (List.take 1 [.tab i 6 fun a => f a, .agg 6 [.int .i64 (Block.src (ix bl i)), .int .i64 (Block.dst (ix bl i)), .int .i64 (Block.next (ix
 bl i)), .int .i64 (Block.taken (ix bl i)), .sl 5 [] 0 0 (List.length ca) 9, .sl 6 [] 0 0 (List.length ce) 9], .tab (List.length bl - i - 1) 6 fun a => f' a])) 4)
 (pl (i * 6) 4) then bif Nat.beq (pl (sizesX (List.take 1 (List.set [.tab i 6 fun a => f a, .agg 6 [.int .i64 (Block.src (ix bl i)), .int .i64 (Block.dst (ix bl i)),
 .int .i64 (Block.next (ix bl i)), .int .i64 (Block.taken (ix bl i)), .sl 5 [] 0 0 (List.length ca) 9, .sl 6 [] 0 0 (List.length ce) 9], .tab (List.length bl - i
 - 1) 6 fun a => f' a] 1 (.agg 6 [.int .i64 (Block.src (ix bl i)), .int .i64 (Block.dst (ix bl i)), .int .i64 (Block.next (ix bl i)), .int .i64 (Block.taken (ix bl
 i)), .sl 7 [] 0 0 (pl (List.length ca) (List.length (Prod.fst y))) 9, .sl 6 [] 0 0 (List.length ce) 9])))) 5) (pl (i * 6) 5) then bif decide (List.length ce ≤ List.length
 ce) then bif decide (pl (List.length ce) (List.length (Prod.snd y)) * 72 ≤ 140737488355328) then bif Nat.beq (pl (sizesX (List.take 1 (List.set [.tab i 6 fun a =>
 f a, .agg 6 [.int .i64 (Block.src (ix bl i)), .int .i64 (Block.dst (ix bl i)), .int .i64 (Block.next (ix bl i)), .int .i64 (Block.taken (ix bl i)), .sl 5 [] 0 0
 (List.length ca) 9, .sl 6 [] 0 0 (List.length ce) 9], .tab (List.length bl - i - 1) 6 fun a => f' a] 1 (.agg 6 [.int .i64 (Block.src (ix bl i)), .int .i64 (Block.dst
 (ix bl i)), .int .i64 (Block.next (ix bl i)), .int .i64 (Block.taken (ix bl i)), .sl 7 [] 0 0 (pl (List.length ca) (List.length (Prod.fst y))) 9, .sl 6 [] 0 0 (List.length
 ce) 9])))) 5) (pl (i * 6) 5) then A (XSt.mk [(9, .int .i64 (IntKind.wrap .i64 ((↑m : Int) + (1 : Int)))), (8, .ptr 3 [1] (i * 6)), (7, .int .i64 (↑i : Int)), (6,
 .ptr 4 [] 0), (4, .ptr 2 [] 0), (3, .ptr 1 [] 0), (2, .ptr 0 [] 0)] [(8, some (.tab (pl (List.length ce) (List.length (Prod.snd y))) 9 fun i => .agg 9 [.int .i64
 (bif decide (i < List.length ce) then Cell.kind (ix ce i) else Cell.kind (ix (Prod.snd y) (i - List.length ce))), .agg 5 [.int .i64 (bif decide (i < List.length
 ce) then Ins.op (Cell.ins (ix ce i)) else Ins.op (Cell.ins (ix (Prod.snd y) (i - List.length ce)))), .int .i64 (bif decide (i < List.length ce) then Ins.d (Cell.ins
 (ix ce i)) else Ins.d (Cell.ins (ix (Prod.snd y) (i - List.length ce)))), .int .i64 (bif decide (i < List.length ce) then Ins.a (Cell.ins (ix ce i)) else Ins.a (Cell.ins
 (ix (Prod.snd y) (i - List.length ce)))), .int .i64 (bif decide (i < List.length ce) then Ins.b (Cell.ins (ix ce i)) else Ins.b (Cell.ins (ix (Prod.snd y) (i - List.length
 ce)))), .int .i64 (bif decide (i < List.length ce) then Ins.imm (Cell.ins (ix ce i)) else Ins.imm (Cell.ins (ix (Prod.snd y) (i - List.length ce))))], .int .i64
 (bif decide (i < List.length ce) then Cell.reg (ix ce i) else Cell.reg (ix (Prod.snd y) (i - List.length ce))), .int .i64 (bif decide (i < List.length ce) then Cell.pc
 (ix ce i) else Cell.pc (ix (Prod.snd y) (i - List.length ce))), .int .i64 (bif decide (i < List.length ce) then Cell.off (ix ce i) else Cell.off (ix (Prod.snd y)
 (i - List.length ce)))])), (7, some (.tab (pl (List.length ca) (List.length (Prod.fst y))) 9 fun i => .agg 9 [.int .i64 (bif decide (i < List.length ca) then Cell.kind
 (ix ca i) else Cell.kind (ix (Prod.fst y) (i - List.length ca))), .agg 5 [.int .i64 (bif decide (i < List.length ca) then Ins.op (Cell.ins (ix ca i)) else Ins.op
 (Cell.ins (ix (Prod.fst y) (i - List.length ca)))), .int .i64 (bif decide (i < List.length ca) then Ins.d (Cell.ins (ix ca i)) else Ins.d (Cell.ins (ix (Prod.fst
 y) (i - List.length ca)))), .int .i64 (bif decide (i < List.length ca) then Ins.a (Cell.ins (ix ca i)) else Ins.a (Cell.ins (ix (Prod.fst y) (i - List.length ca)))),
 .int .i64 (bif decide (i < List.length ca) then Ins.b (Cell.ins (ix ca i)) else Ins.b (Cell.ins (ix (Prod.fst y) (i - List.length ca)))), .int .i64 (bif decide (i
 < List.length ca) then Ins.imm (Cell.ins (ix ca i)) else Ins.imm (Cell.ins (ix (Prod.fst y) (i - List.length ca))))], .int .i64 (bif decide (i < List.length ca)
 then Cell.reg (ix ca i) else Cell.reg (ix (Prod.fst y) (i - List.length ca))), .int .i64 (bif decide (i < List.length ca) then Cell.pc (ix ca i) else Cell.pc (ix
 (Prod.fst y) (i - List.length ca))), .int .i64 (bif decide (i < List.length ca) then Cell.off (ix ca i) else Cell.off (ix (Prod.fst y) (i - List.length ca)))])),
 (6, none), (5, none), (4, some (.agg 17 [.sl 3 [] 0 0 (List.length bl) 6, .tab 16 1 fun i => .int .i64 (o i)])), (3, some (.agg (List.length bl * 6) [.tab i 6 fun
 a => f a, .agg 6 [.int .i64 (Block.src (ix bl i)), .int .i64 (Block.dst (ix bl i)), .int .i64 (Block.next (ix bl i)), .int .i64 (Block.taken (ix bl i)), .sl 7 []
 0 0 (pl (List.length ca) (List.length (Prod.fst y))) 9, .sl 8 [] 0 0 (pl (List.length ce) (List.length (Prod.snd y))) 9], .tab (List.length bl - i - 1) 6 fun a =>
 f' a])), (2, some (.agg 17 [.row true 0 0 fun x => .unk, .tab 16 1 fun x => .int .i64 0])), (1, some (.tab 16 1 fun i => .int .i64 (o i))), (0, some (e_Prog p))]
 9) else False else False else False else False else False else False else False else False else False else False else B (XSt.mk [(7, .int .i64 (IntKind.wrap .i64
 ((↑i : Int) + (1 : Int)))), (6, .ptr 4 [] 0), (4, .ptr 2 [] 0), (3, .ptr 1 [] 0), (2, .ptr 0 [] 0)] [(6, some (.tab (List.length ce) 9 fun k => e_Cell (ix ce k))),
 (5, some (.tab (List.length ca) 9 fun k => e_Cell (ix ca k))), (4, some (.agg 17 [.sl 3 [] 0 0 (List.length bl) 6, .tab 16 1 fun i => .int .i64 (o i)])), (3, some
 (.agg (List.length bl * 6) [.tab i 6 fun a => f a, .agg 6 [.int .i64 (Block.src (ix bl i)), .int .i64 (Block.dst (ix bl i)), .int .i64 (Block.next (ix bl i)), .int
 .i64 (Block.taken (ix bl i)), .sl 5 [] 0 0 (List.length ca) 9, .sl 6 [] 0 0 (List.length ce) 9], .tab (List.length bl - i - 1) 6 fun a => f' a])), (2, some (.agg
 17 [.row true 0 0 fun x => .unk, .tab 16 1 fun x => .int .i64 0])), (1, some (.tab 16 1 fun i => .int .i64 (o i))), (0, some (e_Prog p))] 7)
else False) := by kernel_rfl 

theorem TT8ok : TabOk Try.prog TT8 := mkT2_ok clok_ref10 trivial trivial ⟨sk_cls, sk_emit, trivial⟩ ⟨mk_cut, trivial⟩
theorem wF_lt {p : Prog} {o : Nat → Int} {bl : List Block} {i j : Nat} (h : j < i) : con (wF p o bl i j) = con (.agg 6 [.int .i64 (ix bl j).src, .int .i64 (ix bl j).dst, .int .i64 (ix bl j).next, .int .i64 (ix bl j).taken, e_row 9 e_Cell (emA p o (ix bl j) (blkN (ix bl j))), e_row 9 e_Cell (emE p o (ix bl j) (blkN (ix bl j)))]) := by
  unfold wF wTab
  simp only [h, decide_true, cond_true, Bool.not_true]
  rfl
theorem wF_ge {p : Prog} {o : Nat → Int} {bl : List Block} {i j : Nat} (h : ¬ j < i) : con (wF p o bl i j) = con (e_blk0 (ix bl j)) := by
  unfold wF wTab
  simp only [h, decide_false, cond_false, Bool.not_false]
  rfl
theorem sent_le {i : Ins} {o : Nat → Int} : (sentF i o).length ≤ 2 := by
  unfold sentF
  have := sent_len (o := o) (l := readsF i)
  have := (reads_ok (i := i)).1
  omega
theorem emit_len {i : Ins} {o : Nat → Int} {pc off : Int} : (emitF i o pc off).1.length ≤ 4 ∧ (emitF i o pc off).2.length ≤ 4 := by
  have := sent_le (i := i) (o := o)
  unfold emitF
  repeat' split
  all_goals (simp; try omega)
theorem flat_step {α : Type} {f : Nat → List α} {k : Nat} : (List.range (k + 1)).flatMap f = (List.range k).flatMap f ++ f k := by
  rw [List.range_succ, List.flatMap_append]
  simp
theorem flat_len {α : Type} {f : Nat → List α} (hf : ∀ j, (f j).length ≤ 4) : ∀ {k : Nat}, ((List.range k).flatMap f).length ≤ 4 * k
  | 0 => by simp
  | k + 1 => by
    rw [flat_step, List.length_append]
    have := flat_len hf (k := k)
    have := hf k
    omega
theorem cut_blk {p : Prog} {i : Nat} (h : i < (cutF p).length) : 0 ≤ (ix (cutF p) i).src ∧ (ix (cutF p) i).src < (ix (cutF p) i).dst ∧ (ix (cutF p) i).dst ≤ p.code.length := by
  unfold cutF at h ⊢
  rw [cutK_len] at h
  have e : ix (cutK p (leadersF p) (leadersF p).length) i = cutB p (leadersF p) i := by
    unfold cutK
    rw [ix_map (by simpa using h), ix_lt (by simpa using h)]
    simp
  rw [e]
  have h1 := cutTo_ok h
  have h2 := (lead_ok (p := p)).1 _ (ix_mem h)
  exact ⟨h2.1, h1.2.2, h1.2.1⟩
theorem cut_len {p : Prog} : (cutF p).length ≤ 2000 := by
  unfold cutF
  rw [cutK_len]
  exact (lead_ok (p := p)).2.2
theorem sk_with : SkOk Try.prog (47, witS) := skOf_ok fun ⟨p, o⟩ hw => by
  have hw : p.wf := hw
  have hl := hw.1.2
  show Pure _ _ (cons [e_Prog p, e_own o]) (con (e_SplitE (withF p o)))
  refine pureQ mix TT8ok t_ref10_With (Nat.le_of_ble_eq_true rfl) ?_
  refine Eq.mpr (r_with0 p o _) ?_
  refine ⟨(p, o), .rfl, ⟨hw⟩, ?_⟩
  intro y hy
  replace hy : y = closedF p o := hy
  subst hy
  unfold withF
  cases hc : closedF p o with
  | false => exact ⟨lq_tup (lqs_cons (lq_agg (lqs_cons lq_lit0 (lqs_cons (.refl _) lqs_nil))) (lqs_cons (.refl _) lqs_nil))⟩
  | true =>
  have hc2 : p.code.length ≤ 2000 := by
    simp only [closedF, rightProg, Bool.and_eq_true, decide_eq_true_eq] at hc
    omega
  refine ⟨p, .rfl, ⟨hw⟩, ?_⟩
  rintro bl rfl
  have hbl := fun i => cut_blk (p := p) (i := i)
  have hbn := cut_len (p := p)
  generalize cutF p = bl at *
  refine loopQ mix TT8ok (fun i : Nat => wtS p o bl (wF p o bl i) i) (fun i => i ≤ bl.length) (fun i => bl.length - i) 0 (Nat.zero_le _) (.of (weakX ⟨rfl, rfl, rfl, rfl, rfl, trivial⟩ ⟨rfl, congrArg some (con_tabC fun j hj => (wF_ge (Nat.not_lt_zero j)).symm), rfl, rfl, rfl, trivial⟩ (Nat.le_refl _))) ?_
  intro i hi
  refine Eq.mpr (r_with2 p o bl _ _ _ _ _ _ _ _ i _ _) ?_
  by_cases hlt : i < bl.length
  case neg =>
    have h1 : ¬ (i : Int) < (bl.length : Int) := by omega
    obtain rfl : i = bl.length := by omega
    simp only [h1, decide_false, cond_false, Nat.le_refl, decide_true, cond_true]
    refine ⟨lq_tup (lqs_cons (lq_agg (lqs_cons (lq_erow (by simp) (.inl rfl) fun j hj => ?_) (lqs_cons (.refl _) lqs_nil))) (lqs_cons (.refl _) lqs_nil))⟩
    show leQ _ (con (e_Block (ix (bl.map (withB p o)) j)))
    rw [ix_map hj]
    have e := wF_lt (p := p) (o := o) (bl := bl) hj
    show leQ (con (wF p o bl bl.length j)) _
    rw [e]
    exact .refl _
  have h1 : (i : Int) < (bl.length : Int) := by omega
  obtain ⟨b1, b2, b3⟩ := hbl i hlt
  simp only [h1, hlt, decide_true, cond_true, Nat.beq_refl]
  have hb0 : blkN (ix bl i) = ((ix bl i).dst - (ix bl i).src).toNat := rfl
  refine loopQ mix TT8ok (fun k : Nat => wiS p o bl (wF p o bl i) (fun j => wF p o bl i (i + 1 + j)) i ((ix bl i).src.toNat + k) (emA p o (ix bl i) k) (emE p o (ix bl i) k)) (fun k => k ≤ blkN (ix bl i)) (fun k => blkN (ix bl i) - k) 0 (Nat.zero_le _) (weakK [(0, 0), (1, 1), (2, 2), (3, 3), (4, 4)] rfl rfl rfl rfl rfl ⟨k_is (by
      show con (.int .i64 (ix bl i).src) = con (.int .i64 (((ix bl i).src.toNat + 0 : Nat) : Int))
      rw [show (((ix bl i).src.toNat + 0 : Nat) : Int) = (ix bl i).src by omega]) rfl, .ptr rfl, k_is rfl rfl, .ptr rfl, .ptr rfl, .ptr rfl, .ptr rfl, trivial⟩
    ⟨⟨9, rfl⟩, ⟨9, rfl⟩, .agg (.cons (.sl rfl) (.cons (k_is rfl rfl) .nil)), k_split hlt (.agg (.cons (k_is rfl rfl) (.cons (k_is rfl rfl) (.cons (k_is rfl rfl) (.cons (k_is rfl rfl) (.cons ?_ (.cons ?_ .nil))))))), k_is rfl rfl, k_is rfl rfl, k_is rfl rfl, trivial⟩) ?_
  · simp only [Nat.lt_irrefl, decide_false, cond_false, Bool.not_false]
    exact k_nil rfl
  · simp only [Nat.lt_irrefl, decide_false, cond_false, Bool.not_false]
    exact k_nil rfl
  intro k hk
  have hA := flat_len (f := fun j => (emitF (ix p.code ((ix bl i).src.toNat + j)) o (((ix bl i).src.toNat + j : Nat) : Int) (j : Int)).1) (fun j => emit_len.1) (k := k)
  have hE := flat_len (f := fun j => (emitF (ix p.code ((ix bl i).src.toNat + j)) o (((ix bl i).src.toNat + j : Nat) : Int) (j : Int)).2) (fun j => emit_len.2) (k := k)
  replace hA : (emA p o (ix bl i) k).length ≤ 4 * k := hA
  replace hE : (emE p o (ix bl i) k).length ≤ 4 * k := hE
  refine Eq.mpr (r_with1 p o bl _ _ i _ _ _ _ _ _) ?_
  simp only [List.take_succ_cons, List.take_zero, List.set_cons_succ, List.set_cons_zero, sizesX, XV.size, pl_eq, Nat.add_zero, Nat.beq_refl, cond_true]
  by_cases hlk : k < blkN (ix bl i)
  case neg =>
    have h2 : ¬ (((ix bl i).src.toNat + k : Nat) : Int) < (ix bl i).dst := by omega
    obtain rfl : k = blkN (ix bl i) := by omega
    have w3 : IntKind.i64.wrap ((i : Int) + 1) = ((i + 1 : Nat) : Int) := wrap_i64 (by omega) (by omega)
    simp only [h2, decide_false, cond_false, w3]
    refine ⟨i + 1, hlt, ?_, by omega⟩
    refine WeakE.trans (τ := XSt.st ⟨[(7, .int .i64 ((i + 1 : Nat) : Int)), (6, .ptr 4 [] 0), (4, .ptr 2 [] 0), (3, .ptr 1 [] 0), (2, .ptr 0 [] 0)], [(4, some (.agg 17 [.sl 3 [] 0 0 bl.length 6, .tab 16 1 fun i => .int .i64 (o i)])), (3, some (.agg (bl.length * 6) [.tab i 6 (wF p o bl i), .agg 6 [.int .i64 (ix bl i).src, .int .i64 (ix bl i).dst, .int .i64 (ix bl i).next, .int .i64 (ix bl i).taken, e_row 9 e_Cell (emA p o (ix bl i) (blkN (ix bl i))), e_row 9 e_Cell (emE p o (ix bl i) (blkN (ix bl i)))], .tab (bl.length - i - 1) 6 (fun j => wF p o bl i (i + 1 + j))])), (2, some (.agg 17 [.row true 0 0 fun x => .unk, .tab 16 1 fun x => .int .i64 0])), (1, some (.tab 16 1 fun i => .int .i64 (o i))), (0, some (e_Prog p))], 7⟩) ?_ ?_
    · exact WeakE.frz (frz_part (L := [5, 6]) rfl rfl ⟨rfl, .same, rfl, .agg (.cons .same (.cons (.agg (.cons .same (.cons .same (.cons .same (.cons .same (.cons (fz_row rfl rfl) (.cons (fz_row rfl rfl) .nil))))))) (.cons .same .nil))), rfl, .same, rfl, .same, rfl, .same, trivial⟩)
    · exact (weakK (τ := wtS p o bl (wF p o bl (i + 1)) (i + 1)) [(0, 0), (1, 1), (2, 2), (3, 3), (4, 4)] rfl rfl rfl rfl rfl ⟨k_is rfl rfl, .ptr rfl, .ptr rfl, .ptr rfl, .ptr rfl, trivial⟩ ⟨.agg (.cons (.sl rfl) (.cons (k_is rfl rfl) .nil)), k_join (by omega) rfl rfl (k_is rfl rfl) (fun j hj => by rw [wF_lt hj, wF_lt (Nat.lt_succ_of_lt hj)]) (wF_lt (Nat.lt_succ_self i)).symm (fun j hj => by rw [wF_ge (by omega), wF_ge (by omega)]), k_is rfl rfl, k_is rfl rfl, k_is rfl rfl, trivial⟩)
  have h2 : (((ix bl i).src.toNat + k : Nat) : Int) < (ix bl i).dst := by omega
  have h3 : (((ix bl i).src.toNat + k : Nat) : Int) < (p.code.length : Int) := by omega
  have w1 : IntKind.i64.wrap ((((ix bl i).src.toNat + k : Nat) : Int) - (ix bl i).src) = (k : Int) := by rw [wrap_i64 (by omega) (by omega)]; omega
  have w2 : IntKind.i64.wrap ((((ix bl i).src.toNat + k : Nat) : Int) + 1) = (((ix bl i).src.toNat + (k + 1) : Nat) : Int) := by rw [wrap_i64 (by omega) (by omega)]; omega
  simp only [h2, h3, w1, w2, decide_true, cond_true]
  refine ⟨(ix p.code ((ix bl i).src.toNat + k), o, (((ix bl i).src.toNat + k : Nat) : Int), (k : Int)), .rfl, ⟨trivial⟩, ?_⟩
  intro y hy
  replace hy : y = emitF (ix p.code ((ix bl i).src.toNat + k)) o (((ix bl i).src.toNat + k : Nat) : Int) (k : Int) := hy
  have hy1 : y.1.length ≤ 4 ∧ y.2.length ≤ 4 := by rw [hy]; exact emit_len
  have eA : emA p o (ix bl i) (k + 1) = emA p o (ix bl i) k ++ y.1 := by rw [hy]; exact flat_step
  have eE : emE p o (ix bl i) (k + 1) = emE p o (ix bl i) k ++ y.2 := by rw [hy]; exact flat_step
  have b4 : ((emA p o (ix bl i) k).length + y.1.length) * 72 ≤ 140737488355328 := by omega
  have b5 : ((emE p o (ix bl i) k).length + y.2.length) * 72 ≤ 140737488355328 := by omega
  simp only [Nat.le_refl, b4, b5, decide_true, cond_true]
  refine ⟨k + 1, hlk, ?_, by omega⟩
  rw [eA, eE]
  generalize emA p o (ix bl i) k = ca
  generalize emE p o (ix bl i) k = ce
  refine weakK [(0, 0), (1, 1), (2, 2), (3, 3), (4, 4), (5, 7), (6, 8)] rfl rfl rfl rfl rfl ⟨k_is rfl rfl, .ptr rfl, k_is rfl rfl, .ptr rfl, .ptr rfl, .ptr rfl, .ptr rfl, trivial⟩
    ⟨k_apps rfl ?_ ?_, k_apps rfl ?_ ?_, .agg (.cons (.sl rfl) (.cons (k_is rfl rfl) .nil)), .agg (.cons (k_is rfl rfl) (.cons (.agg (.cons (k_is rfl rfl) (.cons (k_is rfl rfl) (.cons (k_is rfl rfl) (.cons (k_is rfl rfl) (.cons ?_ (.cons ?_ .nil))))))) (.cons (k_is rfl rfl) .nil))), k_is rfl rfl, k_is rfl rfl, k_is rfl rfl, trivial⟩
  · intro j hj; simp only [hj, decide_true, cond_true]; rfl
  · intro j hj
    have : ¬ ce.length + j < ce.length := by omega
    simp only [this, decide_false, cond_false, Nat.add_sub_cancel_left]; rfl
  · intro j hj; simp only [hj, decide_true, cond_true]; rfl
  · intro j hj
    have : ¬ ca.length + j < ca.length := by omega
    simp only [this, decide_false, cond_false, Nat.add_sub_cancel_left]; rfl
  · rw [List.length_append]; exact .sl rfl
  · rw [List.length_append]; exact .sl rfl
theorem TT9ok : TabOk Try.prog TT9 := mkT2_ok clok_ref10 trivial trivial ⟨sk_owner, sk_with, trivial⟩ trivial
theorem r_split (p : Prog) (r : XV) : (quietGo TT9 80 (callI TT9 80 20) 19 [e_Prog p] (fun v => ResLe v r)) = (∃ (s : Prog), ArgsLe [e_Prog p] [e_Prog s] ∧ PreIs (Prog.wf s) ∧ ∀ (y : Nat → Int), y = ownerF s → ∃ (s : Prog × (Nat → Int)), ArgsLe [e_Prog p, .tab 16 1 fun
 i => .int .i64 (y i)] [e_Prog (Prod.fst s), e_own (Prod.snd s)] ∧ PreIs (Prog.wf (Prod.fst s)) ∧ ∀ (y : Split × Int), y = withF (Prod.fst s) (Prod.snd s) → ResLe
 (.tup [e_Split (Prod.fst y), .int .i64 (Prod.snd y)]) r) := by kernel_rfl
theorem sk_split : SkOk Try.prog (19, splS) := skOf_ok fun p hw => by
  have hw : p.wf := hw
  show Pure _ _ (cons [e_Prog p]) (con (e_SplitE (splitF p)))
  refine pureR (u := 80) (k := 20) mix TT9ok ?_
  refine Eq.mpr (r_split p _) ?_
  refine ⟨p, .rfl, ⟨hw⟩, ?_⟩
  intro y hy
  replace hy : y = ownerF p := hy
  subst hy
  refine ⟨(p, ownerF p), .rfl, ⟨hw⟩, ?_⟩
  intro y hy
  replace hy : y = withF p (ownerF p) := hy
  subst hy
  exact .rfl
end Go.Proofs.Ythmlnmkbeohojaa

/- Abstract code of the functions of bytes: printed by a program from what the given translation yields. -/
namespace Go.Proofs.Ythmlnmkbeohojaa
open Go.Ra
def c_bytes_Check : AC := (.seq (.ops [⟨(.some 6), (.mv (.c (.sc (.int .i64 0)))), .none⟩]) (.seq (.ops [⟨(.some 8), (.mv (.t 1)), .none⟩, ⟨(.some 9), (.conv .i64 (.t 8)), .none⟩, ⟨(.some 7), (.mv (.t 9)), .none⟩]) (.seq (.block 0 (.seq (.ops [⟨(.some 11), (.mv (.t 0)), .none⟩, ⟨(.some 12), (.bin .geq (.t 11) (.c (.sc (.int .i64 1)))), .none⟩, ⟨(.some 13), (.mv (.t 12)), .none⟩, ⟨(.some 14), (.mv (.t 7)), (.some (13, .true))⟩, ⟨(.some 15), (.mv (.t 0)), (.some (13, .true))⟩, ⟨(.some 16), (.bin .rem (.t 14) (.t 15)), (.some (13, .true))⟩, ⟨(.some 17), (.bin .neq (.t 16) (.c (.sc (.int .i64 0)))), (.some (13, .true))⟩, ⟨(.some 18), (.pick (.t 13) (.t 17) (.c (.sc (.bool .false)))), .none⟩, ⟨(.some 10), (.mv (.t 18)), .none⟩]) (.cond (.t 10) (.seq (.ops [⟨(.some 6), (.mv (.c (.sc (.int .i64 1)))), .none⟩]) .ret) (.seq (.ops [⟨(.some 20), (.mv (.t 0)), .none⟩, ⟨(.some 21), (.bin .gtr (.t 20) (.c (.sc (.int .i64 0)))), .none⟩, ⟨(.some 22), (.mv (.t 21)), .none⟩, ⟨(.some 23), (.mv (.t 0)), (.some (22, .true))⟩, ⟨(.some 24), (.mv (.t 2)), (.some (22, .true))⟩, ⟨(.some 25), (.bin .gtr (.t 23) (.t 24)), (.some (22, .true))⟩, ⟨(.some 26), (.mv (.t 25)), (.some (22, .true))⟩, ⟨(.some 27), (.mv (.t 7)), (.some (26, .false))⟩, ⟨(.some 28), (.mv (.t 2)), (.some (26, .false))⟩, ⟨(.some 29), (.mv (.t 0)), (.some (26, .false))⟩, ⟨(.some 30), (.bin .sub (.t 28) (.t 29)), (.some (26, .false))⟩, ⟨(.some 31), (.bin .gtr (.t 27) (.t 30)), (.some (26, .false))⟩, ⟨(.some 32), (.pick (.t 26) (.c (.sc (.bool .true))) (.t 31)), (.some (22, .true))⟩, ⟨(.some 33), (.pick (.t 22) (.t 32) (.c (.sc (.bool .false)))), .none⟩, ⟨(.some 34), (.mv (.t 33)), .none⟩, ⟨(.some 35), (.mv (.t 0)), (.some (34, .false))⟩, ⟨(.some 36), (.bin .leq (.t 35) (.c (.sc (.int .i64 0)))), (.some (34, .false))⟩, ⟨(.some 37), (.mv (.t 36)), (.some (34, .false))⟩, ⟨(.some 38), (.mv (.t 7)), (.some (37, .true))⟩, ⟨(.some 39), (.mv (.t 0)), (.some (37, .true))⟩, ⟨(.some 40), (.bin .add (.t 38) (.t 39)), (.some (37, .true))⟩, ⟨(.some 41), (.mv (.t 2)), (.some (37, .true))⟩, ⟨(.some 42), (.bin .gtr (.t 40) (.t 41)), (.some (37, .true))⟩, ⟨(.some 43), (.pick (.t 37) (.t 42) (.c (.sc (.bool .false)))), (.some (34, .false))⟩, ⟨(.some 44), (.pick (.t 34) (.c (.sc (.bool .true))) (.t 43)), .none⟩, ⟨(.some 19), (.mv (.t 44)), .none⟩]) (.cond (.t 19) (.seq (.ops [⟨(.some 6), (.mv (.c (.sc (.int .i64 2)))), .none⟩]) .ret) .skip))))) (.seq (.ops [⟨(.some 6), (.mv (.c (.sc (.int .i64 0)))), .none⟩]) .ret))))
theorem t_bytes_Check : trF Try.prog qq 83 = some (45, [(.tmp 6)], c_bytes_Check) := by kernel_rfl
def c_bytes_Size : AC := (.seq (.ops [⟨(.some 2), (.mv (.c (.sc (.int .i64 0)))), .none⟩]) (.seq (.seq (.ops [⟨(.some 3), (.mv (.t 0)), .none⟩]) (.block 0 (.seq (.seq (.ops [⟨(.some 5), (.bin .eql (.t 3) (.c (.sc (.int .i64 26)))), .none⟩, ⟨(.some 4), (.mv (.t 5)), .none⟩]) (.cond (.t 4) .skip (.ops [⟨(.some 6), (.bin .eql (.t 3) (.c (.sc (.int .i64 31)))), .none⟩, ⟨(.some 4), (.mv (.t 6)), .none⟩]))) (.cond (.t 4) (.seq (.ops [⟨(.some 2), (.mv (.c (.sc (.int .i64 4)))), .none⟩]) .ret) (.seq (.seq (.ops [⟨(.some 8), (.bin .eql (.t 3) (.c (.sc (.int .i64 27)))), .none⟩, ⟨(.some 7), (.mv (.t 8)), .none⟩]) (.cond (.t 7) .skip (.seq (.ops [⟨(.some 9), (.bin .eql (.t 3) (.c (.sc (.int .i64 28)))), .none⟩, ⟨(.some 7), (.mv (.t 9)), .none⟩]) (.cond (.t 7) .skip (.ops [⟨(.some 10), (.bin .eql (.t 3) (.c (.sc (.int .i64 32)))), .none⟩, ⟨(.some 7), (.mv (.t 10)), .none⟩]))))) (.cond (.t 7) (.seq (.ops [⟨(.some 2), (.mv (.c (.sc (.int .i64 2)))), .none⟩]) .ret) (.seq (.seq (.ops [⟨(.some 12), (.bin .eql (.t 3) (.c (.sc (.int .i64 29)))), .none⟩, ⟨(.some 11), (.mv (.t 12)), .none⟩]) (.cond (.t 11) .skip (.seq (.ops [⟨(.some 13), (.bin .eql (.t 3) (.c (.sc (.int .i64 30)))), .none⟩, ⟨(.some 11), (.mv (.t 13)), .none⟩]) (.cond (.t 11) .skip (.ops [⟨(.some 14), (.bin .eql (.t 3) (.c (.sc (.int .i64 33)))), .none⟩, ⟨(.some 11), (.mv (.t 14)), .none⟩]))))) (.cond (.t 11) (.seq (.ops [⟨(.some 2), (.mv (.c (.sc (.int .i64 1)))), .none⟩]) .ret) .skip)))))))) (.seq (.ops [⟨(.some 2), (.mv (.c (.sc (.int .i64 0)))), .none⟩]) .ret)))
theorem t_bytes_Size : trF Try.prog qq 85 = some (15, [(.tmp 2)], c_bytes_Size) := by kernel_rfl
/-- The functions of bytes. -/
def cl_bytes : CodeL := [(83, 45, [(.tmp 6)], c_bytes_Check), (85, 15, [(.tmp 2)], c_bytes_Size)]
theorem clok_bytes : AllL (fun p => trF Try.prog qq p.1 = some p.2) cl_bytes := ⟨t_bytes_Check, t_bytes_Size, trivial⟩
end Go.Proofs.Ythmlnmkbeohojaa

/- Abstract code of the functions of state: printed by a program from what the given translation yields. -/
namespace Go.Proofs.Ythmlnmkbeohojaa
open Go.Ra
def c_state_Config : AC := (.seq (.ops [⟨(.some 1), (.box (.t 0)), .none⟩, ⟨(.some 2), (.mv (.c (.sc (.bool .false)))), .none⟩]) (.seq (.ops [⟨(.some 3), (.fadr 0 0 1 (.t 1)), .none⟩, ⟨(.some 4), (.load .false 1 (.t 3)), .none⟩, ⟨(.some 5), (.fadr 1 1 1 (.t 1)), .none⟩, ⟨(.some 6), (.load .false 1 (.t 5)), .none⟩, ⟨(.some 7), (.fadr 2 2 1 (.t 1)), .none⟩, ⟨(.some 8), (.load .false 1 (.t 7)), .none⟩, ⟨(.some 9), (.fadr 3 3 1 (.t 1)), .none⟩, ⟨(.some 10), (.load .false 1 (.t 9)), .none⟩, ⟨(.some 11), (.fadr 4 4 1 (.t 1)), .none⟩, ⟨(.some 12), (.load .false 1 (.t 11)), .none⟩, ⟨(.some 13), (.fadr 5 5 1 (.t 1)), .none⟩, ⟨(.some 14), (.load .false 1 (.t 13)), .none⟩, ⟨(.some 15), (.fadr 7 7 1 (.t 1)), .none⟩, ⟨(.some 16), (.load .false 1 (.t 15)), .none⟩, ⟨(.some 17), (.fadr 8 8 1 (.t 1)), .none⟩, ⟨(.some 18), (.load .false 1 (.t 17)), .none⟩, ⟨(.some 19), (.bsl 1 [(.t 4), (.t 6), (.t 8), (.t 10), (.t 12), (.t 14), (.t 16), (.t 18)]), .none⟩, ⟨(.some 20), (.call 23 [(.c (.sc (.int .i64 1))), (.c (.sc (.int .i64 64))), (.t 19)]), .none⟩, ⟨(.some 21), (.mv (.t 20)), .none⟩, ⟨(.some 22), (.fadr 6 6 1 (.t 1)), (.some (21, .true))⟩, ⟨(.some 23), (.load .false 1 (.t 22)), (.some (21, .true))⟩, ⟨(.some 24), (.bsl 1 [(.t 23)]), (.some (21, .true))⟩, ⟨(.some 25), (.call 23 [(.c (.sc (.int .i64 1))), (.c (.sc (.int .i64 16))), (.t 24)]), (.some (21, .true))⟩, ⟨(.some 26), (.pick (.t 21) (.t 25) (.c (.sc (.bool .false)))), .none⟩, ⟨(.some 27), (.mv (.t 26)), .none⟩, ⟨(.some 28), (.fadr 9 9 1 (.t 1)), (.some (27, .true))⟩, ⟨(.some 29), (.load .false 1 (.t 28)), (.some (27, .true))⟩, ⟨(.some 30), (.bsl 1 [(.t 29)]), (.some (27, .true))⟩, ⟨(.some 31), (.call 23 [(.c (.sc (.int .i64 1))), (.c (.sc (.int .i64 1000))), (.t 30)]), (.some (27, .true))⟩, ⟨(.some 32), (.pick (.t 27) (.t 31) (.c (.sc (.bool .false)))), .none⟩, ⟨(.some 33), (.mv (.t 32)), .none⟩, ⟨(.some 34), (.fadr 10 10 1 (.t 1)), (.some (33, .true))⟩, ⟨(.some 35), (.load .false 1 (.t 34)), (.some (33, .true))⟩, ⟨(.some 36), (.fadr 11 11 1 (.t 1)), (.some (33, .true))⟩, ⟨(.some 37), (.load .false 1 (.t 36)), (.some (33, .true))⟩, ⟨(.some 38), (.bsl 1 [(.t 35), (.t 37)]), (.some (33, .true))⟩, ⟨(.some 39), (.call 23 [(.c (.sc (.int .i64 1))), (.c (.sc (.int .i64 50))), (.t 38)]), (.some (33, .true))⟩, ⟨(.some 40), (.pick (.t 33) (.t 39) (.c (.sc (.bool .false)))), .none⟩, ⟨(.some 2), (.mv (.t 40)), .none⟩]) .ret))
theorem t_state_Config : trF Try.prog qq 11 = some (41, [(.tmp 2)], c_state_Config) := by kernel_rfl
def c_state_First : AC := (.seq (.ops [⟨(.some 1), (.box (.t 0)), .none⟩, ⟨(.some 2), (.box (.c (.agg 92 [(.sc (.int .i64 0)), (.agg 38 [(.arr 16 1 [(.sc (.int .u32 0)), (.sc (.int .u32 0)), (.sc (.int .u32 0)), (.sc (.int .u32 0)), (.sc (.int .u32 0)), (.sc (.int .u32 0)), (.sc (.int .u32 0)), (.sc (.int .u32 0)), (.sc (.int .u32 0)), (.sc (.int .u32 0)), (.sc (.int .u32 0)), (.sc (.int .u32 0)), (.sc (.int .u32 0)), (.sc (.int .u32 0)), (.sc (.int .u32 0)), (.sc (.int .u32 0))]), (.arr 16 1 [(.sc (.int .i64 0)), (.sc (.int .i64 0)), (.sc (.int .i64 0)), (.sc (.int .i64 0)), (.sc (.int .i64 0)), (.sc (.int .i64 0)), (.sc (.int .i64 0)), (.sc (.int .i64 0)), (.sc (.int .i64 0)), (.sc (.int .i64 0)), (.sc (.int .i64 0)), (.sc (.int .i64 0)), (.sc (.int .i64 0)), (.sc (.int .i64 0)), (.sc (.int .i64 0)), (.sc (.int .i64 0))]), (.agg 3 [(.sc (.int .i64 0)), (.sc (.int .i64 0)), (.sc (.int .i64 0))]), (.sc (.int .i64 0)), (.sc (.bool .false)), (.sc (.int .i64 0))]), (.agg 38 [(.arr 16 1 [(.sc (.int .u32 0)), (.sc (.int .u32 0)), (.sc (.int .u32 0)), (.sc (.int .u32 0)), (.sc (.int .u32 0)), (.sc (.int .u32 0)), (.sc (.int .u32 0)), (.sc (.int .u32 0)), (.sc (.int .u32 0)), (.sc (.int .u32 0)), (.sc (.int .u32 0)), (.sc (.int .u32 0)), (.sc (.int .u32 0)), (.sc (.int .u32 0)), (.sc (.int .u32 0)), (.sc (.int .u32 0))]), (.arr 16 1 [(.sc (.int .i64 0)), (.sc (.int .i64 0)), (.sc (.int .i64 0)), (.sc (.int .i64 0)), (.sc (.int .i64 0)), (.sc (.int .i64 0)), (.sc (.int .i64 0)), (.sc (.int .i64 0)), (.sc (.int .i64 0)), (.sc (.int .i64 0)), (.sc (.int .i64 0)), (.sc (.int .i64 0)), (.sc (.int .i64 0)), (.sc (.int .i64 0)), (.sc (.int .i64 0)), (.sc (.int .i64 0))]), (.agg 3 [(.sc (.int .i64 0)), (.sc (.int .i64 0)), (.sc (.int .i64 0))]), (.sc (.int .i64 0)), (.sc (.bool .false)), (.sc (.int .i64 0))]), (.fro .true 0 []), (.fro .true 0 []), (.fro .true 0 []), (.fro .true 0 []), (.fro .true 0 []), (.fro .true 0 []), (.fro .true 0 []), (.fro .true 0 []), (.fro .true 0 []), (.agg 3 [(.sc (.int .i64 0)), (.sc (.int .i64 0)), (.sc (.int .i64 0))]), (.sc (.int .i64 0)), (.sc (.int .i64 0)), (.sc (.int .i64 0))]))), .none⟩]) (.seq (.seq (.ops [⟨(.some 3), (.load .true 3 (.t 1)), .none⟩, ⟨(.some 4), (.call 27 [(.t 3)]), .none⟩, ⟨(.some 5), (.un .not (.t 4)), .none⟩]) (.cond (.t 5) (.seq (.ops [⟨(.some 6), (.build 92 [(.sc (.int .i64 0)), (.agg 38 [(.arr 16 1 [(.sc (.int .u32 0)), (.sc (.int .u32 0)), (.sc (.int .u32 0)), (.sc (.int .u32 0)), (.sc (.int .u32 0)), (.sc (.int .u32 0)), (.sc (.int .u32 0)), (.sc (.int .u32 0)), (.sc (.int .u32 0)), (.sc (.int .u32 0)), (.sc (.int .u32 0)), (.sc (.int .u32 0)), (.sc (.int .u32 0)), (.sc (.int .u32 0)), (.sc (.int .u32 0)), (.sc (.int .u32 0))]), (.arr 16 1 [(.sc (.int .i64 0)), (.sc (.int .i64 0)), (.sc (.int .i64 0)), (.sc (.int .i64 0)), (.sc (.int .i64 0)), (.sc (.int .i64 0)), (.sc (.int .i64 0)), (.sc (.int .i64 0)), (.sc (.int .i64 0)), (.sc (.int .i64 0)), (.sc (.int .i64 0)), (.sc (.int .i64 0)), (.sc (.int .i64 0)), (.sc (.int .i64 0)), (.sc (.int .i64 0)), (.sc (.int .i64 0))]), (.agg 3 [(.sc (.int .i64 0)), (.sc (.int .i64 0)), (.sc (.int .i64 0))]), (.sc (.int .i64 0)), (.sc (.bool .false)), (.sc (.int .i64 0))]), (.agg 38 [(.arr 16 1 [(.sc (.int .u32 0)), (.sc (.int .u32 0)), (.sc (.int .u32 0)), (.sc (.int .u32 0)), (.sc (.int .u32 0)), (.sc (.int .u32 0)), (.sc (.int .u32 0)), (.sc (.int .u32 0)), (.sc (.int .u32 0)), (.sc (.int .u32 0)), (.sc (.int .u32 0)), (.sc (.int .u32 0)), (.sc (.int .u32 0)), (.sc (.int .u32 0)), (.sc (.int .u32 0)), (.sc (.int .u32 0))]), (.arr 16 1 [(.sc (.int .i64 0)), (.sc (.int .i64 0)), (.sc (.int .i64 0)), (.sc (.int .i64 0)), (.sc (.int .i64 0)), (.sc (.int .i64 0)), (.sc (.int .i64 0)), (.sc (.int .i64 0)), (.sc (.int .i64 0)), (.sc (.int .i64 0)), (.sc (.int .i64 0)), (.sc (.int .i64 0)), (.sc (.int .i64 0)), (.sc (.int .i64 0)), (.sc (.int .i64 0)), (.sc (.int .i64 0))]), (.agg 3 [(.sc (.int .i64 0)), (.sc (.int .i64 0)), (.sc (.int .i64 0))]), (.sc (.int .i64 0)), (.sc (.bool .false)), (.sc (.int .i64 0))]), (.fro .true 0 []), (.fro .true 0 []), (.fro .true 0 []), (.fro .true 0 []), (.fro .true 0 []), (.fro .true 0 []), (.fro .true 0 []), (.fro .true 0 []), (.fro .true 0 []), (.agg 3 [(.sc (.int .i64 0)), (.sc (.int .i64 0)), (.sc (.int .i64 0))]), (.sc (.int .i64 0)), (.sc (.int .i64 0)), (.sc (.int .i64 0))] []), .none⟩, ⟨.none, (.store 92 (.t 2) (.t 6)), .none⟩]) .ret) .skip)) (.seq (.ops [⟨(.some 7), (.load .true 3 (.t 1)), .none⟩, ⟨(.some 8), (.call 28 [(.t 7)]), .none⟩, ⟨(.some 9), (.build 92 [(.sc (.int .i64 0)), (.agg 38 [(.arr 16 1 [(.sc (.int .u32 0)), (.sc (.int .u32 0)), (.sc (.int .u32 0)), (.sc (.int .u32 0)), (.sc (.int .u32 0)), (.sc (.int .u32 0)), (.sc (.int .u32 0)), (.sc (.int .u32 0)), (.sc (.int .u32 0)), (.sc (.int .u32 0)), (.sc (.int .u32 0)), (.sc (.int .u32 0)), (.sc (.int .u32 0)), (.sc (.int .u32 0)), (.sc (.int .u32 0)), (.sc (.int .u32 0))]), (.arr 16 1 [(.sc (.int .i64 0)), (.sc (.int .i64 0)), (.sc (.int .i64 0)), (.sc (.int .i64 0)), (.sc (.int .i64 0)), (.sc (.int .i64 0)), (.sc (.int .i64 0)), (.sc (.int .i64 0)), (.sc (.int .i64 0)), (.sc (.int .i64 0)), (.sc (.int .i64 0)), (.sc (.int .i64 0)), (.sc (.int .i64 0)), (.sc (.int .i64 0)), (.sc (.int .i64 0)), (.sc (.int .i64 0))]), (.agg 3 [(.sc (.int .i64 0)), (.sc (.int .i64 0)), (.sc (.int .i64 0))]), (.sc (.int .i64 0)), (.sc (.bool .false)), (.sc (.int .i64 0))]), (.agg 38 [(.arr 16 1 [(.sc (.int .u32 0)), (.sc (.int .u32 0)), (.sc (.int .u32 0)), (.sc (.int .u32 0)), (.sc (.int .u32 0)), (.sc (.int .u32 0)), (.sc (.int .u32 0)), (.sc (.int .u32 0)), (.sc (.int .u32 0)), (.sc (.int .u32 0)), (.sc (.int .u32 0)), (.sc (.int .u32 0)), (.sc (.int .u32 0)), (.sc (.int .u32 0)), (.sc (.int .u32 0)), (.sc (.int .u32 0))]), (.arr 16 1 [(.sc (.int .i64 0)), (.sc (.int .i64 0)), (.sc (.int .i64 0)), (.sc (.int .i64 0)), (.sc (.int .i64 0)), (.sc (.int .i64 0)), (.sc (.int .i64 0)), (.sc (.int .i64 0)), (.sc (.int .i64 0)), (.sc (.int .i64 0)), (.sc (.int .i64 0)), (.sc (.int .i64 0)), (.sc (.int .i64 0)), (.sc (.int .i64 0)), (.sc (.int .i64 0)), (.sc (.int .i64 0))]), (.agg 3 [(.sc (.int .i64 0)), (.sc (.int .i64 0)), (.sc (.int .i64 0))]), (.sc (.int .i64 0)), (.sc (.bool .false)), (.sc (.int .i64 0))]), (.fro .true 0 []), (.fro .true 0 []), (.fro .true 0 []), (.fro .true 0 []), (.fro .true 0 []), (.fro .true 0 []), (.fro .true 0 []), (.fro .true 0 []), (.fro .true 0 []), (.agg 3 [(.sc (.int .i64 0)), (.sc (.int .i64 0)), (.sc (.int .i64 0))]), (.sc (.int .i64 0)), (.sc (.int .i64 0)), (.sc (.int .i64 0))] [(10, (.t 8))]), .none⟩, ⟨.none, (.store 92 (.t 2) (.t 9)), .none⟩]) .ret)))
theorem t_state_First : trF Try.prog qq 14 = some (10, [(.cell 2 .true 92)], c_state_First) := by kernel_rfl
def c_state_Right : AC := (.seq (.ops [⟨(.some 3), (.box (.t 0)), .none⟩, ⟨(.some 4), (.box (.t 1)), .none⟩, ⟨(.some 5), (.box (.t 2)), .none⟩, ⟨(.some 6), (.mv (.c (.sc (.bool .false)))), .none⟩]) (.seq (.ops [⟨(.some 7), (.load .true 12 (.t 3)), .none⟩, ⟨(.some 8), (.call 11 [(.t 7)]), .none⟩, ⟨(.some 9), (.mv (.t 8)), .none⟩, ⟨(.some 10), (.load .true 17 (.t 4)), (.some (9, .true))⟩, ⟨(.some 11), (.fadr 1 1 38 (.t 5)), (.some (9, .true))⟩, ⟨(.some 12), (.load .true 38 (.t 11)), (.some (9, .true))⟩, ⟨(.some 13), (.call 30 [(.t 10), (.t 12), (.c (.clo 31 []))]), (.some (9, .true))⟩, ⟨(.some 14), (.pick (.t 9) (.t 13) (.c (.sc (.bool .false)))), .none⟩, ⟨(.some 15), (.mv (.t 14)), .none⟩, ⟨(.some 16), (.load .true 17 (.t 4)), (.some (15, .true))⟩, ⟨(.some 17), (.fadr 2 39 38 (.t 5)), (.some (15, .true))⟩, ⟨(.some 18), (.load .true 38 (.t 17)), (.some (15, .true))⟩, ⟨(.some 19), (.call 30 [(.t 16), (.t 18), (.c (.clo 32 []))]), (.some (15, .true))⟩, ⟨(.some 20), (.pick (.t 15) (.t 19) (.c (.sc (.bool .false)))), .none⟩, ⟨(.some 21), (.mv (.t 20)), .none⟩, ⟨(.some 22), (.fadr 0 0 1 (.t 5)), (.some (21, .true))⟩, ⟨(.some 23), (.load .false 1 (.t 22)), (.some (21, .true))⟩, ⟨(.some 24), (.fadr 13 89 1 (.t 5)), (.some (21, .true))⟩, ⟨(.some 25), (.load .false 1 (.t 24)), (.some (21, .true))⟩, ⟨(.some 26), (.fadr 14 90 1 (.t 5)), (.some (21, .true))⟩, ⟨(.some 27), (.load .false 1 (.t 26)), (.some (21, .true))⟩, ⟨(.some 28), (.fadr 15 91 1 (.t 5)), (.some (21, .true))⟩, ⟨(.some 29), (.load .false 1 (.t 28)), (.some (21, .true))⟩, ⟨(.some 30), (.bsl 1 [(.t 23), (.t 25), (.t 27), (.t 29)]), (.some (21, .true))⟩, ⟨(.some 31), (.call 23 [(.c (.sc (.int .i64 0))), (.c (.sc (.int .i64 1099511627776))), (.t 30)]), (.some (21, .true))⟩, ⟨(.some 32), (.pick (.t 21) (.t 31) (.c (.sc (.bool .false)))), .none⟩, ⟨(.some 33), (.mv (.t 32)), .none⟩, ⟨(.some 34), (.load .true 12 (.t 3)), (.some (33, .true))⟩, ⟨(.some 35), (.load .true 92 (.t 5)), (.some (33, .true))⟩, ⟨(.some 36), (.call 33 [(.t 34), (.t 35)]), (.some (33, .true))⟩, ⟨(.some 37), (.pick (.t 33) (.t 36) (.c (.sc (.bool .false)))), .none⟩, ⟨(.some 38), (.mv (.t 37)), .none⟩, ⟨(.some 39), (.load .true 92 (.t 5)), (.some (38, .true))⟩, ⟨(.some 40), (.call 34 [(.t 39)]), (.some (38, .true))⟩, ⟨(.some 41), (.pick (.t 38) (.t 40) (.c (.sc (.bool .false)))), .none⟩, ⟨(.some 42), (.mv (.t 41)), .none⟩, ⟨(.some 43), (.fadr 12 86 3 (.t 5)), (.some (42, .true))⟩, ⟨(.some 44), (.load .true 3 (.t 43)), (.some (42, .true))⟩, ⟨(.some 45), (.call 35 [(.t 44)]), (.some (42, .true))⟩, ⟨(.some 46), (.pick (.t 42) (.t 45) (.c (.sc (.bool .false)))), .none⟩, ⟨(.some 6), (.mv (.t 46)), .none⟩]) .ret))
theorem t_state_Right : trF Try.prog qq 16 = some (47, [(.tmp 6)], c_state_Right) := by kernel_rfl
def c_state_Same : AC := (.seq (.ops [⟨(.some 2), (.box (.t 0)), .none⟩, ⟨(.some 3), (.box (.t 1)), .none⟩, ⟨(.some 4), (.mv (.c (.sc (.bool .false)))), .none⟩]) (.seq (.ops [⟨(.some 5), (.fadr 0 0 1 (.t 2)), .none⟩, ⟨(.some 6), (.load .false 1 (.t 5)), .none⟩, ⟨(.some 7), (.fadr 0 0 1 (.t 3)), .none⟩, ⟨(.some 8), (.load .false 1 (.t 7)), .none⟩, ⟨(.some 9), (.bin .eql (.t 6) (.t 8)), .none⟩, ⟨(.some 10), (.mv (.t 9)), .none⟩, ⟨(.some 11), (.fadr 1 1 38 (.t 2)), (.some (10, .true))⟩, ⟨(.some 12), (.load .true 38 (.t 11)), (.some (10, .true))⟩, ⟨(.some 13), (.fadr 1 1 38 (.t 3)), (.some (10, .true))⟩, ⟨(.some 14), (.load .true 38 (.t 13)), (.some (10, .true))⟩, ⟨(.some 15), (.eqs .false (.agg [(16, (.arr 16 1 .int)), (16, (.arr 16 1 .int)), (3, (.agg [(1, .int), (1, .int), (1, .int)])), (1, .int), (1, .bool), (1, .int)]) (.t 12) (.t 14)), (.some (10, .true))⟩, ⟨(.some 16), (.pick (.t 10) (.t 15) (.c (.sc (.bool .false)))), .none⟩, ⟨(.some 17), (.mv (.t 16)), .none⟩, ⟨(.some 18), (.fadr 2 39 38 (.t 2)), (.some (17, .true))⟩, ⟨(.some 19), (.load .true 38 (.t 18)), (.some (17, .true))⟩, ⟨(.some 20), (.fadr 2 39 38 (.t 3)), (.some (17, .true))⟩, ⟨(.some 21), (.load .true 38 (.t 20)), (.some (17, .true))⟩, ⟨(.some 22), (.eqs .false (.agg [(16, (.arr 16 1 .int)), (16, (.arr 16 1 .int)), (3, (.agg [(1, .int), (1, .int), (1, .int)])), (1, .int), (1, .bool), (1, .int)]) (.t 19) (.t 21)), (.some (17, .true))⟩, ⟨(.some 23), (.pick (.t 17) (.t 22) (.c (.sc (.bool .false)))), .none⟩, ⟨(.some 24), (.mv (.t 23)), .none⟩, ⟨(.some 25), (.fadr 12 86 3 (.t 2)), (.some (24, .true))⟩, ⟨(.some 26), (.load .true 3 (.t 25)), (.some (24, .true))⟩, ⟨(.some 27), (.fadr 12 86 3 (.t 3)), (.some (24, .true))⟩, ⟨(.some 28), (.load .true 3 (.t 27)), (.some (24, .true))⟩, ⟨(.some 29), (.eqs .false (.agg [(1, .int), (1, .int), (1, .int)]) (.t 26) (.t 28)), (.some (24, .true))⟩, ⟨(.some 30), (.pick (.t 24) (.t 29) (.c (.sc (.bool .false)))), .none⟩, ⟨(.some 31), (.mv (.t 30)), .none⟩, ⟨(.some 32), (.fadr 13 89 1 (.t 2)), (.some (31, .true))⟩, ⟨(.some 33), (.load .false 1 (.t 32)), (.some (31, .true))⟩, ⟨(.some 34), (.fadr 13 89 1 (.t 3)), (.some (31, .true))⟩, ⟨(.some 35), (.load .false 1 (.t 34)), (.some (31, .true))⟩, ⟨(.some 36), (.bin .eql (.t 33) (.t 35)), (.some (31, .true))⟩, ⟨(.some 37), (.pick (.t 31) (.t 36) (.c (.sc (.bool .false)))), .none⟩, ⟨(.some 38), (.mv (.t 37)), .none⟩, ⟨(.some 39), (.fadr 14 90 1 (.t 2)), (.some (38, .true))⟩, ⟨(.some 40), (.load .false 1 (.t 39)), (.some (38, .true))⟩, ⟨(.some 41), (.fadr 14 90 1 (.t 3)), (.some (38, .true))⟩, ⟨(.some 42), (.load .false 1 (.t 41)), (.some (38, .true))⟩, ⟨(.some 43), (.bin .eql (.t 40) (.t 42)), (.some (38, .true))⟩, ⟨(.some 44), (.pick (.t 38) (.t 43) (.c (.sc (.bool .false)))), .none⟩, ⟨(.some 45), (.mv (.t 44)), .none⟩, ⟨(.some 46), (.fadr 15 91 1 (.t 2)), (.some (45, .true))⟩, ⟨(.some 47), (.load .false 1 (.t 46)), (.some (45, .true))⟩, ⟨(.some 48), (.fadr 15 91 1 (.t 3)), (.some (45, .true))⟩, ⟨(.some 49), (.load .false 1 (.t 48)), (.some (45, .true))⟩, ⟨(.some 50), (.bin .eql (.t 47) (.t 49)), (.some (45, .true))⟩, ⟨(.some 51), (.pick (.t 45) (.t 50) (.c (.sc (.bool .false)))), .none⟩, ⟨(.some 52), (.mv (.t 51)), .none⟩, ⟨(.some 53), (.fadr 3 77 1 (.t 2)), (.some (52, .true))⟩, ⟨(.some 54), (.load .false 1 (.t 53)), (.some (52, .true))⟩, ⟨(.some 55), (.fadr 3 77 1 (.t 3)), (.some (52, .true))⟩, ⟨(.some 56), (.load .false 1 (.t 55)), (.some (52, .true))⟩, ⟨(.some 57), (.call 40 [(.t 54), (.t 56)]), (.some (52, .true))⟩, ⟨(.some 58), (.pick (.t 52) (.t 57) (.c (.sc (.bool .false)))), .none⟩, ⟨(.some 59), (.mv (.t 58)), .none⟩, ⟨(.some 60), (.fadr 4 78 1 (.t 2)), (.some (59, .true))⟩, ⟨(.some 61), (.load .false 1 (.t 60)), (.some (59, .true))⟩, ⟨(.some 62), (.fadr 4 78 1 (.t 3)), (.some (59, .true))⟩, ⟨(.some 63), (.load .false 1 (.t 62)), (.some (59, .true))⟩, ⟨(.some 64), (.call 41 [(.t 61), (.t 63)]), (.some (59, .true))⟩, ⟨(.some 65), (.pick (.t 59) (.t 64) (.c (.sc (.bool .false)))), .none⟩, ⟨(.some 66), (.mv (.t 65)), .none⟩, ⟨(.some 67), (.fadr 5 79 1 (.t 2)), (.some (66, .true))⟩, ⟨(.some 68), (.load .false 1 (.t 67)), (.some (66, .true))⟩, ⟨(.some 69), (.fadr 5 79 1 (.t 3)), (.some (66, .true))⟩, ⟨(.some 70), (.load .false 1 (.t 69)), (.some (66, .true))⟩, ⟨(.some 71), (.call 41 [(.t 68), (.t 70)]), (.some (66, .true))⟩, ⟨(.some 72), (.pick (.t 66) (.t 71) (.c (.sc (.bool .false)))), .none⟩, ⟨(.some 73), (.mv (.t 72)), .none⟩, ⟨(.some 74), (.fadr 6 80 1 (.t 2)), (.some (73, .true))⟩, ⟨(.some 75), (.load .false 1 (.t 74)), (.some (73, .true))⟩, ⟨(.some 76), (.fadr 6 80 1 (.t 3)), (.some (73, .true))⟩, ⟨(.some 77), (.load .false 1 (.t 76)), (.some (73, .true))⟩, ⟨(.some 78), (.call 42 [(.t 75), (.t 77)]), (.some (73, .true))⟩, ⟨(.some 79), (.pick (.t 73) (.t 78) (.c (.sc (.bool .false)))), .none⟩, ⟨(.some 80), (.mv (.t 79)), .none⟩, ⟨(.some 81), (.fadr 7 81 1 (.t 2)), (.some (80, .true))⟩, ⟨(.some 82), (.load .false 1 (.t 81)), (.some (80, .true))⟩, ⟨(.some 83), (.fadr 7 81 1 (.t 3)), (.some (80, .true))⟩, ⟨(.some 84), (.load .false 1 (.t 83)), (.some (80, .true))⟩, ⟨(.some 85), (.call 42 [(.t 82), (.t 84)]), (.some (80, .true))⟩, ⟨(.some 86), (.pick (.t 80) (.t 85) (.c (.sc (.bool .false)))), .none⟩, ⟨(.some 87), (.mv (.t 86)), .none⟩, ⟨(.some 88), (.fadr 8 82 1 (.t 2)), (.some (87, .true))⟩, ⟨(.some 89), (.load .false 1 (.t 88)), (.some (87, .true))⟩, ⟨(.some 90), (.fadr 8 82 1 (.t 3)), (.some (87, .true))⟩, ⟨(.some 91), (.load .false 1 (.t 90)), (.some (87, .true))⟩, ⟨(.some 92), (.call 43 [(.t 89), (.t 91)]), (.some (87, .true))⟩, ⟨(.some 93), (.pick (.t 87) (.t 92) (.c (.sc (.bool .false)))), .none⟩, ⟨(.some 94), (.mv (.t 93)), .none⟩, ⟨(.some 95), (.fadr 9 83 1 (.t 2)), (.some (94, .true))⟩, ⟨(.some 96), (.load .false 1 (.t 95)), (.some (94, .true))⟩, ⟨(.some 97), (.fadr 9 83 1 (.t 3)), (.some (94, .true))⟩, ⟨(.some 98), (.load .false 1 (.t 97)), (.some (94, .true))⟩, ⟨(.some 99), (.call 44 [(.t 96), (.t 98)]), (.some (94, .true))⟩, ⟨(.some 100), (.pick (.t 94) (.t 99) (.c (.sc (.bool .false)))), .none⟩, ⟨(.some 101), (.mv (.t 100)), .none⟩, ⟨(.some 102), (.fadr 10 84 1 (.t 2)), (.some (101, .true))⟩, ⟨(.some 103), (.load .false 1 (.t 102)), (.some (101, .true))⟩, ⟨(.some 104), (.fadr 10 84 1 (.t 3)), (.some (101, .true))⟩, ⟨(.some 105), (.load .false 1 (.t 104)), (.some (101, .true))⟩, ⟨(.some 106), (.call 45 [(.t 103), (.t 105)]), (.some (101, .true))⟩, ⟨(.some 107), (.pick (.t 101) (.t 106) (.c (.sc (.bool .false)))), .none⟩, ⟨(.some 108), (.mv (.t 107)), .none⟩, ⟨(.some 109), (.fadr 11 85 1 (.t 2)), (.some (108, .true))⟩, ⟨(.some 110), (.load .false 1 (.t 109)), (.some (108, .true))⟩, ⟨(.some 111), (.fadr 11 85 1 (.t 3)), (.some (108, .true))⟩, ⟨(.some 112), (.load .false 1 (.t 111)), (.some (108, .true))⟩, ⟨(.some 113), (.call 46 [(.t 110), (.t 112)]), (.some (108, .true))⟩, ⟨(.some 114), (.pick (.t 108) (.t 113) (.c (.sc (.bool .false)))), .none⟩, ⟨(.some 4), (.mv (.t 114)), .none⟩]) .ret))
theorem t_state_Same : trF Try.prog qq 18 = some (115, [(.tmp 4)], c_state_Same) := by kernel_rfl
def c_state_within : AC := (.seq (.ops [⟨(.some 3), (.box (.t 0)), .none⟩, ⟨(.some 4), (.box (.t 1)), .none⟩, ⟨(.some 6), (.mv (.c (.sc (.bool .false)))), .none⟩]) (.seq (.ops [⟨(.some 7), (.mv (.t 2)), .none⟩, ⟨(.some 8), (.mkf 51 [(.t 3), (.t 4)]), .none⟩, ⟨(.some 9), (.call 50 [(.t 7), (.t 8)]), .none⟩, ⟨(.some 10), (.un .not (.t 9)), .none⟩, ⟨(.some 6), (.mv (.t 10)), .none⟩]) .ret))
theorem t_state_within : trF Try.prog qq 23 = some (11, [(.tmp 6)], c_state_within) := by kernel_rfl
def c_state_side : AC := (.seq (.ops [⟨(.some 3), (.box (.t 0)), .none⟩, ⟨(.some 4), (.box (.t 1)), .none⟩, ⟨(.some 6), (.mv (.c (.sc (.bool .false)))), .none⟩]) (.seq (.seq (.ops [⟨(.some 7), (.fadr 2 32 3 (.t 4)), .none⟩, ⟨(.some 8), (.fadr 0 0 1 (.t 7)), .none⟩, ⟨(.some 9), (.load .false 1 (.t 8)), .none⟩, ⟨(.some 10), (.bin .lss (.t 9) (.c (.sc (.int .i64 0)))), .none⟩, ⟨(.some 11), (.mv (.t 10)), .none⟩, ⟨(.some 12), (.fadr 2 32 3 (.t 4)), (.some (11, .false))⟩, ⟨(.some 13), (.fadr 0 0 1 (.t 12)), (.some (11, .false))⟩, ⟨(.some 14), (.load .false 1 (.t 13)), (.some (11, .false))⟩, ⟨(.some 15), (.fadr 0 0 1 (.t 3)), (.some (11, .false))⟩, ⟨(.some 16), (.load .false 1 (.t 15)), (.some (11, .false))⟩, ⟨(.some 17), (.len .none (.t 16)), (.some (11, .false))⟩, ⟨(.some 18), (.bin .geq (.t 14) (.t 17)), (.some (11, .false))⟩, ⟨(.some 19), (.pick (.t 11) (.c (.sc (.bool .true))) (.t 18)), .none⟩]) (.cond (.t 19) (.seq (.ops [⟨(.some 6), (.mv (.c (.sc (.bool .false)))), .none⟩]) .ret) .skip)) (.seq (.ops [⟨(.some 20), (.mv (.t 2)), .none⟩, ⟨(.some 21), (.fadr 0 0 1 (.t 3)), .none⟩, ⟨(.some 22), (.load .false 1 (.t 21)), .none⟩, ⟨(.some 23), (.fadr 2 32 3 (.t 4)), .none⟩, ⟨(.some 24), (.fadr 0 0 1 (.t 23)), .none⟩, ⟨(.some 25), (.load .false 1 (.t 24)), .none⟩, ⟨(.some 26), (.iadr .none 6 (.t 22) (.t 25)), .none⟩, ⟨(.some 27), (.load .true 6 (.t 26)), .none⟩, ⟨(.some 28), (.callv (.t 20) [(.t 27)]), .none⟩, ⟨(.some 29), (.len .none (.t 28)), .none⟩, ⟨(.some 30), (.fadr 2 32 3 (.t 4)), .none⟩, ⟨(.some 31), (.fadr 1 1 1 (.t 30)), .none⟩, ⟨(.some 32), (.load .false 1 (.t 31)), .none⟩, ⟨(.some 33), (.bsl 1 [(.t 32)]), .none⟩, ⟨(.some 34), (.call 23 [(.c (.sc (.int .i64 0))), (.t 29), (.t 33)]), .none⟩, ⟨(.some 35), (.mv (.t 34)), .none⟩, ⟨(.some 36), (.fadr 2 32 3 (.t 4)), (.some (35, .true))⟩, ⟨(.some 37), (.fadr 2 2 1 (.t 36)), (.some (35, .true))⟩, ⟨(.some 38), (.load .false 1 (.t 37)), (.some (35, .true))⟩, ⟨(.some 39), (.fadr 3 35 1 (.t 4)), (.some (35, .true))⟩, ⟨(.some 40), (.load .false 1 (.t 39)), (.some (35, .true))⟩, ⟨(.some 41), (.fadr 5 37 1 (.t 4)), (.some (35, .true))⟩, ⟨(.some 42), (.load .false 1 (.t 41)), (.some (35, .true))⟩, ⟨(.some 43), (.bsl 1 [(.t 38), (.t 40), (.t 42)]), (.some (35, .true))⟩, ⟨(.some 44), (.call 23 [(.c (.sc (.int .i64 0))), (.c (.sc (.int .i64 1099511627776))), (.t 43)]), (.some (35, .true))⟩, ⟨(.some 45), (.pick (.t 35) (.t 44) (.c (.sc (.bool .false)))), .none⟩, ⟨(.some 46), (.mv (.t 45)), .none⟩, ⟨(.some 47), (.fadr 1 16 16 (.t 4)), (.some (46, .true))⟩, ⟨(.some 48), (.aslice 16 1 (.t 47) .none .none), (.some (46, .true))⟩, ⟨(.some 49), (.call 23 [(.c (.sc (.int .i64 (-1)))), (.c (.sc (.int .i64 1099511627776))), (.t 48)]), (.some (46, .true))⟩, ⟨(.some 50), (.pick (.t 46) (.t 49) (.c (.sc (.bool .false)))), .none⟩, ⟨(.some 6), (.mv (.t 50)), .none⟩]) .ret)))
theorem t_state_side : trF Try.prog qq 30 = some (51, [(.tmp 6)], c_state_side) := by kernel_rfl
def c_state_Right_1 : AC := (.seq (.ops [⟨(.some 1), (.box (.t 0)), .none⟩, ⟨(.some 2), (.mv (.c (.fro .true 0 []))), .none⟩]) (.seq (.ops [⟨(.some 3), (.fadr 4 4 1 (.t 1)), .none⟩, ⟨(.some 4), (.load .false 1 (.t 3)), .none⟩, ⟨(.some 2), (.mv (.t 4)), .none⟩]) .ret))
theorem t_state_Right_1 : trF Try.prog qq 31 = some (5, [(.tmp 2)], c_state_Right_1) := by kernel_rfl
def c_state_Right_2 : AC := (.seq (.ops [⟨(.some 1), (.box (.t 0)), .none⟩, ⟨(.some 2), (.mv (.c (.fro .true 0 []))), .none⟩]) (.seq (.ops [⟨(.some 3), (.fadr 5 5 1 (.t 1)), .none⟩, ⟨(.some 4), (.load .false 1 (.t 3)), .none⟩, ⟨(.some 2), (.mv (.t 4)), .none⟩]) .ret))
theorem t_state_Right_2 : trF Try.prog qq 32 = some (5, [(.tmp 2)], c_state_Right_2) := by kernel_rfl
def c_state_queues : AC := (.seq (.ops [⟨(.some 2), (.box (.t 0)), .none⟩, ⟨(.some 3), (.box (.t 1)), .none⟩, ⟨(.some 4), (.mv (.c (.sc (.bool .false)))), .none⟩]) (.seq (.ops [⟨(.some 5), (.fadr 3 77 1 (.t 3)), .none⟩, ⟨(.some 6), (.load .false 1 (.t 5)), .none⟩, ⟨(.some 7), (.len .none (.t 6)), .none⟩, ⟨(.some 8), (.fadr 0 0 1 (.t 2)), .none⟩, ⟨(.some 9), (.load .false 1 (.t 8)), .none⟩, ⟨(.some 10), (.bin .leq (.t 7) (.t 9)), .none⟩, ⟨(.some 11), (.mv (.t 10)), .none⟩, ⟨(.some 12), (.fadr 4 78 1 (.t 3)), (.some (11, .true))⟩, ⟨(.some 13), (.load .false 1 (.t 12)), (.some (11, .true))⟩, ⟨(.some 14), (.len .none (.t 13)), (.some (11, .true))⟩, ⟨(.some 15), (.fadr 1 1 1 (.t 2)), (.some (11, .true))⟩, ⟨(.some 16), (.load .false 1 (.t 15)), (.some (11, .true))⟩, ⟨(.some 17), (.bin .leq (.t 14) (.t 16)), (.some (11, .true))⟩, ⟨(.some 18), (.pick (.t 11) (.t 17) (.c (.sc (.bool .false)))), .none⟩, ⟨(.some 19), (.mv (.t 18)), .none⟩, ⟨(.some 20), (.fadr 5 79 1 (.t 3)), (.some (19, .true))⟩, ⟨(.some 21), (.load .false 1 (.t 20)), (.some (19, .true))⟩, ⟨(.some 22), (.len .none (.t 21)), (.some (19, .true))⟩, ⟨(.some 23), (.fadr 2 2 1 (.t 2)), (.some (19, .true))⟩, ⟨(.some 24), (.load .false 1 (.t 23)), (.some (19, .true))⟩, ⟨(.some 25), (.bin .leq (.t 22) (.t 24)), (.some (19, .true))⟩, ⟨(.some 26), (.pick (.t 19) (.t 25) (.c (.sc (.bool .false)))), .none⟩, ⟨(.some 27), (.mv (.t 26)), .none⟩, ⟨(.some 28), (.fadr 6 80 1 (.t 3)), (.some (27, .true))⟩, ⟨(.some 29), (.load .false 1 (.t 28)), (.some (27, .true))⟩, ⟨(.some 30), (.len .none (.t 29)), (.some (27, .true))⟩, ⟨(.some 31), (.fadr 3 3 1 (.t 2)), (.some (27, .true))⟩, ⟨(.some 32), (.load .false 1 (.t 31)), (.some (27, .true))⟩, ⟨(.some 33), (.bin .leq (.t 30) (.t 32)), (.some (27, .true))⟩, ⟨(.some 34), (.pick (.t 27) (.t 33) (.c (.sc (.bool .false)))), .none⟩, ⟨(.some 35), (.mv (.t 34)), .none⟩, ⟨(.some 36), (.fadr 7 81 1 (.t 3)), (.some (35, .true))⟩, ⟨(.some 37), (.load .false 1 (.t 36)), (.some (35, .true))⟩, ⟨(.some 38), (.len .none (.t 37)), (.some (35, .true))⟩, ⟨(.some 39), (.fadr 4 4 1 (.t 2)), (.some (35, .true))⟩, ⟨(.some 40), (.load .false 1 (.t 39)), (.some (35, .true))⟩, ⟨(.some 41), (.bin .leq (.t 38) (.t 40)), (.some (35, .true))⟩, ⟨(.some 42), (.pick (.t 35) (.t 41) (.c (.sc (.bool .false)))), .none⟩, ⟨(.some 43), (.mv (.t 42)), .none⟩, ⟨(.some 44), (.fadr 8 82 1 (.t 3)), (.some (43, .true))⟩, ⟨(.some 45), (.load .false 1 (.t 44)), (.some (43, .true))⟩, ⟨(.some 46), (.len .none (.t 45)), (.some (43, .true))⟩, ⟨(.some 47), (.fadr 5 5 1 (.t 2)), (.some (43, .true))⟩, ⟨(.some 48), (.load .false 1 (.t 47)), (.some (43, .true))⟩, ⟨(.some 49), (.bin .leq (.t 46) (.t 48)), (.some (43, .true))⟩, ⟨(.some 50), (.pick (.t 43) (.t 49) (.c (.sc (.bool .false)))), .none⟩, ⟨(.some 51), (.mv (.t 50)), .none⟩, ⟨(.some 52), (.fadr 9 83 1 (.t 3)), (.some (51, .true))⟩, ⟨(.some 53), (.load .false 1 (.t 52)), (.some (51, .true))⟩, ⟨(.some 54), (.len .none (.t 53)), (.some (51, .true))⟩, ⟨(.some 55), (.fadr 7 7 1 (.t 2)), (.some (51, .true))⟩, ⟨(.some 56), (.load .false 1 (.t 55)), (.some (51, .true))⟩, ⟨(.some 57), (.bin .leq (.t 54) (.t 56)), (.some (51, .true))⟩, ⟨(.some 58), (.pick (.t 51) (.t 57) (.c (.sc (.bool .false)))), .none⟩, ⟨(.some 59), (.mv (.t 58)), .none⟩, ⟨(.some 60), (.fadr 10 84 1 (.t 3)), (.some (59, .true))⟩, ⟨(.some 61), (.load .false 1 (.t 60)), (.some (59, .true))⟩, ⟨(.some 62), (.len .none (.t 61)), (.some (59, .true))⟩, ⟨(.some 63), (.bin .leq (.t 62) (.c (.sc (.int .i64 65536)))), (.some (59, .true))⟩, ⟨(.some 64), (.pick (.t 59) (.t 63) (.c (.sc (.bool .false)))), .none⟩, ⟨(.some 4), (.mv (.t 64)), .none⟩]) .ret))
theorem t_state_queues : trF Try.prog qq 33 = some (65, [(.tmp 4)], c_state_queues) := by kernel_rfl
def c_state_stores_l1 : AC := (.seq (.ops [⟨(.some 9), (.bin .lss (.t 8) (.t 7)), .none⟩]) (.seq (.cond (.t 9) .skip (.exit 0)) (.seq (.block 1 (.seq (.ops [⟨(.some 10), (.mv (.t 8)), .none⟩, ⟨(.some 11), (.iadr .none 5 (.t 6) (.t 8)), .none⟩, ⟨(.some 12), (.load .true 5 (.t 11)), .none⟩, ⟨(.some 4), (.box (.c (.agg 5 [(.sc (.int .i64 0)), (.sc (.int .i64 0)), (.sc (.int .i64 0)), (.sc (.bool .false)), (.sc (.int .u32 0))]))), .none⟩, ⟨(.some 3), (.mv (.t 10)), .none⟩, ⟨.none, (.store 5 (.t 4) (.t 12)), .none⟩]) (.seq (.ops [⟨(.some 13), (.fadr 10 84 1 (.t 1)), .none⟩, ⟨(.some 14), (.load .false 1 (.t 13)), .none⟩, ⟨(.some 15), (.fadr 0 0 1 (.t 4)), .none⟩, ⟨(.some 16), (.load .false 1 (.t 15)), .none⟩, ⟨(.some 17), (.fadr 1 1 1 (.t 4)), .none⟩, ⟨(.some 18), (.load .false 1 (.t 17)), .none⟩, ⟨(.some 19), (.call 59 [(.t 14), (.t 16), (.t 18)]), .none⟩, ⟨(.some 20), (.un .not (.t 19)), .none⟩, ⟨(.some 21), (.mv (.t 20)), .none⟩, ⟨(.some 22), (.fadr 2 2 1 (.t 4)), (.some (21, .false))⟩, ⟨(.some 23), (.load .false 1 (.t 22)), (.some (21, .false))⟩, ⟨(.some 24), (.bsl 1 [(.t 23)]), (.some (21, .false))⟩, ⟨(.some 25), (.call 23 [(.c (.sc (.int .i64 0))), (.c (.sc (.int .i64 1099511627776))), (.t 24)]), (.some (21, .false))⟩, ⟨(.some 26), (.un .not (.t 25)), (.some (21, .false))⟩, ⟨(.some 27), (.pick (.t 21) (.c (.sc (.bool .true))) (.t 26)), .none⟩, ⟨(.some 28), (.mv (.t 27)), .none⟩, ⟨(.some 29), (.fadr 3 3 1 (.t 4)), (.some (28, .false))⟩, ⟨(.some 30), (.load .false 1 (.t 29)), (.some (28, .false))⟩, ⟨(.some 31), (.mv (.t 30)), (.some (28, .false))⟩, ⟨(.some 32), (.mv (.t 3)), (.some (31, .true))⟩, ⟨(.some 33), (.bin .gtr (.t 32) (.c (.sc (.int .i64 0)))), (.some (31, .true))⟩, ⟨(.some 34), (.pick (.t 31) (.t 33) (.c (.sc (.bool .false)))), (.some (28, .false))⟩, ⟨(.some 35), (.pick (.t 28) (.c (.sc (.bool .true))) (.t 34)), .none⟩]) (.cond (.t 35) (.seq (.ops [⟨(.some 2), (.mv (.c (.sc (.bool .false)))), .none⟩]) .ret) .skip)))) (.ops [⟨(.some 36), (.bin .add (.t 8) (.c (.sc (.int .i64 1)))), .none⟩, ⟨(.some 8), (.mv (.t 36)), .none⟩]))))
def c_state_stores_p1 : AC := (.seq (.ops [⟨(.some 37), (.fadr 9 83 1 (.t 1)), .none⟩, ⟨(.some 38), (.load .false 1 (.t 37)), .none⟩, ⟨(.some 39), (.mkf 61 [(.t 1)]), .none⟩, ⟨(.some 40), (.call 60 [(.t 38), (.t 39)]), .none⟩, ⟨(.some 41), (.un .not (.t 40)), .none⟩, ⟨(.some 42), (.mv (.t 41)), .none⟩, ⟨(.some 43), (.load .true 92 (.t 1)), (.some (42, .true))⟩, ⟨(.some 44), (.call 63 [(.t 43)]), (.some (42, .true))⟩, ⟨(.some 45), (.pick (.t 42) (.t 44) (.c (.sc (.bool .false)))), .none⟩, ⟨(.some 2), (.mv (.t 45)), .none⟩]) .ret)
def c_state_stores : AC := (.seq (.ops [⟨(.some 1), (.box (.t 0)), .none⟩, ⟨(.some 2), (.mv (.c (.sc (.bool .false)))), .none⟩]) (.seq (.seq (.ops [⟨(.some 5), (.fadr 8 82 1 (.t 1)), .none⟩, ⟨(.some 6), (.load .false 1 (.t 5)), .none⟩, ⟨(.some 7), (.len .none (.t 6)), .none⟩, ⟨(.some 8), (.mv (.c (.sc (.int .i64 0)))), .none⟩]) (.block 0 (.loop c_state_stores_l1))) c_state_stores_p1))
theorem t_state_stores : trF Try.prog qq 34 = some (46, [(.tmp 2)], c_state_stores) := by kernel_rfl
def c_state_trap : AC := (.seq (.ops [⟨(.some 1), (.box (.t 0)), .none⟩, ⟨(.some 2), (.mv (.c (.sc (.bool .false)))), .none⟩]) (.seq (.seq (.ops [⟨(.some 3), (.fadr 0 0 1 (.t 1)), .none⟩, ⟨(.some 4), (.load .false 1 (.t 3)), .none⟩, ⟨(.some 5), (.bin .eql (.t 4) (.c (.sc (.int .i64 0)))), .none⟩]) (.cond (.t 5) (.seq (.ops [⟨(.some 6), (.fadr 1 1 1 (.t 1)), .none⟩, ⟨(.some 7), (.load .false 1 (.t 6)), .none⟩, ⟨(.some 8), (.bin .eql (.t 7) (.c (.sc (.int .i64 0)))), .none⟩, ⟨(.some 9), (.mv (.t 8)), .none⟩, ⟨(.some 10), (.fadr 2 2 1 (.t 1)), (.some (9, .true))⟩, ⟨(.some 11), (.load .false 1 (.t 10)), (.some (9, .true))⟩, ⟨(.some 12), (.bin .eql (.t 11) (.c (.sc (.int .i64 0)))), (.some (9, .true))⟩, ⟨(.some 13), (.pick (.t 9) (.t 12) (.c (.sc (.bool .false)))), .none⟩, ⟨(.some 2), (.mv (.t 13)), .none⟩]) .ret) .skip)) (.seq (.ops [⟨(.some 14), (.fadr 0 0 1 (.t 1)), .none⟩, ⟨(.some 15), (.load .false 1 (.t 14)), .none⟩, ⟨(.some 16), (.bsl 1 [(.t 15)]), .none⟩, ⟨(.some 17), (.call 23 [(.c (.sc (.int .i64 1))), (.c (.sc (.int .i64 4))), (.t 16)]), .none⟩, ⟨(.some 18), (.mv (.t 17)), .none⟩, ⟨(.some 19), (.fadr 1 1 1 (.t 1)), (.some (18, .true))⟩, ⟨(.some 20), (.load .false 1 (.t 19)), (.some (18, .true))⟩, ⟨(.some 21), (.fadr 2 2 1 (.t 1)), (.some (18, .true))⟩, ⟨(.some 22), (.load .false 1 (.t 21)), (.some (18, .true))⟩, ⟨(.some 23), (.bsl 1 [(.t 20), (.t 22)]), (.some (18, .true))⟩, ⟨(.some 24), (.call 23 [(.c (.sc (.int .i64 0))), (.c (.sc (.int .i64 1099511627776))), (.t 23)]), (.some (18, .true))⟩, ⟨(.some 25), (.pick (.t 18) (.t 24) (.c (.sc (.bool .false)))), .none⟩, ⟨(.some 2), (.mv (.t 25)), .none⟩]) .ret)))
theorem t_state_trap : trF Try.prog qq 35 = some (26, [(.tmp 2)], c_state_trap) := by kernel_rfl
def c_state_within_1 : AC := (.seq (.ops [⟨(.some 4), (.mv (.c (.sc (.bool .false)))), .none⟩]) (.seq (.ops [⟨(.some 5), (.mv (.t 0)), .none⟩, ⟨(.some 6), (.load .false 1 (.t 1)), .none⟩, ⟨(.some 7), (.bin .lss (.t 5) (.t 6)), .none⟩, ⟨(.some 8), (.mv (.t 7)), .none⟩, ⟨(.some 9), (.mv (.t 0)), (.some (8, .false))⟩, ⟨(.some 10), (.load .false 1 (.t 2)), (.some (8, .false))⟩, ⟨(.some 11), (.bin .gtr (.t 9) (.t 10)), (.some (8, .false))⟩, ⟨(.some 12), (.pick (.t 8) (.c (.sc (.bool .true))) (.t 11)), .none⟩, ⟨(.some 4), (.mv (.t 12)), .none⟩]) .ret))
theorem t_state_within_1 : trF Try.prog qq 51 = some (13, [(.tmp 4)], c_state_within_1) := by kernel_rfl
def c_state_place : AC := (.seq (.ops [⟨(.some 6), (.mv (.c (.sc (.bool .false)))), .none⟩]) (.seq (.ops [⟨(.some 7), (.mv (.t 2)), .none⟩, ⟨(.some 8), (.bin .eql (.t 7) (.c (.sc (.int .i64 1)))), .none⟩, ⟨(.some 9), (.mv (.t 8)), .none⟩, ⟨(.some 10), (.mv (.t 2)), (.some (9, .false))⟩, ⟨(.some 11), (.bin .eql (.t 10) (.c (.sc (.int .i64 2)))), (.some (9, .false))⟩, ⟨(.some 12), (.pick (.t 9) (.c (.sc (.bool .true))) (.t 11)), .none⟩, ⟨(.some 13), (.mv (.t 12)), .none⟩, ⟨(.some 14), (.mv (.t 2)), (.some (13, .false))⟩, ⟨(.some 15), (.bin .eql (.t 14) (.c (.sc (.int .i64 4)))), (.some (13, .false))⟩, ⟨(.some 16), (.pick (.t 13) (.c (.sc (.bool .true))) (.t 15)), .none⟩, ⟨(.some 17), (.mv (.t 16)), .none⟩, ⟨(.some 18), (.mv (.t 1)), (.some (17, .true))⟩, ⟨(.some 19), (.bin .geq (.t 18) (.c (.sc (.int .i64 0)))), (.some (17, .true))⟩, ⟨(.some 20), (.pick (.t 17) (.t 19) (.c (.sc (.bool .false)))), .none⟩, ⟨(.some 21), (.mv (.t 20)), .none⟩, ⟨(.some 22), (.mv (.t 1)), (.some (21, .true))⟩, ⟨(.some 23), (.mv (.t 0)), (.some (21, .true))⟩, ⟨(.some 24), (.len .none (.t 23)), (.some (21, .true))⟩, ⟨(.some 25), (.bin .leq (.t 22) (.t 24)), (.some (21, .true))⟩, ⟨(.some 26), (.pick (.t 21) (.t 25) (.c (.sc (.bool .false)))), .none⟩, ⟨(.some 27), (.mv (.t 26)), .none⟩, ⟨(.some 28), (.mv (.t 2)), (.some (27, .true))⟩, ⟨(.some 29), (.mv (.t 1)), (.some (27, .true))⟩, ⟨(.some 30), (.conv .u32 (.t 29)), (.some (27, .true))⟩, ⟨(.some 31), (.mv (.t 0)), (.some (27, .true))⟩, ⟨(.some 32), (.len .none (.t 31)), (.some (27, .true))⟩, ⟨(.some 33), (.call 83 [(.t 28), (.t 30), (.t 32)]), (.some (27, .true))⟩, ⟨(.some 34), (.bin .eql (.t 33) (.c (.sc (.int .i64 0)))), (.some (27, .true))⟩, ⟨(.some 35), (.pick (.t 27) (.t 34) (.c (.sc (.bool .false)))), .none⟩, ⟨(.some 6), (.mv (.t 35)), .none⟩]) .ret))
theorem t_state_place : trF Try.prog qq 59 = some (36, [(.tmp 6)], c_state_place) := by kernel_rfl
def c_state_stores_1 : AC := (.seq (.ops [⟨(.some 2), (.box (.t 0)), .none⟩, ⟨(.some 3), (.mv (.c (.sc (.bool .false)))), .none⟩]) (.seq (.ops [⟨(.some 4), (.fadr 10 84 1 (.t 1)), .none⟩, ⟨(.some 5), (.load .false 1 (.t 4)), .none⟩, ⟨(.some 6), (.load .true 8 (.t 2)), .none⟩, ⟨(.some 7), (.call 62 [(.t 5), (.t 6)]), .none⟩, ⟨(.some 8), (.un .not (.t 7)), .none⟩, ⟨(.some 3), (.mv (.t 8)), .none⟩]) .ret))
theorem t_state_stores_1 : trF Try.prog qq 61 = some (9, [(.tmp 3)], c_state_stores_1) := by kernel_rfl
def c_state_request : AC := (.seq (.ops [⟨(.some 3), (.box (.t 1)), .none⟩, ⟨(.some 4), (.mv (.c (.sc (.bool .false)))), .none⟩]) (.seq (.ops [⟨(.some 5), (.mv (.c (.sc (.int .i64 26)))), .none⟩, ⟨(.some 6), (.mv (.c (.sc (.int .i64 30)))), .none⟩]) (.seq (.seq (.ops [⟨(.some 7), (.fadr 0 0 1 (.t 3)), .none⟩, ⟨(.some 8), (.load .false 1 (.t 7)), .none⟩]) (.cond (.t 8) (.ops [⟨(.some 5), (.mv (.c (.sc (.int .i64 31)))), .none⟩, ⟨(.some 6), (.mv (.c (.sc (.int .i64 33)))), .none⟩]) .skip)) (.seq (.ops [⟨(.some 9), (.fadr 3 3 1 (.t 3)), .none⟩, ⟨(.some 10), (.load .false 1 (.t 9)), .none⟩, ⟨(.some 11), (.fadr 1 1 1 (.t 3)), .none⟩, ⟨(.some 12), (.load .false 1 (.t 11)), .none⟩, ⟨(.some 13), (.call 85 [(.t 12)]), .none⟩, ⟨(.some 14), (.bin .eql (.t 10) (.t 13)), .none⟩, ⟨(.some 15), (.mv (.t 14)), .none⟩, ⟨(.some 16), (.mv (.t 5)), (.some (15, .true))⟩, ⟨(.some 17), (.mv (.t 6)), (.some (15, .true))⟩, ⟨(.some 18), (.fadr 1 1 1 (.t 3)), (.some (15, .true))⟩, ⟨(.some 19), (.load .false 1 (.t 18)), (.some (15, .true))⟩, ⟨(.some 20), (.bsl 1 [(.t 19)]), (.some (15, .true))⟩, ⟨(.some 21), (.call 23 [(.t 16), (.t 17), (.t 20)]), (.some (15, .true))⟩, ⟨(.some 22), (.pick (.t 15) (.t 21) (.c (.sc (.bool .false)))), .none⟩, ⟨(.some 23), (.mv (.t 22)), .none⟩, ⟨(.some 24), (.mv (.t 0)), (.some (23, .true))⟩, ⟨(.some 25), (.fadr 2 2 1 (.t 3)), (.some (23, .true))⟩, ⟨(.some 26), (.load .false 1 (.t 25)), (.some (23, .true))⟩, ⟨(.some 27), (.fadr 3 3 1 (.t 3)), (.some (23, .true))⟩, ⟨(.some 28), (.load .false 1 (.t 27)), (.some (23, .true))⟩, ⟨(.some 29), (.call 59 [(.t 24), (.t 26), (.t 28)]), (.some (23, .true))⟩, ⟨(.some 30), (.pick (.t 23) (.t 29) (.c (.sc (.bool .false)))), .none⟩, ⟨(.some 31), (.mv (.t 30)), .none⟩, ⟨(.some 32), (.fadr 5 5 1 (.t 3)), (.some (31, .true))⟩, ⟨(.some 33), (.load .false 1 (.t 32)), (.some (31, .true))⟩, ⟨(.some 34), (.bsl 1 [(.t 33)]), (.some (31, .true))⟩, ⟨(.some 35), (.call 23 [(.c (.sc (.int .i64 0))), (.c (.sc (.int .i64 1000))), (.t 34)]), (.some (31, .true))⟩, ⟨(.some 36), (.pick (.t 31) (.t 35) (.c (.sc (.bool .false)))), .none⟩, ⟨(.some 37), (.mv (.t 36)), .none⟩, ⟨(.some 38), (.fadr 6 6 1 (.t 3)), (.some (37, .true))⟩, ⟨(.some 39), (.load .false 1 (.t 38)), (.some (37, .true))⟩, ⟨(.some 40), (.bsl 1 [(.t 39)]), (.some (37, .true))⟩, ⟨(.some 41), (.call 23 [(.c (.sc (.int .i64 (-1)))), (.c (.sc (.int .i64 15))), (.t 40)]), (.some (37, .true))⟩, ⟨(.some 42), (.pick (.t 37) (.t 41) (.c (.sc (.bool .false)))), .none⟩, ⟨(.some 4), (.mv (.t 42)), .none⟩]) .ret))))
theorem t_state_request : trF Try.prog qq 62 = some (43, [(.tmp 4)], c_state_request) := by kernel_rfl
def c_state_sent_l1 : AC := (.seq (.ops [⟨(.some 10), (.bin .lss (.t 9) (.t 8)), .none⟩]) (.seq (.cond (.t 10) .skip (.exit 0)) (.seq (.block 1 (.seq (.ops [⟨(.some 11), (.iadr .none 8 (.t 7) (.t 9)), .none⟩, ⟨(.some 12), (.load .true 8 (.t 11)), .none⟩, ⟨(.some 5), (.box (.c (.agg 8 [(.sc (.bool .false)), (.sc (.int .i64 0)), (.sc (.int .i64 0)), (.sc (.int .i64 0)), (.sc (.int .u32 0)), (.sc (.int .i64 0)), (.sc (.int .i64 0)), (.sc (.int .i64 0))]))), .none⟩, ⟨.none, (.store 8 (.t 5) (.t 12)), .none⟩]) (.seq (.seq (.ops [⟨(.some 13), (.fadr 0 0 1 (.t 5)), .none⟩, ⟨(.some 14), (.load .false 1 (.t 13)), .none⟩, ⟨(.some 15), (.un .not (.t 14)), .none⟩]) (.cond (.t 15) (.exit 1) .skip)) (.seq (.ops [⟨(.some 16), (.mv (.t 3)), .none⟩, ⟨(.some 17), (.bin .add (.t 16) (.c (.sc (.int .i64 1)))), .none⟩, ⟨(.some 3), (.mv (.t 17)), .none⟩]) (.seq (.ops [⟨(.some 18), (.fadr 8 82 1 (.t 1)), .none⟩, ⟨(.some 19), (.load .false 1 (.t 18)), .none⟩, ⟨(.some 20), (.len .none (.t 19)), .none⟩, ⟨(.some 21), (.bin .eql (.t 20) (.c (.sc (.int .i64 0)))), .none⟩, ⟨(.some 22), (.mv (.t 21)), .none⟩, ⟨(.some 23), (.fadr 2 2 1 (.t 5)), (.some (22, .false))⟩, ⟨(.some 24), (.load .false 1 (.t 23)), (.some (22, .false))⟩, ⟨(.some 25), (.fadr 8 82 1 (.t 1)), (.some (22, .false))⟩, ⟨(.some 26), (.load .false 1 (.t 25)), (.some (22, .false))⟩, ⟨(.some 27), (.iadr .none 5 (.t 26) (.c (.sc (.int .i64 0)))), (.some (22, .false))⟩, ⟨(.some 28), (.fadr 0 0 1 (.t 27)), (.some (22, .false))⟩, ⟨(.some 29), (.load .false 1 (.t 28)), (.some (22, .false))⟩, ⟨(.some 30), (.bin .neq (.t 24) (.t 29)), (.some (22, .false))⟩, ⟨(.some 31), (.pick (.t 22) (.c (.sc (.bool .true))) (.t 30)), .none⟩, ⟨(.some 32), (.mv (.t 31)), .none⟩, ⟨(.some 33), (.fadr 3 3 1 (.t 5)), (.some (32, .false))⟩, ⟨(.some 34), (.load .false 1 (.t 33)), (.some (32, .false))⟩, ⟨(.some 35), (.fadr 8 82 1 (.t 1)), (.some (32, .false))⟩, ⟨(.some 36), (.load .false 1 (.t 35)), (.some (32, .false))⟩, ⟨(.some 37), (.iadr .none 5 (.t 36) (.c (.sc (.int .i64 0)))), (.some (32, .false))⟩, ⟨(.some 38), (.fadr 1 1 1 (.t 37)), (.some (32, .false))⟩, ⟨(.some 39), (.load .false 1 (.t 38)), (.some (32, .false))⟩, ⟨(.some 40), (.bin .neq (.t 34) (.t 39)), (.some (32, .false))⟩, ⟨(.some 41), (.pick (.t 32) (.c (.sc (.bool .true))) (.t 40)), .none⟩]) (.cond (.t 41) (.seq (.ops [⟨(.some 2), (.mv (.c (.sc (.bool .false)))), .none⟩]) .ret) .skip)))))) (.ops [⟨(.some 42), (.bin .add (.t 9) (.c (.sc (.int .i64 1)))), .none⟩, ⟨(.some 9), (.mv (.t 42)), .none⟩]))))
def c_state_sent_p1 : AC := (.seq (.seq (.ops [⟨(.some 43), (.fadr 8 82 1 (.t 1)), .none⟩, ⟨(.some 44), (.load .false 1 (.t 43)), .none⟩, ⟨(.some 45), (.len .none (.t 44)), .none⟩, ⟨(.some 46), (.bin .gtr (.t 45) (.c (.sc (.int .i64 0)))), .none⟩, ⟨(.some 47), (.mv (.t 46)), .none⟩, ⟨(.some 48), (.fadr 8 82 1 (.t 1)), (.some (47, .true))⟩, ⟨(.some 49), (.load .false 1 (.t 48)), (.some (47, .true))⟩, ⟨(.some 50), (.iadr .none 5 (.t 49) (.c (.sc (.int .i64 0)))), (.some (47, .true))⟩, ⟨(.some 51), (.fadr 3 3 1 (.t 50)), (.some (47, .true))⟩, ⟨(.some 52), (.load .false 1 (.t 51)), (.some (47, .true))⟩, ⟨(.some 53), (.pick (.t 47) (.t 52) (.c (.sc (.bool .false)))), .none⟩]) (.cond (.t 53) (.seq (.ops [⟨(.some 54), (.mv (.t 3)), .none⟩, ⟨(.some 55), (.bin .eql (.t 54) (.c (.sc (.int .i64 1)))), .none⟩, ⟨(.some 2), (.mv (.t 55)), .none⟩]) .ret) .skip)) (.seq (.ops [⟨(.some 56), (.mv (.t 3)), .none⟩, ⟨(.some 57), (.bin .eql (.t 56) (.c (.sc (.int .i64 0)))), .none⟩, ⟨(.some 2), (.mv (.t 57)), .none⟩]) .ret))
def c_state_sent : AC := (.seq (.ops [⟨(.some 1), (.box (.t 0)), .none⟩, ⟨(.some 2), (.mv (.c (.sc (.bool .false)))), .none⟩]) (.seq (.ops [⟨(.some 3), (.mv (.c (.sc (.int .i64 0)))), .none⟩]) (.seq (.seq (.ops [⟨(.some 6), (.fadr 9 83 1 (.t 1)), .none⟩, ⟨(.some 7), (.load .false 1 (.t 6)), .none⟩, ⟨(.some 8), (.len .none (.t 7)), .none⟩, ⟨(.some 9), (.mv (.c (.sc (.int .i64 0)))), .none⟩]) (.block 0 (.loop c_state_sent_l1))) c_state_sent_p1)))
theorem t_state_sent : trF Try.prog qq 63 = some (58, [(.tmp 2)], c_state_sent) := by kernel_rfl
/-- The functions of state. -/
def cl_state : CodeL := [(11, 41, [(.tmp 2)], c_state_Config), (14, 10, [(.cell 2 .true 92)], c_state_First), (16, 47, [(.tmp 6)], c_state_Right), (18, 115, [(.tmp 4)], c_state_Same), (23, 11, [(.tmp 6)], c_state_within), (30, 51, [(.tmp 6)], c_state_side), (31, 5, [(.tmp 2)], c_state_Right_1), (32, 5, [(.tmp 2)], c_state_Right_2), (33, 65, [(.tmp 4)], c_state_queues), (34, 46, [(.tmp 2)], c_state_stores), (35, 26, [(.tmp 2)], c_state_trap), (51, 13, [(.tmp 4)], c_state_within_1), (59, 36, [(.tmp 6)], c_state_place), (61, 9, [(.tmp 3)], c_state_stores_1), (62, 43, [(.tmp 4)], c_state_request), (63, 58, [(.tmp 2)], c_state_sent)]
theorem clok_state : AllL (fun p => trF Try.prog qq p.1 = some p.2) cl_state := ⟨t_state_Config, t_state_First, t_state_Right, t_state_Same, t_state_within, t_state_side, t_state_Right_1, t_state_Right_2, t_state_queues, t_state_stores, t_state_trap, t_state_within_1, t_state_place, t_state_stores_1, t_state_request, t_state_sent, trivial⟩
end Go.Proofs.Ythmlnmkbeohojaa

/- Abstract code of the functions of slices: printed by a program from what the given translation yields. -/
namespace Go.Proofs.Ythmlnmkbeohojaa
open Go.Ra
def c_slices_Equal_Slot_Slot_l1 : AC := (.seq (.ops [⟨(.some 14), (.bin .lss (.t 13) (.t 12)), .none⟩]) (.seq (.cond (.t 14) .skip (.exit 0)) (.seq (.block 1 (.seq (.ops [⟨(.some 15), (.mv (.t 13)), .none⟩, ⟨(.some 5), (.mv (.t 15)), .none⟩]) (.seq (.ops [⟨(.some 16), (.mv (.t 0)), .none⟩, ⟨(.some 17), (.mv (.t 5)), .none⟩, ⟨(.some 18), (.iadr .none 3 (.t 16) (.t 17)), .none⟩, ⟨(.some 19), (.load .true 3 (.t 18)), .none⟩, ⟨(.some 20), (.mv (.t 1)), .none⟩, ⟨(.some 21), (.mv (.t 5)), .none⟩, ⟨(.some 22), (.iadr .none 3 (.t 20) (.t 21)), .none⟩, ⟨(.some 23), (.load .true 3 (.t 22)), .none⟩, ⟨(.some 24), (.eqs .true (.agg [(1, .int), (1, .bool), (1, .int)]) (.t 19) (.t 23)), .none⟩]) (.cond (.t 24) (.seq (.ops [⟨(.some 4), (.mv (.c (.sc (.bool .false)))), .none⟩]) .ret) .skip)))) (.ops [⟨(.some 25), (.bin .add (.t 13) (.c (.sc (.int .i64 1)))), .none⟩, ⟨(.some 13), (.mv (.t 25)), .none⟩]))))
def c_slices_Equal_Slot_Slot_p1 : AC := (.seq (.ops [⟨(.some 4), (.mv (.c (.sc (.bool .true)))), .none⟩]) .ret)
def c_slices_Equal_Slot_Slot : AC := (.seq (.ops [⟨(.some 4), (.mv (.c (.sc (.bool .false)))), .none⟩]) (.seq (.seq (.ops [⟨(.some 6), (.mv (.t 0)), .none⟩, ⟨(.some 7), (.len .none (.t 6)), .none⟩, ⟨(.some 8), (.mv (.t 1)), .none⟩, ⟨(.some 9), (.len .none (.t 8)), .none⟩, ⟨(.some 10), (.bin .neq (.t 7) (.t 9)), .none⟩]) (.cond (.t 10) (.seq (.ops [⟨(.some 4), (.mv (.c (.sc (.bool .false)))), .none⟩]) .ret) .skip)) (.seq (.seq (.ops [⟨(.some 11), (.mv (.t 0)), .none⟩, ⟨(.some 12), (.len .none (.t 11)), .none⟩, ⟨(.some 13), (.mv (.c (.sc (.int .i64 0)))), .none⟩]) (.block 0 (.loop c_slices_Equal_Slot_Slot_l1))) c_slices_Equal_Slot_Slot_p1)))
theorem t_slices_Equal_Slot_Slot : trF Try.prog qq 40 = some (26, [(.tmp 4)], c_slices_Equal_Slot_Slot) := by kernel_rfl
def c_slices_Equal_uint32_uint32_l1 : AC := (.seq (.ops [⟨(.some 14), (.bin .lss (.t 13) (.t 12)), .none⟩]) (.seq (.cond (.t 14) .skip (.exit 0)) (.seq (.block 1 (.seq (.ops [⟨(.some 15), (.mv (.t 13)), .none⟩, ⟨(.some 5), (.mv (.t 15)), .none⟩]) (.seq (.ops [⟨(.some 16), (.mv (.t 0)), .none⟩, ⟨(.some 17), (.mv (.t 5)), .none⟩, ⟨(.some 18), (.iadr .none 1 (.t 16) (.t 17)), .none⟩, ⟨(.some 19), (.load .false 1 (.t 18)), .none⟩, ⟨(.some 20), (.mv (.t 1)), .none⟩, ⟨(.some 21), (.mv (.t 5)), .none⟩, ⟨(.some 22), (.iadr .none 1 (.t 20) (.t 21)), .none⟩, ⟨(.some 23), (.load .false 1 (.t 22)), .none⟩, ⟨(.some 24), (.bin .neq (.t 19) (.t 23)), .none⟩]) (.cond (.t 24) (.seq (.ops [⟨(.some 4), (.mv (.c (.sc (.bool .false)))), .none⟩]) .ret) .skip)))) (.ops [⟨(.some 25), (.bin .add (.t 13) (.c (.sc (.int .i64 1)))), .none⟩, ⟨(.some 13), (.mv (.t 25)), .none⟩]))))
def c_slices_Equal_uint32_uint32_p1 : AC := (.seq (.ops [⟨(.some 4), (.mv (.c (.sc (.bool .true)))), .none⟩]) .ret)
def c_slices_Equal_uint32_uint32 : AC := (.seq (.ops [⟨(.some 4), (.mv (.c (.sc (.bool .false)))), .none⟩]) (.seq (.seq (.ops [⟨(.some 6), (.mv (.t 0)), .none⟩, ⟨(.some 7), (.len .none (.t 6)), .none⟩, ⟨(.some 8), (.mv (.t 1)), .none⟩, ⟨(.some 9), (.len .none (.t 8)), .none⟩, ⟨(.some 10), (.bin .neq (.t 7) (.t 9)), .none⟩]) (.cond (.t 10) (.seq (.ops [⟨(.some 4), (.mv (.c (.sc (.bool .false)))), .none⟩]) .ret) .skip)) (.seq (.seq (.ops [⟨(.some 11), (.mv (.t 0)), .none⟩, ⟨(.some 12), (.len .none (.t 11)), .none⟩, ⟨(.some 13), (.mv (.c (.sc (.int .i64 0)))), .none⟩]) (.block 0 (.loop c_slices_Equal_uint32_uint32_l1))) c_slices_Equal_uint32_uint32_p1)))
theorem t_slices_Equal_uint32_uint32 : trF Try.prog qq 41 = some (26, [(.tmp 4)], c_slices_Equal_uint32_uint32) := by kernel_rfl
def c_slices_Equal_bool_bool_l1 : AC := (.seq (.ops [⟨(.some 14), (.bin .lss (.t 13) (.t 12)), .none⟩]) (.seq (.cond (.t 14) .skip (.exit 0)) (.seq (.block 1 (.seq (.ops [⟨(.some 15), (.mv (.t 13)), .none⟩, ⟨(.some 5), (.mv (.t 15)), .none⟩]) (.seq (.ops [⟨(.some 16), (.mv (.t 0)), .none⟩, ⟨(.some 17), (.mv (.t 5)), .none⟩, ⟨(.some 18), (.iadr .none 1 (.t 16) (.t 17)), .none⟩, ⟨(.some 19), (.load .false 1 (.t 18)), .none⟩, ⟨(.some 20), (.mv (.t 1)), .none⟩, ⟨(.some 21), (.mv (.t 5)), .none⟩, ⟨(.some 22), (.iadr .none 1 (.t 20) (.t 21)), .none⟩, ⟨(.some 23), (.load .false 1 (.t 22)), .none⟩, ⟨(.some 24), (.eqs .true .bool (.t 19) (.t 23)), .none⟩]) (.cond (.t 24) (.seq (.ops [⟨(.some 4), (.mv (.c (.sc (.bool .false)))), .none⟩]) .ret) .skip)))) (.ops [⟨(.some 25), (.bin .add (.t 13) (.c (.sc (.int .i64 1)))), .none⟩, ⟨(.some 13), (.mv (.t 25)), .none⟩]))))
def c_slices_Equal_bool_bool_p1 : AC := (.seq (.ops [⟨(.some 4), (.mv (.c (.sc (.bool .true)))), .none⟩]) .ret)
def c_slices_Equal_bool_bool : AC := (.seq (.ops [⟨(.some 4), (.mv (.c (.sc (.bool .false)))), .none⟩]) (.seq (.seq (.ops [⟨(.some 6), (.mv (.t 0)), .none⟩, ⟨(.some 7), (.len .none (.t 6)), .none⟩, ⟨(.some 8), (.mv (.t 1)), .none⟩, ⟨(.some 9), (.len .none (.t 8)), .none⟩, ⟨(.some 10), (.bin .neq (.t 7) (.t 9)), .none⟩]) (.cond (.t 10) (.seq (.ops [⟨(.some 4), (.mv (.c (.sc (.bool .false)))), .none⟩]) .ret) .skip)) (.seq (.seq (.ops [⟨(.some 11), (.mv (.t 0)), .none⟩, ⟨(.some 12), (.len .none (.t 11)), .none⟩, ⟨(.some 13), (.mv (.c (.sc (.int .i64 0)))), .none⟩]) (.block 0 (.loop c_slices_Equal_bool_bool_l1))) c_slices_Equal_bool_bool_p1)))
theorem t_slices_Equal_bool_bool : trF Try.prog qq 42 = some (26, [(.tmp 4)], c_slices_Equal_bool_bool) := by kernel_rfl
def c_slices_Equal_Entry_Entry_l1 : AC := (.seq (.ops [⟨(.some 14), (.bin .lss (.t 13) (.t 12)), .none⟩]) (.seq (.cond (.t 14) .skip (.exit 0)) (.seq (.block 1 (.seq (.ops [⟨(.some 15), (.mv (.t 13)), .none⟩, ⟨(.some 5), (.mv (.t 15)), .none⟩]) (.seq (.ops [⟨(.some 16), (.mv (.t 0)), .none⟩, ⟨(.some 17), (.mv (.t 5)), .none⟩, ⟨(.some 18), (.iadr .none 5 (.t 16) (.t 17)), .none⟩, ⟨(.some 19), (.load .true 5 (.t 18)), .none⟩, ⟨(.some 20), (.mv (.t 1)), .none⟩, ⟨(.some 21), (.mv (.t 5)), .none⟩, ⟨(.some 22), (.iadr .none 5 (.t 20) (.t 21)), .none⟩, ⟨(.some 23), (.load .true 5 (.t 22)), .none⟩, ⟨(.some 24), (.eqs .true (.agg [(1, .int), (1, .int), (1, .int), (1, .bool), (1, .int)]) (.t 19) (.t 23)), .none⟩]) (.cond (.t 24) (.seq (.ops [⟨(.some 4), (.mv (.c (.sc (.bool .false)))), .none⟩]) .ret) .skip)))) (.ops [⟨(.some 25), (.bin .add (.t 13) (.c (.sc (.int .i64 1)))), .none⟩, ⟨(.some 13), (.mv (.t 25)), .none⟩]))))
def c_slices_Equal_Entry_Entry_p1 : AC := (.seq (.ops [⟨(.some 4), (.mv (.c (.sc (.bool .true)))), .none⟩]) .ret)
def c_slices_Equal_Entry_Entry : AC := (.seq (.ops [⟨(.some 4), (.mv (.c (.sc (.bool .false)))), .none⟩]) (.seq (.seq (.ops [⟨(.some 6), (.mv (.t 0)), .none⟩, ⟨(.some 7), (.len .none (.t 6)), .none⟩, ⟨(.some 8), (.mv (.t 1)), .none⟩, ⟨(.some 9), (.len .none (.t 8)), .none⟩, ⟨(.some 10), (.bin .neq (.t 7) (.t 9)), .none⟩]) (.cond (.t 10) (.seq (.ops [⟨(.some 4), (.mv (.c (.sc (.bool .false)))), .none⟩]) .ret) .skip)) (.seq (.seq (.ops [⟨(.some 11), (.mv (.t 0)), .none⟩, ⟨(.some 12), (.len .none (.t 11)), .none⟩, ⟨(.some 13), (.mv (.c (.sc (.int .i64 0)))), .none⟩]) (.block 0 (.loop c_slices_Equal_Entry_Entry_l1))) c_slices_Equal_Entry_Entry_p1)))
theorem t_slices_Equal_Entry_Entry : trF Try.prog qq 43 = some (26, [(.tmp 4)], c_slices_Equal_Entry_Entry) := by kernel_rfl
def c_slices_Equal_Request_Request_l1 : AC := (.seq (.ops [⟨(.some 14), (.bin .lss (.t 13) (.t 12)), .none⟩]) (.seq (.cond (.t 14) .skip (.exit 0)) (.seq (.block 1 (.seq (.ops [⟨(.some 15), (.mv (.t 13)), .none⟩, ⟨(.some 5), (.mv (.t 15)), .none⟩]) (.seq (.ops [⟨(.some 16), (.mv (.t 0)), .none⟩, ⟨(.some 17), (.mv (.t 5)), .none⟩, ⟨(.some 18), (.iadr .none 8 (.t 16) (.t 17)), .none⟩, ⟨(.some 19), (.load .true 8 (.t 18)), .none⟩, ⟨(.some 20), (.mv (.t 1)), .none⟩, ⟨(.some 21), (.mv (.t 5)), .none⟩, ⟨(.some 22), (.iadr .none 8 (.t 20) (.t 21)), .none⟩, ⟨(.some 23), (.load .true 8 (.t 22)), .none⟩, ⟨(.some 24), (.eqs .true (.agg [(1, .bool), (1, .int), (1, .int), (1, .int), (1, .int), (1, .int), (1, .int), (1, .int)]) (.t 19) (.t 23)), .none⟩]) (.cond (.t 24) (.seq (.ops [⟨(.some 4), (.mv (.c (.sc (.bool .false)))), .none⟩]) .ret) .skip)))) (.ops [⟨(.some 25), (.bin .add (.t 13) (.c (.sc (.int .i64 1)))), .none⟩, ⟨(.some 13), (.mv (.t 25)), .none⟩]))))
def c_slices_Equal_Request_Request_p1 : AC := (.seq (.ops [⟨(.some 4), (.mv (.c (.sc (.bool .true)))), .none⟩]) .ret)
def c_slices_Equal_Request_Request : AC := (.seq (.ops [⟨(.some 4), (.mv (.c (.sc (.bool .false)))), .none⟩]) (.seq (.seq (.ops [⟨(.some 6), (.mv (.t 0)), .none⟩, ⟨(.some 7), (.len .none (.t 6)), .none⟩, ⟨(.some 8), (.mv (.t 1)), .none⟩, ⟨(.some 9), (.len .none (.t 8)), .none⟩, ⟨(.some 10), (.bin .neq (.t 7) (.t 9)), .none⟩]) (.cond (.t 10) (.seq (.ops [⟨(.some 4), (.mv (.c (.sc (.bool .false)))), .none⟩]) .ret) .skip)) (.seq (.seq (.ops [⟨(.some 11), (.mv (.t 0)), .none⟩, ⟨(.some 12), (.len .none (.t 11)), .none⟩, ⟨(.some 13), (.mv (.c (.sc (.int .i64 0)))), .none⟩]) (.block 0 (.loop c_slices_Equal_Request_Request_l1))) c_slices_Equal_Request_Request_p1)))
theorem t_slices_Equal_Request_Request : trF Try.prog qq 44 = some (26, [(.tmp 4)], c_slices_Equal_Request_Request) := by kernel_rfl
def c_slices_Equal_byte_byte_l1 : AC := (.seq (.ops [⟨(.some 14), (.bin .lss (.t 13) (.t 12)), .none⟩]) (.seq (.cond (.t 14) .skip (.exit 0)) (.seq (.block 1 (.seq (.ops [⟨(.some 15), (.mv (.t 13)), .none⟩, ⟨(.some 5), (.mv (.t 15)), .none⟩]) (.seq (.ops [⟨(.some 16), (.mv (.t 0)), .none⟩, ⟨(.some 17), (.mv (.t 5)), .none⟩, ⟨(.some 18), (.iadr .none 1 (.t 16) (.t 17)), .none⟩, ⟨(.some 19), (.load .false 1 (.t 18)), .none⟩, ⟨(.some 20), (.mv (.t 1)), .none⟩, ⟨(.some 21), (.mv (.t 5)), .none⟩, ⟨(.some 22), (.iadr .none 1 (.t 20) (.t 21)), .none⟩, ⟨(.some 23), (.load .false 1 (.t 22)), .none⟩, ⟨(.some 24), (.bin .neq (.t 19) (.t 23)), .none⟩]) (.cond (.t 24) (.seq (.ops [⟨(.some 4), (.mv (.c (.sc (.bool .false)))), .none⟩]) .ret) .skip)))) (.ops [⟨(.some 25), (.bin .add (.t 13) (.c (.sc (.int .i64 1)))), .none⟩, ⟨(.some 13), (.mv (.t 25)), .none⟩]))))
def c_slices_Equal_byte_byte_p1 : AC := (.seq (.ops [⟨(.some 4), (.mv (.c (.sc (.bool .true)))), .none⟩]) .ret)
def c_slices_Equal_byte_byte : AC := (.seq (.ops [⟨(.some 4), (.mv (.c (.sc (.bool .false)))), .none⟩]) (.seq (.seq (.ops [⟨(.some 6), (.mv (.t 0)), .none⟩, ⟨(.some 7), (.len .none (.t 6)), .none⟩, ⟨(.some 8), (.mv (.t 1)), .none⟩, ⟨(.some 9), (.len .none (.t 8)), .none⟩, ⟨(.some 10), (.bin .neq (.t 7) (.t 9)), .none⟩]) (.cond (.t 10) (.seq (.ops [⟨(.some 4), (.mv (.c (.sc (.bool .false)))), .none⟩]) .ret) .skip)) (.seq (.seq (.ops [⟨(.some 11), (.mv (.t 0)), .none⟩, ⟨(.some 12), (.len .none (.t 11)), .none⟩, ⟨(.some 13), (.mv (.c (.sc (.int .i64 0)))), .none⟩]) (.block 0 (.loop c_slices_Equal_byte_byte_l1))) c_slices_Equal_byte_byte_p1)))
theorem t_slices_Equal_byte_byte : trF Try.prog qq 45 = some (26, [(.tmp 4)], c_slices_Equal_byte_byte) := by kernel_rfl
def c_slices_Equal_Write_Write_l1 : AC := (.seq (.ops [⟨(.some 14), (.bin .lss (.t 13) (.t 12)), .none⟩]) (.seq (.cond (.t 14) .skip (.exit 0)) (.seq (.block 1 (.seq (.ops [⟨(.some 15), (.mv (.t 13)), .none⟩, ⟨(.some 5), (.mv (.t 15)), .none⟩]) (.seq (.ops [⟨(.some 16), (.mv (.t 0)), .none⟩, ⟨(.some 17), (.mv (.t 5)), .none⟩, ⟨(.some 18), (.iadr .none 3 (.t 16) (.t 17)), .none⟩, ⟨(.some 19), (.load .true 3 (.t 18)), .none⟩, ⟨(.some 20), (.mv (.t 1)), .none⟩, ⟨(.some 21), (.mv (.t 5)), .none⟩, ⟨(.some 22), (.iadr .none 3 (.t 20) (.t 21)), .none⟩, ⟨(.some 23), (.load .true 3 (.t 22)), .none⟩, ⟨(.some 24), (.eqs .true (.agg [(1, .int), (1, .int), (1, .int)]) (.t 19) (.t 23)), .none⟩]) (.cond (.t 24) (.seq (.ops [⟨(.some 4), (.mv (.c (.sc (.bool .false)))), .none⟩]) .ret) .skip)))) (.ops [⟨(.some 25), (.bin .add (.t 13) (.c (.sc (.int .i64 1)))), .none⟩, ⟨(.some 13), (.mv (.t 25)), .none⟩]))))
def c_slices_Equal_Write_Write_p1 : AC := (.seq (.ops [⟨(.some 4), (.mv (.c (.sc (.bool .true)))), .none⟩]) .ret)
def c_slices_Equal_Write_Write : AC := (.seq (.ops [⟨(.some 4), (.mv (.c (.sc (.bool .false)))), .none⟩]) (.seq (.seq (.ops [⟨(.some 6), (.mv (.t 0)), .none⟩, ⟨(.some 7), (.len .none (.t 6)), .none⟩, ⟨(.some 8), (.mv (.t 1)), .none⟩, ⟨(.some 9), (.len .none (.t 8)), .none⟩, ⟨(.some 10), (.bin .neq (.t 7) (.t 9)), .none⟩]) (.cond (.t 10) (.seq (.ops [⟨(.some 4), (.mv (.c (.sc (.bool .false)))), .none⟩]) .ret) .skip)) (.seq (.seq (.ops [⟨(.some 11), (.mv (.t 0)), .none⟩, ⟨(.some 12), (.len .none (.t 11)), .none⟩, ⟨(.some 13), (.mv (.c (.sc (.int .i64 0)))), .none⟩]) (.block 0 (.loop c_slices_Equal_Write_Write_l1))) c_slices_Equal_Write_Write_p1)))
theorem t_slices_Equal_Write_Write : trF Try.prog qq 46 = some (26, [(.tmp 4)], c_slices_Equal_Write_Write) := by kernel_rfl
def c_slices_ContainsFunc_int_int : AC := (.seq (.ops [⟨(.some 4), (.mv (.c (.sc (.bool .false)))), .none⟩]) (.seq (.ops [⟨(.some 5), (.mv (.t 0)), .none⟩, ⟨(.some 6), (.mv (.t 1)), .none⟩, ⟨(.some 7), (.call 71 [(.t 5), (.t 6)]), .none⟩, ⟨(.some 8), (.bin .geq (.t 7) (.c (.sc (.int .i64 0)))), .none⟩, ⟨(.some 4), (.mv (.t 8)), .none⟩]) .ret))
theorem t_slices_ContainsFunc_int_int : trF Try.prog qq 50 = some (9, [(.tmp 4)], c_slices_ContainsFunc_int_int) := by kernel_rfl
def c_slices_ContainsFunc_Ins_Ins : AC := (.seq (.ops [⟨(.some 4), (.mv (.c (.sc (.bool .false)))), .none⟩]) (.seq (.ops [⟨(.some 5), (.mv (.t 0)), .none⟩, ⟨(.some 6), (.mv (.t 1)), .none⟩, ⟨(.some 7), (.call 78 [(.t 5), (.t 6)]), .none⟩, ⟨(.some 8), (.bin .geq (.t 7) (.c (.sc (.int .i64 0)))), .none⟩, ⟨(.some 4), (.mv (.t 8)), .none⟩]) .ret))
theorem t_slices_ContainsFunc_Ins_Ins : trF Try.prog qq 55 = some (9, [(.tmp 4)], c_slices_ContainsFunc_Ins_Ins) := by kernel_rfl
def c_slices_ContainsFunc_Request_Request : AC := (.seq (.ops [⟨(.some 4), (.mv (.c (.sc (.bool .false)))), .none⟩]) (.seq (.ops [⟨(.some 5), (.mv (.t 0)), .none⟩, ⟨(.some 6), (.mv (.t 1)), .none⟩, ⟨(.some 7), (.call 84 [(.t 5), (.t 6)]), .none⟩, ⟨(.some 8), (.bin .geq (.t 7) (.c (.sc (.int .i64 0)))), .none⟩, ⟨(.some 4), (.mv (.t 8)), .none⟩]) .ret))
theorem t_slices_ContainsFunc_Request_Request : trF Try.prog qq 60 = some (9, [(.tmp 4)], c_slices_ContainsFunc_Request_Request) := by kernel_rfl
def c_slices_IndexFunc_int_int_l1 : AC := (.seq (.ops [⟨(.some 9), (.bin .lss (.t 8) (.t 7)), .none⟩]) (.seq (.cond (.t 9) .skip (.exit 0)) (.seq (.block 1 (.seq (.ops [⟨(.some 10), (.mv (.t 8)), .none⟩, ⟨(.some 5), (.mv (.t 10)), .none⟩]) (.seq (.ops [⟨(.some 11), (.mv (.t 1)), .none⟩, ⟨(.some 12), (.mv (.t 0)), .none⟩, ⟨(.some 13), (.mv (.t 5)), .none⟩, ⟨(.some 14), (.iadr .none 1 (.t 12) (.t 13)), .none⟩, ⟨(.some 15), (.load .false 1 (.t 14)), .none⟩, ⟨(.some 16), (.callv (.t 11) [(.t 15)]), .none⟩]) (.cond (.t 16) (.seq (.ops [⟨(.some 17), (.mv (.t 5)), .none⟩, ⟨(.some 4), (.mv (.t 17)), .none⟩]) .ret) .skip)))) (.ops [⟨(.some 18), (.bin .add (.t 8) (.c (.sc (.int .i64 1)))), .none⟩, ⟨(.some 8), (.mv (.t 18)), .none⟩]))))
def c_slices_IndexFunc_int_int_p1 : AC := (.seq (.ops [⟨(.some 4), (.mv (.c (.sc (.int .i64 (-1))))), .none⟩]) .ret)
def c_slices_IndexFunc_int_int : AC := (.seq (.ops [⟨(.some 4), (.mv (.c (.sc (.int .i64 0)))), .none⟩]) (.seq (.seq (.ops [⟨(.some 6), (.mv (.t 0)), .none⟩, ⟨(.some 7), (.len .none (.t 6)), .none⟩, ⟨(.some 8), (.mv (.c (.sc (.int .i64 0)))), .none⟩]) (.block 0 (.loop c_slices_IndexFunc_int_int_l1))) c_slices_IndexFunc_int_int_p1))
theorem t_slices_IndexFunc_int_int : trF Try.prog qq 71 = some (19, [(.tmp 4)], c_slices_IndexFunc_int_int) := by kernel_rfl
def c_slices_IndexFunc_Ins_Ins_l1 : AC := (.seq (.ops [⟨(.some 9), (.bin .lss (.t 8) (.t 7)), .none⟩]) (.seq (.cond (.t 9) .skip (.exit 0)) (.seq (.block 1 (.seq (.ops [⟨(.some 10), (.mv (.t 8)), .none⟩, ⟨(.some 5), (.mv (.t 10)), .none⟩]) (.seq (.ops [⟨(.some 11), (.mv (.t 1)), .none⟩, ⟨(.some 12), (.mv (.t 0)), .none⟩, ⟨(.some 13), (.mv (.t 5)), .none⟩, ⟨(.some 14), (.iadr .none 5 (.t 12) (.t 13)), .none⟩, ⟨(.some 15), (.load .true 5 (.t 14)), .none⟩, ⟨(.some 16), (.callv (.t 11) [(.t 15)]), .none⟩]) (.cond (.t 16) (.seq (.ops [⟨(.some 17), (.mv (.t 5)), .none⟩, ⟨(.some 4), (.mv (.t 17)), .none⟩]) .ret) .skip)))) (.ops [⟨(.some 18), (.bin .add (.t 8) (.c (.sc (.int .i64 1)))), .none⟩, ⟨(.some 8), (.mv (.t 18)), .none⟩]))))
def c_slices_IndexFunc_Ins_Ins_p1 : AC := (.seq (.ops [⟨(.some 4), (.mv (.c (.sc (.int .i64 (-1))))), .none⟩]) .ret)
def c_slices_IndexFunc_Ins_Ins : AC := (.seq (.ops [⟨(.some 4), (.mv (.c (.sc (.int .i64 0)))), .none⟩]) (.seq (.seq (.ops [⟨(.some 6), (.mv (.t 0)), .none⟩, ⟨(.some 7), (.len .none (.t 6)), .none⟩, ⟨(.some 8), (.mv (.c (.sc (.int .i64 0)))), .none⟩]) (.block 0 (.loop c_slices_IndexFunc_Ins_Ins_l1))) c_slices_IndexFunc_Ins_Ins_p1))
theorem t_slices_IndexFunc_Ins_Ins : trF Try.prog qq 78 = some (19, [(.tmp 4)], c_slices_IndexFunc_Ins_Ins) := by kernel_rfl
def c_slices_IndexFunc_Request_Request_l1 : AC := (.seq (.ops [⟨(.some 9), (.bin .lss (.t 8) (.t 7)), .none⟩]) (.seq (.cond (.t 9) .skip (.exit 0)) (.seq (.block 1 (.seq (.ops [⟨(.some 10), (.mv (.t 8)), .none⟩, ⟨(.some 5), (.mv (.t 10)), .none⟩]) (.seq (.ops [⟨(.some 11), (.mv (.t 1)), .none⟩, ⟨(.some 12), (.mv (.t 0)), .none⟩, ⟨(.some 13), (.mv (.t 5)), .none⟩, ⟨(.some 14), (.iadr .none 8 (.t 12) (.t 13)), .none⟩, ⟨(.some 15), (.load .true 8 (.t 14)), .none⟩, ⟨(.some 16), (.callv (.t 11) [(.t 15)]), .none⟩]) (.cond (.t 16) (.seq (.ops [⟨(.some 17), (.mv (.t 5)), .none⟩, ⟨(.some 4), (.mv (.t 17)), .none⟩]) .ret) .skip)))) (.ops [⟨(.some 18), (.bin .add (.t 8) (.c (.sc (.int .i64 1)))), .none⟩, ⟨(.some 8), (.mv (.t 18)), .none⟩]))))
def c_slices_IndexFunc_Request_Request_p1 : AC := (.seq (.ops [⟨(.some 4), (.mv (.c (.sc (.int .i64 (-1))))), .none⟩]) .ret)
def c_slices_IndexFunc_Request_Request : AC := (.seq (.ops [⟨(.some 4), (.mv (.c (.sc (.int .i64 0)))), .none⟩]) (.seq (.seq (.ops [⟨(.some 6), (.mv (.t 0)), .none⟩, ⟨(.some 7), (.len .none (.t 6)), .none⟩, ⟨(.some 8), (.mv (.c (.sc (.int .i64 0)))), .none⟩]) (.block 0 (.loop c_slices_IndexFunc_Request_Request_l1))) c_slices_IndexFunc_Request_Request_p1))
theorem t_slices_IndexFunc_Request_Request : trF Try.prog qq 84 = some (19, [(.tmp 4)], c_slices_IndexFunc_Request_Request) := by kernel_rfl
/-- The functions of slices. -/
def cl_slices : CodeL := [(40, 26, [(.tmp 4)], c_slices_Equal_Slot_Slot), (41, 26, [(.tmp 4)], c_slices_Equal_uint32_uint32), (42, 26, [(.tmp 4)], c_slices_Equal_bool_bool), (43, 26, [(.tmp 4)], c_slices_Equal_Entry_Entry), (44, 26, [(.tmp 4)], c_slices_Equal_Request_Request), (45, 26, [(.tmp 4)], c_slices_Equal_byte_byte), (46, 26, [(.tmp 4)], c_slices_Equal_Write_Write), (50, 9, [(.tmp 4)], c_slices_ContainsFunc_int_int), (55, 9, [(.tmp 4)], c_slices_ContainsFunc_Ins_Ins), (60, 9, [(.tmp 4)], c_slices_ContainsFunc_Request_Request), (71, 19, [(.tmp 4)], c_slices_IndexFunc_int_int), (78, 19, [(.tmp 4)], c_slices_IndexFunc_Ins_Ins), (84, 19, [(.tmp 4)], c_slices_IndexFunc_Request_Request)]
theorem clok_slices : AllL (fun p => trF Try.prog qq p.1 = some p.2) cl_slices := ⟨t_slices_Equal_Slot_Slot, t_slices_Equal_uint32_uint32, t_slices_Equal_bool_bool, t_slices_Equal_Entry_Entry, t_slices_Equal_Request_Request, t_slices_Equal_byte_byte, t_slices_Equal_Write_Write, t_slices_ContainsFunc_int_int, t_slices_ContainsFunc_Ins_Ins, t_slices_ContainsFunc_Request_Request, t_slices_IndexFunc_int_int, t_slices_IndexFunc_Ins_Ins, t_slices_IndexFunc_Request_Request, trivial⟩
end Go.Proofs.Ythmlnmkbeohojaa

/- Abstract code of the functions of ref15: printed by a program from what the given translation yields. -/
namespace Go.Proofs.Ythmlnmkbeohojaa
open Go.Ra
def c_ref15_First : AC := (.seq (.ops [⟨(.some 1), (.box (.t 0)), .none⟩, ⟨(.some 2), (.box (.c (.agg 92 [(.sc (.int .i64 0)), (.agg 38 [(.arr 16 1 [(.sc (.int .u32 0)), (.sc (.int .u32 0)), (.sc (.int .u32 0)), (.sc (.int .u32 0)), (.sc (.int .u32 0)), (.sc (.int .u32 0)), (.sc (.int .u32 0)), (.sc (.int .u32 0)), (.sc (.int .u32 0)), (.sc (.int .u32 0)), (.sc (.int .u32 0)), (.sc (.int .u32 0)), (.sc (.int .u32 0)), (.sc (.int .u32 0)), (.sc (.int .u32 0)), (.sc (.int .u32 0))]), (.arr 16 1 [(.sc (.int .i64 0)), (.sc (.int .i64 0)), (.sc (.int .i64 0)), (.sc (.int .i64 0)), (.sc (.int .i64 0)), (.sc (.int .i64 0)), (.sc (.int .i64 0)), (.sc (.int .i64 0)), (.sc (.int .i64 0)), (.sc (.int .i64 0)), (.sc (.int .i64 0)), (.sc (.int .i64 0)), (.sc (.int .i64 0)), (.sc (.int .i64 0)), (.sc (.int .i64 0)), (.sc (.int .i64 0))]), (.agg 3 [(.sc (.int .i64 0)), (.sc (.int .i64 0)), (.sc (.int .i64 0))]), (.sc (.int .i64 0)), (.sc (.bool .false)), (.sc (.int .i64 0))]), (.agg 38 [(.arr 16 1 [(.sc (.int .u32 0)), (.sc (.int .u32 0)), (.sc (.int .u32 0)), (.sc (.int .u32 0)), (.sc (.int .u32 0)), (.sc (.int .u32 0)), (.sc (.int .u32 0)), (.sc (.int .u32 0)), (.sc (.int .u32 0)), (.sc (.int .u32 0)), (.sc (.int .u32 0)), (.sc (.int .u32 0)), (.sc (.int .u32 0)), (.sc (.int .u32 0)), (.sc (.int .u32 0)), (.sc (.int .u32 0))]), (.arr 16 1 [(.sc (.int .i64 0)), (.sc (.int .i64 0)), (.sc (.int .i64 0)), (.sc (.int .i64 0)), (.sc (.int .i64 0)), (.sc (.int .i64 0)), (.sc (.int .i64 0)), (.sc (.int .i64 0)), (.sc (.int .i64 0)), (.sc (.int .i64 0)), (.sc (.int .i64 0)), (.sc (.int .i64 0)), (.sc (.int .i64 0)), (.sc (.int .i64 0)), (.sc (.int .i64 0)), (.sc (.int .i64 0))]), (.agg 3 [(.sc (.int .i64 0)), (.sc (.int .i64 0)), (.sc (.int .i64 0))]), (.sc (.int .i64 0)), (.sc (.bool .false)), (.sc (.int .i64 0))]), (.fro .true 0 []), (.fro .true 0 []), (.fro .true 0 []), (.fro .true 0 []), (.fro .true 0 []), (.fro .true 0 []), (.fro .true 0 []), (.fro .true 0 []), (.fro .true 0 []), (.agg 3 [(.sc (.int .i64 0)), (.sc (.int .i64 0)), (.sc (.int .i64 0))]), (.sc (.int .i64 0)), (.sc (.int .i64 0)), (.sc (.int .i64 0))]))), .none⟩]) (.seq (.seq (.ops [⟨(.some 3), (.load .true 3 (.t 1)), .none⟩, ⟨(.some 4), (.call 29 [(.t 3)]), .none⟩, ⟨(.some 5), (.un .not (.t 4)), .none⟩]) (.cond (.t 5) (.seq (.ops [⟨(.some 6), (.build 92 [(.sc (.int .i64 0)), (.agg 38 [(.arr 16 1 [(.sc (.int .u32 0)), (.sc (.int .u32 0)), (.sc (.int .u32 0)), (.sc (.int .u32 0)), (.sc (.int .u32 0)), (.sc (.int .u32 0)), (.sc (.int .u32 0)), (.sc (.int .u32 0)), (.sc (.int .u32 0)), (.sc (.int .u32 0)), (.sc (.int .u32 0)), (.sc (.int .u32 0)), (.sc (.int .u32 0)), (.sc (.int .u32 0)), (.sc (.int .u32 0)), (.sc (.int .u32 0))]), (.arr 16 1 [(.sc (.int .i64 0)), (.sc (.int .i64 0)), (.sc (.int .i64 0)), (.sc (.int .i64 0)), (.sc (.int .i64 0)), (.sc (.int .i64 0)), (.sc (.int .i64 0)), (.sc (.int .i64 0)), (.sc (.int .i64 0)), (.sc (.int .i64 0)), (.sc (.int .i64 0)), (.sc (.int .i64 0)), (.sc (.int .i64 0)), (.sc (.int .i64 0)), (.sc (.int .i64 0)), (.sc (.int .i64 0))]), (.agg 3 [(.sc (.int .i64 0)), (.sc (.int .i64 0)), (.sc (.int .i64 0))]), (.sc (.int .i64 0)), (.sc (.bool .false)), (.sc (.int .i64 0))]), (.agg 38 [(.arr 16 1 [(.sc (.int .u32 0)), (.sc (.int .u32 0)), (.sc (.int .u32 0)), (.sc (.int .u32 0)), (.sc (.int .u32 0)), (.sc (.int .u32 0)), (.sc (.int .u32 0)), (.sc (.int .u32 0)), (.sc (.int .u32 0)), (.sc (.int .u32 0)), (.sc (.int .u32 0)), (.sc (.int .u32 0)), (.sc (.int .u32 0)), (.sc (.int .u32 0)), (.sc (.int .u32 0)), (.sc (.int .u32 0))]), (.arr 16 1 [(.sc (.int .i64 0)), (.sc (.int .i64 0)), (.sc (.int .i64 0)), (.sc (.int .i64 0)), (.sc (.int .i64 0)), (.sc (.int .i64 0)), (.sc (.int .i64 0)), (.sc (.int .i64 0)), (.sc (.int .i64 0)), (.sc (.int .i64 0)), (.sc (.int .i64 0)), (.sc (.int .i64 0)), (.sc (.int .i64 0)), (.sc (.int .i64 0)), (.sc (.int .i64 0)), (.sc (.int .i64 0))]), (.agg 3 [(.sc (.int .i64 0)), (.sc (.int .i64 0)), (.sc (.int .i64 0))]), (.sc (.int .i64 0)), (.sc (.bool .false)), (.sc (.int .i64 0))]), (.fro .true 0 []), (.fro .true 0 []), (.fro .true 0 []), (.fro .true 0 []), (.fro .true 0 []), (.fro .true 0 []), (.fro .true 0 []), (.fro .true 0 []), (.fro .true 0 []), (.agg 3 [(.sc (.int .i64 0)), (.sc (.int .i64 0)), (.sc (.int .i64 0))]), (.sc (.int .i64 0)), (.sc (.int .i64 0)), (.sc (.int .i64 0))] []), .none⟩, ⟨.none, (.store 92 (.t 2) (.t 6)), .none⟩]) .ret) .skip)) (.seq (.ops [⟨(.some 7), (.load .true 3 (.t 1)), .none⟩, ⟨(.some 8), (.call 20 [(.t 7)]), .none⟩, ⟨(.some 9), (.build 92 [(.sc (.int .i64 0)), (.agg 38 [(.arr 16 1 [(.sc (.int .u32 0)), (.sc (.int .u32 0)), (.sc (.int .u32 0)), (.sc (.int .u32 0)), (.sc (.int .u32 0)), (.sc (.int .u32 0)), (.sc (.int .u32 0)), (.sc (.int .u32 0)), (.sc (.int .u32 0)), (.sc (.int .u32 0)), (.sc (.int .u32 0)), (.sc (.int .u32 0)), (.sc (.int .u32 0)), (.sc (.int .u32 0)), (.sc (.int .u32 0)), (.sc (.int .u32 0))]), (.arr 16 1 [(.sc (.int .i64 0)), (.sc (.int .i64 0)), (.sc (.int .i64 0)), (.sc (.int .i64 0)), (.sc (.int .i64 0)), (.sc (.int .i64 0)), (.sc (.int .i64 0)), (.sc (.int .i64 0)), (.sc (.int .i64 0)), (.sc (.int .i64 0)), (.sc (.int .i64 0)), (.sc (.int .i64 0)), (.sc (.int .i64 0)), (.sc (.int .i64 0)), (.sc (.int .i64 0)), (.sc (.int .i64 0))]), (.agg 3 [(.sc (.int .i64 0)), (.sc (.int .i64 0)), (.sc (.int .i64 0))]), (.sc (.int .i64 0)), (.sc (.bool .false)), (.sc (.int .i64 0))]), (.agg 38 [(.arr 16 1 [(.sc (.int .u32 0)), (.sc (.int .u32 0)), (.sc (.int .u32 0)), (.sc (.int .u32 0)), (.sc (.int .u32 0)), (.sc (.int .u32 0)), (.sc (.int .u32 0)), (.sc (.int .u32 0)), (.sc (.int .u32 0)), (.sc (.int .u32 0)), (.sc (.int .u32 0)), (.sc (.int .u32 0)), (.sc (.int .u32 0)), (.sc (.int .u32 0)), (.sc (.int .u32 0)), (.sc (.int .u32 0))]), (.arr 16 1 [(.sc (.int .i64 0)), (.sc (.int .i64 0)), (.sc (.int .i64 0)), (.sc (.int .i64 0)), (.sc (.int .i64 0)), (.sc (.int .i64 0)), (.sc (.int .i64 0)), (.sc (.int .i64 0)), (.sc (.int .i64 0)), (.sc (.int .i64 0)), (.sc (.int .i64 0)), (.sc (.int .i64 0)), (.sc (.int .i64 0)), (.sc (.int .i64 0)), (.sc (.int .i64 0)), (.sc (.int .i64 0))]), (.agg 3 [(.sc (.int .i64 0)), (.sc (.int .i64 0)), (.sc (.int .i64 0))]), (.sc (.int .i64 0)), (.sc (.bool .false)), (.sc (.int .i64 0))]), (.fro .true 0 []), (.fro .true 0 []), (.fro .true 0 []), (.fro .true 0 []), (.fro .true 0 []), (.fro .true 0 []), (.fro .true 0 []), (.fro .true 0 []), (.fro .true 0 []), (.agg 3 [(.sc (.int .i64 0)), (.sc (.int .i64 0)), (.sc (.int .i64 0))]), (.sc (.int .i64 0)), (.sc (.int .i64 0)), (.sc (.int .i64 0))] [(10, (.t 8))]), .none⟩, ⟨.none, (.store 92 (.t 2) (.t 9)), .none⟩]) .ret)))
theorem t_ref15_First : trF Try.prog qq 15 = some (10, [(.cell 2 .true 92)], c_ref15_First) := by kernel_rfl
def c_ref15_Copy : AC := (.seq (.ops [⟨(.some 1), (.box (.t 0)), .none⟩, ⟨(.some 2), (.box (.c (.agg 92 [(.sc (.int .i64 0)), (.agg 38 [(.arr 16 1 [(.sc (.int .u32 0)), (.sc (.int .u32 0)), (.sc (.int .u32 0)), (.sc (.int .u32 0)), (.sc (.int .u32 0)), (.sc (.int .u32 0)), (.sc (.int .u32 0)), (.sc (.int .u32 0)), (.sc (.int .u32 0)), (.sc (.int .u32 0)), (.sc (.int .u32 0)), (.sc (.int .u32 0)), (.sc (.int .u32 0)), (.sc (.int .u32 0)), (.sc (.int .u32 0)), (.sc (.int .u32 0))]), (.arr 16 1 [(.sc (.int .i64 0)), (.sc (.int .i64 0)), (.sc (.int .i64 0)), (.sc (.int .i64 0)), (.sc (.int .i64 0)), (.sc (.int .i64 0)), (.sc (.int .i64 0)), (.sc (.int .i64 0)), (.sc (.int .i64 0)), (.sc (.int .i64 0)), (.sc (.int .i64 0)), (.sc (.int .i64 0)), (.sc (.int .i64 0)), (.sc (.int .i64 0)), (.sc (.int .i64 0)), (.sc (.int .i64 0))]), (.agg 3 [(.sc (.int .i64 0)), (.sc (.int .i64 0)), (.sc (.int .i64 0))]), (.sc (.int .i64 0)), (.sc (.bool .false)), (.sc (.int .i64 0))]), (.agg 38 [(.arr 16 1 [(.sc (.int .u32 0)), (.sc (.int .u32 0)), (.sc (.int .u32 0)), (.sc (.int .u32 0)), (.sc (.int .u32 0)), (.sc (.int .u32 0)), (.sc (.int .u32 0)), (.sc (.int .u32 0)), (.sc (.int .u32 0)), (.sc (.int .u32 0)), (.sc (.int .u32 0)), (.sc (.int .u32 0)), (.sc (.int .u32 0)), (.sc (.int .u32 0)), (.sc (.int .u32 0)), (.sc (.int .u32 0))]), (.arr 16 1 [(.sc (.int .i64 0)), (.sc (.int .i64 0)), (.sc (.int .i64 0)), (.sc (.int .i64 0)), (.sc (.int .i64 0)), (.sc (.int .i64 0)), (.sc (.int .i64 0)), (.sc (.int .i64 0)), (.sc (.int .i64 0)), (.sc (.int .i64 0)), (.sc (.int .i64 0)), (.sc (.int .i64 0)), (.sc (.int .i64 0)), (.sc (.int .i64 0)), (.sc (.int .i64 0)), (.sc (.int .i64 0))]), (.agg 3 [(.sc (.int .i64 0)), (.sc (.int .i64 0)), (.sc (.int .i64 0))]), (.sc (.int .i64 0)), (.sc (.bool .false)), (.sc (.int .i64 0))]), (.fro .true 0 []), (.fro .true 0 []), (.fro .true 0 []), (.fro .true 0 []), (.fro .true 0 []), (.fro .true 0 []), (.fro .true 0 []), (.fro .true 0 []), (.fro .true 0 []), (.agg 3 [(.sc (.int .i64 0)), (.sc (.int .i64 0)), (.sc (.int .i64 0))]), (.sc (.int .i64 0)), (.sc (.int .i64 0)), (.sc (.int .i64 0))]))), .none⟩]) (.seq (.ops [⟨(.some 3), (.fadr 3 77 1 (.t 1)), .none⟩, ⟨(.some 4), (.load .false 1 (.t 3)), .none⟩, ⟨(.some 5), (.call 49 [(.t 4)]), .none⟩, ⟨(.some 6), (.fadr 3 77 1 (.t 1)), .none⟩, ⟨.none, (.store 1 (.t 6) (.t 5)), .none⟩]) (.seq (.ops [⟨(.some 7), (.fadr 4 78 1 (.t 1)), .none⟩, ⟨(.some 8), (.load .false 1 (.t 7)), .none⟩, ⟨(.some 9), (.app 1 4 (.c (.fro .true 0 [])) (.t 8)), .none⟩, ⟨(.some 10), (.fadr 4 78 1 (.t 1)), .none⟩, ⟨.none, (.store 1 (.t 10) (.t 9)), .none⟩]) (.seq (.ops [⟨(.some 11), (.fadr 5 79 1 (.t 1)), .none⟩, ⟨(.some 12), (.load .false 1 (.t 11)), .none⟩, ⟨(.some 13), (.app 1 4 (.c (.fro .true 0 [])) (.t 12)), .none⟩, ⟨(.some 14), (.fadr 5 79 1 (.t 1)), .none⟩, ⟨.none, (.store 1 (.t 14) (.t 13)), .none⟩]) (.seq (.ops [⟨(.some 15), (.fadr 6 80 1 (.t 1)), .none⟩, ⟨(.some 16), (.load .false 1 (.t 15)), .none⟩, ⟨(.some 17), (.app 1 1 (.c (.fro .true 0 [])) (.t 16)), .none⟩, ⟨(.some 18), (.fadr 6 80 1 (.t 1)), .none⟩, ⟨.none, (.store 1 (.t 18) (.t 17)), .none⟩]) (.seq (.ops [⟨(.some 19), (.fadr 7 81 1 (.t 1)), .none⟩, ⟨(.some 20), (.load .false 1 (.t 19)), .none⟩, ⟨(.some 21), (.app 1 1 (.c (.fro .true 0 [])) (.t 20)), .none⟩, ⟨(.some 22), (.fadr 7 81 1 (.t 1)), .none⟩, ⟨.none, (.store 1 (.t 22) (.t 21)), .none⟩]) (.seq (.ops [⟨(.some 23), (.fadr 8 82 1 (.t 1)), .none⟩, ⟨(.some 24), (.load .false 1 (.t 23)), .none⟩, ⟨(.some 25), (.app 5 32 (.c (.fro .true 0 [])) (.t 24)), .none⟩, ⟨(.some 26), (.fadr 8 82 1 (.t 1)), .none⟩, ⟨.none, (.store 1 (.t 26) (.t 25)), .none⟩]) (.seq (.ops [⟨(.some 27), (.fadr 9 83 1 (.t 1)), .none⟩, ⟨(.some 28), (.load .false 1 (.t 27)), .none⟩, ⟨(.some 29), (.app 8 64 (.c (.fro .true 0 [])) (.t 28)), .none⟩, ⟨(.some 30), (.fadr 9 83 1 (.t 1)), .none⟩, ⟨.none, (.store 1 (.t 30) (.t 29)), .none⟩]) (.seq (.ops [⟨(.some 31), (.fadr 10 84 1 (.t 1)), .none⟩, ⟨(.some 32), (.load .false 1 (.t 31)), .none⟩, ⟨(.some 33), (.app 1 1 (.c (.fro .true 0 [])) (.t 32)), .none⟩, ⟨(.some 34), (.fadr 10 84 1 (.t 1)), .none⟩, ⟨.none, (.store 1 (.t 34) (.t 33)), .none⟩]) (.seq (.ops [⟨(.some 35), (.fadr 11 85 1 (.t 1)), .none⟩, ⟨(.some 36), (.load .false 1 (.t 35)), .none⟩, ⟨(.some 37), (.app 3 24 (.c (.fro .true 0 [])) (.t 36)), .none⟩, ⟨(.some 38), (.fadr 11 85 1 (.t 1)), .none⟩, ⟨.none, (.store 1 (.t 38) (.t 37)), .none⟩]) (.seq (.ops [⟨(.some 39), (.load .true 92 (.t 1)), .none⟩, ⟨.none, (.store 92 (.t 2) (.t 39)), .none⟩]) .ret)))))))))))
theorem t_ref15_Copy : trF Try.prog qq 22 = some (40, [(.cell 2 .true 92)], c_ref15_Copy) := by kernel_rfl
def c_ref15_lies : AC := (.seq (.ops [⟨(.some 6), (.mv (.c (.sc (.bool .false)))), .none⟩]) (.seq (.ops [⟨(.some 7), (.mv (.t 1)), .none⟩, ⟨(.some 8), (.bin .eql (.t 7) (.c (.sc (.int .i64 1)))), .none⟩, ⟨(.some 9), (.mv (.t 8)), .none⟩, ⟨(.some 10), (.mv (.t 1)), (.some (9, .false))⟩, ⟨(.some 11), (.bin .eql (.t 10) (.c (.sc (.int .i64 2)))), (.some (9, .false))⟩, ⟨(.some 12), (.pick (.t 9) (.c (.sc (.bool .true))) (.t 11)), .none⟩, ⟨(.some 13), (.mv (.t 12)), .none⟩, ⟨(.some 14), (.mv (.t 1)), (.some (13, .false))⟩, ⟨(.some 15), (.bin .eql (.t 14) (.c (.sc (.int .i64 4)))), (.some (13, .false))⟩, ⟨(.some 16), (.pick (.t 13) (.c (.sc (.bool .true))) (.t 15)), .none⟩, ⟨(.some 17), (.mv (.t 16)), .none⟩, ⟨(.some 18), (.mv (.t 0)), (.some (17, .true))⟩, ⟨(.some 19), (.bin .geq (.t 18) (.c (.sc (.int .i64 0)))), (.some (17, .true))⟩, ⟨(.some 20), (.pick (.t 17) (.t 19) (.c (.sc (.bool .false)))), .none⟩, ⟨(.some 21), (.mv (.t 20)), .none⟩, ⟨(.some 22), (.mv (.t 0)), (.some (21, .true))⟩, ⟨(.some 23), (.mv (.t 2)), (.some (21, .true))⟩, ⟨(.some 24), (.bin .leq (.t 22) (.t 23)), (.some (21, .true))⟩, ⟨(.some 25), (.pick (.t 21) (.t 24) (.c (.sc (.bool .false)))), .none⟩, ⟨(.some 26), (.mv (.t 25)), .none⟩, ⟨(.some 27), (.mv (.t 2)), (.some (26, .true))⟩, ⟨(.some 28), (.mv (.t 0)), (.some (26, .true))⟩, ⟨(.some 29), (.bin .sub (.t 27) (.t 28)), (.some (26, .true))⟩, ⟨(.some 30), (.mv (.t 1)), (.some (26, .true))⟩, ⟨(.some 31), (.bin .geq (.t 29) (.t 30)), (.some (26, .true))⟩, ⟨(.some 32), (.pick (.t 26) (.t 31) (.c (.sc (.bool .false)))), .none⟩, ⟨(.some 33), (.mv (.t 32)), .none⟩, ⟨(.some 34), (.mv (.t 0)), (.some (33, .true))⟩, ⟨(.some 35), (.mv (.t 1)), (.some (33, .true))⟩, ⟨(.some 36), (.bin .rem (.t 34) (.t 35)), (.some (33, .true))⟩, ⟨(.some 37), (.bin .eql (.t 36) (.c (.sc (.int .i64 0)))), (.some (33, .true))⟩, ⟨(.some 38), (.pick (.t 33) (.t 37) (.c (.sc (.bool .false)))), .none⟩, ⟨(.some 6), (.mv (.t 38)), .none⟩]) .ret))
theorem t_ref15_lies : trF Try.prog qq 38 = some (39, [(.tmp 6)], c_ref15_lies) := by kernel_rfl
def c_ref15_rightRequest : AC := (.seq (.ops [⟨(.some 2), (.box (.t 0)), .none⟩, ⟨(.some 4), (.mv (.c (.sc (.bool .false)))), .none⟩]) (.seq (.ops [⟨(.some 6), (.fadr 1 1 1 (.t 2)), .none⟩, ⟨(.some 7), (.load .false 1 (.t 6)), .none⟩, ⟨(.some 8), (.call 65 [(.t 7)]), .none⟩, ⟨(.some 5), (.mv (.t 8)), .none⟩]) (.seq (.ops [⟨(.some 9), (.fadr 3 3 1 (.t 2)), .none⟩, ⟨(.some 10), (.load .false 1 (.t 9)), .none⟩, ⟨(.some 11), (.fadr 1 1 1 (.t 2)), .none⟩, ⟨(.some 12), (.load .false 1 (.t 11)), .none⟩, ⟨(.some 13), (.call 66 [(.t 12)]), .none⟩, ⟨(.some 14), (.bin .eql (.t 10) (.t 13)), .none⟩, ⟨(.some 15), (.mv (.t 14)), .none⟩, ⟨(.some 16), (.fadr 2 2 1 (.t 2)), (.some (15, .true))⟩, ⟨(.some 17), (.load .false 1 (.t 16)), (.some (15, .true))⟩, ⟨(.some 18), (.fadr 3 3 1 (.t 2)), (.some (15, .true))⟩, ⟨(.some 19), (.load .false 1 (.t 18)), (.some (15, .true))⟩, ⟨(.some 20), (.mv (.t 1)), (.some (15, .true))⟩, ⟨(.some 21), (.call 38 [(.t 17), (.t 19), (.t 20)]), (.some (15, .true))⟩, ⟨(.some 22), (.pick (.t 15) (.t 21) (.c (.sc (.bool .false)))), .none⟩, ⟨(.some 23), (.mv (.t 22)), .none⟩, ⟨(.some 24), (.fadr 0 0 1 (.t 2)), (.some (23, .true))⟩, ⟨(.some 25), (.load .false 1 (.t 24)), (.some (23, .true))⟩, ⟨(.some 26), (.mv (.t 25)), (.some (23, .true))⟩, ⟨(.some 27), (.mv (.t 5)), (.some (26, .true))⟩, ⟨(.some 28), (.bin .eql (.t 27) (.c (.sc (.int .i64 5)))), (.some (26, .true))⟩, ⟨(.some 29), (.pick (.t 26) (.t 28) (.c (.sc (.bool .false)))), (.some (23, .true))⟩, ⟨(.some 30), (.mv (.t 29)), (.some (23, .true))⟩, ⟨(.some 31), (.fadr 0 0 1 (.t 2)), (.some (30, .false))⟩, ⟨(.some 32), (.load .false 1 (.t 31)), (.some (30, .false))⟩, ⟨(.some 33), (.un .not (.t 32)), (.some (30, .false))⟩, ⟨(.some 34), (.mv (.t 33)), (.some (30, .false))⟩, ⟨(.some 35), (.mv (.t 5)), (.some (34, .true))⟩, ⟨(.some 36), (.bin .eql (.t 35) (.c (.sc (.int .i64 4)))), (.some (34, .true))⟩, ⟨(.some 37), (.pick (.t 34) (.t 36) (.c (.sc (.bool .false)))), (.some (30, .false))⟩, ⟨(.some 38), (.pick (.t 30) (.c (.sc (.bool .true))) (.t 37)), (.some (23, .true))⟩, ⟨(.some 39), (.pick (.t 23) (.t 38) (.c (.sc (.bool .false)))), .none⟩, ⟨(.some 40), (.mv (.t 39)), .none⟩, ⟨(.some 41), (.fadr 5 5 1 (.t 2)), (.some (40, .true))⟩, ⟨(.some 42), (.load .false 1 (.t 41)), (.some (40, .true))⟩, ⟨(.some 43), (.bin .geq (.t 42) (.c (.sc (.int .i64 0)))), (.some (40, .true))⟩, ⟨(.some 44), (.pick (.t 40) (.t 43) (.c (.sc (.bool .false)))), .none⟩, ⟨(.some 45), (.mv (.t 44)), .none⟩, ⟨(.some 46), (.fadr 5 5 1 (.t 2)), (.some (45, .true))⟩, ⟨(.some 47), (.load .false 1 (.t 46)), (.some (45, .true))⟩, ⟨(.some 48), (.bin .leq (.t 47) (.c (.sc (.int .i64 1000)))), (.some (45, .true))⟩, ⟨(.some 49), (.pick (.t 45) (.t 48) (.c (.sc (.bool .false)))), .none⟩, ⟨(.some 50), (.mv (.t 49)), .none⟩, ⟨(.some 51), (.fadr 6 6 1 (.t 2)), (.some (50, .true))⟩, ⟨(.some 52), (.load .false 1 (.t 51)), (.some (50, .true))⟩, ⟨(.some 53), (.bin .geq (.t 52) (.c (.sc (.int .i64 (-1))))), (.some (50, .true))⟩, ⟨(.some 54), (.pick (.t 50) (.t 53) (.c (.sc (.bool .false)))), .none⟩, ⟨(.some 55), (.mv (.t 54)), .none⟩, ⟨(.some 56), (.fadr 6 6 1 (.t 2)), (.some (55, .true))⟩, ⟨(.some 57), (.load .false 1 (.t 56)), (.some (55, .true))⟩, ⟨(.some 58), (.bin .leq (.t 57) (.c (.sc (.int .i64 15)))), (.some (55, .true))⟩, ⟨(.some 59), (.pick (.t 55) (.t 58) (.c (.sc (.bool .false)))), .none⟩, ⟨(.some 4), (.mv (.t 59)), .none⟩]) .ret)))
theorem t_ref15_rightRequest : trF Try.prog qq 39 = some (60, [(.tmp 4)], c_ref15_rightRequest) := by kernel_rfl
def c_ref15_slots : AC := copyC 3 16
theorem t_ref15_slots : trF Try.prog qq 49 = some (5, [(.tmp 2)], c_ref15_slots) := by kernel_rfl
/-- The functions of ref15. -/
def cl_ref15 : CodeL := [(15, 10, [(.cell 2 .true 92)], c_ref15_First), (22, 40, [(.cell 2 .true 92)], c_ref15_Copy), (38, 39, [(.tmp 6)], c_ref15_lies), (39, 60, [(.tmp 4)], c_ref15_rightRequest), (49, 5, [(.tmp 2)], c_ref15_slots)]
theorem clok_ref15 : AllL (fun p => trF Try.prog qq p.1 = some p.2) cl_ref15 := ⟨t_ref15_First, t_ref15_Copy, t_ref15_lies, t_ref15_rightRequest, t_ref15_slots, trivial⟩
/-- What is told of those that only make memory. -/
def gl_ref15 : SgL := [(49, makeS 3 16)]
theorem glok_ref15 : AllL (SgOk Try.prog qq) gl_ref15 := ⟨makeS_ok fun x es0 ts h1 h2 h3 => makes_copy mix t_ref15_slots (by decide) x es0 ts h1 h2 h3, trivial⟩
end Go.Proofs.Ythmlnmkbeohojaa

/- Numbers within bounds; which configs may be. -/
namespace Go.Proofs.Ythmlnmkbeohojaa
open Go.Ra
set_option linter.unusedVariables false
set_option linter.unusedSimpArgs false
def TA0 : Tab := mkT2 qq (cl_state ++ cl_slices) [] [] [] []
def outB (lo hi n : Int) : Bool := decide (n < lo) || decide (n > hi)
def idwS : List XV → Option ((XV → Prop) → Prop) := skOf (fun q : List Int × Int × Int => [e_row 1 e_i64 q.1, .clo 51 [.fptr (.int .i64 q.2.1), .fptr (.int .i64 q.2.2)]]) (fun q => q.1.length ≤ 1000000) (fun q => idxF (outB q.2.1 q.2.2) q.1) (fun y => .int .i64 y)
def TA1 : Tab := mkT2 qq (cl_state ++ cl_slices) [] [] [(71, idwS)] []
/-- Are numbers within bounds? -/
def withinF (lo hi : Int) (l : List Int) : Bool := l.all fun n => decide (lo ≤ n ∧ n ≤ hi)
def wnS : List XV → Option ((XV → Prop) → Prop) := skOf (fun q : Int × Int × List Int => [.int .i64 q.1, .int .i64 q.2.1, e_row 1 e_i64 q.2.2]) (fun q => q.2.2.length ≤ 1000000) (fun q => withinF q.1 q.2.1 q.2.2) (fun y => .bool y)
def TA2 : Tab := mkT2 qq (cl_state ++ cl_slices) [] [] [(23, wnS)] []
/-- May a config be? -/
def rightCfg (c : Cfg) : Bool := withinF 1 64 [c.ldq, c.sdq, c.aeq, c.abq, c.ebq, c.saq, c.flight, c.slip] && (withinF 1 16 [c.banks] && (withinF 1 1000 [c.lat] && withinF 1 50 [c.mul, c.div]))
def cfgS : List XV → Option ((XV → Prop) → Prop) := skOf (fun c : Cfg => [e_Cfg c]) (fun c => True) (fun c => rightCfg c) (fun y => .bool y)
theorem TA0ok : TabOk Try.prog TA0 := mkT2_ok (clok_state.app clok_slices) trivial trivial trivial trivial
theorem r_wi1 (l : List Int) (lo hi : Int) (r : XV) : (goQ Try.prog TA0 [(.tmp 4)] r (.run c_slices_IndexFunc_int_int) [] ⟨envX 0 [e_row 1 e_i64 l, .clo 51 [.fptr (.int .i64 lo), .fptr (.int .i64 hi)]], [], 0⟩) = (LoopAt (Ok Try.prog (Tab.q TA0)) c_slices_IndexFunc_int_int_l1 (XSt.mk [(8, .int .i64 0), (7, .int .i64 (↑(List.length l) : Int)), (4, .int .i64 0), (0, e_row
 1 e_i64 l), (1, .clo 51 [.fptr (.int .i64 lo), .fptr (.int .i64 hi)])] [] 0) [Frm.blk 0, Frm.seq c_slices_IndexFunc_int_int_p1] (finQR [AR.tmp 4] r)) := by kernel_rfl 

theorem r_wi2 (l : List Int) (lo hi : Int) (i : Nat) (r : XV) (A : XSt → Prop) : (goQ Try.prog TA0 [(.tmp 4)] r (.run c_slices_IndexFunc_int_int_l1) [.lp c_slices_IndexFunc_int_int_l1 A, .blk 0, .seq c_slices_IndexFunc_int_int_p1] ⟨[(0, e_row 1 e_i64 l), (1, .clo 51 [.fptr (.int .i64 lo), .fptr (.int .i64 hi)]), (8, .int .i64 i), (7, .int .i64 l.length)], [], 0⟩) = (bif decide ((↑i : Int) < (↑(List.length l) : Int)) then bif decide ((↑i : Int) < (↑(List.length l) : Int)) then bif bif decide (ix l i < lo) then true else !decide
 (ix l i < lo) then bif bif decide (ix l i < lo) then true else decide (ix l i > hi) then ResLe (.int .i64 (↑i : Int)) r else A (XSt.mk [(8, .int .i64 (IntKind.wrap
 .i64 ((↑i : Int) + (1 : Int)))), (0, e_row 1 e_i64 l), (1, .clo 51 [.fptr (.int .i64 lo), .fptr (.int .i64 hi)]), (7, .int .i64 (↑(List.length l) : Int))] [] 0)
 else False else False
else ResLe (.int .i64 (-1 : Int)) r) := by kernel_rfl
theorem sk_idw : SkOk Try.prog (71, idwS) := skOf_ok fun ⟨l, lo, hi⟩ h => by
  have hl : l.length ≤ 1000000 := h
  refine pureQ mix TA0ok t_slices_IndexFunc_int_int (Nat.le_of_ble_eq_true rfl) ?_
  refine Eq.mpr (r_wi1 l lo hi _) ?_
  refine loopQ mix TA0ok (fun i : Nat => ⟨[(0, e_row 1 e_i64 l), (1, .clo 51 [.fptr (.int .i64 lo), .fptr (.int .i64 hi)]), (8, .int .i64 i), (7, .int .i64 l.length)], [], 0⟩) (fun i => i ≤ l.length ∧ ∀ j, j < i → outB lo hi (ix l j) = false) (fun i => l.length - i) 0 ⟨Nat.zero_le _, fun j hj => by omega⟩ (.of (weakX ⟨rfl, rfl, rfl, rfl, trivial⟩ trivial (Nat.le_refl _))) ?_
  rintro i ⟨hi1, hp⟩
  refine Eq.mpr (r_wi2 l lo hi i _ _) ?_
  by_cases hlt : i < l.length
  · have h1 : (i : Int) < (l.length : Int) := by omega
    have w1 : IntKind.i64.wrap ((i : Int) + 1) = ((i + 1 : Nat) : Int) := wrap_i64 (by omega) (by omega)
    simp only [g1, g2, g3, g4, g5, g6, g7, allN_true, cond_true, Nat.le_refl, decide_true, pl_eq, h1, w1]
    rw [bor]
    refine cnd2 (fun h => ?_) (fun h => ?_)
    · have e : idxF (outB lo hi) l = i := idxF_some hlt h hp
      show ResLe _ (.int .i64 (idxF (outB lo hi) l))
      rw [e]; exact .rfl
    · refine ⟨i + 1, ⟨hlt, fun j hj => ?_⟩, .of (weakX ⟨rfl, rfl, rfl, rfl, trivial⟩ trivial (Nat.le_refl _)), by omega⟩
      by_cases hji : j = i
      · subst hji; exact h
      · exact hp j (by omega)
  · have h1 : ¬ (i : Int) < (l.length : Int) := by omega
    simp only [h1, decide_false, cond_false]
    have e : idxF (outB lo hi) l = -1 := idxF_none fun j hj => hp j (by omega)
    show ResLe _ (.int .i64 (idxF (outB lo hi) l))
    rw [e]; exact .rfl
theorem TA1ok : TabOk Try.prog TA1 := mkT2_ok (clok_state.app clok_slices) trivial trivial ⟨sk_idw, trivial⟩ trivial
theorem r_wn (l : List Int) (lo hi : Int) (r : XV) : (quietGo TA1 80 (callI TA1 80 20) 23 [.int .i64 lo, .int .i64 hi, e_row 1 e_i64 l] (fun v => ResLe v r)) = (∃ (s : List Int × Int × Int), ArgsLe [e_row 1 e_i64 l, .clo 51 [.fptr (.int .i64 lo), .fptr (.int .i64 hi)]] [e_row 1 e_i64 (Prod.fst s), .clo 51 [.fptr (.int
 .i64 (Prod.fst (Prod.snd s))), .fptr (.int .i64 (Prod.snd (Prod.snd s)))]] ∧ PreIs (List.length (Prod.fst s) ≤ 1000000) ∧ ∀ (y : Int), y = idxF (outB (Prod.fst (Prod.snd
 s)) (Prod.snd (Prod.snd s))) (Prod.fst s) → ResLe (.bool !decide (y ≥ 0)) r) := by kernel_rfl
theorem within_any {lo hi : Int} {l : List Int} : withinF lo hi l = !l.any (outB lo hi) := by
  unfold withinF
  rw [List.not_any_eq_all_not]
  congr 1
  funext n
  unfold outB
  rw [Bool.eq_iff_iff]
  simp
theorem sk_wn : SkOk Try.prog (23, wnS) := skOf_ok fun ⟨lo, hi, l⟩ h => by
  have hl : l.length ≤ 1000000 := h
  show Pure _ _ (cons [.int .i64 lo, .int .i64 hi, e_row 1 e_i64 l]) (con (.bool (withinF lo hi l)))
  refine pureR (u := 80) (k := 20) mix TA1ok ?_
  refine Eq.mpr (r_wn l lo hi _) ?_
  refine ⟨(l, lo, hi), .rfl, ⟨hl⟩, ?_⟩
  intro y hy
  replace hy : y = idxF (outB lo hi) l := hy
  subst hy
  rw [within_any, ← idxF_ge]
  exact .rfl
theorem TA2ok : TabOk Try.prog TA2 := mkT2_ok (clok_state.app clok_slices) trivial trivial ⟨sk_wn, trivial⟩ trivial
theorem r_cfg (c : Cfg) (r : XV) : (quietGo TA2 80 (callI TA2 80 20) 11 [e_Cfg c] (fun v => ResLe v r)) = (∃ (s : Int × Int × List Int), ArgsLe [.int .i64 1, .int .i64 64, .row true 1 8 fun a => .int .i64 (bif Nat.beq a 0 then Cfg.ldq c else bif Nat.beq (a - 1) 0
 then Cfg.sdq c else bif Nat.beq (a - 1 - 1) 0 then Cfg.aeq c else bif Nat.beq (a - 1 - 1 - 1) 0 then Cfg.abq c else bif Nat.beq (a - 1 - 1 - 1 - 1) 0 then Cfg.ebq
 c else bif Nat.beq (a - 1 - 1 - 1 - 1 - 1) 0 then Cfg.saq c else bif Nat.beq (a - 1 - 1 - 1 - 1 - 1 - 1) 0 then Cfg.flight c else Cfg.slip c)] [.int .i64 (Prod.fst
 s), .int .i64 (Prod.fst (Prod.snd s)), e_row 1 e_i64 (Prod.snd (Prod.snd s))] ∧ PreIs (List.length (Prod.snd (Prod.snd s)) ≤ 1000000) ∧ ∀ (y : Bool), y = withinF
 (Prod.fst s) (Prod.fst (Prod.snd s)) (Prod.snd (Prod.snd s)) → bif y then ∃ (s : Int × Int × List Int), ArgsLe [.int .i64 1, .int .i64 16, .row true 1 1 fun a =>
 .int .i64 (Cfg.banks c)] [.int .i64 (Prod.fst s), .int .i64 (Prod.fst (Prod.snd s)), e_row 1 e_i64 (Prod.snd (Prod.snd s))] ∧ PreIs (List.length (Prod.snd (Prod.snd
 s)) ≤ 1000000) ∧ ∀ (y_1 : Bool), y_1 = withinF (Prod.fst s) (Prod.fst (Prod.snd s)) (Prod.snd (Prod.snd s)) → bif bif y then y_1 else false then ∃ (s : Int × Int
 × List Int), ArgsLe [.int .i64 1, .int .i64 1000, .row true 1 1 fun a => .int .i64 (Cfg.lat c)] [.int .i64 (Prod.fst s), .int .i64 (Prod.fst (Prod.snd s)), e_row
 1 e_i64 (Prod.snd (Prod.snd s))] ∧ PreIs (List.length (Prod.snd (Prod.snd s)) ≤ 1000000) ∧ ∀ (y_2 : Bool), y_2 = withinF (Prod.fst s) (Prod.fst (Prod.snd s)) (Prod.snd
 (Prod.snd s)) → bif bif bif y then y_1 else false then y_2 else false then ∃ (s : Int × Int × List Int), ArgsLe [.int .i64 1, .int .i64 50, .row true 1 2 fun a =>
 .int .i64 (bif Nat.beq a 0 then Cfg.mul c else Cfg.div c)] [.int .i64 (Prod.fst s), .int .i64 (Prod.fst (Prod.snd s)), e_row 1 e_i64 (Prod.snd (Prod.snd s))] ∧ PreIs
 (List.length (Prod.snd (Prod.snd s)) ≤ 1000000) ∧ ∀ (y_3 : Bool), y_3 = withinF (Prod.fst s) (Prod.fst (Prod.snd s)) (Prod.snd (Prod.snd s)) → ResLe (.bool (bif
 bif bif y then y_1 else false then y_2 else false then y_3 else false)) r else bif !bif bif y then y_1 else false then y_2 else false then ResLe (.bool false) r
 else False else bif !bif y then y_1 else false then ResLe (.bool false) r else False else bif !y then ResLe (.bool false) r else False) := by kernel_rfl
theorem lq_lit {α : Type} [Inhabited α] {x : Bool} {es n : Nat} {f : Nat → XV} {en : α → XV} {l : List α} (hn : n = l.length) (h : allN (fun i => true) n = true → ∀ i, i < n → con (f i) = con (en (ix l i))) : leQ (con (.row x es n f)) (con (e_row es en l)) := lq_erow hn (.inl rfl) fun i hi => lq_con (h (allN_iff.2 fun _ _ => rfl) i hi)
theorem sk_cfg : SkOk Try.prog (11, cfgS) := skOf_ok fun c _ => by
  show Pure _ _ (cons [e_Cfg c]) (con (.bool (rightCfg c)))
  refine pureR (u := 80) (k := 20) mix TA2ok ?_
  refine Eq.mpr (r_cfg c _) ?_
  unfold rightCfg
  refine ⟨(1, 64, [c.ldq, c.sdq, c.aeq, c.abq, c.ebq, c.saq, c.flight, c.slip]), ⟨lqs_cons (.refl _) (lqs_cons (.refl _) (lqs_cons (lq_lit rfl fun _ i hi => ?_) lqs_nil))⟩, ⟨by show 8 ≤ 1000000; omega⟩, ?_⟩
  · match i, hi with
    | 0, _ => rfl
    | 1, _ => rfl
    | 2, _ => rfl
    | 3, _ => rfl
    | 4, _ => rfl
    | 5, _ => rfl
    | 6, _ => rfl
    | 7, _ => rfl
    | n + 8, h => omega
  intro y hy
  replace hy : y = withinF 1 64 [c.ldq, c.sdq, c.aeq, c.abq, c.ebq, c.saq, c.flight, c.slip] := hy
  rw [← hy]
  cases y with
  | false => exact .rfl
  | true =>
  refine ⟨(1, 16, [c.banks]), ⟨lqs_cons (.refl _) (lqs_cons (.refl _) (lqs_cons (lq_lit1 (.refl _)) lqs_nil))⟩, ⟨by show 1 ≤ 1000000; omega⟩, ?_⟩
  intro y hy
  replace hy : y = withinF 1 16 [c.banks] := hy
  rw [← hy]
  cases y with
  | false => exact .rfl
  | true =>
  refine ⟨(1, 1000, [c.lat]), ⟨lqs_cons (.refl _) (lqs_cons (.refl _) (lqs_cons (lq_lit1 (.refl _)) lqs_nil))⟩, ⟨by show 1 ≤ 1000000; omega⟩, ?_⟩
  intro y hy
  replace hy : y = withinF 1 1000 [c.lat] := hy
  rw [← hy]
  cases y with
  | false => exact .rfl
  | true =>
  refine ⟨(1, 50, [c.mul, c.div]), ⟨lqs_cons (.refl _) (lqs_cons (.refl _) (lqs_cons (lq_lit2 (.refl _) (.refl _)) lqs_nil))⟩, ⟨by show 2 ≤ 1000000; omega⟩, ?_⟩
  intro y hy
  replace hy : y = withinF 1 50 [c.mul, c.div] := hy
  subst hy
  exact .rfl
end Go.Proofs.Ythmlnmkbeohojaa

/- Abstract code of the functions of seq: printed by a program from what the given translation yields. -/
namespace Go.Proofs.Ythmlnmkbeohojaa
open Go.Ra
def c_seq_Memory : AC := (.seq (.ops [⟨(.some 1), (.box (.t 0)), .none⟩, ⟨(.some 2), (.mv (.c (.fro .true 0 []))), .none⟩]) (.seq (.ops [⟨(.some 4), (.fadr 1 1 1 (.t 1)), .none⟩, ⟨(.some 5), (.load .false 1 (.t 4)), .none⟩, ⟨(.some 6), (.mks 1 1 (.sc (.int .u8 0)) (.t 5)), .none⟩, ⟨(.some 3), (.mv (.t 6)), .none⟩]) (.seq (.ops [⟨(.some 7), (.mv (.t 3)), .none⟩, ⟨(.some 8), (.fadr 2 2 1 (.t 1)), .none⟩, ⟨(.some 9), (.load .false 1 (.t 8)), .none⟩, ⟨(.some 10), (.copy 1 (.t 7) (.t 9)), .none⟩]) (.seq (.ops [⟨(.some 11), (.mv (.t 3)), .none⟩, ⟨(.some 2), (.mv (.t 11)), .none⟩]) .ret))))
theorem t_seq_Memory : trF Try.prog qq 28 = some (12, [(.tmp 2)], c_seq_Memory) := by kernel_rfl
/-- The functions of seq. -/
def cl_seq : CodeL := [(28, 12, [(.tmp 2)], c_seq_Memory)]
theorem clok_seq : AllL (fun p => trF Try.prog qq p.1 = some p.2) cl_seq := ⟨t_seq_Memory, trivial⟩
end Go.Proofs.Ythmlnmkbeohojaa

/- Abstract code of the functions of image: printed by a program from what the given translation yields. -/
namespace Go.Proofs.Ythmlnmkbeohojaa
open Go.Ra
def c_image_Right : AC := (.seq (.ops [⟨(.some 1), (.box (.t 0)), .none⟩, ⟨(.some 2), (.mv (.c (.sc (.bool .false)))), .none⟩]) (.seq (.ops [⟨(.some 3), (.mv (.c (.clo 52 []))), .none⟩]) (.seq (.ops [⟨(.some 4), (.fadr 0 0 1 (.t 1)), .none⟩, ⟨(.some 5), (.load .false 1 (.t 4)), .none⟩, ⟨(.some 6), (.len .none (.t 5)), .none⟩, ⟨(.some 7), (.fadr 1 1 1 (.t 1)), .none⟩, ⟨(.some 8), (.load .false 1 (.t 7)), .none⟩, ⟨(.some 9), (.fadr 2 2 1 (.t 1)), .none⟩, ⟨(.some 10), (.load .false 1 (.t 9)), .none⟩, ⟨(.some 11), (.len .none (.t 10)), .none⟩, ⟨(.some 12), (.call 54 [(.t 6), (.t 8), (.t 11)]), .none⟩, ⟨(.some 13), (.mv (.t 12)), .none⟩, ⟨(.some 14), (.fadr 0 0 1 (.t 1)), (.some (13, .true))⟩, ⟨(.some 15), (.load .false 1 (.t 14)), (.some (13, .true))⟩, ⟨(.some 16), (.mv (.t 3)), (.some (13, .true))⟩, ⟨(.some 17), (.call 55 [(.t 15), (.t 16)]), (.some (13, .true))⟩, ⟨(.some 18), (.un .not (.t 17)), (.some (13, .true))⟩, ⟨(.some 19), (.pick (.t 13) (.t 18) (.c (.sc (.bool .false)))), .none⟩, ⟨(.some 20), (.mv (.t 19)), .none⟩, ⟨(.some 21), (.load .true 3 (.t 1)), (.some (20, .true))⟩, ⟨(.some 22), (.call 56 [(.t 21)]), (.some (20, .true))⟩, ⟨(.some 23), (.bin .eql (.t 22) (.c (.sc (.int .i64 0)))), (.some (20, .true))⟩, ⟨(.some 24), (.pick (.t 20) (.t 23) (.c (.sc (.bool .false)))), .none⟩, ⟨(.some 2), (.mv (.t 24)), .none⟩]) .ret)))
theorem t_image_Right : trF Try.prog qq 27 = some (25, [(.tmp 2)], c_image_Right) := by kernel_rfl
def c_image_Right_1 : AC := (.seq (.ops [⟨(.some 1), (.box (.t 0)), .none⟩, ⟨(.some 2), (.mv (.c (.sc (.bool .false)))), .none⟩]) (.seq (.ops [⟨(.some 3), (.load .true 5 (.t 1)), .none⟩, ⟨(.some 4), (.call 53 [(.t 3)]), .none⟩, ⟨(.some 5), (.un .not (.t 4)), .none⟩, ⟨(.some 2), (.mv (.t 5)), .none⟩]) .ret))
theorem t_image_Right_1 : trF Try.prog qq 52 = some (6, [(.tmp 2)], c_image_Right_1) := by kernel_rfl
def c_image_sizes : AC := (.seq (.ops [⟨(.some 6), (.mv (.c (.sc (.bool .false)))), .none⟩]) (.seq (.ops [⟨(.some 7), (.mv (.t 0)), .none⟩, ⟨(.some 8), (.bin .geq (.t 7) (.c (.sc (.int .i64 1)))), .none⟩, ⟨(.some 9), (.mv (.t 8)), .none⟩, ⟨(.some 10), (.mv (.t 0)), (.some (9, .true))⟩, ⟨(.some 11), (.bin .leq (.t 10) (.c (.sc (.int .i64 2000)))), (.some (9, .true))⟩, ⟨(.some 12), (.pick (.t 9) (.t 11) (.c (.sc (.bool .false)))), .none⟩, ⟨(.some 13), (.mv (.t 12)), .none⟩, ⟨(.some 14), (.mv (.t 1)), (.some (13, .true))⟩, ⟨(.some 15), (.bin .geq (.t 14) (.c (.sc (.int .i64 0)))), (.some (13, .true))⟩, ⟨(.some 16), (.pick (.t 13) (.t 15) (.c (.sc (.bool .false)))), .none⟩, ⟨(.some 17), (.mv (.t 16)), .none⟩, ⟨(.some 18), (.mv (.t 1)), (.some (17, .true))⟩, ⟨(.some 19), (.bin .leq (.t 18) (.c (.sc (.int .i64 65536)))), (.some (17, .true))⟩, ⟨(.some 20), (.pick (.t 17) (.t 19) (.c (.sc (.bool .false)))), .none⟩, ⟨(.some 21), (.mv (.t 20)), .none⟩, ⟨(.some 22), (.mv (.t 2)), (.some (21, .true))⟩, ⟨(.some 23), (.mv (.t 1)), (.some (21, .true))⟩, ⟨(.some 24), (.bin .leq (.t 22) (.t 23)), (.some (21, .true))⟩, ⟨(.some 25), (.pick (.t 21) (.t 24) (.c (.sc (.bool .false)))), .none⟩, ⟨(.some 6), (.mv (.t 25)), .none⟩]) .ret))
theorem t_image_sizes : trF Try.prog qq 54 = some (26, [(.tmp 6)], c_image_sizes) := by kernel_rfl
def c_image_Targets_l1 : AC := (.seq (.ops [⟨(.some 11), (.bin .lss (.t 10) (.t 9)), .none⟩]) (.seq (.cond (.t 11) .skip (.exit 0)) (.seq (.block 1 (.seq (.ops [⟨(.some 12), (.mv (.t 10)), .none⟩, ⟨(.some 13), (.iadr .none 5 (.t 8) (.t 10)), .none⟩, ⟨(.some 14), (.load .true 5 (.t 13)), .none⟩, ⟨(.some 4), (.box (.c (.agg 5 [(.sc (.int .i64 0)), (.sc (.int .i64 0)), (.sc (.int .i64 0)), (.sc (.int .i64 0)), (.sc (.int .i64 0))]))), .none⟩, ⟨(.some 3), (.mv (.t 12)), .none⟩, ⟨.none, (.store 5 (.t 4) (.t 14)), .none⟩]) (.seq (.ops [⟨(.some 16), (.load .true 3 (.t 1)), .none⟩, ⟨(.some 17), (.mv (.t 3)), .none⟩, ⟨(.some 18), (.call 79 [(.t 16), (.t 17)]), .none⟩, ⟨(.some 15), (.mv (.t 18)), .none⟩, ⟨(.some 19), (.ext (.t 15) 0), .none⟩, ⟨(.some 20), (.ext (.t 15) 1), .none⟩, ⟨(.some 5), (.mv (.t 19)), .none⟩, ⟨(.some 6), (.mv (.t 20)), .none⟩]) (.seq (.ops [⟨(.some 21), (.mv (.t 6)), .none⟩, ⟨(.some 22), (.mv (.t 21)), .none⟩, ⟨(.some 23), (.fadr 4 4 1 (.t 4)), (.some (22, .true))⟩, ⟨(.some 24), (.load .false 1 (.t 23)), (.some (22, .true))⟩, ⟨(.some 25), (.mv (.t 3)), (.some (22, .true))⟩, ⟨(.some 26), (.un .neg (.t 25)), (.some (22, .true))⟩, ⟨(.some 27), (.bin .lss (.t 24) (.t 26)), (.some (22, .true))⟩, ⟨(.some 28), (.mv (.t 27)), (.some (22, .true))⟩, ⟨(.some 29), (.fadr 4 4 1 (.t 4)), (.some (28, .false))⟩, ⟨(.some 30), (.load .false 1 (.t 29)), (.some (28, .false))⟩, ⟨(.some 31), (.fadr 0 0 1 (.t 1)), (.some (28, .false))⟩, ⟨(.some 32), (.load .false 1 (.t 31)), (.some (28, .false))⟩, ⟨(.some 33), (.len .none (.t 32)), (.some (28, .false))⟩, ⟨(.some 34), (.mv (.t 3)), (.some (28, .false))⟩, ⟨(.some 35), (.bin .sub (.t 33) (.t 34)), (.some (28, .false))⟩, ⟨(.some 36), (.bin .geq (.t 30) (.t 35)), (.some (28, .false))⟩, ⟨(.some 37), (.pick (.t 28) (.c (.sc (.bool .true))) (.t 36)), (.some (22, .true))⟩, ⟨(.some 38), (.pick (.t 22) (.t 37) (.c (.sc (.bool .false)))), .none⟩]) (.cond (.t 38) (.seq (.ops [⟨(.some 2), (.mv (.c (.sc (.int .i64 4)))), .none⟩]) .ret) .skip))))) (.ops [⟨(.some 39), (.bin .add (.t 10) (.c (.sc (.int .i64 1)))), .none⟩, ⟨(.some 10), (.mv (.t 39)), .none⟩]))))
def c_image_Targets_p1 : AC := (.seq (.ops [⟨(.some 2), (.mv (.c (.sc (.int .i64 0)))), .none⟩]) .ret)
def c_image_Targets : AC := (.seq (.ops [⟨(.some 1), (.box (.t 0)), .none⟩, ⟨(.some 2), (.mv (.c (.sc (.int .i64 0)))), .none⟩]) (.seq (.seq (.ops [⟨(.some 7), (.fadr 0 0 1 (.t 1)), .none⟩, ⟨(.some 8), (.load .false 1 (.t 7)), .none⟩, ⟨(.some 9), (.len .none (.t 8)), .none⟩, ⟨(.some 10), (.mv (.c (.sc (.int .i64 0)))), .none⟩]) (.block 0 (.loop c_image_Targets_l1))) c_image_Targets_p1))
theorem t_image_Targets : trF Try.prog qq 56 = some (40, [(.tmp 2)], c_image_Targets) := by kernel_rfl
def c_image_Target : AC := (.seq (.ops [⟨(.some 2), (.box (.t 0)), .none⟩, ⟨(.some 4), (.mv (.c (.sc (.int .i64 0)))), .none⟩, ⟨(.some 5), (.mv (.c (.sc (.bool .false)))), .none⟩]) (.seq (.ops [⟨(.some 7), (.fadr 0 0 1 (.t 2)), .none⟩, ⟨(.some 8), (.load .false 1 (.t 7)), .none⟩, ⟨(.some 9), (.mv (.t 1)), .none⟩, ⟨(.some 10), (.iadr .none 5 (.t 8) (.t 9)), .none⟩, ⟨(.some 11), (.fadr 0 0 1 (.t 10)), .none⟩, ⟨(.some 12), (.load .false 1 (.t 11)), .none⟩, ⟨(.some 13), (.call 72 [(.t 12)]), .none⟩, ⟨(.some 6), (.mv (.t 13)), .none⟩]) (.seq (.ops [⟨(.some 14), (.mv (.t 1)), .none⟩, ⟨(.some 15), (.fadr 0 0 1 (.t 2)), .none⟩, ⟨(.some 16), (.load .false 1 (.t 15)), .none⟩, ⟨(.some 17), (.mv (.t 1)), .none⟩, ⟨(.some 18), (.iadr .none 5 (.t 16) (.t 17)), .none⟩, ⟨(.some 19), (.fadr 4 4 1 (.t 18)), .none⟩, ⟨(.some 20), (.load .false 1 (.t 19)), .none⟩, ⟨(.some 21), (.bin .add (.t 14) (.t 20)), .none⟩, ⟨(.some 22), (.mv (.t 6)), .none⟩, ⟨(.some 23), (.bin .eql (.t 22) (.c (.sc (.int .i64 6)))), .none⟩, ⟨(.some 24), (.mv (.t 23)), .none⟩, ⟨(.some 25), (.mv (.t 6)), (.some (24, .false))⟩, ⟨(.some 26), (.bin .eql (.t 25) (.c (.sc (.int .i64 7)))), (.some (24, .false))⟩, ⟨(.some 27), (.pick (.t 24) (.c (.sc (.bool .true))) (.t 26)), .none⟩, ⟨(.some 4), (.mv (.t 21)), .none⟩, ⟨(.some 5), (.mv (.t 27)), .none⟩]) .ret)))
theorem t_image_Target : trF Try.prog qq 79 = some (28, [(.tmp 4), (.tmp 5)], c_image_Target) := by kernel_rfl
/-- The functions of image. -/
def cl_image : CodeL := [(27, 25, [(.tmp 2)], c_image_Right), (52, 6, [(.tmp 2)], c_image_Right_1), (54, 26, [(.tmp 6)], c_image_sizes), (56, 40, [(.tmp 2)], c_image_Targets), (79, 28, [(.tmp 4), (.tmp 5)], c_image_Target)]
theorem clok_image : AllL (fun p => trF Try.prog qq p.1 = some p.2) cl_image := ⟨t_image_Right, t_image_Right_1, t_image_sizes, t_image_Targets, t_image_Target, trivial⟩
end Go.Proofs.Ythmlnmkbeohojaa

/- Abstract code of the functions of isa: printed by a program from what the given translation yields. -/
namespace Go.Proofs.Ythmlnmkbeohojaa
open Go.Ra
def c_isa_Right : AC := (.seq (.ops [⟨(.some 1), (.box (.t 0)), .none⟩, ⟨(.some 2), (.mv (.c (.sc (.bool .false)))), .none⟩]) (.seq (.ops [⟨(.some 6), (.fadr 0 0 1 (.t 1)), .none⟩, ⟨(.some 7), (.load .false 1 (.t 6)), .none⟩, ⟨(.some 8), (.call 72 [(.t 7)]), .none⟩, ⟨(.some 3), (.mv (.t 8)), .none⟩]) (.seq (.ops [⟨(.some 4), (.mv (.c (.sc (.int .i64 (-8192))))), .none⟩, ⟨(.some 5), (.mv (.c (.sc (.int .i64 8191)))), .none⟩]) (.seq (.seq (.ops [⟨(.some 9), (.fadr 0 0 1 (.t 1)), .none⟩, ⟨(.some 10), (.load .false 1 (.t 9)), .none⟩, ⟨(.some 11), (.bin .eql (.t 10) (.c (.sc (.int .i64 22)))), .none⟩, ⟨(.some 12), (.mv (.t 11)), .none⟩, ⟨(.some 13), (.fadr 0 0 1 (.t 1)), (.some (12, .false))⟩, ⟨(.some 14), (.load .false 1 (.t 13)), (.some (12, .false))⟩, ⟨(.some 15), (.bin .eql (.t 14) (.c (.sc (.int .i64 23)))), (.some (12, .false))⟩, ⟨(.some 16), (.pick (.t 12) (.c (.sc (.bool .true))) (.t 15)), .none⟩, ⟨(.some 17), (.mv (.t 16)), .none⟩, ⟨(.some 18), (.fadr 0 0 1 (.t 1)), (.some (17, .false))⟩, ⟨(.some 19), (.load .false 1 (.t 18)), (.some (17, .false))⟩, ⟨(.some 20), (.bin .eql (.t 19) (.c (.sc (.int .i64 24)))), (.some (17, .false))⟩, ⟨(.some 21), (.pick (.t 17) (.c (.sc (.bool .true))) (.t 20)), .none⟩]) (.cond (.t 21) (.ops [⟨(.some 4), (.mv (.c (.sc (.int .i64 0)))), .none⟩, ⟨(.some 5), (.mv (.c (.sc (.int .i64 31)))), .none⟩]) .skip)) (.seq (.ops [⟨(.some 22), (.mv (.t 3)), .none⟩, ⟨(.some 23), (.bin .gtr (.t 22) (.c (.sc (.int .i64 0)))), .none⟩, ⟨(.some 24), (.mv (.t 23)), .none⟩, ⟨(.some 25), (.fadr 1 1 1 (.t 1)), (.some (24, .true))⟩, ⟨(.some 26), (.load .false 1 (.t 25)), (.some (24, .true))⟩, ⟨(.some 27), (.mv (.t 3)), (.some (24, .true))⟩, ⟨(.some 28), (.call 74 [(.t 27)]), (.some (24, .true))⟩, ⟨(.some 29), (.call 73 [(.t 26), (.t 28), (.c (.sc (.int .i64 0))), (.c (.sc (.int .i64 15)))]), (.some (24, .true))⟩, ⟨(.some 30), (.pick (.t 24) (.t 29) (.c (.sc (.bool .false)))), .none⟩, ⟨(.some 31), (.mv (.t 30)), .none⟩, ⟨(.some 32), (.fadr 2 2 1 (.t 1)), (.some (31, .true))⟩, ⟨(.some 33), (.load .false 1 (.t 32)), (.some (31, .true))⟩, ⟨(.some 34), (.mv (.t 3)), (.some (31, .true))⟩, ⟨(.some 35), (.call 75 [(.t 34)]), (.some (31, .true))⟩, ⟨(.some 36), (.call 73 [(.t 33), (.t 35), (.c (.sc (.int .i64 0))), (.c (.sc (.int .i64 15)))]), (.some (31, .true))⟩, ⟨(.some 37), (.pick (.t 31) (.t 36) (.c (.sc (.bool .false)))), .none⟩, ⟨(.some 38), (.mv (.t 37)), .none⟩, ⟨(.some 39), (.fadr 3 3 1 (.t 1)), (.some (38, .true))⟩, ⟨(.some 40), (.load .false 1 (.t 39)), (.some (38, .true))⟩, ⟨(.some 41), (.mv (.t 3)), (.some (38, .true))⟩, ⟨(.some 42), (.call 76 [(.t 41)]), (.some (38, .true))⟩, ⟨(.some 43), (.call 73 [(.t 40), (.t 42), (.c (.sc (.int .i64 0))), (.c (.sc (.int .i64 15)))]), (.some (38, .true))⟩, ⟨(.some 44), (.pick (.t 38) (.t 43) (.c (.sc (.bool .false)))), .none⟩, ⟨(.some 45), (.mv (.t 44)), .none⟩, ⟨(.some 46), (.fadr 4 4 1 (.t 1)), (.some (45, .true))⟩, ⟨(.some 47), (.load .false 1 (.t 46)), (.some (45, .true))⟩, ⟨(.some 48), (.mv (.t 3)), (.some (45, .true))⟩, ⟨(.some 49), (.call 77 [(.t 48)]), (.some (45, .true))⟩, ⟨(.some 50), (.mv (.t 4)), (.some (45, .true))⟩, ⟨(.some 51), (.mv (.t 5)), (.some (45, .true))⟩, ⟨(.some 52), (.call 73 [(.t 47), (.t 49), (.t 50), (.t 51)]), (.some (45, .true))⟩, ⟨(.some 53), (.pick (.t 45) (.t 52) (.c (.sc (.bool .false)))), .none⟩, ⟨(.some 2), (.mv (.t 53)), .none⟩]) .ret)))))
theorem t_isa_Right : trF Try.prog qq 53 = some (54, [(.tmp 2)], c_isa_Right) := by kernel_rfl
def c_isa_Form : AC := (.seq (.ops [⟨(.some 2), (.mv (.c (.sc (.int .i64 0)))), .none⟩]) (.seq (.block 0 (.seq (.ops [⟨(.some 4), (.mv (.t 0)), .none⟩, ⟨(.some 5), (.bin .lss (.t 4) (.c (.sc (.int .i64 1)))), .none⟩, ⟨(.some 6), (.mv (.t 5)), .none⟩, ⟨(.some 7), (.mv (.t 0)), (.some (6, .false))⟩, ⟨(.some 8), (.bin .gtr (.t 7) (.c (.sc (.int .i64 41)))), (.some (6, .false))⟩, ⟨(.some 9), (.pick (.t 6) (.c (.sc (.bool .true))) (.t 8)), .none⟩, ⟨(.some 3), (.mv (.t 9)), .none⟩]) (.cond (.t 3) (.seq (.ops [⟨(.some 2), (.mv (.c (.sc (.int .i64 0)))), .none⟩]) .ret) (.seq (.ops [⟨(.some 11), (.mv (.t 0)), .none⟩, ⟨(.some 12), (.bin .leq (.t 11) (.c (.sc (.int .i64 16)))), .none⟩, ⟨(.some 10), (.mv (.t 12)), .none⟩]) (.cond (.t 10) (.seq (.ops [⟨(.some 2), (.mv (.c (.sc (.int .i64 1)))), .none⟩]) .ret) (.seq (.ops [⟨(.some 14), (.mv (.t 0)), .none⟩, ⟨(.some 15), (.bin .leq (.t 14) (.c (.sc (.int .i64 24)))), .none⟩, ⟨(.some 13), (.mv (.t 15)), .none⟩]) (.cond (.t 13) (.seq (.ops [⟨(.some 2), (.mv (.c (.sc (.int .i64 2)))), .none⟩]) .ret) (.seq (.ops [⟨(.some 17), (.mv (.t 0)), .none⟩, ⟨(.some 18), (.bin .eql (.t 17) (.c (.sc (.int .i64 25)))), .none⟩, ⟨(.some 16), (.mv (.t 18)), .none⟩]) (.cond (.t 16) (.seq (.ops [⟨(.some 2), (.mv (.c (.sc (.int .i64 3)))), .none⟩]) .ret) (.seq (.ops [⟨(.some 20), (.mv (.t 0)), .none⟩, ⟨(.some 21), (.bin .leq (.t 20) (.c (.sc (.int .i64 30)))), .none⟩, ⟨(.some 19), (.mv (.t 21)), .none⟩]) (.cond (.t 19) (.seq (.ops [⟨(.some 2), (.mv (.c (.sc (.int .i64 4)))), .none⟩]) .ret) (.seq (.ops [⟨(.some 23), (.mv (.t 0)), .none⟩, ⟨(.some 24), (.bin .leq (.t 23) (.c (.sc (.int .i64 33)))), .none⟩, ⟨(.some 22), (.mv (.t 24)), .none⟩]) (.cond (.t 22) (.seq (.ops [⟨(.some 2), (.mv (.c (.sc (.int .i64 5)))), .none⟩]) .ret) (.seq (.ops [⟨(.some 26), (.mv (.t 0)), .none⟩, ⟨(.some 27), (.bin .leq (.t 26) (.c (.sc (.int .i64 39)))), .none⟩, ⟨(.some 25), (.mv (.t 27)), .none⟩]) (.cond (.t 25) (.seq (.ops [⟨(.some 2), (.mv (.c (.sc (.int .i64 6)))), .none⟩]) .ret) (.seq (.ops [⟨(.some 29), (.mv (.t 0)), .none⟩, ⟨(.some 30), (.bin .eql (.t 29) (.c (.sc (.int .i64 40)))), .none⟩, ⟨(.some 28), (.mv (.t 30)), .none⟩]) (.cond (.t 28) (.seq (.ops [⟨(.some 2), (.mv (.c (.sc (.int .i64 7)))), .none⟩]) .ret) .skip))))))))))))))))) (.seq (.ops [⟨(.some 2), (.mv (.c (.sc (.int .i64 8)))), .none⟩]) .ret)))
theorem t_isa_Form : trF Try.prog qq 72 = some (31, [(.tmp 2)], c_isa_Form) := by kernel_rfl
def c_isa_within : AC := (.seq (.ops [⟨(.some 8), (.mv (.c (.sc (.bool .false)))), .none⟩]) (.seq (.seq (.ops [⟨(.some 9), (.mv (.t 1)), .none⟩, ⟨(.some 10), (.un .not (.t 9)), .none⟩]) (.cond (.t 10) (.seq (.ops [⟨(.some 11), (.mv (.t 0)), .none⟩, ⟨(.some 12), (.bin .eql (.t 11) (.c (.sc (.int .i64 0)))), .none⟩, ⟨(.some 8), (.mv (.t 12)), .none⟩]) .ret) .skip)) (.seq (.ops [⟨(.some 13), (.mv (.t 0)), .none⟩, ⟨(.some 14), (.mv (.t 2)), .none⟩, ⟨(.some 15), (.bin .geq (.t 13) (.t 14)), .none⟩, ⟨(.some 16), (.mv (.t 15)), .none⟩, ⟨(.some 17), (.mv (.t 0)), (.some (16, .true))⟩, ⟨(.some 18), (.mv (.t 3)), (.some (16, .true))⟩, ⟨(.some 19), (.bin .leq (.t 17) (.t 18)), (.some (16, .true))⟩, ⟨(.some 20), (.pick (.t 16) (.t 19) (.c (.sc (.bool .false)))), .none⟩, ⟨(.some 8), (.mv (.t 20)), .none⟩]) .ret)))
theorem t_isa_within : trF Try.prog qq 73 = some (21, [(.tmp 8)], c_isa_within) := by kernel_rfl
def c_isa_HasD : AC := (.seq (.ops [⟨(.some 2), (.mv (.c (.sc (.bool .false)))), .none⟩]) (.seq (.ops [⟨(.some 3), (.mv (.t 0)), .none⟩, ⟨(.some 4), (.bin .geq (.t 3) (.c (.sc (.int .i64 1)))), .none⟩, ⟨(.some 5), (.mv (.t 4)), .none⟩, ⟨(.some 6), (.mv (.t 0)), (.some (5, .true))⟩, ⟨(.some 7), (.bin .leq (.t 6) (.c (.sc (.int .i64 4)))), (.some (5, .true))⟩, ⟨(.some 8), (.pick (.t 5) (.t 7) (.c (.sc (.bool .false)))), .none⟩, ⟨(.some 2), (.mv (.t 8)), .none⟩]) .ret))
theorem t_isa_HasD : trF Try.prog qq 74 = some (9, [(.tmp 2)], c_isa_HasD) := by kernel_rfl
def c_isa_HasA : AC := (.seq (.ops [⟨(.some 2), (.mv (.c (.sc (.bool .false)))), .none⟩]) (.seq (.ops [⟨(.some 3), (.mv (.t 0)), .none⟩, ⟨(.some 4), (.bin .eql (.t 3) (.c (.sc (.int .i64 1)))), .none⟩, ⟨(.some 5), (.mv (.t 4)), .none⟩, ⟨(.some 6), (.mv (.t 0)), (.some (5, .false))⟩, ⟨(.some 7), (.bin .eql (.t 6) (.c (.sc (.int .i64 2)))), (.some (5, .false))⟩, ⟨(.some 8), (.pick (.t 5) (.c (.sc (.bool .true))) (.t 7)), .none⟩, ⟨(.some 9), (.mv (.t 8)), .none⟩, ⟨(.some 10), (.mv (.t 0)), (.some (9, .false))⟩, ⟨(.some 11), (.bin .eql (.t 10) (.c (.sc (.int .i64 4)))), (.some (9, .false))⟩, ⟨(.some 12), (.pick (.t 9) (.c (.sc (.bool .true))) (.t 11)), .none⟩, ⟨(.some 13), (.mv (.t 12)), .none⟩, ⟨(.some 14), (.mv (.t 0)), (.some (13, .false))⟩, ⟨(.some 15), (.bin .eql (.t 14) (.c (.sc (.int .i64 5)))), (.some (13, .false))⟩, ⟨(.some 16), (.pick (.t 13) (.c (.sc (.bool .true))) (.t 15)), .none⟩, ⟨(.some 17), (.mv (.t 16)), .none⟩, ⟨(.some 18), (.mv (.t 0)), (.some (17, .false))⟩, ⟨(.some 19), (.bin .eql (.t 18) (.c (.sc (.int .i64 6)))), (.some (17, .false))⟩, ⟨(.some 20), (.pick (.t 17) (.c (.sc (.bool .true))) (.t 19)), .none⟩, ⟨(.some 2), (.mv (.t 20)), .none⟩]) .ret))
theorem t_isa_HasA : trF Try.prog qq 75 = some (21, [(.tmp 2)], c_isa_HasA) := by kernel_rfl
def c_isa_HasB : AC := (.seq (.ops [⟨(.some 2), (.mv (.c (.sc (.bool .false)))), .none⟩]) (.seq (.ops [⟨(.some 3), (.mv (.t 0)), .none⟩, ⟨(.some 4), (.bin .eql (.t 3) (.c (.sc (.int .i64 1)))), .none⟩, ⟨(.some 5), (.mv (.t 4)), .none⟩, ⟨(.some 6), (.mv (.t 0)), (.some (5, .false))⟩, ⟨(.some 7), (.bin .eql (.t 6) (.c (.sc (.int .i64 5)))), (.some (5, .false))⟩, ⟨(.some 8), (.pick (.t 5) (.c (.sc (.bool .true))) (.t 7)), .none⟩, ⟨(.some 9), (.mv (.t 8)), .none⟩, ⟨(.some 10), (.mv (.t 0)), (.some (9, .false))⟩, ⟨(.some 11), (.bin .eql (.t 10) (.c (.sc (.int .i64 6)))), (.some (9, .false))⟩, ⟨(.some 12), (.pick (.t 9) (.c (.sc (.bool .true))) (.t 11)), .none⟩, ⟨(.some 2), (.mv (.t 12)), .none⟩]) .ret))
theorem t_isa_HasB : trF Try.prog qq 76 = some (13, [(.tmp 2)], c_isa_HasB) := by kernel_rfl
def c_isa_HasImm : AC := (.seq (.ops [⟨(.some 2), (.mv (.c (.sc (.bool .false)))), .none⟩]) (.seq (.ops [⟨(.some 3), (.mv (.t 0)), .none⟩, ⟨(.some 4), (.bin .geq (.t 3) (.c (.sc (.int .i64 2)))), .none⟩, ⟨(.some 5), (.mv (.t 4)), .none⟩, ⟨(.some 6), (.mv (.t 0)), (.some (5, .true))⟩, ⟨(.some 7), (.bin .leq (.t 6) (.c (.sc (.int .i64 7)))), (.some (5, .true))⟩, ⟨(.some 8), (.pick (.t 5) (.t 7) (.c (.sc (.bool .false)))), .none⟩, ⟨(.some 2), (.mv (.t 8)), .none⟩]) .ret))
theorem t_isa_HasImm : trF Try.prog qq 77 = some (9, [(.tmp 2)], c_isa_HasImm) := by kernel_rfl
/-- The functions of isa. -/
def cl_isa : CodeL := [(53, 54, [(.tmp 2)], c_isa_Right), (72, 31, [(.tmp 2)], c_isa_Form), (73, 21, [(.tmp 8)], c_isa_within), (74, 9, [(.tmp 2)], c_isa_HasD), (75, 21, [(.tmp 2)], c_isa_HasA), (76, 13, [(.tmp 2)], c_isa_HasB), (77, 9, [(.tmp 2)], c_isa_HasImm)]
theorem clok_isa : AllL (fun p => trF Try.prog qq p.1 = some p.2) cl_isa := ⟨t_isa_Right, t_isa_Form, t_isa_within, t_isa_HasD, t_isa_HasA, t_isa_HasB, t_isa_HasImm, trivial⟩
end Go.Proofs.Ythmlnmkbeohojaa

/- Which programs may be, as package image tells. -/
namespace Go.Proofs.Ythmlnmkbeohojaa
open Go.Ra
set_option linter.unusedVariables false
set_option linter.unusedSimpArgs false
def TI0 : Tab := mkT2 qq cl_isa [] [] [] []
def h1Sp (f : Int → Bool) : List XV → Option (List Bool × XV)
  | [.int .i64 a] => some ([], .bool (f a))
  | _ => none
def inW (n : Int) (t : Bool) (lo hi : Int) : Bool := bif t then decide (lo ≤ n ∧ n ≤ hi) else decide (n = 0)
def inwSp : List XV → Option (List Bool × XV)
  | [.int .i64 n, .bool t, .int .i64 lo, .int .i64 hi] => some ([], .bool (inW n t lo hi))
  | _ => none
def TI1 : Tab := mkT2 qq cl_isa [(72, formSp), (74, h1Sp hasD), (75, h1Sp hasA), (76, h1Sp hasB), (77, h1Sp hasI), (73, inwSp)] [] [] []
def TI2 : Tab := mkT2 qq (cl_image ++ cl_slices) [(53, rtSp), (72, formSp)] [] [] []
def wrgF (i : Ins) : Bool := !rightIns i
def idiS : List XV → Option ((XV → Prop) → Prop) := skOf (fun l : List Ins => [e_row 5 e_Ins l, .clo 52 []]) (fun l => l.length ≤ 1000000000) (fun l => idxF wrgF l) (fun y => .int .i64 y)
/-- Does an instruction lead into the code, if it leads anywhere? -/
def jmpOk (p : Prog) (i : Nat) : Bool := !((decide (formI (ix p.code i).op = 6) || decide (formI (ix p.code i).op = 7)) && (decide ((ix p.code i).imm < -(i : Int)) || decide ((ix p.code i).imm ≥ (p.code.length : Int) - i)))
def jmpsF (p : Prog) : Bool := allN (jmpOk p) p.code.length
def imtS : List XV → Option ((XV → Prop) → Prop) := skOf (fun p : Prog => [e_Prog p]) (fun p => p.wf) (fun p => (if jmpsF p then 0 else 4 : Int)) (fun y => .int .i64 y)
def TI3 : Tab := mkT2 qq (cl_image ++ cl_slices) [] [] [(78, idiS), (56, imtS)] []
theorem TI0ok : TabOk Try.prog TI0 := mkT2_ok clok_isa trivial trivial trivial trivial
theorem r_iform (a : Int) (K : XV → Prop) : (quietGo TI0 80 (callI TI0 80 20) 72 [.int .i64 a] K) = (bif bif decide (a < 1) then true else !decide (a < 1) then bif bif decide (a < 1) then true else decide (a > 41) then K (.int .i64 0) else bif decide (a ≤ 16)
 then K (.int .i64 1) else bif decide (a ≤ 24) then K (.int .i64 2) else bif decide (a = 25) then K (.int .i64 3) else bif decide (a ≤ 30) then K (.int .i64 4) else
 bif decide (a ≤ 33) then K (.int .i64 5) else bif decide (a ≤ 39) then K (.int .i64 6) else bif decide (a = 40) then K (.int .i64 7) else K (.int .i64 8)
else False)
 := by kernel_rfl
theorem r_ihd (a : Int) (K : XV → Prop) : (quietGo TI0 80 (callI TI0 80 20) 74 [.int .i64 a] K) = (bif bif decide (a ≥ 1) then decide (a ≥ 1) else true then K (.bool (bif decide (a ≥ 1) then decide (a ≤ 4) else false)) else False) := by kernel_rfl
theorem r_iha (a : Int) (K : XV → Prop) : (quietGo TI0 80 (callI TI0 80 20) 75 [.int .i64 a] K) = (bif bif decide (a = 1) then true else !decide (a = 1) then bif bif bif decide (a = 1) then true else decide (a = 2) then true else !bif decide (a = 1) then true
 else decide (a = 2) then bif bif bif bif decide (a = 1) then true else decide (a = 2) then true else decide (a = 4) then true else !bif bif decide (a = 1) then true
 else decide (a = 2) then true else decide (a = 4) then bif bif bif bif bif decide (a = 1) then true else decide (a = 2) then true else decide (a = 4) then true else
 decide (a = 5) then true else !bif bif bif decide (a = 1) then true else decide (a = 2) then true else decide (a = 4) then true else decide (a = 5) then K (.bool
 (bif bif bif bif decide (a = 1) then true else decide (a = 2) then true else decide (a = 4) then true else decide (a = 5) then true else decide (a = 6))) else False
 else False else False
else False) := by kernel_rfl
theorem r_ihb (a : Int) (K : XV → Prop) : (quietGo TI0 80 (callI TI0 80 20) 76 [.int .i64 a] K) = (bif bif decide (a = 1) then true else !decide (a = 1) then bif bif bif decide (a = 1) then true else decide (a = 5) then true else !bif decide (a = 1) then true
 else decide (a = 5) then K (.bool (bif bif decide (a = 1) then true else decide (a = 5) then true else decide (a = 6))) else False
else False) := by kernel_rfl
theorem r_ihi (a : Int) (K : XV → Prop) : (quietGo TI0 80 (callI TI0 80 20) 77 [.int .i64 a] K) = (bif bif decide (a ≥ 2) then decide (a ≥ 2) else true then K (.bool (bif decide (a ≥ 2) then decide (a ≤ 7) else false)) else False) := by kernel_rfl
theorem r_iwi (n : Int) (t : Bool) (lo hi : Int) (K : XV → Prop) : (quietGo TI0 80 (callI TI0 80 20) 73 [.int .i64 n, .bool t, .int .i64 lo, .int .i64 hi] K) = (bif !t then K (.bool (decide (n = 0))) else bif bif decide (n ≥ lo) then decide (n ≥ lo) else true then K (.bool (bif decide (n ≥ lo) then decide (n ≤ hi) else
 false)) else False) := by kernel_rfl
theorem r_irt (i : Ins) (K : XV → Prop) : (quietGo TI1 80 (callI TI1 80 20) 53 [e_Ins i] K) = (bif bif decide (Ins.op i = 22) then true else !decide (Ins.op i = 22) then bif bif bif decide (Ins.op i = 22) then true else decide (Ins.op i = 23) then true
 else !bif decide (Ins.op i = 22) then true else decide (Ins.op i = 23) then bif bif bif decide (Ins.op i = 22) then true else decide (Ins.op i = 23) then true else
 decide (Ins.op i = 24) then bif bif decide (formI (Ins.op i) > 0) then decide (formI (Ins.op i) > 0) else true then bif bif bif decide (formI (Ins.op i) > 0) then
 inW (Ins.d i) (hasD (formI (Ins.op i))) (0 : Int) (15 : Int) else false then bif decide (formI (Ins.op i) > 0) then inW (Ins.d i) (hasD (formI (Ins.op i))) (0 :
 Int) (15 : Int) else false else true then bif bif bif bif decide (formI (Ins.op i) > 0) then inW (Ins.d i) (hasD (formI (Ins.op i))) (0 : Int) (15 : Int) else false
 then inW (Ins.a i) (hasA (formI (Ins.op i))) (0 : Int) (15 : Int) else false then bif bif decide (formI (Ins.op i) > 0) then inW (Ins.d i) (hasD (formI (Ins.op i)))
 (0 : Int) (15 : Int) else false then inW (Ins.a i) (hasA (formI (Ins.op i))) (0 : Int) (15 : Int) else false else true then bif bif bif bif bif decide (formI (Ins.op
 i) > 0) then inW (Ins.d i) (hasD (formI (Ins.op i))) (0 : Int) (15 : Int) else false then inW (Ins.a i) (hasA (formI (Ins.op i))) (0 : Int) (15 : Int) else false
 then inW (Ins.b i) (hasB (formI (Ins.op i))) (0 : Int) (15 : Int) else false then bif bif bif decide (formI (Ins.op i) > 0) then inW (Ins.d i) (hasD (formI (Ins.op
 i))) (0 : Int) (15 : Int) else false then inW (Ins.a i) (hasA (formI (Ins.op i))) (0 : Int) (15 : Int) else false then inW (Ins.b i) (hasB (formI (Ins.op i))) (0
 : Int) (15 : Int) else false else true then K (.bool (bif bif bif bif decide (formI (Ins.op i) > 0) then inW (Ins.d i) (hasD (formI (Ins.op i))) (0 : Int) (15 :
 Int) else false then inW (Ins.a i) (hasA (formI (Ins.op i))) (0 : Int) (15 : Int) else false then inW (Ins.b i) (hasB (formI (Ins.op i))) (0 : Int) (15 : Int) else
 false then inW (Ins.imm i) (hasI (formI (Ins.op i))) (0 : Int) (31 : Int) else false)) else False else False else False else False else bif bif decide (formI (Ins.op
 i) > 0) then decide (formI (Ins.op i) > 0) else true then bif bif bif decide (formI (Ins.op i) > 0) then inW (Ins.d i) (hasD (formI (Ins.op i))) (0 : Int) (15 :
 Int) else false then bif decide (formI (Ins.op i) > 0) then inW (Ins.d i) (hasD (formI (Ins.op i))) (0 : Int) (15 : Int) else false else true then bif bif bif bif
 decide (formI (Ins.op i) > 0) then inW (Ins.d i) (hasD (formI (Ins.op i))) (0 : Int) (15 : Int) else false then inW (Ins.a i) (hasA (formI (Ins.op i))) (0 : Int)
 (15 : Int) else false then bif bif decide (formI (Ins.op i) > 0) then inW (Ins.d i) (hasD (formI (Ins.op i))) (0 : Int) (15 : Int) else false then inW (Ins.a i)
 (hasA (formI (Ins.op i))) (0 : Int) (15 : Int) else false else true then bif bif bif bif bif decide (formI (Ins.op i) > 0) then inW (Ins.d i) (hasD (formI (Ins.op
 i))) (0 : Int) (15 : Int) else false then inW (Ins.a i) (hasA (formI (Ins.op i))) (0 : Int) (15 : Int) else false then inW (Ins.b i) (hasB (formI (Ins.op i))) (0
 : Int) (15 : Int) else false then bif bif bif decide (formI (Ins.op i) > 0) then inW (Ins.d i) (hasD (formI (Ins.op i))) (0 : Int) (15 : Int) else false then inW
 (Ins.a i) (hasA (formI (Ins.op i))) (0 : Int) (15 : Int) else false then inW (Ins.b i) (hasB (formI (Ins.op i))) (0 : Int) (15 : Int) else false else true then K
 (.bool (bif bif bif bif decide (formI (Ins.op i) > 0) then inW (Ins.d i) (hasD (formI (Ins.op i))) (0 : Int) (15 : Int) else false then inW (Ins.a i) (hasA (formI
 (Ins.op i))) (0 : Int) (15 : Int) else false then inW (Ins.b i) (hasB (formI (Ins.op i))) (0 : Int) (15 : Int) else false then inW (Ins.imm i) (hasI (formI (Ins.op
 i))) (-8192 : Int) (8191 : Int) else false)) else False else False else False else False else False
else False) := by kernel_rfl
theorem h1_ok {f : Int → Bool} {n : Nat} (h : ∀ a, Pure Try.prog n (cons [.int .i64 a]) (con (.bool (f a)))) : SpOk Try.prog (n, h1Sp f) := by
  intro args nd v ha hn
  simp only [h1Sp] at ha
  split at ha <;> simp only [Option.some.injEq, Prod.mk.injEq, reduceCtorEq] at ha
  obtain ⟨hnd, rfl⟩ := ha
  exact h _
theorem sp_iform : SpOk Try.prog (72, formSp) := by
  intro args nd v ha hn
  simp only [formSp] at ha
  split at ha <;> simp only [Option.some.injEq, Prod.mk.injEq, reduceCtorEq] at ha
  obtain ⟨hnd, rfl⟩ := ha
  clear hnd hn
  rename_i a
  refine pureX (u := 80) (k := 20) mix TI0ok ?_
  rw [r_iform]
  unfold formI
  simp only [g1, g2, g3, g4, g5, g6, g7, allN_true, cond_true, Nat.le_refl, decide_true, pl_eq]
  by_cases h0 : a < 1 ∨ a > 41
  · rw [if_pos h0]
    rcases h0 with h | h <;> simp [h]
  · rw [if_neg h0]
    have h1 : ¬ a < 1 := fun h => h0 (.inl h)
    have h2 : ¬ a > 41 := fun h => h0 (.inr h)
    simp only [h1, h2, decide_false, cond_false]
    by_cases h3 : a ≤ 16
    · simp [h3]
    by_cases h4 : a ≤ 24
    · simp [h3, h4]
    by_cases h5 : a = 25
    · simp [h5]
    by_cases h6 : a ≤ 30
    · simp [h3, h4, h5, h6]
    by_cases h7 : a ≤ 33
    · simp [h3, h4, h5, h6, h7]
    by_cases h8 : a ≤ 39
    · simp [h3, h4, h5, h6, h7, h8]
    by_cases h9 : a = 40
    · simp [h9]
    simp [h3, h4, h5, h6, h7, h8, h9]
theorem sp_ihd : SpOk Try.prog (74, h1Sp hasD) := h1_ok fun a => by
  refine pureX (u := 80) (k := 20) mix TI0ok ?_
  rw [r_ihd]
  simp only [g1, g2, g3, g4, g5, g6, g7, allN_true, cond_true, Nat.le_refl, decide_true, pl_eq, bor, band]
  refine conB ?_
  unfold hasD
  rw [Bool.eq_iff_iff]
  simp
  omega
theorem sp_iha : SpOk Try.prog (75, h1Sp hasA) := h1_ok fun a => by
  refine pureX (u := 80) (k := 20) mix TI0ok ?_
  rw [r_iha]
  simp only [g1, g2, g3, g4, g5, g6, g7, allN_true, cond_true, Nat.le_refl, decide_true, pl_eq]
  simp only [bor, band]
  refine conB ?_
  unfold hasA
  rw [Bool.eq_iff_iff]
  simp
  omega
theorem sp_ihb : SpOk Try.prog (76, h1Sp hasB) := h1_ok fun a => by
  refine pureX (u := 80) (k := 20) mix TI0ok ?_
  rw [r_ihb]
  simp only [g1, g2, g3, g4, g5, g6, g7, allN_true, cond_true, Nat.le_refl, decide_true, pl_eq]
  simp only [bor, band]
  refine conB ?_
  unfold hasB
  rw [Bool.eq_iff_iff]
  simp
  omega
theorem sp_ihi : SpOk Try.prog (77, h1Sp hasI) := h1_ok fun a => by
  refine pureX (u := 80) (k := 20) mix TI0ok ?_
  rw [r_ihi]
  simp only [g1, g2, g3, g4, g5, g6, g7, allN_true, cond_true, Nat.le_refl, decide_true, pl_eq]
  simp only [bor, band]
  refine conB ?_
  unfold hasI
  rw [Bool.eq_iff_iff]
  simp
  omega
theorem sp_iwi : SpOk Try.prog (73, inwSp) := by
  intro args nd v ha hn
  simp only [inwSp] at ha
  split at ha <;> simp only [Option.some.injEq, Prod.mk.injEq, reduceCtorEq] at ha
  obtain ⟨hnd, rfl⟩ := ha
  clear hnd hn
  rename_i n t lo hi
  refine pureX (u := 80) (k := 20) mix TI0ok ?_
  rw [r_iwi]
  cases t with
  | false => exact conB (by rfl)
  | true =>
    simp only [g1, g2, g3, g4, g5, g6, g7, allN_true, cond_true, Nat.le_refl, decide_true, pl_eq, Bool.not_true]
    simp only [bor, band]
    refine conB ?_
    unfold inW
    rw [Bool.eq_iff_iff]
    simp
theorem reg_in {n : Int} {t : Bool} : regB n t = inW n t 0 15 := by
  unfold regB inW
  rw [Bool.eq_iff_iff]
  cases t <;> simp
  omega
theorem TI1ok : TabOk Try.prog TI1 := mkT2_ok clok_isa ⟨sp_iform, sp_ihd, sp_iha, sp_ihb, sp_ihi, sp_iwi, trivial⟩ trivial trivial trivial
theorem form_ge {a : Int} : 0 ≤ formI a := by
  unfold formI
  repeat' split
  all_goals omega
theorem sp_irt : SpOk Try.prog (53, rtSp) := by
  intro args nd v ha hn
  simp only [rtSp] at ha
  split at ha <;> simp only [Option.some.injEq, Prod.mk.injEq, reduceCtorEq] at ha
  obtain ⟨hnd, rfl⟩ := ha
  clear hnd hn
  rename_i op d a b m
  refine pureX (u := 80) (k := 20) mix TI1ok ?_
  refine Eq.mpr (r_irt ⟨op, d, a, b, m⟩ _) ?_
  simp only [g1, g2, g3, g4, g5, g6, g7, allN_true, cond_true, Nat.le_refl, decide_true, pl_eq]
  simp only [bor, band]
  unfold rightIns
  dsimp only
  have fg := form_ge (a := op)
  generalize formI op = f at *
  simp only [reg_in]
  refine cnd2 (fun h => conB ?_) (fun h => conB ?_) <;> simp only [Bool.or_eq_true, Bool.or_eq_false_iff, decide_eq_true_eq, decide_eq_false_iff_not] at h
  · have h' : op = 22 ∨ op = 23 ∨ op = 24 := by omega
    rw [if_pos h']
    have e0 : decide (f > 0) = decide (¬ f = 0) := decide_eq_decide.2 (by omega)
    have e1 : inW m (hasI f) 0 31 = ((hasI f || decide (m = 0)) && decide (0 ≤ m ∧ m ≤ 31)) := by
      unfold inW
      rw [Bool.eq_iff_iff]
      cases hasI f <;> simp
      omega
    rw [e0, e1]
    simp only [Bool.and_assoc]
  · have h' : ¬ (op = 22 ∨ op = 23 ∨ op = 24) := by omega
    rw [if_neg h']
    have e0 : decide (f > 0) = decide (¬ f = 0) := decide_eq_decide.2 (by omega)
    have e1 : inW m (hasI f) (-8192) 8191 = ((hasI f || decide (m = 0)) && decide (-8192 ≤ m ∧ m ≤ 8191)) := by
      unfold inW
      rw [Bool.eq_iff_iff]
      cases hasI f <;> simp
      omega
    rw [e0, e1]
    simp only [Bool.and_assoc]
theorem r_im0 (l : List Ins) (r : XV) : (goQ Try.prog TI2 [(.tmp 4)] r (.run c_slices_IndexFunc_Ins_Ins) [] ⟨envX 0 [e_row 5 e_Ins l, .clo 52 []], [], 0⟩) = (LoopAt (Ok Try.prog (Tab.q TI2)) c_slices_IndexFunc_Ins_Ins_l1 (XSt.mk [(8, .int .i64 0), (7, .int .i64 (↑(List.length l) : Int)), (4, .int .i64 0), (0, e_row
 5 e_Ins l), (1, .clo 52 [])] [] 0) [Frm.blk 0, Frm.seq c_slices_IndexFunc_Ins_Ins_p1] (finQR [AR.tmp 4] r)) := by kernel_rfl
theorem r_im1 (l : List Ins) (i : Nat) (r : XV) (A : XSt → Prop) : (goQ Try.prog TI2 [(.tmp 4)] r (.run c_slices_IndexFunc_Ins_Ins_l1) [.lp c_slices_IndexFunc_Ins_Ins_l1 A, .blk 0, .seq c_slices_IndexFunc_Ins_Ins_p1] ⟨[(0, e_row 5 e_Ins l), (1, .clo 52 []), (8, .int .i64 i), (7, .int .i64 l.length)], [], 0⟩) = (bif decide ((↑i : Int) < (↑(List.length l) : Int)) then bif decide ((↑i : Int) < (↑(List.length l) : Int)) then bif !rightIns (ix l i) then ResLe (.int .i64
 (↑i : Int)) r else A (XSt.mk [(8, .int .i64 (IntKind.wrap .i64 ((↑i : Int) + (1 : Int)))), (0, e_row 5 e_Ins l), (1, .clo 52 []), (7, .int .i64 (↑(List.length l)
 : Int))] [] 0) else False
else ResLe (.int .i64 (-1 : Int)) r) := by kernel_rfl
theorem r_it0 (p : Prog) (r : XV) : (goQ Try.prog TI2 [(.tmp 2)] r (.run c_image_Targets) [] ⟨envX 0 [e_Prog p], [], 0⟩) = (LoopAt (Ok Try.prog (Tab.q TI2)) c_image_Targets_l1 (XSt.mk [(10, .int .i64 0), (9, .int .i64 (↑(List.length (Prog.code p)) : Int)), (8, e_row 5 e_Ins (Prog.code
 p)), (2, .int .i64 0), (1, .ptr 0 [] 0)] [(0, some (e_Prog p))] 1) [Frm.blk 0, Frm.seq c_image_Targets_p1] (finQR [AR.tmp 2] r)) := by kernel_rfl
theorem r_it1 (p : Prog) (i : Nat) (r : XV) (A : XSt → Prop) : (goQ Try.prog TI2 [(.tmp 2)] r (.run c_image_Targets_l1) [.lp c_image_Targets_l1 A, .blk 0, .seq c_image_Targets_p1] ⟨[(10, .int .i64 i), (9, .int .i64 p.code.length), (8, e_row 5 e_Ins p.code), (1, .ptr 0 [] 0)], [(0, some (e_Prog p))], 1⟩) = (bif decide ((↑i : Int) < (↑(List.length (Prog.code p)) : Int)) then bif decide ((↑i : Int) < (↑(List.length (Prog.code p)) : Int)) then bif decide ((↑i : Int)
 < (↑(List.length (Prog.code p)) : Int)) then bif decide ((↑i : Int) < (↑(List.length (Prog.code p)) : Int)) then bif bif decide (formI (Ins.op (ix (Prog.code p)
 i)) = 6) then true else !decide (formI (Ins.op (ix (Prog.code p) i)) = 6) then bif bif bif decide (formI (Ins.op (ix (Prog.code p) i)) = 6) then true else decide
 (formI (Ins.op (ix (Prog.code p) i)) = 7) then true else !bif decide (formI (Ins.op (ix (Prog.code p) i)) = 6) then true else decide (formI (Ins.op (ix (Prog.code
 p) i)) = 7) then bif bif bif decide (Ins.imm (ix (Prog.code p) i) < IntKind.wrap .i64 ((0 : Int) - (↑i : Int))) then true else bif bif decide (formI (Ins.op (ix
 (Prog.code p) i)) = 6) then true else decide (formI (Ins.op (ix (Prog.code p) i)) = 7) then !decide (Ins.imm (ix (Prog.code p) i) < IntKind.wrap .i64 ((0 : Int)
 - (↑i : Int))) else false then true else !bif decide (formI (Ins.op (ix (Prog.code p) i)) = 6) then true else decide (formI (Ins.op (ix (Prog.code p) i)) = 7) then
 bif bif bif decide (formI (Ins.op (ix (Prog.code p) i)) = 6) then true else decide (formI (Ins.op (ix (Prog.code p) i)) = 7) then bif decide (formI (Ins.op (ix (Prog.code
 p) i)) = 6) then true else decide (formI (Ins.op (ix (Prog.code p) i)) = 7) else true then bif bif bif decide (formI (Ins.op (ix (Prog.code p) i)) = 6) then true
 else decide (formI (Ins.op (ix (Prog.code p) i)) = 7) then bif decide (Ins.imm (ix (Prog.code p) i) < IntKind.wrap .i64 ((0 : Int) - (↑i : Int))) then true else
 decide (Ins.imm (ix (Prog.code p) i) ≥ IntKind.wrap .i64 ((↑(List.length (Prog.code p)) : Int) - (↑i : Int))) else false then ResLe (.int .i64 4) r else A (XSt.mk
 [(10, .int .i64 (IntKind.wrap .i64 ((↑i : Int) + (1 : Int)))), (9, .int .i64 (↑(List.length (Prog.code p)) : Int)), (8, e_row 5 e_Ins (Prog.code p)), (1, .ptr 0
 [] 0)] [(1, some (e_Ins (ix (Prog.code p) i))), (0, some (e_Prog p))] 2) else False else False else False else False else False else False else False
else ResLe
 (.int .i64 0) r) := by kernel_rfl
theorem TI2ok : TabOk Try.prog TI2 := mkT2_ok (clok_image.app clok_slices) ⟨sp_irt, sp_iform, trivial⟩ trivial trivial trivial
theorem sk_idi : SkOk Try.prog (78, idiS) := skOf_ok fun l h => by
  have hl : l.length ≤ 1000000000 := h
  show Pure _ _ (cons [e_row 5 e_Ins l, .clo 52 []]) (con (.int .i64 (idxF wrgF l)))
  refine pureQ mix TI2ok t_slices_IndexFunc_Ins_Ins (Nat.le_of_ble_eq_true rfl) ?_
  refine Eq.mpr (r_im0 l _) ?_
  refine loopQ mix TI2ok (fun i : Nat => ⟨[(0, e_row 5 e_Ins l), (1, .clo 52 []), (8, .int .i64 i), (7, .int .i64 l.length)], [], 0⟩) (fun i => i ≤ l.length ∧ ∀ j, j < i → wrgF (ix l j) = false) (fun i => l.length - i) 0 ⟨Nat.zero_le _, fun j hj => by omega⟩ (.of (weakX ⟨rfl, rfl, rfl, rfl, trivial⟩ trivial (Nat.le_refl _))) ?_
  rintro i ⟨hi1, hp⟩
  refine Eq.mpr (r_im1 l i _ _) ?_
  by_cases hlt : i < l.length
  · have h1 : (i : Int) < (l.length : Int) := by omega
    have w1 : IntKind.i64.wrap ((i : Int) + 1) = ((i + 1 : Nat) : Int) := wrap_i64 (by omega) (by omega)
    simp only [g1, g2, g3, g4, g5, g6, g7, allN_true, cond_true, Nat.le_refl, decide_true, pl_eq, h1, w1]
    refine cnd2 (fun h => ?_) (fun h => ?_)
    · have e : idxF wrgF l = i := idxF_some hlt h hp
      rw [e]; exact .rfl
    · refine ⟨i + 1, ⟨hlt, fun j hj => ?_⟩, .of (weakX ⟨rfl, rfl, rfl, rfl, trivial⟩ trivial (Nat.le_refl _)), by omega⟩
      by_cases hji : j = i
      · subst hji; exact h
      · exact hp j (by omega)
  · have h1 : ¬ (i : Int) < (l.length : Int) := by omega
    simp only [h1, decide_false, cond_false]
    have e : idxF wrgF l = -1 := idxF_none fun j hj => hp j (by omega)
    rw [e]; exact .rfl
theorem tgt_eq {p : Prog} {i : Nat} (h : i < p.code.length) (hr : rightIns (ix p.code i) = true) : tgtOk p i = jmpOk p i := by
  have him : decide (formI (ix p.code i).op = 6) || decide (formI (ix p.code i).op = 7) = true → -8192 ≤ (ix p.code i).imm ∧ (ix p.code i).imm ≤ 8191 := fun hc => by
    simp only [rightIns, Bool.and_eq_true] at hr
    obtain ⟨_, _, _, _, _, h5⟩ := hr
    split at h5 <;> simp at h5 <;> omega
  unfold tgtOk targetF jmpOk
  rw [Bool.eq_iff_iff]
  cases hc : (decide (formI (ix p.code i).op = 6) || decide (formI (ix p.code i).op = 7)) with
  | false => simp
  | true =>
    have := him (by simpa using hc)
    split <;> simp at * <;> omega
theorem tgs_eq {p : Prog} (h : allN (fun n => rightIns (ix p.code n)) p.code.length = true) : tgsOk p = jmpsF p := by
  unfold tgsOk jmpsF
  rw [Bool.eq_iff_iff, allN_iff, allN_iff]
  have h := allN_iff.1 h
  exact ⟨fun g i hi => by rw [← tgt_eq hi (h i hi)]; exact g i hi, fun g i hi => by rw [tgt_eq hi (h i hi)]; exact g i hi⟩
theorem g8 (a b : Bool) : (a || b && !a || !b) = true := by cases a <;> cases b <;> rfl
theorem sk_imt : SkOk Try.prog (56, imtS) := skOf_ok fun p hw => by
  have hw : p.wf := hw
  have hl := hw.1.2
  refine pureQ mix TI2ok t_image_Targets (Nat.le_of_ble_eq_true rfl) ?_
  refine Eq.mpr (r_it0 p _) ?_
  refine loopQ mix TI2ok (fun i : Nat => ⟨[(10, .int .i64 i), (9, .int .i64 p.code.length), (8, e_row 5 e_Ins p.code), (1, .ptr 0 [] 0)], [(0, some (e_Prog p))], 1⟩) (fun i => i ≤ p.code.length ∧ ∀ j, j < i → jmpOk p j = true) (fun i => p.code.length - i) 0 ⟨Nat.zero_le _, fun j hj => by omega⟩ (.of (weakX ⟨rfl, rfl, rfl, rfl, trivial⟩ ⟨rfl, trivial⟩ (Nat.le_refl _))) ?_
  rintro i ⟨hi, hp⟩
  refine Eq.mpr (r_it1 p i _ _) ?_
  by_cases hlt : i < p.code.length
  · have h1 : (i : Int) < (p.code.length : Int) := by omega
    have w1 : IntKind.i64.wrap ((i : Int) + 1) = ((i + 1 : Nat) : Int) := wrap_i64 (by omega) (by omega)
    have w2 : IntKind.i64.wrap (0 - (i : Int)) = -(i : Int) := by rw [wrap_i64 (by omega) (by omega)]; omega
    have w3 : IntKind.i64.wrap ((p.code.length : Int) - i) = (p.code.length : Int) - i := wrap_i64 (by omega) (by omega)
    have te : jmpOk p i = !((decide (formI (ix p.code i).op = 6) || decide (formI (ix p.code i).op = 7)) && (decide ((ix p.code i).imm < -(i : Int)) || decide ((ix p.code i).imm ≥ (p.code.length : Int) - i))) := rfl
    simp only [g1, g2, g3, g4, g5, g6, g7, allN_true, cond_true, Nat.le_refl, decide_true, pl_eq, h1, w1, w2, w3]
    simp only [bor, band]
    simp only [g8, cond_true]
    cases hc : (decide (formI (ix p.code i).op = 6) || decide (formI (ix p.code i).op = 7)) && (decide ((ix p.code i).imm < -(i : Int)) || decide ((ix p.code i).imm ≥ (p.code.length : Int) - i)) with
    | true =>
      rw [hc] at te
      have : jmpsF p = false := allN_false hlt te
      rw [this]
      exact .rfl
    | false =>
      rw [hc] at te
      refine ⟨i + 1, ⟨hlt, fun j hj => ?_⟩, .ofL (weakT ⟨le_is rfl, le_is rfl, le_is rfl, le_is rfl, trivial⟩ ⟨rfl, trivial⟩ (Nat.le_refl _) rfl), by omega⟩
      by_cases hji : j = i
      · subst hji; exact te
      · exact hp j (by omega)
  · have h1 : ¬ (i : Int) < (p.code.length : Int) := by omega
    simp only [h1, decide_false, cond_false]
    have : jmpsF p = true := allN_iff.2 fun j hj => hp j (by omega)
    rw [this]
    exact .rfl
theorem TI3ok : TabOk Try.prog TI3 := mkT2_ok (clok_image.app clok_slices) trivial trivial ⟨sk_idi, sk_imt, trivial⟩ trivial
theorem r_ir (p : Prog) (r : XV) : (quietGo TI3 80 (callI TI3 80 20) 27 [e_Prog p] (fun v => ResLe v r)) = (bif bif decide ((↑(List.length (Prog.code p)) : Int) ≥ 1) then decide ((↑(List.length (Prog.code p)) : Int) ≥ 1) else true then bif bif bif decide ((↑(List.length
 (Prog.code p)) : Int) ≥ 1) then decide ((↑(List.length (Prog.code p)) : Int) ≤ 2000) else false then bif decide ((↑(List.length (Prog.code p)) : Int) ≥ 1) then decide
 ((↑(List.length (Prog.code p)) : Int) ≤ 2000) else false else true then bif bif bif bif decide ((↑(List.length (Prog.code p)) : Int) ≥ 1) then decide ((↑(List.length
 (Prog.code p)) : Int) ≤ 2000) else false then decide (Prog.size p ≥ 0) else false then bif bif decide ((↑(List.length (Prog.code p)) : Int) ≥ 1) then decide ((↑(List.length
 (Prog.code p)) : Int) ≤ 2000) else false then decide (Prog.size p ≥ 0) else false else true then bif bif bif bif bif decide ((↑(List.length (Prog.code p)) : Int)
 ≥ 1) then decide ((↑(List.length (Prog.code p)) : Int) ≤ 2000) else false then decide (Prog.size p ≥ 0) else false then decide (Prog.size p ≤ 65536) else false then
 bif bif bif decide ((↑(List.length (Prog.code p)) : Int) ≥ 1) then decide ((↑(List.length (Prog.code p)) : Int) ≤ 2000) else false then decide (Prog.size p ≥ 0)
 else false then decide (Prog.size p ≤ 65536) else false else true then bif bif bif bif bif decide ((↑(List.length (Prog.code p)) : Int) ≥ 1) then decide ((↑(List.length
 (Prog.code p)) : Int) ≤ 2000) else false then decide (Prog.size p ≥ 0) else false then decide (Prog.size p ≤ 65536) else false then decide ((↑(List.length (Prog.data
 p)) : Int) ≤ Prog.size p) else false then ∃ (s : List Ins), ArgsLe [e_row 5 e_Ins (Prog.code p), .clo 52 []] [e_row 5 e_Ins s, .clo 52 []] ∧ PreIs (List.length s
 ≤ 1000000000) ∧ ∀ (y : Int), y = idxF wrgF s → bif bif bif bif bif bif decide ((↑(List.length (Prog.code p)) : Int) ≥ 1) then decide ((↑(List.length (Prog.code p))
 : Int) ≤ 2000) else false then decide (Prog.size p ≥ 0) else false then decide (Prog.size p ≤ 65536) else false then decide ((↑(List.length (Prog.data p)) : Int)
 ≤ Prog.size p) else false then !decide (y ≥ 0) else false then ∃ (s : Prog), ArgsLe [e_Prog p] [e_Prog s] ∧ PreIs (Prog.wf s) ∧ ∀ (y_1 : Int), (y_1 = if jmpsF s
 = true then (0 : Int) else (4 : Int)) → ResLe (.bool (bif bif bif bif bif bif decide ((↑(List.length (Prog.code p)) : Int) ≥ 1) then decide ((↑(List.length (Prog.code
 p)) : Int) ≤ 2000) else false then decide (Prog.size p ≥ 0) else false then decide (Prog.size p ≤ 65536) else false then decide ((↑(List.length (Prog.data p)) :
 Int) ≤ Prog.size p) else false then !decide (y ≥ 0) else false then decide (y_1 = 0) else false)) r else bif !bif bif bif bif bif decide ((↑(List.length (Prog.code
 p)) : Int) ≥ 1) then decide ((↑(List.length (Prog.code p)) : Int) ≤ 2000) else false then decide (Prog.size p ≥ 0) else false then decide (Prog.size p ≤ 65536) else
 false then decide ((↑(List.length (Prog.data p)) : Int) ≤ Prog.size p) else false then !decide (y ≥ 0) else false then ResLe (.bool false) r else False else bif
 !bif bif bif bif decide ((↑(List.length (Prog.code p)) : Int) ≥ 1) then decide ((↑(List.length (Prog.code p)) : Int) ≤ 2000) else false then decide (Prog.size p
 ≥ 0) else false then decide (Prog.size p ≤ 65536) else false then decide ((↑(List.length (Prog.data p)) : Int) ≤ Prog.size p) else false then ResLe (.bool false)
 r else False else False else False else False
else False) := by kernel_rfl
theorem sk_imr : SkOk Try.prog (27, rprS) := skOf_ok fun p hw => by
  have hw : p.wf := hw
  have hl := hw.1.2
  show Pure _ _ (cons [e_Prog p]) (con (.bool (rightProg p)))
  refine pureR (u := 80) (k := 20) mix TI3ok ?_
  refine Eq.mpr (r_ir p _) ?_
  simp only [g1, g2, g3, g4, g5, g6, g7, allN_true, cond_true, Nat.le_refl, decide_true, pl_eq]
  simp only [bor, band]
  have e : (decide ((p.code.length : Int) ≥ 1) && decide ((p.code.length : Int) ≤ 2000) && decide (p.size ≥ 0) && decide (p.size ≤ 65536) && decide ((p.data.length : Int) ≤ p.size)) = decide (1 ≤ p.code.length ∧ p.code.length ≤ 2000 ∧ 0 ≤ p.size ∧ p.size ≤ 65536 ∧ (p.data.length : Int) ≤ p.size) := by
    rw [Bool.eq_iff_iff]
    simp only [Bool.and_eq_true, decide_eq_true_eq]
    omega
  rw [e]
  unfold rightProg
  cases hsz : decide (1 ≤ p.code.length ∧ p.code.length ≤ 2000 ∧ 0 ≤ p.size ∧ p.size ≤ 65536 ∧ (p.data.length : Int) ≤ p.size) with
  | false => exact .rfl
  | true =>
  have hsz := of_decide_eq_true hsz
  refine ⟨p.code, .rfl, ⟨by show p.code.length ≤ 1000000000; omega⟩, ?_⟩
  intro y hy
  replace hy : y = idxF wrgF p.code := hy
  subst hy
  simp only [idxF_ge, Bool.true_and]
  have e2 : p.code.any wrgF = !allN (fun n => rightIns (ix p.code n)) p.code.length := by
    rw [Bool.eq_iff_iff, List.any_eq_true, Bool.not_eq_true', ← Bool.not_eq_true, allN_iff]
    constructor
    · rintro ⟨x, hx, h⟩ h2
      obtain ⟨j, hj, rfl⟩ := List.mem_iff_getElem.1 hx
      have := h2 j hj
      rw [ix_lt hj] at this
      simp [wrgF, this] at h
    · intro h
      apply Classical.byContradiction
      intro h2
      refine h fun i hi => ?_
      apply Classical.byContradiction
      intro h3
      exact h2 ⟨_, ix_mem hi, by simp [wrgF, h3]⟩
  rw [e2]
  cases hr : allN (fun n => rightIns (ix p.code n)) p.code.length with
  | false => exact .rfl
  | true =>
  refine ⟨p, .rfl, ⟨hw⟩, ?_⟩
  intro y hy
  replace hy : y = if jmpsF p then 0 else 4 := hy
  subst hy
  rw [tgs_eq hr]
  cases jmpsF p <;> exact .rfl
end Go.Proofs.Ythmlnmkbeohojaa

/- How a program begins. -/
namespace Go.Proofs.Ythmlnmkbeohojaa
open Go.Ra
set_option linter.unusedVariables false
set_option linter.unusedSimpArgs false
def TJ0 : Tab := mkT2 qq (cl_state ++ cl_seq ++ cl_ref15 ++ cl_ref1) [] [] [(27, rprS), (29, rprS)] []
def zSide : Side := ⟨fun _ => 0, fun _ => 0, ⟨0, 0, 0⟩, 0, false, 0⟩
def zStt : Stt := ⟨0, zSide, zSide, [], [], [], [], [], [], [], [], [], ⟨0, 0, 0⟩, 0, 0, 0⟩
/-- The memory that a program begins with. -/
def memF (p : Prog) : List Int := tabL p.size.toNat fun i => bif decide (i < p.data.length) then ix p.data i else 0
def startF (p : Prog) : Stt := { zStt with mem := memF p }
/-- How a program begins. -/
def firstF (p : Prog) : Stt := if rightProg p then startF p else zStt
def fstS : List XV → Option ((XV → Prop) → Prop) := skOf (fun p : Prog => [e_Prog p]) (fun p => p.wf) (fun p => firstF p) (fun y => e_Stt y)
theorem TJ0ok : TabOk Try.prog TJ0 := mkT2_ok (((clok_state.app clok_seq).app clok_ref15).app clok_ref1) trivial trivial ⟨sk_imr, sk_rpr, trivial⟩ trivial
theorem r_f1 (p : Prog) (r : XV) : (quietGo TJ0 80 (callI TJ0 80 20) 14 [e_Prog p] (fun v => ResLe v r)) = (∃ (s : Prog), ArgsLe [e_Prog p] [e_Prog s] ∧ PreIs (Prog.wf s) ∧ ∀ (y : Bool), y = rightProg s → bif !y then ResLe (.agg 92 [.int .i64 0, .agg 38 [.tab 16 1
 fun x => .int .u32 0, .tab 16 1 fun x => .int .i64 0, .agg 3 [.int .i64 0, .int .i64 0, .int .i64 0], .int .i64 0, .bool false, .int .i64 0], .agg 38 [.tab 16 1
 fun x => .int .u32 0, .tab 16 1 fun x => .int .i64 0, .agg 3 [.int .i64 0, .int .i64 0, .int .i64 0], .int .i64 0, .bool false, .int .i64 0], .row true 0 0 fun x
 => .unk, .row true 0 0 fun x => .unk, .row true 0 0 fun x => .unk, .row true 0 0 fun x => .unk, .row true 0 0 fun x => .unk, .row true 0 0 fun x => .unk, .row true
 0 0 fun x => .unk, .row true 0 0 fun x => .unk, .row true 0 0 fun x => .unk, .agg 3 [.int .i64 0, .int .i64 0, .int .i64 0], .int .i64 0, .int .i64 0, .int .i64
 0]) r else bif decide (0 ≤ Prog.size p) then bif decide (Int.toNat (Prog.size p) * 1 ≤ 140737488355328) then bif Nat.beq (Int.toNat (Prog.size p)) (Int.toNat (Prog.size
 p)) then bif decide (Int.toNat (Prog.size p) ≤ Int.toNat (Prog.size p)) then ResLe (.agg 92 [.int .i64 0, .agg 38 [.tab 16 1 fun x => .int .u32 0, .tab 16 1 fun
 x => .int .i64 0, .agg 3 [.int .i64 0, .int .i64 0, .int .i64 0], .int .i64 0, .bool false, .int .i64 0], .agg 38 [.tab 16 1 fun x => .int .u32 0, .tab 16 1 fun
 x => .int .i64 0, .agg 3 [.int .i64 0, .int .i64 0, .int .i64 0], .int .i64 0, .bool false, .int .i64 0], .row true 0 0 fun x => .unk, .row true 0 0 fun x => .unk,
 .row true 0 0 fun x => .unk, .row true 0 0 fun x => .unk, .row true 0 0 fun x => .unk, .row true 0 0 fun x => .unk, .row true 0 0 fun x => .unk, .row false 1 (Int.toNat
 (Prog.size p)) fun i => .int .u8 (bif decide (i < List.length (Prog.data p)) then ix (Prog.data p) i else (0 : Int)), .row true 0 0 fun x => .unk, .agg 3 [.int .i64
 0, .int .i64 0, .int .i64 0], .int .i64 0, .int .i64 0, .int .i64 0]) r else False else False else False else False) := by kernel_rfl
theorem lq_z {α : Type} [Inhabited α] {es : Nat} {en : α → XV} : leQ (con (.row true 0 0 fun x => .unk)) (con (e_row es en [])) := lq_lit0
theorem z_lq : leQ (con (.agg 92 [.int .i64 0, .agg 38 [.tab 16 1 fun x => .int .u32 0, .tab 16 1 fun x => .int .i64 0, .agg 3 [.int .i64 0, .int .i64 0, .int .i64 0], .int .i64 0, .bool false, .int .i64 0], .agg 38 [.tab 16 1 fun x => .int .u32 0, .tab 16 1 fun x => .int .i64 0, .agg 3 [.int .i64 0, .int .i64 0, .int .i64 0], .int .i64 0, .bool false, .int .i64 0], .row true 0 0 fun x => .unk, .row true 0 0 fun x => .unk, .row true 0 0 fun x => .unk, .row true 0 0 fun x => .unk, .row true 0 0 fun x => .unk, .row true 0 0 fun x => .unk, .row true 0 0 fun x => .unk, .row true 0 0 fun x => .unk, .row true 0 0 fun x => .unk, .agg 3 [.int .i64 0, .int .i64 0, .int .i64 0], .int .i64 0, .int .i64 0, .int .i64 0])) (con (e_Stt zStt)) :=
  lq_agg (lqs_cons (.refl _) (lqs_cons (.refl _) (lqs_cons (.refl _) (lqs_cons lq_z (lqs_cons lq_z (lqs_cons lq_z (lqs_cons lq_z (lqs_cons lq_z (lqs_cons lq_z (lqs_cons lq_z (lqs_cons lq_z (lqs_cons lq_z (lqs_cons (.refl _) (lqs_cons (.refl _) (lqs_cons (.refl _) (lqs_cons (.refl _) lqs_nil))))))))))))))))
theorem mem_len {p : Prog} : (memF p).length = p.size.toNat := tabL_len
theorem m_lq {p : Prog} : leQ (con (.agg 92 [.int .i64 0, .agg 38 [.tab 16 1 fun x => .int .u32 0, .tab 16 1 fun x => .int .i64 0, .agg 3 [.int .i64 0, .int .i64 0, .int .i64 0], .int .i64 0, .bool false, .int .i64 0], .agg 38 [.tab 16 1 fun x => .int .u32 0, .tab 16 1 fun x => .int .i64 0, .agg 3 [.int .i64 0, .int .i64 0, .int .i64 0], .int .i64 0, .bool false, .int .i64 0], .row true 0 0 fun x => .unk, .row true 0 0 fun x => .unk, .row true 0 0 fun x => .unk, .row true 0 0 fun x => .unk, .row true 0 0 fun x => .unk, .row true 0 0 fun x => .unk, .row true 0 0 fun x => .unk, .row false 1 p.size.toNat fun i => .int .u8 (bif decide (i < p.data.length) then ix p.data i else 0), .row true 0 0 fun x => .unk, .agg 3 [.int .i64 0, .int .i64 0, .int .i64 0], .int .i64 0, .int .i64 0, .int .i64 0])) (con (e_Stt (startF p))) :=
  lq_agg (lqs_cons (.refl _) (lqs_cons (.refl _) (lqs_cons (.refl _) (lqs_cons lq_z (lqs_cons lq_z (lqs_cons lq_z (lqs_cons lq_z (lqs_cons lq_z (lqs_cons lq_z (lqs_cons lq_z (lqs_cons (lq_erow mem_len.symm (.inl rfl) fun i hi => by
    show leQ _ (con (e_u8 (ix (memF p) i)))
    unfold memF
    rw [ix_tabL hi]
    exact .refl _) (lqs_cons lq_z (lqs_cons (.refl _) (lqs_cons (.refl _) (lqs_cons (.refl _) (lqs_cons (.refl _) lqs_nil))))))))))))))))
theorem sk_first : SkOk Try.prog (14, fstS) := skOf_ok fun p hw => by
  have hw : p.wf := hw
  show Pure _ _ (cons [e_Prog p]) (con (e_Stt (firstF p)))
  refine pureR (u := 80) (k := 20) mix TJ0ok ?_
  refine Eq.mpr (r_f1 p _) ?_
  refine ⟨p, .rfl, ⟨hw⟩, ?_⟩
  intro y hy
  replace hy : y = rightProg p := hy
  subst hy
  unfold firstF
  cases hr : rightProg p with
  | false => exact ⟨z_lq⟩
  | true =>
    have hr' := hr
    simp only [rightProg, Bool.and_eq_true, decide_eq_true_eq] at hr'
    have h1 : (0 : Int) ≤ p.size := by omega
    have h2 : p.size.toNat * 1 ≤ 140737488355328 := by omega
    simp only [g1, g2, g3, g4, g5, g6, g7, allN_true, cond_true, Nat.le_refl, decide_true, pl_eq, h1, h2, Nat.beq_refl, Bool.not_true]
    exact ⟨m_lq⟩
end Go.Proofs.Ythmlnmkbeohojaa

/- When two states are one. -/
namespace Go.Proofs.Ythmlnmkbeohojaa
open Go.Ra
set_option linter.unusedVariables false
set_option linter.unusedSimpArgs false
def sideB (x y : Side) : Bool := allN (fun i => decide (x.regs i = y.regs i)) 16 && (allN (fun i => decide (x.ready i = y.ready i)) 16 && ((decide (x.pos.block = y.pos.block) && (decide (x.pos.index = y.pos.index) && (decide (x.pos.base = y.pos.base) && true))) && (decide (x.wait = y.wait) && ((x.halted == y.halted) && (decide (x.done = y.done) && true)))))
def trpB (x y : Trp) : Bool := decide (x.kind = y.kind) && (decide (x.step = y.step) && (decide (x.pc = y.pc) && true))
def hdB (a b : Stt) : Bool := decide (a.cycle = b.cycle) && (sideB a.a b.a && (sideB a.e b.e && (trpB a.trap b.trap && (decide (a.lats = b.lats) && (decide (a.picks = b.picks) && (decide (a.tags = b.tags) && (decide (a.mem = b.mem) && (decide ((a.ldq.length : Int) = b.ldq.length) && (decide ((a.saq.length : Int) = b.saq.length) && (decide ((a.table.length : Int) = b.table.length) && decide ((a.writes.length : Int) = b.writes.length)))))))))))
/-- Are two states one? -/
def sameF (a b : Stt) : Bool := hdB a b && (decide (a.ldq = b.ldq) && (decide (a.saq = b.saq) && (decide (a.table = b.table) && (decide (a.writes = b.writes) && (decide (a.sdq = b.sdq) && (decide (a.aeq = b.aeq) && (decide (a.abq = b.abq) && decide (a.ebq = b.ebq))))))))
def samS : List XV → Option ((XV → Prop) → Prop) := skOf (fun p : Stt × Stt => [e_Stt p.1, e_Stt p.2]) (fun p => p.1.ok ∧ p.2.ok) (fun p => sameF p.1 p.2) (fun y => .bool y)
theorem sideB_fold (x y : Side) : (allN (fun i => decide (x.regs i = y.regs i)) 16 && (allN (fun i => decide (x.ready i = y.ready i)) 16 && ((decide (x.pos.block = y.pos.block) && (decide (x.pos.index = y.pos.index) && (decide (x.pos.base = y.pos.base) && true))) && (decide (x.wait = y.wait) && ((x.halted == y.halted) && (decide (x.done = y.done) && true)))))) = sideB x y := rfl
theorem trpB_fold (x y : Trp) : (decide (x.kind = y.kind) && (decide (x.step = y.step) && (decide (x.pc = y.pc) && true))) = trpB x y := rfl
theorem slotB (x y : Slot) : (decide (x.tag = y.tag) && ((x.full == y.full) && (decide (x.val = y.val) && true))) = decide (x = y) := by
  obtain ⟨a, b, c⟩ := x
  obtain ⟨a', b', c'⟩ := y
  rw [Bool.eq_iff_iff]; simp
theorem entB (x y : Entry) : (decide (x.addr = y.addr) && (decide (x.size = y.size) && (decide (x.step = y.step) && ((x.known == y.known) && (decide (x.val = y.val) && true))))) = decide (x = y) := by
  obtain ⟨a, b, c, d, e⟩ := x
  obtain ⟨a', b', c', d', e'⟩ := y
  rw [Bool.eq_iff_iff]; simp
theorem reqB (x y : Req) : ((x.store == y.store) && (decide (x.op = y.op) && (decide (x.addr = y.addr) && (decide (x.size = y.size) && (decide (x.val = y.val) && (decide (x.left = y.left) && (decide (x.reg = y.reg) && (decide (x.tag = y.tag) && true)))))))) = decide (x = y) := by
  obtain ⟨a, b, c, d, e, f, g, h⟩ := x
  obtain ⟨a', b', c', d', e', f', g', h'⟩ := y
  rw [Bool.eq_iff_iff]; simp
theorem wrB (x y : Wr) : (decide (x.addr = y.addr) && (decide (x.size = y.size) && (decide (x.val = y.val) && true))) = decide (x = y) := by
  obtain ⟨a, b, c⟩ := x
  obtain ⟨a', b', c'⟩ := y
  rw [Bool.eq_iff_iff]; simp
theorem sameF_iff {a b : Stt} : sameF a b = true ↔ hdB a b = true ∧ a.ldq = b.ldq ∧ a.saq = b.saq ∧ a.table = b.table ∧ a.writes = b.writes ∧ a.sdq = b.sdq ∧ a.aeq = b.aeq ∧ a.abq = b.abq ∧ a.ebq = b.ebq := by
  simp only [sameF, Bool.and_eq_true, decide_eq_true_eq]
theorem sideB_self (x : Side) : sideB x x = true := by simp [sideB, allN_true]
theorem trpB_self (x : Trp) : trpB x x = true := by simp [trpB]
theorem sameF_self (a : Stt) : sameF a a = true := by
  rw [sameF_iff]
  refine ⟨?_, rfl, rfl, rfl, rfl, rfl, rfl, rfl, rfl⟩
  simp [hdB, sideB_self, trpB_self]
end Go.Proofs.Ythmlnmkbeohojaa

/- Same, as package state tells: rows that are one. -/
namespace Go.Proofs.Ythmlnmkbeohojaa
open Go.Ra
set_option linter.unusedVariables false
set_option linter.unusedSimpArgs false
def TE0 : Tab := mkT2 qq cl_slices [] [] [] []
def eqSlotS : List XV → Option ((XV → Prop) → Prop) := skOf (fun p : List Slot × List Slot => [e_row 3 e_Slot p.1, e_row 3 e_Slot p.2]) (fun p => p.1.length ≤ 1000000) (fun p => decide (p.1 = p.2)) (fun y => .bool y)
def eqSlotSt (l m : List Slot) (i : Nat) : XSt := ⟨[(0, e_row 3 e_Slot l), (1, e_row 3 e_Slot m), (13, .int .i64 i), (12, .int .i64 l.length)], [], 0⟩
def eqWS : List XV → Option ((XV → Prop) → Prop) := skOf (fun p : List Int × List Int => [e_row 1 e_u32 p.1, e_row 1 e_u32 p.2]) (fun p => p.1.length ≤ 1000000) (fun p => decide (p.1 = p.2)) (fun y => .bool y)
def eqWSt (l m : List Int) (i : Nat) : XSt := ⟨[(0, e_row 1 e_u32 l), (1, e_row 1 e_u32 m), (13, .int .i64 i), (12, .int .i64 l.length)], [], 0⟩
def eqBS : List XV → Option ((XV → Prop) → Prop) := skOf (fun p : List Bool × List Bool => [e_row 1 e_bool p.1, e_row 1 e_bool p.2]) (fun p => p.1.length ≤ 1000000) (fun p => decide (p.1 = p.2)) (fun y => .bool y)
def eqBSt (l m : List Bool) (i : Nat) : XSt := ⟨[(0, e_row 1 e_bool l), (1, e_row 1 e_bool m), (13, .int .i64 i), (12, .int .i64 l.length)], [], 0⟩
def eqEntryS : List XV → Option ((XV → Prop) → Prop) := skOf (fun p : List Entry × List Entry => [e_row 5 e_Entry p.1, e_row 5 e_Entry p.2]) (fun p => p.1.length ≤ 1000000) (fun p => decide (p.1 = p.2)) (fun y => .bool y)
def eqEntrySt (l m : List Entry) (i : Nat) : XSt := ⟨[(0, e_row 5 e_Entry l), (1, e_row 5 e_Entry m), (13, .int .i64 i), (12, .int .i64 l.length)], [], 0⟩
def eqReqS : List XV → Option ((XV → Prop) → Prop) := skOf (fun p : List Req × List Req => [e_row 8 e_Req p.1, e_row 8 e_Req p.2]) (fun p => p.1.length ≤ 1000000) (fun p => decide (p.1 = p.2)) (fun y => .bool y)
def eqReqSt (l m : List Req) (i : Nat) : XSt := ⟨[(0, e_row 8 e_Req l), (1, e_row 8 e_Req m), (13, .int .i64 i), (12, .int .i64 l.length)], [], 0⟩
def eqYS : List XV → Option ((XV → Prop) → Prop) := skOf (fun p : List Int × List Int => [e_row 1 e_u8 p.1, e_row 1 e_u8 p.2]) (fun p => p.1.length ≤ 1000000) (fun p => decide (p.1 = p.2)) (fun y => .bool y)
def eqYSt (l m : List Int) (i : Nat) : XSt := ⟨[(0, e_row 1 e_u8 l), (1, e_row 1 e_u8 m), (13, .int .i64 i), (12, .int .i64 l.length)], [], 0⟩
def eqWrS : List XV → Option ((XV → Prop) → Prop) := skOf (fun p : List Wr × List Wr => [e_row 3 e_Wr p.1, e_row 3 e_Wr p.2]) (fun p => p.1.length ≤ 1000000) (fun p => decide (p.1 = p.2)) (fun y => .bool y)
def eqWrSt (l m : List Wr) (i : Nat) : XSt := ⟨[(0, e_row 3 e_Wr l), (1, e_row 3 e_Wr m), (13, .int .i64 i), (12, .int .i64 l.length)], [], 0⟩
def TE1 : Tab := mkT2 qq cl_state [] [] [(40, eqSlotS), (41, eqWS), (42, eqBS), (43, eqEntryS), (44, eqReqS), (45, eqYS), (46, eqWrS)] []
def _root_.Go.Ra.Stt.lens (s : Stt) : Prop := s.ldq.length ≤ 1000000 ∧ s.sdq.length ≤ 1000000 ∧ s.aeq.length ≤ 1000000 ∧ s.abq.length ≤ 1000000 ∧ s.ebq.length ≤ 1000000 ∧ s.saq.length ≤ 1000000 ∧ s.table.length ≤ 1000000 ∧ s.mem.length ≤ 1000000 ∧ s.writes.length ≤ 1000000
def smlS : List XV → Option ((XV → Prop) → Prop) := skOf (fun p : Stt × Stt => [e_Stt p.1, e_Stt p.2]) (fun p => p.1.lens) (fun p => sameF p.1 p.2) (fun y => .bool y)
theorem TE0ok : TabOk Try.prog TE0 := mkT2_ok clok_slices trivial trivial trivial trivial
theorem r_eqSlot0 (l m : List Slot) (r : XV) : (goQ Try.prog TE0 [(.tmp 4)] r (.run c_slices_Equal_Slot_Slot) [] ⟨envX 0 [e_row 3 e_Slot l, e_row 3 e_Slot m], [], 0⟩) = (bif decide ¬(↑(List.length l) : Int) = (↑(List.length m) : Int) then ResLe (.bool false) r
else LoopAt (Ok Try.prog (Tab.q TE0)) c_slices_Equal_Slot_Slot_l1
 (XSt.mk [(13, .int .i64 0), (12, .int .i64 (↑(List.length l) : Int)), (4, .bool false), (0, e_row 3 e_Slot l), (1, e_row 3 e_Slot m)] [] 0) [Frm.blk 0, Frm.seq c_slices_Equal_Slot_Slot_p1]
 (finQR [AR.tmp 4] r)) := by kernel_rfl
theorem r_eqSlot1 (l m : List Slot) (i : Nat) (r : XV) (A : XSt → Prop) : (goQ Try.prog TE0 [(.tmp 4)] r (.run c_slices_Equal_Slot_Slot_l1) [.lp c_slices_Equal_Slot_Slot_l1 A, .blk 0, .seq c_slices_Equal_Slot_Slot_p1] (eqSlotSt l m i)) = (bif decide ((↑i : Int) < (↑(List.length l) : Int)) then bif decide ((↑i : Int) < (↑(List.length l) : Int)) then bif decide ((↑i : Int) < (↑(List.length m) :
 Int)) then bif !(decide (Slot.tag (ix l i) = Slot.tag (ix m i)) && (Slot.full (ix l i) == Slot.full (ix m i) && (decide (Slot.val (ix l i) = Slot.val (ix m i)) &&
 true))) then ResLe (.bool false) r else A (XSt.mk [(13, .int .i64 (IntKind.wrap .i64 ((↑i : Int) + (1 : Int)))), (0, e_row 3 e_Slot l), (1, e_row 3 e_Slot m), (12,
 .int .i64 (↑(List.length l) : Int))] [] 0) else False else False
else ResLe (.bool true) r) := by kernel_rfl
theorem sk_eqSlot : SkOk Try.prog (40, eqSlotS) := skOf_ok fun ⟨l, m⟩ h => by
  have hl : l.length ≤ 1000000 := h
  show Pure _ _ (cons [e_row 3 e_Slot l, e_row 3 e_Slot m]) (con (.bool (decide (l = m))))
  refine pureQ mix TE0ok t_slices_Equal_Slot_Slot (Nat.le_of_ble_eq_true rfl) ?_
  refine Eq.mpr (r_eqSlot0 l m _) ?_
  by_cases hn : l.length = m.length
  · have hn' : ¬ ¬ (l.length : Int) = (m.length : Int) := by omega
    simp only [hn', decide_false, cond_false]
    refine loopQ mix TE0ok (fun i : Nat => eqSlotSt l m i) (fun i => i ≤ l.length ∧ ∀ j, j < i → ix l j = ix m j) (fun i => l.length - i) 0 ⟨Nat.zero_le _, fun j hj => by omega⟩ (.of (weakX ⟨rfl, rfl, rfl, rfl, trivial⟩ trivial (Nat.le_refl _))) ?_
    rintro i ⟨hi, hp⟩
    refine Eq.mpr (r_eqSlot1 l m i _ _) ?_
    by_cases hlt : i < l.length
    · have h1 : (i : Int) < (l.length : Int) := by omega
      have h2 : (i : Int) < (m.length : Int) := by omega
      have w1 : IntKind.i64.wrap ((i : Int) + 1) = ((i + 1 : Nat) : Int) := wrap_i64 (by omega) (by omega)
      simp only [g1, g2, g3, g4, g5, g6, g7, allN_true, cond_true, Nat.le_refl, decide_true, pl_eq, h1, h2, w1]
      · skip
        simp only [slotB]
        refine cnd2 (fun h => ?_) (fun h => ?_) <;> simp only [Bool.not_eq_true', Bool.not_eq_false', decide_eq_false_iff_not, decide_eq_true_eq] at h
        · rw [decide_eq_false fun e => h (by rw [e])]
          exact .rfl
        · refine ⟨i + 1, ⟨hlt, fun j hj => ?_⟩, .of (weakX ⟨rfl, rfl, rfl, rfl, trivial⟩ trivial (Nat.le_refl _)), by omega⟩
          by_cases hji : j = i
          · subst hji; exact h
          · exact hp j (by omega)
    · have h1 : ¬ (i : Int) < (l.length : Int) := by omega
      simp only [h1, decide_false, cond_false]
      rw [decide_eq_true (ix_ext hn fun j hj => hp j (by omega))]
      exact .rfl
  · have hn' : ¬ (l.length : Int) = (m.length : Int) := by omega
    simp only [hn', not_false_eq_true, decide_true, cond_true]
    rw [decide_eq_false fun e => hn (by rw [e])]
    exact .rfl
theorem r_eqW0 (l m : List Int) (r : XV) : (goQ Try.prog TE0 [(.tmp 4)] r (.run c_slices_Equal_uint32_uint32) [] ⟨envX 0 [e_row 1 e_u32 l, e_row 1 e_u32 m], [], 0⟩) = (bif decide ¬(↑(List.length l) : Int) = (↑(List.length m) : Int) then ResLe (.bool false) r
else LoopAt (Ok Try.prog (Tab.q TE0)) c_slices_Equal_uint32_uint32_l1
 (XSt.mk [(13, .int .i64 0), (12, .int .i64 (↑(List.length l) : Int)), (4, .bool false), (0, e_row 1 e_u32 l), (1, e_row 1 e_u32 m)] [] 0) [Frm.blk 0, Frm.seq c_slices_Equal_uint32_uint32_p1]
 (finQR [AR.tmp 4] r)) := by kernel_rfl
theorem r_eqW1 (l m : List Int) (i : Nat) (r : XV) (A : XSt → Prop) : (goQ Try.prog TE0 [(.tmp 4)] r (.run c_slices_Equal_uint32_uint32_l1) [.lp c_slices_Equal_uint32_uint32_l1 A, .blk 0, .seq c_slices_Equal_uint32_uint32_p1] (eqWSt l m i)) = (bif decide ((↑i : Int) < (↑(List.length l) : Int)) then bif decide ((↑i : Int) < (↑(List.length l) : Int)) then bif decide ((↑i : Int) < (↑(List.length m) :
 Int)) then bif decide ¬ix l i = ix m i then ResLe (.bool false) r else A (XSt.mk [(13, .int .i64 (IntKind.wrap .i64 ((↑i : Int) + (1 : Int)))), (0, e_row 1 e_u32
 l), (1, e_row 1 e_u32 m), (12, .int .i64 (↑(List.length l) : Int))] [] 0) else False else False
else ResLe (.bool true) r) := by kernel_rfl
theorem sk_eqW : SkOk Try.prog (41, eqWS) := skOf_ok fun ⟨l, m⟩ h => by
  have hl : l.length ≤ 1000000 := h
  show Pure _ _ (cons [e_row 1 e_u32 l, e_row 1 e_u32 m]) (con (.bool (decide (l = m))))
  refine pureQ mix TE0ok t_slices_Equal_uint32_uint32 (Nat.le_of_ble_eq_true rfl) ?_
  refine Eq.mpr (r_eqW0 l m _) ?_
  by_cases hn : l.length = m.length
  · have hn' : ¬ ¬ (l.length : Int) = (m.length : Int) := by omega
    simp only [hn', decide_false, cond_false]
    refine loopQ mix TE0ok (fun i : Nat => eqWSt l m i) (fun i => i ≤ l.length ∧ ∀ j, j < i → ix l j = ix m j) (fun i => l.length - i) 0 ⟨Nat.zero_le _, fun j hj => by omega⟩ (.of (weakX ⟨rfl, rfl, rfl, rfl, trivial⟩ trivial (Nat.le_refl _))) ?_
    rintro i ⟨hi, hp⟩
    refine Eq.mpr (r_eqW1 l m i _ _) ?_
    by_cases hlt : i < l.length
    · have h1 : (i : Int) < (l.length : Int) := by omega
      have h2 : (i : Int) < (m.length : Int) := by omega
      have w1 : IntKind.i64.wrap ((i : Int) + 1) = ((i + 1 : Nat) : Int) := wrap_i64 (by omega) (by omega)
      simp only [g1, g2, g3, g4, g5, g6, g7, allN_true, cond_true, Nat.le_refl, decide_true, pl_eq, h1, h2, w1]
      · skip
        refine cnd2 (fun h => ?_) (fun h => ?_) <;> simp only [decide_eq_true_eq, decide_eq_false_iff_not, Classical.not_not] at h
        · rw [decide_eq_false fun e => h (by rw [e])]
          exact .rfl
        · refine ⟨i + 1, ⟨hlt, fun j hj => ?_⟩, .of (weakX ⟨rfl, rfl, rfl, rfl, trivial⟩ trivial (Nat.le_refl _)), by omega⟩
          by_cases hji : j = i
          · subst hji; exact h
          · exact hp j (by omega)
    · have h1 : ¬ (i : Int) < (l.length : Int) := by omega
      simp only [h1, decide_false, cond_false]
      rw [decide_eq_true (ix_ext hn fun j hj => hp j (by omega))]
      exact .rfl
  · have hn' : ¬ (l.length : Int) = (m.length : Int) := by omega
    simp only [hn', not_false_eq_true, decide_true, cond_true]
    rw [decide_eq_false fun e => hn (by rw [e])]
    exact .rfl
theorem r_eqB0 (l m : List Bool) (r : XV) : (goQ Try.prog TE0 [(.tmp 4)] r (.run c_slices_Equal_bool_bool) [] ⟨envX 0 [e_row 1 e_bool l, e_row 1 e_bool m], [], 0⟩) = (bif decide ¬(↑(List.length l) : Int) = (↑(List.length m) : Int) then ResLe (.bool false) r
else LoopAt (Ok Try.prog (Tab.q TE0)) c_slices_Equal_bool_bool_l1
 (XSt.mk [(13, .int .i64 0), (12, .int .i64 (↑(List.length l) : Int)), (4, .bool false), (0, e_row 1 e_bool l), (1, e_row 1 e_bool m)] [] 0) [Frm.blk 0, Frm.seq c_slices_Equal_bool_bool_p1]
 (finQR [AR.tmp 4] r)) := by kernel_rfl
theorem r_eqB1 (l m : List Bool) (i : Nat) (r : XV) (A : XSt → Prop) : (goQ Try.prog TE0 [(.tmp 4)] r (.run c_slices_Equal_bool_bool_l1) [.lp c_slices_Equal_bool_bool_l1 A, .blk 0, .seq c_slices_Equal_bool_bool_p1] (eqBSt l m i)) = (bif decide ((↑i : Int) < (↑(List.length l) : Int)) then bif decide ((↑i : Int) < (↑(List.length l) : Int)) then bif decide ((↑i : Int) < (↑(List.length m) :
 Int)) then bif !ix l i == ix m i then ResLe (.bool false) r else A (XSt.mk [(13, .int .i64 (IntKind.wrap .i64 ((↑i : Int) + (1 : Int)))), (0, e_row 1 e_bool l),
 (1, e_row 1 e_bool m), (12, .int .i64 (↑(List.length l) : Int))] [] 0) else False else False
else ResLe (.bool true) r) := by kernel_rfl
theorem sk_eqB : SkOk Try.prog (42, eqBS) := skOf_ok fun ⟨l, m⟩ h => by
  have hl : l.length ≤ 1000000 := h
  show Pure _ _ (cons [e_row 1 e_bool l, e_row 1 e_bool m]) (con (.bool (decide (l = m))))
  refine pureQ mix TE0ok t_slices_Equal_bool_bool (Nat.le_of_ble_eq_true rfl) ?_
  refine Eq.mpr (r_eqB0 l m _) ?_
  by_cases hn : l.length = m.length
  · have hn' : ¬ ¬ (l.length : Int) = (m.length : Int) := by omega
    simp only [hn', decide_false, cond_false]
    refine loopQ mix TE0ok (fun i : Nat => eqBSt l m i) (fun i => i ≤ l.length ∧ ∀ j, j < i → ix l j = ix m j) (fun i => l.length - i) 0 ⟨Nat.zero_le _, fun j hj => by omega⟩ (.of (weakX ⟨rfl, rfl, rfl, rfl, trivial⟩ trivial (Nat.le_refl _))) ?_
    rintro i ⟨hi, hp⟩
    refine Eq.mpr (r_eqB1 l m i _ _) ?_
    by_cases hlt : i < l.length
    · have h1 : (i : Int) < (l.length : Int) := by omega
      have h2 : (i : Int) < (m.length : Int) := by omega
      have w1 : IntKind.i64.wrap ((i : Int) + 1) = ((i + 1 : Nat) : Int) := wrap_i64 (by omega) (by omega)
      simp only [g1, g2, g3, g4, g5, g6, g7, allN_true, cond_true, Nat.le_refl, decide_true, pl_eq, h1, h2, w1]
      · skip
        refine cnd2 (fun h => ?_) (fun h => ?_) <;> simp only [Bool.not_eq_true', Bool.not_eq_false', beq_eq_false_iff_ne, beq_iff_eq, ne_eq] at h
        · rw [decide_eq_false fun e => h (by rw [e])]
          exact .rfl
        · refine ⟨i + 1, ⟨hlt, fun j hj => ?_⟩, .of (weakX ⟨rfl, rfl, rfl, rfl, trivial⟩ trivial (Nat.le_refl _)), by omega⟩
          by_cases hji : j = i
          · subst hji; exact h
          · exact hp j (by omega)
    · have h1 : ¬ (i : Int) < (l.length : Int) := by omega
      simp only [h1, decide_false, cond_false]
      rw [decide_eq_true (ix_ext hn fun j hj => hp j (by omega))]
      exact .rfl
  · have hn' : ¬ (l.length : Int) = (m.length : Int) := by omega
    simp only [hn', not_false_eq_true, decide_true, cond_true]
    rw [decide_eq_false fun e => hn (by rw [e])]
    exact .rfl
theorem r_eqEntry0 (l m : List Entry) (r : XV) : (goQ Try.prog TE0 [(.tmp 4)] r (.run c_slices_Equal_Entry_Entry) [] ⟨envX 0 [e_row 5 e_Entry l, e_row 5 e_Entry m], [], 0⟩) = (bif decide ¬(↑(List.length l) : Int) = (↑(List.length m) : Int) then ResLe (.bool false) r
else LoopAt (Ok Try.prog (Tab.q TE0)) c_slices_Equal_Entry_Entry_l1
 (XSt.mk [(13, .int .i64 0), (12, .int .i64 (↑(List.length l) : Int)), (4, .bool false), (0, e_row 5 e_Entry l), (1, e_row 5 e_Entry m)] [] 0) [Frm.blk 0, Frm.seq
 c_slices_Equal_Entry_Entry_p1] (finQR [AR.tmp 4] r)) := by kernel_rfl
theorem r_eqEntry1 (l m : List Entry) (i : Nat) (r : XV) (A : XSt → Prop) : (goQ Try.prog TE0 [(.tmp 4)] r (.run c_slices_Equal_Entry_Entry_l1) [.lp c_slices_Equal_Entry_Entry_l1 A, .blk 0, .seq c_slices_Equal_Entry_Entry_p1] (eqEntrySt l m i)) = (bif decide ((↑i : Int) < (↑(List.length l) : Int)) then bif decide ((↑i : Int) < (↑(List.length l) : Int)) then bif decide ((↑i : Int) < (↑(List.length m) :
 Int)) then bif !(decide (Entry.addr (ix l i) = Entry.addr (ix m i)) && (decide (Entry.size (ix l i) = Entry.size (ix m i)) && (decide (Entry.step (ix l i) = Entry.step
 (ix m i)) && (Entry.known (ix l i) == Entry.known (ix m i) && (decide (Entry.val (ix l i) = Entry.val (ix m i)) && true))))) then ResLe (.bool false) r else A (XSt.mk
 [(13, .int .i64 (IntKind.wrap .i64 ((↑i : Int) + (1 : Int)))), (0, e_row 5 e_Entry l), (1, e_row 5 e_Entry m), (12, .int .i64 (↑(List.length l) : Int))] [] 0) else
 False else False
else ResLe (.bool true) r) := by kernel_rfl
theorem sk_eqEntry : SkOk Try.prog (43, eqEntryS) := skOf_ok fun ⟨l, m⟩ h => by
  have hl : l.length ≤ 1000000 := h
  show Pure _ _ (cons [e_row 5 e_Entry l, e_row 5 e_Entry m]) (con (.bool (decide (l = m))))
  refine pureQ mix TE0ok t_slices_Equal_Entry_Entry (Nat.le_of_ble_eq_true rfl) ?_
  refine Eq.mpr (r_eqEntry0 l m _) ?_
  by_cases hn : l.length = m.length
  · have hn' : ¬ ¬ (l.length : Int) = (m.length : Int) := by omega
    simp only [hn', decide_false, cond_false]
    refine loopQ mix TE0ok (fun i : Nat => eqEntrySt l m i) (fun i => i ≤ l.length ∧ ∀ j, j < i → ix l j = ix m j) (fun i => l.length - i) 0 ⟨Nat.zero_le _, fun j hj => by omega⟩ (.of (weakX ⟨rfl, rfl, rfl, rfl, trivial⟩ trivial (Nat.le_refl _))) ?_
    rintro i ⟨hi, hp⟩
    refine Eq.mpr (r_eqEntry1 l m i _ _) ?_
    by_cases hlt : i < l.length
    · have h1 : (i : Int) < (l.length : Int) := by omega
      have h2 : (i : Int) < (m.length : Int) := by omega
      have w1 : IntKind.i64.wrap ((i : Int) + 1) = ((i + 1 : Nat) : Int) := wrap_i64 (by omega) (by omega)
      simp only [g1, g2, g3, g4, g5, g6, g7, allN_true, cond_true, Nat.le_refl, decide_true, pl_eq, h1, h2, w1]
      · skip
        simp only [entB]
        refine cnd2 (fun h => ?_) (fun h => ?_) <;> simp only [Bool.not_eq_true', Bool.not_eq_false', decide_eq_false_iff_not, decide_eq_true_eq] at h
        · rw [decide_eq_false fun e => h (by rw [e])]
          exact .rfl
        · refine ⟨i + 1, ⟨hlt, fun j hj => ?_⟩, .of (weakX ⟨rfl, rfl, rfl, rfl, trivial⟩ trivial (Nat.le_refl _)), by omega⟩
          by_cases hji : j = i
          · subst hji; exact h
          · exact hp j (by omega)
    · have h1 : ¬ (i : Int) < (l.length : Int) := by omega
      simp only [h1, decide_false, cond_false]
      rw [decide_eq_true (ix_ext hn fun j hj => hp j (by omega))]
      exact .rfl
  · have hn' : ¬ (l.length : Int) = (m.length : Int) := by omega
    simp only [hn', not_false_eq_true, decide_true, cond_true]
    rw [decide_eq_false fun e => hn (by rw [e])]
    exact .rfl
theorem r_eqReq0 (l m : List Req) (r : XV) : (goQ Try.prog TE0 [(.tmp 4)] r (.run c_slices_Equal_Request_Request) [] ⟨envX 0 [e_row 8 e_Req l, e_row 8 e_Req m], [], 0⟩) = (bif decide ¬(↑(List.length l) : Int) = (↑(List.length m) : Int) then ResLe (.bool false) r
else LoopAt (Ok Try.prog (Tab.q TE0)) c_slices_Equal_Request_Request_l1
 (XSt.mk [(13, .int .i64 0), (12, .int .i64 (↑(List.length l) : Int)), (4, .bool false), (0, e_row 8 e_Req l), (1, e_row 8 e_Req m)] [] 0) [Frm.blk 0, Frm.seq c_slices_Equal_Request_Request_p1]
 (finQR [AR.tmp 4] r)) := by kernel_rfl
theorem r_eqReq1 (l m : List Req) (i : Nat) (r : XV) (A : XSt → Prop) : (goQ Try.prog TE0 [(.tmp 4)] r (.run c_slices_Equal_Request_Request_l1) [.lp c_slices_Equal_Request_Request_l1 A, .blk 0, .seq c_slices_Equal_Request_Request_p1] (eqReqSt l m i)) = (bif decide ((↑i : Int) < (↑(List.length l) : Int)) then bif decide ((↑i : Int) < (↑(List.length l) : Int)) then bif decide ((↑i : Int) < (↑(List.length m) :
 Int)) then bif !(Req.store (ix l i) == Req.store (ix m i) && (decide (Req.op (ix l i) = Req.op (ix m i)) && (decide (Req.addr (ix l i) = Req.addr (ix m i)) && (decide
 (Req.size (ix l i) = Req.size (ix m i)) && (decide (Req.val (ix l i) = Req.val (ix m i)) && (decide (Req.left (ix l i) = Req.left (ix m i)) && (decide (Req.reg (ix
 l i) = Req.reg (ix m i)) && (decide (Req.tag (ix l i) = Req.tag (ix m i)) && true)))))))) then ResLe (.bool false) r else A (XSt.mk [(13, .int .i64 (IntKind.wrap
 .i64 ((↑i : Int) + (1 : Int)))), (0, e_row 8 e_Req l), (1, e_row 8 e_Req m), (12, .int .i64 (↑(List.length l) : Int))] [] 0) else False else False
else ResLe (.bool
 true) r) := by kernel_rfl
theorem sk_eqReq : SkOk Try.prog (44, eqReqS) := skOf_ok fun ⟨l, m⟩ h => by
  have hl : l.length ≤ 1000000 := h
  show Pure _ _ (cons [e_row 8 e_Req l, e_row 8 e_Req m]) (con (.bool (decide (l = m))))
  refine pureQ mix TE0ok t_slices_Equal_Request_Request (Nat.le_of_ble_eq_true rfl) ?_
  refine Eq.mpr (r_eqReq0 l m _) ?_
  by_cases hn : l.length = m.length
  · have hn' : ¬ ¬ (l.length : Int) = (m.length : Int) := by omega
    simp only [hn', decide_false, cond_false]
    refine loopQ mix TE0ok (fun i : Nat => eqReqSt l m i) (fun i => i ≤ l.length ∧ ∀ j, j < i → ix l j = ix m j) (fun i => l.length - i) 0 ⟨Nat.zero_le _, fun j hj => by omega⟩ (.of (weakX ⟨rfl, rfl, rfl, rfl, trivial⟩ trivial (Nat.le_refl _))) ?_
    rintro i ⟨hi, hp⟩
    refine Eq.mpr (r_eqReq1 l m i _ _) ?_
    by_cases hlt : i < l.length
    · have h1 : (i : Int) < (l.length : Int) := by omega
      have h2 : (i : Int) < (m.length : Int) := by omega
      have w1 : IntKind.i64.wrap ((i : Int) + 1) = ((i + 1 : Nat) : Int) := wrap_i64 (by omega) (by omega)
      simp only [g1, g2, g3, g4, g5, g6, g7, allN_true, cond_true, Nat.le_refl, decide_true, pl_eq, h1, h2, w1]
      · skip
        simp only [reqB]
        refine cnd2 (fun h => ?_) (fun h => ?_) <;> simp only [Bool.not_eq_true', Bool.not_eq_false', decide_eq_false_iff_not, decide_eq_true_eq] at h
        · rw [decide_eq_false fun e => h (by rw [e])]
          exact .rfl
        · refine ⟨i + 1, ⟨hlt, fun j hj => ?_⟩, .of (weakX ⟨rfl, rfl, rfl, rfl, trivial⟩ trivial (Nat.le_refl _)), by omega⟩
          by_cases hji : j = i
          · subst hji; exact h
          · exact hp j (by omega)
    · have h1 : ¬ (i : Int) < (l.length : Int) := by omega
      simp only [h1, decide_false, cond_false]
      rw [decide_eq_true (ix_ext hn fun j hj => hp j (by omega))]
      exact .rfl
  · have hn' : ¬ (l.length : Int) = (m.length : Int) := by omega
    simp only [hn', not_false_eq_true, decide_true, cond_true]
    rw [decide_eq_false fun e => hn (by rw [e])]
    exact .rfl
theorem r_eqY0 (l m : List Int) (r : XV) : (goQ Try.prog TE0 [(.tmp 4)] r (.run c_slices_Equal_byte_byte) [] ⟨envX 0 [e_row 1 e_u8 l, e_row 1 e_u8 m], [], 0⟩) = (bif decide ¬(↑(List.length l) : Int) = (↑(List.length m) : Int) then ResLe (.bool false) r
else LoopAt (Ok Try.prog (Tab.q TE0)) c_slices_Equal_byte_byte_l1
 (XSt.mk [(13, .int .i64 0), (12, .int .i64 (↑(List.length l) : Int)), (4, .bool false), (0, e_row 1 e_u8 l), (1, e_row 1 e_u8 m)] [] 0) [Frm.blk 0, Frm.seq c_slices_Equal_byte_byte_p1]
 (finQR [AR.tmp 4] r)) := by kernel_rfl
theorem r_eqY1 (l m : List Int) (i : Nat) (r : XV) (A : XSt → Prop) : (goQ Try.prog TE0 [(.tmp 4)] r (.run c_slices_Equal_byte_byte_l1) [.lp c_slices_Equal_byte_byte_l1 A, .blk 0, .seq c_slices_Equal_byte_byte_p1] (eqYSt l m i)) = (bif decide ((↑i : Int) < (↑(List.length l) : Int)) then bif decide ((↑i : Int) < (↑(List.length l) : Int)) then bif decide ((↑i : Int) < (↑(List.length m) :
 Int)) then bif decide ¬ix l i = ix m i then ResLe (.bool false) r else A (XSt.mk [(13, .int .i64 (IntKind.wrap .i64 ((↑i : Int) + (1 : Int)))), (0, e_row 1 e_u8
 l), (1, e_row 1 e_u8 m), (12, .int .i64 (↑(List.length l) : Int))] [] 0) else False else False
else ResLe (.bool true) r) := by kernel_rfl
theorem sk_eqY : SkOk Try.prog (45, eqYS) := skOf_ok fun ⟨l, m⟩ h => by
  have hl : l.length ≤ 1000000 := h
  show Pure _ _ (cons [e_row 1 e_u8 l, e_row 1 e_u8 m]) (con (.bool (decide (l = m))))
  refine pureQ mix TE0ok t_slices_Equal_byte_byte (Nat.le_of_ble_eq_true rfl) ?_
  refine Eq.mpr (r_eqY0 l m _) ?_
  by_cases hn : l.length = m.length
  · have hn' : ¬ ¬ (l.length : Int) = (m.length : Int) := by omega
    simp only [hn', decide_false, cond_false]
    refine loopQ mix TE0ok (fun i : Nat => eqYSt l m i) (fun i => i ≤ l.length ∧ ∀ j, j < i → ix l j = ix m j) (fun i => l.length - i) 0 ⟨Nat.zero_le _, fun j hj => by omega⟩ (.of (weakX ⟨rfl, rfl, rfl, rfl, trivial⟩ trivial (Nat.le_refl _))) ?_
    rintro i ⟨hi, hp⟩
    refine Eq.mpr (r_eqY1 l m i _ _) ?_
    by_cases hlt : i < l.length
    · have h1 : (i : Int) < (l.length : Int) := by omega
      have h2 : (i : Int) < (m.length : Int) := by omega
      have w1 : IntKind.i64.wrap ((i : Int) + 1) = ((i + 1 : Nat) : Int) := wrap_i64 (by omega) (by omega)
      simp only [g1, g2, g3, g4, g5, g6, g7, allN_true, cond_true, Nat.le_refl, decide_true, pl_eq, h1, h2, w1]
      · skip
        refine cnd2 (fun h => ?_) (fun h => ?_) <;> simp only [decide_eq_true_eq, decide_eq_false_iff_not, Classical.not_not] at h
        · rw [decide_eq_false fun e => h (by rw [e])]
          exact .rfl
        · refine ⟨i + 1, ⟨hlt, fun j hj => ?_⟩, .of (weakX ⟨rfl, rfl, rfl, rfl, trivial⟩ trivial (Nat.le_refl _)), by omega⟩
          by_cases hji : j = i
          · subst hji; exact h
          · exact hp j (by omega)
    · have h1 : ¬ (i : Int) < (l.length : Int) := by omega
      simp only [h1, decide_false, cond_false]
      rw [decide_eq_true (ix_ext hn fun j hj => hp j (by omega))]
      exact .rfl
  · have hn' : ¬ (l.length : Int) = (m.length : Int) := by omega
    simp only [hn', not_false_eq_true, decide_true, cond_true]
    rw [decide_eq_false fun e => hn (by rw [e])]
    exact .rfl
theorem r_eqWr0 (l m : List Wr) (r : XV) : (goQ Try.prog TE0 [(.tmp 4)] r (.run c_slices_Equal_Write_Write) [] ⟨envX 0 [e_row 3 e_Wr l, e_row 3 e_Wr m], [], 0⟩) = (bif decide ¬(↑(List.length l) : Int) = (↑(List.length m) : Int) then ResLe (.bool false) r
else LoopAt (Ok Try.prog (Tab.q TE0)) c_slices_Equal_Write_Write_l1
 (XSt.mk [(13, .int .i64 0), (12, .int .i64 (↑(List.length l) : Int)), (4, .bool false), (0, e_row 3 e_Wr l), (1, e_row 3 e_Wr m)] [] 0) [Frm.blk 0, Frm.seq c_slices_Equal_Write_Write_p1]
 (finQR [AR.tmp 4] r)) := by kernel_rfl
theorem r_eqWr1 (l m : List Wr) (i : Nat) (r : XV) (A : XSt → Prop) : (goQ Try.prog TE0 [(.tmp 4)] r (.run c_slices_Equal_Write_Write_l1) [.lp c_slices_Equal_Write_Write_l1 A, .blk 0, .seq c_slices_Equal_Write_Write_p1] (eqWrSt l m i)) = (bif decide ((↑i : Int) < (↑(List.length l) : Int)) then bif decide ((↑i : Int) < (↑(List.length l) : Int)) then bif decide ((↑i : Int) < (↑(List.length m) :
 Int)) then bif !(decide (Wr.addr (ix l i) = Wr.addr (ix m i)) && (decide (Wr.size (ix l i) = Wr.size (ix m i)) && (decide (Wr.val (ix l i) = Wr.val (ix m i)) &&
 true))) then ResLe (.bool false) r else A (XSt.mk [(13, .int .i64 (IntKind.wrap .i64 ((↑i : Int) + (1 : Int)))), (0, e_row 3 e_Wr l), (1, e_row 3 e_Wr m), (12, .int
 .i64 (↑(List.length l) : Int))] [] 0) else False else False
else ResLe (.bool true) r) := by kernel_rfl
theorem sk_eqWr : SkOk Try.prog (46, eqWrS) := skOf_ok fun ⟨l, m⟩ h => by
  have hl : l.length ≤ 1000000 := h
  show Pure _ _ (cons [e_row 3 e_Wr l, e_row 3 e_Wr m]) (con (.bool (decide (l = m))))
  refine pureQ mix TE0ok t_slices_Equal_Write_Write (Nat.le_of_ble_eq_true rfl) ?_
  refine Eq.mpr (r_eqWr0 l m _) ?_
  by_cases hn : l.length = m.length
  · have hn' : ¬ ¬ (l.length : Int) = (m.length : Int) := by omega
    simp only [hn', decide_false, cond_false]
    refine loopQ mix TE0ok (fun i : Nat => eqWrSt l m i) (fun i => i ≤ l.length ∧ ∀ j, j < i → ix l j = ix m j) (fun i => l.length - i) 0 ⟨Nat.zero_le _, fun j hj => by omega⟩ (.of (weakX ⟨rfl, rfl, rfl, rfl, trivial⟩ trivial (Nat.le_refl _))) ?_
    rintro i ⟨hi, hp⟩
    refine Eq.mpr (r_eqWr1 l m i _ _) ?_
    by_cases hlt : i < l.length
    · have h1 : (i : Int) < (l.length : Int) := by omega
      have h2 : (i : Int) < (m.length : Int) := by omega
      have w1 : IntKind.i64.wrap ((i : Int) + 1) = ((i + 1 : Nat) : Int) := wrap_i64 (by omega) (by omega)
      simp only [g1, g2, g3, g4, g5, g6, g7, allN_true, cond_true, Nat.le_refl, decide_true, pl_eq, h1, h2, w1]
      · skip
        simp only [wrB]
        refine cnd2 (fun h => ?_) (fun h => ?_) <;> simp only [Bool.not_eq_true', Bool.not_eq_false', decide_eq_false_iff_not, decide_eq_true_eq] at h
        · rw [decide_eq_false fun e => h (by rw [e])]
          exact .rfl
        · refine ⟨i + 1, ⟨hlt, fun j hj => ?_⟩, .of (weakX ⟨rfl, rfl, rfl, rfl, trivial⟩ trivial (Nat.le_refl _)), by omega⟩
          by_cases hji : j = i
          · subst hji; exact h
          · exact hp j (by omega)
    · have h1 : ¬ (i : Int) < (l.length : Int) := by omega
      simp only [h1, decide_false, cond_false]
      rw [decide_eq_true (ix_ext hn fun j hj => hp j (by omega))]
      exact .rfl
  · have hn' : ¬ (l.length : Int) = (m.length : Int) := by omega
    simp only [hn', not_false_eq_true, decide_true, cond_true]
    rw [decide_eq_false fun e => hn (by rw [e])]
    exact .rfl
theorem TE1ok : TabOk Try.prog TE1 := mkT2_ok clok_state trivial trivial ⟨sk_eqSlot, sk_eqW, sk_eqB, sk_eqEntry, sk_eqReq, sk_eqY, sk_eqWr, trivial⟩ trivial
theorem r_sm (a b : Stt) (r : XV) : (quietGo TE1 80 (callI TE1 80 20) 18 [e_Stt a, e_Stt b] (fun v => ResLe v r)) = (bif bif decide (Stt.cycle a = Stt.cycle b) then decide (Stt.cycle a = Stt.cycle b) else true then bif bif bif decide (Stt.cycle a = Stt.cycle b) then allN (fun
 i => decide (Side.regs (Stt.a a) i = Side.regs (Stt.a b) i)) 16 && (allN (fun i => decide (Side.ready (Stt.a a) i = Side.ready (Stt.a b) i)) 16 && (decide (Pos.block
 (Side.pos (Stt.a a)) = Pos.block (Side.pos (Stt.a b))) && (decide (Pos.index (Side.pos (Stt.a a)) = Pos.index (Side.pos (Stt.a b))) && (decide (Pos.base (Side.pos
 (Stt.a a)) = Pos.base (Side.pos (Stt.a b))) && true)) && (decide (Side.wait (Stt.a a) = Side.wait (Stt.a b)) && (Side.halted (Stt.a a) == Side.halted (Stt.a b) &&
 (decide (Side.done (Stt.a a) = Side.done (Stt.a b)) && true))))) else false then bif decide (Stt.cycle a = Stt.cycle b) then allN (fun i => decide (Side.regs (Stt.a
 a) i = Side.regs (Stt.a b) i)) 16 && (allN (fun i => decide (Side.ready (Stt.a a) i = Side.ready (Stt.a b) i)) 16 && (decide (Pos.block (Side.pos (Stt.a a)) = Pos.block
 (Side.pos (Stt.a b))) && (decide (Pos.index (Side.pos (Stt.a a)) = Pos.index (Side.pos (Stt.a b))) && (decide (Pos.base (Side.pos (Stt.a a)) = Pos.base (Side.pos
 (Stt.a b))) && true)) && (decide (Side.wait (Stt.a a) = Side.wait (Stt.a b)) && (Side.halted (Stt.a a) == Side.halted (Stt.a b) && (decide (Side.done (Stt.a a) =
 Side.done (Stt.a b)) && true))))) else false else true then bif bif bif bif decide (Stt.cycle a = Stt.cycle b) then allN (fun i => decide (Side.regs (Stt.a a) i
 = Side.regs (Stt.a b) i)) 16 && (allN (fun i => decide (Side.ready (Stt.a a) i = Side.ready (Stt.a b) i)) 16 && (decide (Pos.block (Side.pos (Stt.a a)) = Pos.block
 (Side.pos (Stt.a b))) && (decide (Pos.index (Side.pos (Stt.a a)) = Pos.index (Side.pos (Stt.a b))) && (decide (Pos.base (Side.pos (Stt.a a)) = Pos.base (Side.pos
 (Stt.a b))) && true)) && (decide (Side.wait (Stt.a a) = Side.wait (Stt.a b)) && (Side.halted (Stt.a a) == Side.halted (Stt.a b) && (decide (Side.done (Stt.a a) =
 Side.done (Stt.a b)) && true))))) else false then allN (fun i => decide (Side.regs (Stt.e a) i = Side.regs (Stt.e b) i)) 16 && (allN (fun i => decide (Side.ready
 (Stt.e a) i = Side.ready (Stt.e b) i)) 16 && (decide (Pos.block (Side.pos (Stt.e a)) = Pos.block (Side.pos (Stt.e b))) && (decide (Pos.index (Side.pos (Stt.e a))
 = Pos.index (Side.pos (Stt.e b))) && (decide (Pos.base (Side.pos (Stt.e a)) = Pos.base (Side.pos (Stt.e b))) && true)) && (decide (Side.wait (Stt.e a) = Side.wait
 (Stt.e b)) && (Side.halted (Stt.e a) == Side.halted (Stt.e b) && (decide (Side.done (Stt.e a) = Side.done (Stt.e b)) && true))))) else false then bif bif decide
 (Stt.cycle a = Stt.cycle b) then allN (fun i => decide (Side.regs (Stt.a a) i = Side.regs (Stt.a b) i)) 16 && (allN (fun i => decide (Side.ready (Stt.a a) i = Side.ready
 (Stt.a b) i)) 16 && (decide (Pos.block (Side.pos (Stt.a a)) = Pos.block (Side.pos (Stt.a b))) && (decide (Pos.index (Side.pos (Stt.a a)) = Pos.index (Side.pos (Stt.a
 b))) && (decide (Pos.base (Side.pos (Stt.a a)) = Pos.base (Side.pos (Stt.a b))) && true)) && (decide (Side.wait (Stt.a a) = Side.wait (Stt.a b)) && (Side.halted
 (Stt.a a) == Side.halted (Stt.a b) && (decide (Side.done (Stt.a a) = Side.done (Stt.a b)) && true))))) else false then allN (fun i => decide (Side.regs (Stt.e a)
 i = Side.regs (Stt.e b) i)) 16 && (allN (fun i => decide (Side.ready (Stt.e a) i = Side.ready (Stt.e b) i)) 16 && (decide (Pos.block (Side.pos (Stt.e a)) = Pos.block
 (Side.pos (Stt.e b))) && (decide (Pos.index (Side.pos (Stt.e a)) = Pos.index (Side.pos (Stt.e b))) && (decide (Pos.base (Side.pos (Stt.e a)) = Pos.base (Side.pos
 (Stt.e b))) && true)) && (decide (Side.wait (Stt.e a) = Side.wait (Stt.e b)) && (Side.halted (Stt.e a) == Side.halted (Stt.e b) && (decide (Side.done (Stt.e a) =
 Side.done (Stt.e b)) && true))))) else false else true then bif bif bif bif bif decide (Stt.cycle a = Stt.cycle b) then allN (fun i => decide (Side.regs (Stt.a a)
 i = Side.regs (Stt.a b) i)) 16 && (allN (fun i => decide (Side.ready (Stt.a a) i = Side.ready (Stt.a b) i)) 16 && (decide (Pos.block (Side.pos (Stt.a a)) = Pos.block
 (Side.pos (Stt.a b))) && (decide (Pos.index (Side.pos (Stt.a a)) = Pos.index (Side.pos (Stt.a b))) && (decide (Pos.base (Side.pos (Stt.a a)) = Pos.base (Side.pos
 (Stt.a b))) && true)) && (decide (Side.wait (Stt.a a) = Side.wait (Stt.a b)) && (Side.halted (Stt.a a) == Side.halted (Stt.a b) && (decide (Side.done (Stt.a a) =
 Side.done (Stt.a b)) && true))))) else false then allN (fun i => decide (Side.regs (Stt.e a) i = Side.regs (Stt.e b) i)) 16 && (allN (fun i => decide (Side.ready
 (Stt.e a) i = Side.ready (Stt.e b) i)) 16 && (decide (Pos.block (Side.pos (Stt.e a)) = Pos.block (Side.pos (Stt.e b))) && (decide (Pos.index (Side.pos (Stt.e a))
 = Pos.index (Side.pos (Stt.e b))) && (decide (Pos.base (Side.pos (Stt.e a)) = Pos.base (Side.pos (Stt.e b))) && true)) && (decide (Side.wait (Stt.e a) = Side.wait
 (Stt.e b)) && (Side.halted (Stt.e a) == Side.halted (Stt.e b) && (decide (Side.done (Stt.e a) = Side.done (Stt.e b)) && true))))) else false then decide (Trp.kind
 (Stt.trap a) = Trp.kind (Stt.trap b)) && (decide (Trp.step (Stt.trap a) = Trp.step (Stt.trap b)) && (decide (Trp.pc (Stt.trap a) = Trp.pc (Stt.trap b)) && true))
 else false then bif bif bif decide (Stt.cycle a = Stt.cycle b) then allN (fun i => decide (Side.regs (Stt.a a) i = Side.regs (Stt.a b) i)) 16 && (allN (fun i =>
 decide (Side.ready (Stt.a a) i = Side.ready (Stt.a b) i)) 16 && (decide (Pos.block (Side.pos (Stt.a a)) = Pos.block (Side.pos (Stt.a b))) && (decide (Pos.index (Side.pos
 (Stt.a a)) = Pos.index (Side.pos (Stt.a b))) && (decide (Pos.base (Side.pos (Stt.a a)) = Pos.base (Side.pos (Stt.a b))) && true)) && (decide (Side.wait (Stt.a a)
 = Side.wait (Stt.a b)) && (Side.halted (Stt.a a) == Side.halted (Stt.a b) && (decide (Side.done (Stt.a a) = Side.done (Stt.a b)) && true))))) else false then allN
 (fun i => decide (Side.regs (Stt.e a) i = Side.regs (Stt.e b) i)) 16 && (allN (fun i => decide (Side.ready (Stt.e a) i = Side.ready (Stt.e b) i)) 16 && (decide (Pos.block
 (Side.pos (Stt.e a)) = Pos.block (Side.pos (Stt.e b))) && (decide (Pos.index (Side.pos (Stt.e a)) = Pos.index (Side.pos (Stt.e b))) && (decide (Pos.base (Side.pos
 (Stt.e a)) = Pos.base (Side.pos (Stt.e b))) && true)) && (decide (Side.wait (Stt.e a) = Side.wait (Stt.e b)) && (Side.halted (Stt.e a) == Side.halted (Stt.e b) &&
 (decide (Side.done (Stt.e a) = Side.done (Stt.e b)) && true))))) else false then decide (Trp.kind (Stt.trap a) = Trp.kind (Stt.trap b)) && (decide (Trp.step (Stt.trap
 a) = Trp.step (Stt.trap b)) && (decide (Trp.pc (Stt.trap a) = Trp.pc (Stt.trap b)) && true)) else false else true then bif bif bif bif bif bif decide (Stt.cycle
 a = Stt.cycle b) then allN (fun i => decide (Side.regs (Stt.a a) i = Side.regs (Stt.a b) i)) 16 && (allN (fun i => decide (Side.ready (Stt.a a) i = Side.ready (Stt.a
 b) i)) 16 && (decide (Pos.block (Side.pos (Stt.a a)) = Pos.block (Side.pos (Stt.a b))) && (decide (Pos.index (Side.pos (Stt.a a)) = Pos.index (Side.pos (Stt.a b)))
 && (decide (Pos.base (Side.pos (Stt.a a)) = Pos.base (Side.pos (Stt.a b))) && true)) && (decide (Side.wait (Stt.a a) = Side.wait (Stt.a b)) && (Side.halted (Stt.a
 a) == Side.halted (Stt.a b) && (decide (Side.done (Stt.a a) = Side.done (Stt.a b)) && true))))) else false then allN (fun i => decide (Side.regs (Stt.e a) i = Side.regs
 (Stt.e b) i)) 16 && (allN (fun i => decide (Side.ready (Stt.e a) i = Side.ready (Stt.e b) i)) 16 && (decide (Pos.block (Side.pos (Stt.e a)) = Pos.block (Side.pos
 (Stt.e b))) && (decide (Pos.index (Side.pos (Stt.e a)) = Pos.index (Side.pos (Stt.e b))) && (decide (Pos.base (Side.pos (Stt.e a)) = Pos.base (Side.pos (Stt.e b)))
 && true)) && (decide (Side.wait (Stt.e a) = Side.wait (Stt.e b)) && (Side.halted (Stt.e a) == Side.halted (Stt.e b) && (decide (Side.done (Stt.e a) = Side.done (Stt.e
 b)) && true))))) else false then decide (Trp.kind (Stt.trap a) = Trp.kind (Stt.trap b)) && (decide (Trp.step (Stt.trap a) = Trp.step (Stt.trap b)) && (decide (Trp.pc
 (Stt.trap a) = Trp.pc (Stt.trap b)) && true)) else false then decide (Stt.lats a = Stt.lats b) else false then bif bif bif bif decide (Stt.cycle a = Stt.cycle b)
 then allN (fun i => decide (Side.regs (Stt.a a) i = Side.regs (Stt.a b) i)) 16 && (allN (fun i => decide (Side.ready (Stt.a a) i = Side.ready (Stt.a b) i)) 16 &&
 (decide (Pos.block (Side.pos (Stt.a a)) = Pos.block (Side.pos (Stt.a b))) && (decide (Pos.index (Side.pos (Stt.a a)) = Pos.index (Side.pos (Stt.a b))) && (decide
 (Pos.base (Side.pos (Stt.a a)) = Pos.base (Side.pos (Stt.a b))) && true)) && (decide (Side.wait (Stt.a a) = Side.wait (Stt.a b)) && (Side.halted (Stt.a a) == Side.halted
 (Stt.a b) && (decide (Side.done (Stt.a a) = Side.done (Stt.a b)) && true))))) else false then allN (fun i => decide (Side.regs (Stt.e a) i = Side.regs (Stt.e b)
 i)) 16 && (allN (fun i => decide (Side.ready (Stt.e a) i = Side.ready (Stt.e b) i)) 16 && (decide (Pos.block (Side.pos (Stt.e a)) = Pos.block (Side.pos (Stt.e b)))
 && (decide (Pos.index (Side.pos (Stt.e a)) = Pos.index (Side.pos (Stt.e b))) && (decide (Pos.base (Side.pos (Stt.e a)) = Pos.base (Side.pos (Stt.e b))) && true))
 && (decide (Side.wait (Stt.e a) = Side.wait (Stt.e b)) && (Side.halted (Stt.e a) == Side.halted (Stt.e b) && (decide (Side.done (Stt.e a) = Side.done (Stt.e b))
 && true))))) else false then decide (Trp.kind (Stt.trap a) = Trp.kind (Stt.trap b)) && (decide (Trp.step (Stt.trap a) = Trp.step (Stt.trap b)) && (decide (Trp.pc
 (Stt.trap a) = Trp.pc (Stt.trap b)) && true)) else false then decide (Stt.lats a = Stt.lats b) else false else true then bif bif bif bif bif bif bif decide (Stt.cycle
 a = Stt.cycle b) then allN (fun i => decide (Side.regs (Stt.a a) i = Side.regs (Stt.a b) i)) 16 && (allN (fun i => decide (Side.ready (Stt.a a) i = Side.ready (Stt.a
 b) i)) 16 && (decide (Pos.block (Side.pos (Stt.a a)) = Pos.block (Side.pos (Stt.a b))) && (decide (Pos.index (Side.pos (Stt.a a)) = Pos.index (Side.pos (Stt.a b)))
 && (decide (Pos.base (Side.pos (Stt.a a)) = Pos.base (Side.pos (Stt.a b))) && true)) && (decide (Side.wait (Stt.a a) = Side.wait (Stt.a b)) && (Side.halted (Stt.a
 a) == Side.halted (Stt.a b) && (decide (Side.done (Stt.a a) = Side.done (Stt.a b)) && true))))) else false then allN (fun i => decide (Side.regs (Stt.e a) i = Side.regs
 (Stt.e b) i)) 16 && (allN (fun i => decide (Side.ready (Stt.e a) i = Side.ready (Stt.e b) i)) 16 && (decide (Pos.block (Side.pos (Stt.e a)) = Pos.block (Side.pos
 (Stt.e b))) && (decide (Pos.index (Side.pos (Stt.e a)) = Pos.index (Side.pos (Stt.e b))) && (decide (Pos.base (Side.pos (Stt.e a)) = Pos.base (Side.pos (Stt.e b)))
 && true)) && (decide (Side.wait (Stt.e a) = Side.wait (Stt.e b)) && (Side.halted (Stt.e a) == Side.halted (Stt.e b) && (decide (Side.done (Stt.e a) = Side.done (Stt.e
 b)) && true))))) else false then decide (Trp.kind (Stt.trap a) = Trp.kind (Stt.trap b)) && (decide (Trp.step (Stt.trap a) = Trp.step (Stt.trap b)) && (decide (Trp.pc
 (Stt.trap a) = Trp.pc (Stt.trap b)) && true)) else false then decide (Stt.lats a = Stt.lats b) else false then decide (Stt.picks a = Stt.picks b) else false then
 bif bif bif bif bif decide (Stt.cycle a = Stt.cycle b) then allN (fun i => decide (Side.regs (Stt.a a) i = Side.regs (Stt.a b) i)) 16 && (allN (fun i => decide (Side.ready
 (Stt.a a) i = Side.ready (Stt.a b) i)) 16 && (decide (Pos.block (Side.pos (Stt.a a)) = Pos.block (Side.pos (Stt.a b))) && (decide (Pos.index (Side.pos (Stt.a a))
 = Pos.index (Side.pos (Stt.a b))) && (decide (Pos.base (Side.pos (Stt.a a)) = Pos.base (Side.pos (Stt.a b))) && true)) && (decide (Side.wait (Stt.a a) = Side.wait
 (Stt.a b)) && (Side.halted (Stt.a a) == Side.halted (Stt.a b) && (decide (Side.done (Stt.a a) = Side.done (Stt.a b)) && true))))) else false then allN (fun i =>
 decide (Side.regs (Stt.e a) i = Side.regs (Stt.e b) i)) 16 && (allN (fun i => decide (Side.ready (Stt.e a) i = Side.ready (Stt.e b) i)) 16 && (decide (Pos.block
 (Side.pos (Stt.e a)) = Pos.block (Side.pos (Stt.e b))) && (decide (Pos.index (Side.pos (Stt.e a)) = Pos.index (Side.pos (Stt.e b))) && (decide (Pos.base (Side.pos
 (Stt.e a)) = Pos.base (Side.pos (Stt.e b))) && true)) && (decide (Side.wait (Stt.e a) = Side.wait (Stt.e b)) && (Side.halted (Stt.e a) == Side.halted (Stt.e b) &&
 (decide (Side.done (Stt.e a) = Side.done (Stt.e b)) && true))))) else false then decide (Trp.kind (Stt.trap a) = Trp.kind (Stt.trap b)) && (decide (Trp.step (Stt.trap
 a) = Trp.step (Stt.trap b)) && (decide (Trp.pc (Stt.trap a) = Trp.pc (Stt.trap b)) && true)) else false then decide (Stt.lats a = Stt.lats b) else false then decide
 (Stt.picks a = Stt.picks b) else false else true then bif bif bif bif bif bif bif decide (Stt.cycle a = Stt.cycle b) then allN (fun i => decide (Side.regs (Stt.a
 a) i = Side.regs (Stt.a b) i)) 16 && (allN (fun i => decide (Side.ready (Stt.a a) i = Side.ready (Stt.a b) i)) 16 && (decide (Pos.block (Side.pos (Stt.a a)) = Pos.block
 (Side.pos (Stt.a b))) && (decide (Pos.index (Side.pos (Stt.a a)) = Pos.index (Side.pos (Stt.a b))) && (decide (Pos.base (Side.pos (Stt.a a)) = Pos.base (Side.pos
 (Stt.a b))) && true)) && (decide (Side.wait (Stt.a a) = Side.wait (Stt.a b)) && (Side.halted (Stt.a a) == Side.halted (Stt.a b) && (decide (Side.done (Stt.a a) =
 Side.done (Stt.a b)) && true))))) else false then allN (fun i => decide (Side.regs (Stt.e a) i = Side.regs (Stt.e b) i)) 16 && (allN (fun i => decide (Side.ready
 (Stt.e a) i = Side.ready (Stt.e b) i)) 16 && (decide (Pos.block (Side.pos (Stt.e a)) = Pos.block (Side.pos (Stt.e b))) && (decide (Pos.index (Side.pos (Stt.e a))
 = Pos.index (Side.pos (Stt.e b))) && (decide (Pos.base (Side.pos (Stt.e a)) = Pos.base (Side.pos (Stt.e b))) && true)) && (decide (Side.wait (Stt.e a) = Side.wait
 (Stt.e b)) && (Side.halted (Stt.e a) == Side.halted (Stt.e b) && (decide (Side.done (Stt.e a) = Side.done (Stt.e b)) && true))))) else false then decide (Trp.kind
 (Stt.trap a) = Trp.kind (Stt.trap b)) && (decide (Trp.step (Stt.trap a) = Trp.step (Stt.trap b)) && (decide (Trp.pc (Stt.trap a) = Trp.pc (Stt.trap b)) && true))
 else false then decide (Stt.lats a = Stt.lats b) else false then decide (Stt.picks a = Stt.picks b) else false then decide (Stt.tags a = Stt.tags b) else false then
 ∃ (s : List Slot × List Slot), ArgsLe [e_row 3 e_Slot (Stt.ldq a), e_row 3 e_Slot (Stt.ldq b)] [e_row 3 e_Slot (Prod.fst s), e_row 3 e_Slot (Prod.snd s)] ∧ PreIs
 (List.length (Prod.fst s) ≤ 1000000) ∧ ∀ (y : Bool), y = decide (Prod.fst s = Prod.snd s) → bif bif bif bif bif bif bif bif decide (Stt.cycle a = Stt.cycle b) then
 allN (fun i => decide (Side.regs (Stt.a a) i = Side.regs (Stt.a b) i)) 16 && (allN (fun i => decide (Side.ready (Stt.a a) i = Side.ready (Stt.a b) i)) 16 && (decide
 (Pos.block (Side.pos (Stt.a a)) = Pos.block (Side.pos (Stt.a b))) && (decide (Pos.index (Side.pos (Stt.a a)) = Pos.index (Side.pos (Stt.a b))) && (decide (Pos.base
 (Side.pos (Stt.a a)) = Pos.base (Side.pos (Stt.a b))) && true)) && (decide (Side.wait (Stt.a a) = Side.wait (Stt.a b)) && (Side.halted (Stt.a a) == Side.halted (Stt.a
 b) && (decide (Side.done (Stt.a a) = Side.done (Stt.a b)) && true))))) else false then allN (fun i => decide (Side.regs (Stt.e a) i = Side.regs (Stt.e b) i)) 16
 && (allN (fun i => decide (Side.ready (Stt.e a) i = Side.ready (Stt.e b) i)) 16 && (decide (Pos.block (Side.pos (Stt.e a)) = Pos.block (Side.pos (Stt.e b))) && (decide
 (Pos.index (Side.pos (Stt.e a)) = Pos.index (Side.pos (Stt.e b))) && (decide (Pos.base (Side.pos (Stt.e a)) = Pos.base (Side.pos (Stt.e b))) && true)) && (decide
 (Side.wait (Stt.e a) = Side.wait (Stt.e b)) && (Side.halted (Stt.e a) == Side.halted (Stt.e b) && (decide (Side.done (Stt.e a) = Side.done (Stt.e b)) && true)))))
 else false then decide (Trp.kind (Stt.trap a) = Trp.kind (Stt.trap b)) && (decide (Trp.step (Stt.trap a) = Trp.step (Stt.trap b)) && (decide (Trp.pc (Stt.trap a)
 = Trp.pc (Stt.trap b)) && true)) else false then decide (Stt.lats a = Stt.lats b) else false then decide (Stt.picks a = Stt.picks b) else false then decide (Stt.tags
 a = Stt.tags b) else false then y else false then ∃ (s : List Int × List Int), ArgsLe [e_row 1 e_u32 (Stt.sdq a), e_row 1 e_u32 (Stt.sdq b)] [e_row 1 e_u32 (Prod.fst
 s), e_row 1 e_u32 (Prod.snd s)] ∧ PreIs (List.length (Prod.fst s) ≤ 1000000) ∧ ∀ (y_1 : Bool), y_1 = decide (Prod.fst s = Prod.snd s) → bif bif bif bif bif bif bif
 bif bif decide (Stt.cycle a = Stt.cycle b) then allN (fun i => decide (Side.regs (Stt.a a) i = Side.regs (Stt.a b) i)) 16 && (allN (fun i => decide (Side.ready (Stt.a
 a) i = Side.ready (Stt.a b) i)) 16 && (decide (Pos.block (Side.pos (Stt.a a)) = Pos.block (Side.pos (Stt.a b))) && (decide (Pos.index (Side.pos (Stt.a a)) = Pos.index
 (Side.pos (Stt.a b))) && (decide (Pos.base (Side.pos (Stt.a a)) = Pos.base (Side.pos (Stt.a b))) && true)) && (decide (Side.wait (Stt.a a) = Side.wait (Stt.a b))
 && (Side.halted (Stt.a a) == Side.halted (Stt.a b) && (decide (Side.done (Stt.a a) = Side.done (Stt.a b)) && true))))) else false then allN (fun i => decide (Side.regs
 (Stt.e a) i = Side.regs (Stt.e b) i)) 16 && (allN (fun i => decide (Side.ready (Stt.e a) i = Side.ready (Stt.e b) i)) 16 && (decide (Pos.block (Side.pos (Stt.e a))
 = Pos.block (Side.pos (Stt.e b))) && (decide (Pos.index (Side.pos (Stt.e a)) = Pos.index (Side.pos (Stt.e b))) && (decide (Pos.base (Side.pos (Stt.e a)) = Pos.base
 (Side.pos (Stt.e b))) && true)) && (decide (Side.wait (Stt.e a) = Side.wait (Stt.e b)) && (Side.halted (Stt.e a) == Side.halted (Stt.e b) && (decide (Side.done (Stt.e
 a) = Side.done (Stt.e b)) && true))))) else false then decide (Trp.kind (Stt.trap a) = Trp.kind (Stt.trap b)) && (decide (Trp.step (Stt.trap a) = Trp.step (Stt.trap
 b)) && (decide (Trp.pc (Stt.trap a) = Trp.pc (Stt.trap b)) && true)) else false then decide (Stt.lats a = Stt.lats b) else false then decide (Stt.picks a = Stt.picks
 b) else false then decide (Stt.tags a = Stt.tags b) else false then y else false then y_1 else false then ∃ (s : List Int × List Int), ArgsLe [e_row 1 e_u32 (Stt.aeq
 a), e_row 1 e_u32 (Stt.aeq b)] [e_row 1 e_u32 (Prod.fst s), e_row 1 e_u32 (Prod.snd s)] ∧ PreIs (List.length (Prod.fst s) ≤ 1000000) ∧ ∀ (y_2 : Bool), y_2 = decide
 (Prod.fst s = Prod.snd s) → bif bif bif bif bif bif bif bif bif bif decide (Stt.cycle a = Stt.cycle b) then allN (fun i => decide (Side.regs (Stt.a a) i = Side.regs
 (Stt.a b) i)) 16 && (allN (fun i => decide (Side.ready (Stt.a a) i = Side.ready (Stt.a b) i)) 16 && (decide (Pos.block (Side.pos (Stt.a a)) = Pos.block (Side.pos
 (Stt.a b))) && (decide (Pos.index (Side.pos (Stt.a a)) = Pos.index (Side.pos (Stt.a b))) && (decide (Pos.base (Side.pos (Stt.a a)) = Pos.base (Side.pos (Stt.a b)))
 && true)) && (decide (Side.wait (Stt.a a) = Side.wait (Stt.a b)) && (Side.halted (Stt.a a) == Side.halted (Stt.a b) && (decide (Side.done (Stt.a a) = Side.done (Stt.a
 b)) && true))))) else false then allN (fun i => decide (Side.regs (Stt.e a) i = Side.regs (Stt.e b) i)) 16 && (allN (fun i => decide (Side.ready (Stt.e a) i = Side.ready
 (Stt.e b) i)) 16 && (decide (Pos.block (Side.pos (Stt.e a)) = Pos.block (Side.pos (Stt.e b))) && (decide (Pos.index (Side.pos (Stt.e a)) = Pos.index (Side.pos (Stt.e
 b))) && (decide (Pos.base (Side.pos (Stt.e a)) = Pos.base (Side.pos (Stt.e b))) && true)) && (decide (Side.wait (Stt.e a) = Side.wait (Stt.e b)) && (Side.halted
 (Stt.e a) == Side.halted (Stt.e b) && (decide (Side.done (Stt.e a) = Side.done (Stt.e b)) && true))))) else false then decide (Trp.kind (Stt.trap a) = Trp.kind (Stt.trap
 b)) && (decide (Trp.step (Stt.trap a) = Trp.step (Stt.trap b)) && (decide (Trp.pc (Stt.trap a) = Trp.pc (Stt.trap b)) && true)) else false then decide (Stt.lats
 a = Stt.lats b) else false then decide (Stt.picks a = Stt.picks b) else false then decide (Stt.tags a = Stt.tags b) else false then y else false then y_1 else false
 then y_2 else false then ∃ (s : List Bool × List Bool), ArgsLe [e_row 1 e_bool (Stt.abq a), e_row 1 e_bool (Stt.abq b)] [e_row 1 e_bool (Prod.fst s), e_row 1 e_bool
 (Prod.snd s)] ∧ PreIs (List.length (Prod.fst s) ≤ 1000000) ∧ ∀ (y_3 : Bool), y_3 = decide (Prod.fst s = Prod.snd s) → bif bif bif bif bif bif bif bif bif bif bif
 decide (Stt.cycle a = Stt.cycle b) then allN (fun i => decide (Side.regs (Stt.a a) i = Side.regs (Stt.a b) i)) 16 && (allN (fun i => decide (Side.ready (Stt.a a)
 i = Side.ready (Stt.a b) i)) 16 && (decide (Pos.block (Side.pos (Stt.a a)) = Pos.block (Side.pos (Stt.a b))) && (decide (Pos.index (Side.pos (Stt.a a)) = Pos.index
 (Side.pos (Stt.a b))) && (decide (Pos.base (Side.pos (Stt.a a)) = Pos.base (Side.pos (Stt.a b))) && true)) && (decide (Side.wait (Stt.a a) = Side.wait (Stt.a b))
 && (Side.halted (Stt.a a) == Side.halted (Stt.a b) && (decide (Side.done (Stt.a a) = Side.done (Stt.a b)) && true))))) else false then allN (fun i => decide (Side.regs
 (Stt.e a) i = Side.regs (Stt.e b) i)) 16 && (allN (fun i => decide (Side.ready (Stt.e a) i = Side.ready (Stt.e b) i)) 16 && (decide (Pos.block (Side.pos (Stt.e a))
 = Pos.block (Side.pos (Stt.e b))) && (decide (Pos.index (Side.pos (Stt.e a)) = Pos.index (Side.pos (Stt.e b))) && (decide (Pos.base (Side.pos (Stt.e a)) = Pos.base
 (Side.pos (Stt.e b))) && true)) && (decide (Side.wait (Stt.e a) = Side.wait (Stt.e b)) && (Side.halted (Stt.e a) == Side.halted (Stt.e b) && (decide (Side.done (Stt.e
 a) = Side.done (Stt.e b)) && true))))) else false then decide (Trp.kind (Stt.trap a) = Trp.kind (Stt.trap b)) && (decide (Trp.step (Stt.trap a) = Trp.step (Stt.trap
 b)) && (decide (Trp.pc (Stt.trap a) = Trp.pc (Stt.trap b)) && true)) else false then decide (Stt.lats a = Stt.lats b) else false then decide (Stt.picks a = Stt.picks
 b) else false then decide (Stt.tags a = Stt.tags b) else false then y else false then y_1 else false then y_2 else false then y_3 else false then ∃ (s : List Bool
 × List Bool), ArgsLe [e_row 1 e_bool (Stt.ebq a), e_row 1 e_bool (Stt.ebq b)] [e_row 1 e_bool (Prod.fst s), e_row 1 e_bool (Prod.snd s)] ∧ PreIs (List.length (Prod.fst
 s) ≤ 1000000) ∧ ∀ (y_4 : Bool), y_4 = decide (Prod.fst s = Prod.snd s) → bif bif bif bif bif bif bif bif bif bif bif bif decide (Stt.cycle a = Stt.cycle b) then
 allN (fun i => decide (Side.regs (Stt.a a) i = Side.regs (Stt.a b) i)) 16 && (allN (fun i => decide (Side.ready (Stt.a a) i = Side.ready (Stt.a b) i)) 16 && (decide
 (Pos.block (Side.pos (Stt.a a)) = Pos.block (Side.pos (Stt.a b))) && (decide (Pos.index (Side.pos (Stt.a a)) = Pos.index (Side.pos (Stt.a b))) && (decide (Pos.base
 (Side.pos (Stt.a a)) = Pos.base (Side.pos (Stt.a b))) && true)) && (decide (Side.wait (Stt.a a) = Side.wait (Stt.a b)) && (Side.halted (Stt.a a) == Side.halted (Stt.a
 b) && (decide (Side.done (Stt.a a) = Side.done (Stt.a b)) && true))))) else false then allN (fun i => decide (Side.regs (Stt.e a) i = Side.regs (Stt.e b) i)) 16
 && (allN (fun i => decide (Side.ready (Stt.e a) i = Side.ready (Stt.e b) i)) 16 && (decide (Pos.block (Side.pos (Stt.e a)) = Pos.block (Side.pos (Stt.e b))) && (decide
 (Pos.index (Side.pos (Stt.e a)) = Pos.index (Side.pos (Stt.e b))) && (decide (Pos.base (Side.pos (Stt.e a)) = Pos.base (Side.pos (Stt.e b))) && true)) && (decide
 (Side.wait (Stt.e a) = Side.wait (Stt.e b)) && (Side.halted (Stt.e a) == Side.halted (Stt.e b) && (decide (Side.done (Stt.e a) = Side.done (Stt.e b)) && true)))))
 else false then decide (Trp.kind (Stt.trap a) = Trp.kind (Stt.trap b)) && (decide (Trp.step (Stt.trap a) = Trp.step (Stt.trap b)) && (decide (Trp.pc (Stt.trap a)
 = Trp.pc (Stt.trap b)) && true)) else false then decide (Stt.lats a = Stt.lats b) else false then decide (Stt.picks a = Stt.picks b) else false then decide (Stt.tags
 a = Stt.tags b) else false then y else false then y_1 else false then y_2 else false then y_3 else false then y_4 else false then ∃ (s : List Entry × List Entry),
 ArgsLe [e_row 5 e_Entry (Stt.saq a), e_row 5 e_Entry (Stt.saq b)] [e_row 5 e_Entry (Prod.fst s), e_row 5 e_Entry (Prod.snd s)] ∧ PreIs (List.length (Prod.fst s)
 ≤ 1000000) ∧ ∀ (y_5 : Bool), y_5 = decide (Prod.fst s = Prod.snd s) → bif bif bif bif bif bif bif bif bif bif bif bif bif decide (Stt.cycle a = Stt.cycle b) then
 allN (fun i => decide (Side.regs (Stt.a a) i = Side.regs (Stt.a b) i)) 16 && (allN (fun i => decide (Side.ready (Stt.a a) i = Side.ready (Stt.a b) i)) 16 && (decide
 (Pos.block (Side.pos (Stt.a a)) = Pos.block (Side.pos (Stt.a b))) && (decide (Pos.index (Side.pos (Stt.a a)) = Pos.index (Side.pos (Stt.a b))) && (decide (Pos.base
 (Side.pos (Stt.a a)) = Pos.base (Side.pos (Stt.a b))) && true)) && (decide (Side.wait (Stt.a a) = Side.wait (Stt.a b)) && (Side.halted (Stt.a a) == Side.halted (Stt.a
 b) && (decide (Side.done (Stt.a a) = Side.done (Stt.a b)) && true))))) else false then allN (fun i => decide (Side.regs (Stt.e a) i = Side.regs (Stt.e b) i)) 16
 && (allN (fun i => decide (Side.ready (Stt.e a) i = Side.ready (Stt.e b) i)) 16 && (decide (Pos.block (Side.pos (Stt.e a)) = Pos.block (Side.pos (Stt.e b))) && (decide
 (Pos.index (Side.pos (Stt.e a)) = Pos.index (Side.pos (Stt.e b))) && (decide (Pos.base (Side.pos (Stt.e a)) = Pos.base (Side.pos (Stt.e b))) && true)) && (decide
 (Side.wait (Stt.e a) = Side.wait (Stt.e b)) && (Side.halted (Stt.e a) == Side.halted (Stt.e b) && (decide (Side.done (Stt.e a) = Side.done (Stt.e b)) && true)))))
 else false then decide (Trp.kind (Stt.trap a) = Trp.kind (Stt.trap b)) && (decide (Trp.step (Stt.trap a) = Trp.step (Stt.trap b)) && (decide (Trp.pc (Stt.trap a)
 = Trp.pc (Stt.trap b)) && true)) else false then decide (Stt.lats a = Stt.lats b) else false then decide (Stt.picks a = Stt.picks b) else false then decide (Stt.tags
 a = Stt.tags b) else false then y else false then y_1 else false then y_2 else false then y_3 else false then y_4 else false then y_5 else false then ∃ (s : List
 Req × List Req), ArgsLe [e_row 8 e_Req (Stt.table a), e_row 8 e_Req (Stt.table b)] [e_row 8 e_Req (Prod.fst s), e_row 8 e_Req (Prod.snd s)] ∧ PreIs (List.length
 (Prod.fst s) ≤ 1000000) ∧ ∀ (y_6 : Bool), y_6 = decide (Prod.fst s = Prod.snd s) → bif bif bif bif bif bif bif bif bif bif bif bif bif bif decide (Stt.cycle a =
 Stt.cycle b) then allN (fun i => decide (Side.regs (Stt.a a) i = Side.regs (Stt.a b) i)) 16 && (allN (fun i => decide (Side.ready (Stt.a a) i = Side.ready (Stt.a
 b) i)) 16 && (decide (Pos.block (Side.pos (Stt.a a)) = Pos.block (Side.pos (Stt.a b))) && (decide (Pos.index (Side.pos (Stt.a a)) = Pos.index (Side.pos (Stt.a b)))
 && (decide (Pos.base (Side.pos (Stt.a a)) = Pos.base (Side.pos (Stt.a b))) && true)) && (decide (Side.wait (Stt.a a) = Side.wait (Stt.a b)) && (Side.halted (Stt.a
 a) == Side.halted (Stt.a b) && (decide (Side.done (Stt.a a) = Side.done (Stt.a b)) && true))))) else false then allN (fun i => decide (Side.regs (Stt.e a) i = Side.regs
 (Stt.e b) i)) 16 && (allN (fun i => decide (Side.ready (Stt.e a) i = Side.ready (Stt.e b) i)) 16 && (decide (Pos.block (Side.pos (Stt.e a)) = Pos.block (Side.pos
 (Stt.e b))) && (decide (Pos.index (Side.pos (Stt.e a)) = Pos.index (Side.pos (Stt.e b))) && (decide (Pos.base (Side.pos (Stt.e a)) = Pos.base (Side.pos (Stt.e b)))
 && true)) && (decide (Side.wait (Stt.e a) = Side.wait (Stt.e b)) && (Side.halted (Stt.e a) == Side.halted (Stt.e b) && (decide (Side.done (Stt.e a) = Side.done (Stt.e
 b)) && true))))) else false then decide (Trp.kind (Stt.trap a) = Trp.kind (Stt.trap b)) && (decide (Trp.step (Stt.trap a) = Trp.step (Stt.trap b)) && (decide (Trp.pc
 (Stt.trap a) = Trp.pc (Stt.trap b)) && true)) else false then decide (Stt.lats a = Stt.lats b) else false then decide (Stt.picks a = Stt.picks b) else false then
 decide (Stt.tags a = Stt.tags b) else false then y else false then y_1 else false then y_2 else false then y_3 else false then y_4 else false then y_5 else false
 then y_6 else false then ∃ (s : List Int × List Int), ArgsLe [e_row 1 e_u8 (Stt.mem a), e_row 1 e_u8 (Stt.mem b)] [e_row 1 e_u8 (Prod.fst s), e_row 1 e_u8 (Prod.snd
 s)] ∧ PreIs (List.length (Prod.fst s) ≤ 1000000) ∧ ∀ (y_7 : Bool), y_7 = decide (Prod.fst s = Prod.snd s) → bif bif bif bif bif bif bif bif bif bif bif bif bif bif
 bif decide (Stt.cycle a = Stt.cycle b) then allN (fun i => decide (Side.regs (Stt.a a) i = Side.regs (Stt.a b) i)) 16 && (allN (fun i => decide (Side.ready (Stt.a
 a) i = Side.ready (Stt.a b) i)) 16 && (decide (Pos.block (Side.pos (Stt.a a)) = Pos.block (Side.pos (Stt.a b))) && (decide (Pos.index (Side.pos (Stt.a a)) = Pos.index
 (Side.pos (Stt.a b))) && (decide (Pos.base (Side.pos (Stt.a a)) = Pos.base (Side.pos (Stt.a b))) && true)) && (decide (Side.wait (Stt.a a) = Side.wait (Stt.a b))
 && (Side.halted (Stt.a a) == Side.halted (Stt.a b) && (decide (Side.done (Stt.a a) = Side.done (Stt.a b)) && true))))) else false then allN (fun i => decide (Side.regs
 (Stt.e a) i = Side.regs (Stt.e b) i)) 16 && (allN (fun i => decide (Side.ready (Stt.e a) i = Side.ready (Stt.e b) i)) 16 && (decide (Pos.block (Side.pos (Stt.e a))
 = Pos.block (Side.pos (Stt.e b))) && (decide (Pos.index (Side.pos (Stt.e a)) = Pos.index (Side.pos (Stt.e b))) && (decide (Pos.base (Side.pos (Stt.e a)) = Pos.base
 (Side.pos (Stt.e b))) && true)) && (decide (Side.wait (Stt.e a) = Side.wait (Stt.e b)) && (Side.halted (Stt.e a) == Side.halted (Stt.e b) && (decide (Side.done (Stt.e
 a) = Side.done (Stt.e b)) && true))))) else false then decide (Trp.kind (Stt.trap a) = Trp.kind (Stt.trap b)) && (decide (Trp.step (Stt.trap a) = Trp.step (Stt.trap
 b)) && (decide (Trp.pc (Stt.trap a) = Trp.pc (Stt.trap b)) && true)) else false then decide (Stt.lats a = Stt.lats b) else false then decide (Stt.picks a = Stt.picks
 b) else false then decide (Stt.tags a = Stt.tags b) else false then y else false then y_1 else false then y_2 else false then y_3 else false then y_4 else false
 then y_5 else false then y_6 else false then y_7 else false then ∃ (s : List Wr × List Wr), ArgsLe [e_row 3 e_Wr (Stt.writes a), e_row 3 e_Wr (Stt.writes b)] [e_row
 3 e_Wr (Prod.fst s), e_row 3 e_Wr (Prod.snd s)] ∧ PreIs (List.length (Prod.fst s) ≤ 1000000) ∧ ∀ (y_8 : Bool), y_8 = decide (Prod.fst s = Prod.snd s) → ResLe (.bool
 (bif bif bif bif bif bif bif bif bif bif bif bif bif bif bif decide (Stt.cycle a = Stt.cycle b) then allN (fun (i : Nat) => decide (Side.regs (Stt.a a) i = Side.regs
 (Stt.a b) i)) 16 && (allN (fun (i : Nat) => decide (Side.ready (Stt.a a) i = Side.ready (Stt.a b) i)) (16 : Nat) && (decide (Pos.block (Side.pos (Stt.a a)) = Pos.block
 (Side.pos (Stt.a b))) && (decide (Pos.index (Side.pos (Stt.a a)) = Pos.index (Side.pos (Stt.a b))) && (decide (Pos.base (Side.pos (Stt.a a)) = Pos.base (Side.pos
 (Stt.a b))) && true)) && (decide (Side.wait (Stt.a a) = Side.wait (Stt.a b)) && (Side.halted (Stt.a a) == Side.halted (Stt.a b) && (decide (Side.done (Stt.a a) =
 Side.done (Stt.a b)) && true))))) else false then allN (fun i => decide (Side.regs (Stt.e a) i = Side.regs (Stt.e b) i)) 16 && (allN (fun (i : Nat) => decide (Side.ready
 (Stt.e a) i = Side.ready (Stt.e b) i)) 16 && (decide (Pos.block (Side.pos (Stt.e a)) = Pos.block (Side.pos (Stt.e b))) && (decide (Pos.index (Side.pos (Stt.e a))
 = Pos.index (Side.pos (Stt.e b))) && (decide (Pos.base (Side.pos (Stt.e a)) = Pos.base (Side.pos (Stt.e b))) && true)) && (decide (Side.wait (Stt.e a) = Side.wait
 (Stt.e b)) && (Side.halted (Stt.e a) == Side.halted (Stt.e b) && (decide (Side.done (Stt.e a) = Side.done (Stt.e b)) && true))))) else false then decide (Trp.kind
 (Stt.trap a) = Trp.kind (Stt.trap b)) && (decide (Trp.step (Stt.trap a) = Trp.step (Stt.trap b)) && (decide (Trp.pc (Stt.trap a) = Trp.pc (Stt.trap b)) && true))
 else false then decide (Stt.lats a = Stt.lats b) else false then decide (Stt.picks a = Stt.picks b) else false then decide (Stt.tags a = Stt.tags b) else false then
 y else false then y_1 else false then y_2 else false then y_3 else false then y_4 else false then y_5 else false then y_6 else false then y_7 else false then y_8
 else false)) r else bif !bif bif bif bif bif bif bif bif bif bif bif bif bif bif decide (Stt.cycle a = Stt.cycle b) then allN (fun i => decide (Side.regs (Stt.a
 a) i = Side.regs (Stt.a b) i)) 16 && (allN (fun i => decide (Side.ready (Stt.a a) i = Side.ready (Stt.a b) i)) 16 && (decide (Pos.block (Side.pos (Stt.a a)) = Pos.block
 (Side.pos (Stt.a b))) && (decide (Pos.index (Side.pos (Stt.a a)) = Pos.index (Side.pos (Stt.a b))) && (decide (Pos.base (Side.pos (Stt.a a)) = Pos.base (Side.pos
 (Stt.a b))) && true)) && (decide (Side.wait (Stt.a a) = Side.wait (Stt.a b)) && (Side.halted (Stt.a a) == Side.halted (Stt.a b) && (decide (Side.done (Stt.a a) =
 Side.done (Stt.a b)) && true))))) else false then allN (fun i => decide (Side.regs (Stt.e a) i = Side.regs (Stt.e b) i)) 16 && (allN (fun i => decide (Side.ready
 (Stt.e a) i = Side.ready (Stt.e b) i)) 16 && (decide (Pos.block (Side.pos (Stt.e a)) = Pos.block (Side.pos (Stt.e b))) && (decide (Pos.index (Side.pos (Stt.e a))
 = Pos.index (Side.pos (Stt.e b))) && (decide (Pos.base (Side.pos (Stt.e a)) = Pos.base (Side.pos (Stt.e b))) && true)) && (decide (Side.wait (Stt.e a) = Side.wait
 (Stt.e b)) && (Side.halted (Stt.e a) == Side.halted (Stt.e b) && (decide (Side.done (Stt.e a) = Side.done (Stt.e b)) && true))))) else false then decide (Trp.kind
 (Stt.trap a) = Trp.kind (Stt.trap b)) && (decide (Trp.step (Stt.trap a) = Trp.step (Stt.trap b)) && (decide (Trp.pc (Stt.trap a) = Trp.pc (Stt.trap b)) && true))
 else false then decide (Stt.lats a = Stt.lats b) else false then decide (Stt.picks a = Stt.picks b) else false then decide (Stt.tags a = Stt.tags b) else false then
 y else false then y_1 else false then y_2 else false then y_3 else false then y_4 else false then y_5 else false then y_6 else false then y_7 else false then ResLe
 (.bool false) r else False else bif !bif bif bif bif bif bif bif bif bif bif bif bif bif decide (Stt.cycle a = Stt.cycle b) then allN (fun i => decide (Side.regs
 (Stt.a a) i = Side.regs (Stt.a b) i)) 16 && (allN (fun i => decide (Side.ready (Stt.a a) i = Side.ready (Stt.a b) i)) 16 && (decide (Pos.block (Side.pos (Stt.a a))
 = Pos.block (Side.pos (Stt.a b))) && (decide (Pos.index (Side.pos (Stt.a a)) = Pos.index (Side.pos (Stt.a b))) && (decide (Pos.base (Side.pos (Stt.a a)) = Pos.base
 (Side.pos (Stt.a b))) && true)) && (decide (Side.wait (Stt.a a) = Side.wait (Stt.a b)) && (Side.halted (Stt.a a) == Side.halted (Stt.a b) && (decide (Side.done (Stt.a
 a) = Side.done (Stt.a b)) && true))))) else false then allN (fun i => decide (Side.regs (Stt.e a) i = Side.regs (Stt.e b) i)) 16 && (allN (fun i => decide (Side.ready
 (Stt.e a) i = Side.ready (Stt.e b) i)) 16 && (decide (Pos.block (Side.pos (Stt.e a)) = Pos.block (Side.pos (Stt.e b))) && (decide (Pos.index (Side.pos (Stt.e a))
 = Pos.index (Side.pos (Stt.e b))) && (decide (Pos.base (Side.pos (Stt.e a)) = Pos.base (Side.pos (Stt.e b))) && true)) && (decide (Side.wait (Stt.e a) = Side.wait
 (Stt.e b)) && (Side.halted (Stt.e a) == Side.halted (Stt.e b) && (decide (Side.done (Stt.e a) = Side.done (Stt.e b)) && true))))) else false then decide (Trp.kind
 (Stt.trap a) = Trp.kind (Stt.trap b)) && (decide (Trp.step (Stt.trap a) = Trp.step (Stt.trap b)) && (decide (Trp.pc (Stt.trap a) = Trp.pc (Stt.trap b)) && true))
 else false then decide (Stt.lats a = Stt.lats b) else false then decide (Stt.picks a = Stt.picks b) else false then decide (Stt.tags a = Stt.tags b) else false then
 y else false then y_1 else false then y_2 else false then y_3 else false then y_4 else false then y_5 else false then y_6 else false then ResLe (.bool false) r else
 False else bif !bif bif bif bif bif bif bif bif bif bif bif bif decide (Stt.cycle a = Stt.cycle b) then allN (fun i => decide (Side.regs (Stt.a a) i = Side.regs
 (Stt.a b) i)) 16 && (allN (fun i => decide (Side.ready (Stt.a a) i = Side.ready (Stt.a b) i)) 16 && (decide (Pos.block (Side.pos (Stt.a a)) = Pos.block (Side.pos
 (Stt.a b))) && (decide (Pos.index (Side.pos (Stt.a a)) = Pos.index (Side.pos (Stt.a b))) && (decide (Pos.base (Side.pos (Stt.a a)) = Pos.base (Side.pos (Stt.a b)))
 && true)) && (decide (Side.wait (Stt.a a) = Side.wait (Stt.a b)) && (Side.halted (Stt.a a) == Side.halted (Stt.a b) && (decide (Side.done (Stt.a a) = Side.done (Stt.a
 b)) && true))))) else false then allN (fun i => decide (Side.regs (Stt.e a) i = Side.regs (Stt.e b) i)) 16 && (allN (fun i => decide (Side.ready (Stt.e a) i = Side.ready
 (Stt.e b) i)) 16 && (decide (Pos.block (Side.pos (Stt.e a)) = Pos.block (Side.pos (Stt.e b))) && (decide (Pos.index (Side.pos (Stt.e a)) = Pos.index (Side.pos (Stt.e
 b))) && (decide (Pos.base (Side.pos (Stt.e a)) = Pos.base (Side.pos (Stt.e b))) && true)) && (decide (Side.wait (Stt.e a) = Side.wait (Stt.e b)) && (Side.halted
 (Stt.e a) == Side.halted (Stt.e b) && (decide (Side.done (Stt.e a) = Side.done (Stt.e b)) && true))))) else false then decide (Trp.kind (Stt.trap a) = Trp.kind (Stt.trap
 b)) && (decide (Trp.step (Stt.trap a) = Trp.step (Stt.trap b)) && (decide (Trp.pc (Stt.trap a) = Trp.pc (Stt.trap b)) && true)) else false then decide (Stt.lats
 a = Stt.lats b) else false then decide (Stt.picks a = Stt.picks b) else false then decide (Stt.tags a = Stt.tags b) else false then y else false then y_1 else false
 then y_2 else false then y_3 else false then y_4 else false then y_5 else false then ResLe (.bool false) r else False else bif !bif bif bif bif bif bif bif bif bif
 bif bif decide (Stt.cycle a = Stt.cycle b) then allN (fun i => decide (Side.regs (Stt.a a) i = Side.regs (Stt.a b) i)) 16 && (allN (fun i => decide (Side.ready (Stt.a
 a) i = Side.ready (Stt.a b) i)) 16 && (decide (Pos.block (Side.pos (Stt.a a)) = Pos.block (Side.pos (Stt.a b))) && (decide (Pos.index (Side.pos (Stt.a a)) = Pos.index
 (Side.pos (Stt.a b))) && (decide (Pos.base (Side.pos (Stt.a a)) = Pos.base (Side.pos (Stt.a b))) && true)) && (decide (Side.wait (Stt.a a) = Side.wait (Stt.a b))
 && (Side.halted (Stt.a a) == Side.halted (Stt.a b) && (decide (Side.done (Stt.a a) = Side.done (Stt.a b)) && true))))) else false then allN (fun i => decide (Side.regs
 (Stt.e a) i = Side.regs (Stt.e b) i)) 16 && (allN (fun i => decide (Side.ready (Stt.e a) i = Side.ready (Stt.e b) i)) 16 && (decide (Pos.block (Side.pos (Stt.e a))
 = Pos.block (Side.pos (Stt.e b))) && (decide (Pos.index (Side.pos (Stt.e a)) = Pos.index (Side.pos (Stt.e b))) && (decide (Pos.base (Side.pos (Stt.e a)) = Pos.base
 (Side.pos (Stt.e b))) && true)) && (decide (Side.wait (Stt.e a) = Side.wait (Stt.e b)) && (Side.halted (Stt.e a) == Side.halted (Stt.e b) && (decide (Side.done (Stt.e
 a) = Side.done (Stt.e b)) && true))))) else false then decide (Trp.kind (Stt.trap a) = Trp.kind (Stt.trap b)) && (decide (Trp.step (Stt.trap a) = Trp.step (Stt.trap
 b)) && (decide (Trp.pc (Stt.trap a) = Trp.pc (Stt.trap b)) && true)) else false then decide (Stt.lats a = Stt.lats b) else false then decide (Stt.picks a = Stt.picks
 b) else false then decide (Stt.tags a = Stt.tags b) else false then y else false then y_1 else false then y_2 else false then y_3 else false then y_4 else false
 then ResLe (.bool false) r else False else bif !bif bif bif bif bif bif bif bif bif bif decide (Stt.cycle a = Stt.cycle b) then allN (fun i => decide (Side.regs
 (Stt.a a) i = Side.regs (Stt.a b) i)) 16 && (allN (fun i => decide (Side.ready (Stt.a a) i = Side.ready (Stt.a b) i)) 16 && (decide (Pos.block (Side.pos (Stt.a a))
 = Pos.block (Side.pos (Stt.a b))) && (decide (Pos.index (Side.pos (Stt.a a)) = Pos.index (Side.pos (Stt.a b))) && (decide (Pos.base (Side.pos (Stt.a a)) = Pos.base
 (Side.pos (Stt.a b))) && true)) && (decide (Side.wait (Stt.a a) = Side.wait (Stt.a b)) && (Side.halted (Stt.a a) == Side.halted (Stt.a b) && (decide (Side.done (Stt.a
 a) = Side.done (Stt.a b)) && true))))) else false then allN (fun i => decide (Side.regs (Stt.e a) i = Side.regs (Stt.e b) i)) 16 && (allN (fun i => decide (Side.ready
 (Stt.e a) i = Side.ready (Stt.e b) i)) 16 && (decide (Pos.block (Side.pos (Stt.e a)) = Pos.block (Side.pos (Stt.e b))) && (decide (Pos.index (Side.pos (Stt.e a))
 = Pos.index (Side.pos (Stt.e b))) && (decide (Pos.base (Side.pos (Stt.e a)) = Pos.base (Side.pos (Stt.e b))) && true)) && (decide (Side.wait (Stt.e a) = Side.wait
 (Stt.e b)) && (Side.halted (Stt.e a) == Side.halted (Stt.e b) && (decide (Side.done (Stt.e a) = Side.done (Stt.e b)) && true))))) else false then decide (Trp.kind
 (Stt.trap a) = Trp.kind (Stt.trap b)) && (decide (Trp.step (Stt.trap a) = Trp.step (Stt.trap b)) && (decide (Trp.pc (Stt.trap a) = Trp.pc (Stt.trap b)) && true))
 else false then decide (Stt.lats a = Stt.lats b) else false then decide (Stt.picks a = Stt.picks b) else false then decide (Stt.tags a = Stt.tags b) else false then
 y else false then y_1 else false then y_2 else false then y_3 else false then ResLe (.bool false) r else False else bif !bif bif bif bif bif bif bif bif bif decide
 (Stt.cycle a = Stt.cycle b) then allN (fun i => decide (Side.regs (Stt.a a) i = Side.regs (Stt.a b) i)) 16 && (allN (fun i => decide (Side.ready (Stt.a a) i = Side.ready
 (Stt.a b) i)) 16 && (decide (Pos.block (Side.pos (Stt.a a)) = Pos.block (Side.pos (Stt.a b))) && (decide (Pos.index (Side.pos (Stt.a a)) = Pos.index (Side.pos (Stt.a
 b))) && (decide (Pos.base (Side.pos (Stt.a a)) = Pos.base (Side.pos (Stt.a b))) && true)) && (decide (Side.wait (Stt.a a) = Side.wait (Stt.a b)) && (Side.halted
 (Stt.a a) == Side.halted (Stt.a b) && (decide (Side.done (Stt.a a) = Side.done (Stt.a b)) && true))))) else false then allN (fun i => decide (Side.regs (Stt.e a)
 i = Side.regs (Stt.e b) i)) 16 && (allN (fun i => decide (Side.ready (Stt.e a) i = Side.ready (Stt.e b) i)) 16 && (decide (Pos.block (Side.pos (Stt.e a)) = Pos.block
 (Side.pos (Stt.e b))) && (decide (Pos.index (Side.pos (Stt.e a)) = Pos.index (Side.pos (Stt.e b))) && (decide (Pos.base (Side.pos (Stt.e a)) = Pos.base (Side.pos
 (Stt.e b))) && true)) && (decide (Side.wait (Stt.e a) = Side.wait (Stt.e b)) && (Side.halted (Stt.e a) == Side.halted (Stt.e b) && (decide (Side.done (Stt.e a) =
 Side.done (Stt.e b)) && true))))) else false then decide (Trp.kind (Stt.trap a) = Trp.kind (Stt.trap b)) && (decide (Trp.step (Stt.trap a) = Trp.step (Stt.trap b))
 && (decide (Trp.pc (Stt.trap a) = Trp.pc (Stt.trap b)) && true)) else false then decide (Stt.lats a = Stt.lats b) else false then decide (Stt.picks a = Stt.picks
 b) else false then decide (Stt.tags a = Stt.tags b) else false then y else false then y_1 else false then y_2 else false then ResLe (.bool false) r else False else
 bif !bif bif bif bif bif bif bif bif decide (Stt.cycle a = Stt.cycle b) then allN (fun i => decide (Side.regs (Stt.a a) i = Side.regs (Stt.a b) i)) 16 && (allN (fun
 i => decide (Side.ready (Stt.a a) i = Side.ready (Stt.a b) i)) 16 && (decide (Pos.block (Side.pos (Stt.a a)) = Pos.block (Side.pos (Stt.a b))) && (decide (Pos.index
 (Side.pos (Stt.a a)) = Pos.index (Side.pos (Stt.a b))) && (decide (Pos.base (Side.pos (Stt.a a)) = Pos.base (Side.pos (Stt.a b))) && true)) && (decide (Side.wait
 (Stt.a a) = Side.wait (Stt.a b)) && (Side.halted (Stt.a a) == Side.halted (Stt.a b) && (decide (Side.done (Stt.a a) = Side.done (Stt.a b)) && true))))) else false
 then allN (fun i => decide (Side.regs (Stt.e a) i = Side.regs (Stt.e b) i)) 16 && (allN (fun i => decide (Side.ready (Stt.e a) i = Side.ready (Stt.e b) i)) 16 &&
 (decide (Pos.block (Side.pos (Stt.e a)) = Pos.block (Side.pos (Stt.e b))) && (decide (Pos.index (Side.pos (Stt.e a)) = Pos.index (Side.pos (Stt.e b))) && (decide
 (Pos.base (Side.pos (Stt.e a)) = Pos.base (Side.pos (Stt.e b))) && true)) && (decide (Side.wait (Stt.e a) = Side.wait (Stt.e b)) && (Side.halted (Stt.e a) == Side.halted
 (Stt.e b) && (decide (Side.done (Stt.e a) = Side.done (Stt.e b)) && true))))) else false then decide (Trp.kind (Stt.trap a) = Trp.kind (Stt.trap b)) && (decide (Trp.step
 (Stt.trap a) = Trp.step (Stt.trap b)) && (decide (Trp.pc (Stt.trap a) = Trp.pc (Stt.trap b)) && true)) else false then decide (Stt.lats a = Stt.lats b) else false
 then decide (Stt.picks a = Stt.picks b) else false then decide (Stt.tags a = Stt.tags b) else false then y else false then y_1 else false then ResLe (.bool false)
 r else False else bif !bif bif bif bif bif bif bif decide (Stt.cycle a = Stt.cycle b) then allN (fun i => decide (Side.regs (Stt.a a) i = Side.regs (Stt.a b) i))
 16 && (allN (fun i => decide (Side.ready (Stt.a a) i = Side.ready (Stt.a b) i)) 16 && (decide (Pos.block (Side.pos (Stt.a a)) = Pos.block (Side.pos (Stt.a b))) &&
 (decide (Pos.index (Side.pos (Stt.a a)) = Pos.index (Side.pos (Stt.a b))) && (decide (Pos.base (Side.pos (Stt.a a)) = Pos.base (Side.pos (Stt.a b))) && true)) &&
 (decide (Side.wait (Stt.a a) = Side.wait (Stt.a b)) && (Side.halted (Stt.a a) == Side.halted (Stt.a b) && (decide (Side.done (Stt.a a) = Side.done (Stt.a b)) &&
 true))))) else false then allN (fun i => decide (Side.regs (Stt.e a) i = Side.regs (Stt.e b) i)) 16 && (allN (fun i => decide (Side.ready (Stt.e a) i = Side.ready
 (Stt.e b) i)) 16 && (decide (Pos.block (Side.pos (Stt.e a)) = Pos.block (Side.pos (Stt.e b))) && (decide (Pos.index (Side.pos (Stt.e a)) = Pos.index (Side.pos (Stt.e
 b))) && (decide (Pos.base (Side.pos (Stt.e a)) = Pos.base (Side.pos (Stt.e b))) && true)) && (decide (Side.wait (Stt.e a) = Side.wait (Stt.e b)) && (Side.halted
 (Stt.e a) == Side.halted (Stt.e b) && (decide (Side.done (Stt.e a) = Side.done (Stt.e b)) && true))))) else false then decide (Trp.kind (Stt.trap a) = Trp.kind (Stt.trap
 b)) && (decide (Trp.step (Stt.trap a) = Trp.step (Stt.trap b)) && (decide (Trp.pc (Stt.trap a) = Trp.pc (Stt.trap b)) && true)) else false then decide (Stt.lats
 a = Stt.lats b) else false then decide (Stt.picks a = Stt.picks b) else false then decide (Stt.tags a = Stt.tags b) else false then y else false then ResLe (.bool
 false) r else False else bif !bif bif bif bif bif bif decide (Stt.cycle a = Stt.cycle b) then allN (fun i => decide (Side.regs (Stt.a a) i = Side.regs (Stt.a b)
 i)) 16 && (allN (fun i => decide (Side.ready (Stt.a a) i = Side.ready (Stt.a b) i)) 16 && (decide (Pos.block (Side.pos (Stt.a a)) = Pos.block (Side.pos (Stt.a b)))
 && (decide (Pos.index (Side.pos (Stt.a a)) = Pos.index (Side.pos (Stt.a b))) && (decide (Pos.base (Side.pos (Stt.a a)) = Pos.base (Side.pos (Stt.a b))) && true))
 && (decide (Side.wait (Stt.a a) = Side.wait (Stt.a b)) && (Side.halted (Stt.a a) == Side.halted (Stt.a b) && (decide (Side.done (Stt.a a) = Side.done (Stt.a b))
 && true))))) else false then allN (fun i => decide (Side.regs (Stt.e a) i = Side.regs (Stt.e b) i)) 16 && (allN (fun i => decide (Side.ready (Stt.e a) i = Side.ready
 (Stt.e b) i)) 16 && (decide (Pos.block (Side.pos (Stt.e a)) = Pos.block (Side.pos (Stt.e b))) && (decide (Pos.index (Side.pos (Stt.e a)) = Pos.index (Side.pos (Stt.e
 b))) && (decide (Pos.base (Side.pos (Stt.e a)) = Pos.base (Side.pos (Stt.e b))) && true)) && (decide (Side.wait (Stt.e a) = Side.wait (Stt.e b)) && (Side.halted
 (Stt.e a) == Side.halted (Stt.e b) && (decide (Side.done (Stt.e a) = Side.done (Stt.e b)) && true))))) else false then decide (Trp.kind (Stt.trap a) = Trp.kind (Stt.trap
 b)) && (decide (Trp.step (Stt.trap a) = Trp.step (Stt.trap b)) && (decide (Trp.pc (Stt.trap a) = Trp.pc (Stt.trap b)) && true)) else false then decide (Stt.lats
 a = Stt.lats b) else false then decide (Stt.picks a = Stt.picks b) else false then decide (Stt.tags a = Stt.tags b) else false then ResLe (.bool false) r else False
 else False else False else False else False else False
else False) := by kernel_rfl
theorem same_eq {a b : Stt} : sameF a b = (decide (a.cycle = b.cycle) && (sideB a.a b.a && (sideB a.e b.e && (trpB a.trap b.trap && (decide (a.lats = b.lats) && (decide (a.picks = b.picks) && (decide (a.tags = b.tags) && (decide (a.ldq = b.ldq) && (decide (a.sdq = b.sdq) && (decide (a.aeq = b.aeq) && (decide (a.abq = b.abq) && (decide (a.ebq = b.ebq) && (decide (a.saq = b.saq) && (decide (a.table = b.table) && (decide (a.mem = b.mem) && decide (a.writes = b.writes)))))))))))))))) := by
  rw [Bool.eq_iff_iff, sameF_iff]
  simp only [hdB, Bool.and_eq_true, decide_eq_true_eq]
  constructor
  · rintro ⟨⟨h1, h2, h3, h4, h5, h6, h7, h8, _⟩, h9, h10, h11, h12, h13, h14, h15, h16⟩
    exact ⟨h1, h2, h3, h4, h5, h6, h7, h9, h13, h14, h15, h16, h10, h11, h8, h12⟩
  · rintro ⟨h1, h2, h3, h4, h5, h6, h7, h9, h13, h14, h15, h16, h10, h11, h8, h12⟩
    exact ⟨⟨h1, h2, h3, h4, h5, h6, h7, h8, by rw [h9], by rw [h10], by rw [h11], by rw [h12]⟩, h9, h10, h11, h12, h13, h14, h15, h16⟩
theorem sm_pure (a b : Stt) (ha : a.lens) : Pure Try.prog 18 (cons [e_Stt a, e_Stt b]) (con (.bool (sameF a b))) := by
  refine pureR (u := 80) (k := 20) mix TE1ok ?_
  refine Eq.mpr (r_sm a b _) ?_
  obtain ⟨o1, o2, o3, o4, o5, o6, o7, o8, o9⟩ := ha
  simp only [sideB_fold, trpB_fold]
  rw [same_eq]
  generalize decide (a.cycle = b.cycle) = c0
  generalize sideB a.a b.a = c1
  generalize sideB a.e b.e = c2
  generalize trpB a.trap b.trap = c3
  generalize decide (a.lats = b.lats) = c4
  generalize decide (a.picks = b.picks) = c5
  generalize decide (a.tags = b.tags) = c6
  cases c0 with
  | false => exact .rfl
  | true =>
  cases c1 with
  | false => exact .rfl
  | true =>
  cases c2 with
  | false => exact .rfl
  | true =>
  cases c3 with
  | false => exact .rfl
  | true =>
  cases c4 with
  | false => exact .rfl
  | true =>
  cases c5 with
  | false => exact .rfl
  | true =>
  cases c6 with
  | false => exact .rfl
  | true =>
  refine ⟨(a.ldq, b.ldq), .rfl, ⟨o1⟩, ?_⟩
  intro y hy
  replace hy : y = decide (a.ldq = b.ldq) := hy
  rw [← hy]
  clear hy
  cases y with
  | false => exact .rfl
  | true =>
  refine ⟨(a.sdq, b.sdq), .rfl, ⟨o2⟩, ?_⟩
  intro y hy
  replace hy : y = decide (a.sdq = b.sdq) := hy
  rw [← hy]
  clear hy
  cases y with
  | false => exact .rfl
  | true =>
  refine ⟨(a.aeq, b.aeq), .rfl, ⟨o3⟩, ?_⟩
  intro y hy
  replace hy : y = decide (a.aeq = b.aeq) := hy
  rw [← hy]
  clear hy
  cases y with
  | false => exact .rfl
  | true =>
  refine ⟨(a.abq, b.abq), .rfl, ⟨o4⟩, ?_⟩
  intro y hy
  replace hy : y = decide (a.abq = b.abq) := hy
  rw [← hy]
  clear hy
  cases y with
  | false => exact .rfl
  | true =>
  refine ⟨(a.ebq, b.ebq), .rfl, ⟨o5⟩, ?_⟩
  intro y hy
  replace hy : y = decide (a.ebq = b.ebq) := hy
  rw [← hy]
  clear hy
  cases y with
  | false => exact .rfl
  | true =>
  refine ⟨(a.saq, b.saq), .rfl, ⟨o6⟩, ?_⟩
  intro y hy
  replace hy : y = decide (a.saq = b.saq) := hy
  rw [← hy]
  clear hy
  cases y with
  | false => exact .rfl
  | true =>
  refine ⟨(a.table, b.table), .rfl, ⟨o7⟩, ?_⟩
  intro y hy
  replace hy : y = decide (a.table = b.table) := hy
  rw [← hy]
  clear hy
  cases y with
  | false => exact .rfl
  | true =>
  refine ⟨(a.mem, b.mem), .rfl, ⟨o8⟩, ?_⟩
  intro y hy
  replace hy : y = decide (a.mem = b.mem) := hy
  rw [← hy]
  clear hy
  cases y with
  | false => exact .rfl
  | true =>
  refine ⟨(a.writes, b.writes), .rfl, ⟨o9⟩, ?_⟩
  intro y hy
  replace hy : y = decide (a.writes = b.writes) := hy
  rw [← hy]
  clear hy
  cases y <;> exact .rfl
theorem sk_sm : SkOk Try.prog (18, samS) := skOf_ok fun ⟨a, b⟩ h => sm_pure a b h.1.2
theorem sk_sml : SkOk Try.prog (18, smlS) := skOf_ok fun ⟨a, b⟩ h => sm_pure a b h
end Go.Proofs.Ythmlnmkbeohojaa

