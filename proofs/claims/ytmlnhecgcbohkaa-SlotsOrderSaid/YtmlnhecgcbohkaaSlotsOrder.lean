/- Places that are filled in any order are taken in the order in which they were reserved, each with its own word. -/
import Derived.Test.YtmlnhecgcbohkaaRows
import Derived.Test.YtmlnhecgcbohkaaS4
import Derived.Test.YtmlnhecgcbohkaaRaZg
import Derived.WalkKit
import Derived.ProofKit
import Derived.OpenShut
import Derived.ShutString
import Derived.ChangeOld
import Derived.Below
import Derived.SizedLaws
namespace Go.Proofs.Ytmlnhecgcbohkaa
open Go.Ra
set_option linter.unusedVariables false
set_option linter.unusedSimpArgs false
def TSo : Tab := mkT qq (cl_law16 ++ cl_slots ++ cl_slices ++ cl_ref15) [(21, fillSp), (19, resSp), (23, popSp)] (gl_slices ++ gl_ref15)
def tU32 : Ty := .int .u32
def tI64 : Ty := .int .i64
def o_q (g : Nat → Bool) (x : Nat) (w : AV) (j : Nat) : XV := .agg 3 [.int .i64 (100 + ((x + j : Nat) : Int)), .bool (g (x + j)), .int .u32 (bif g (x + j) then avI (avAt w (x + j)) else 0)]
def o_hd (g : Nat → Bool) (j : Nat) : XV := .bool (g j)
def gN (_ : Nat) : Bool := false
abbrev rW (w : AV) : XV := .row false 1 (avN w) (o_el tU32 w)
abbrev rO (o : AV) : XV := .row false 1 (avN o) (o_el tI64 o)
def sA (w o : AV) (i : Nat) : XSt := ⟨[(0, rW w), (1, rO o), (4, .bool false), (6, .row false 3 i (o_q gN 0 w)), (8, .int .i64 i)], [], 0⟩
def s4 (w o : AV) (n : Nat) (g : Nat → Bool) (x l i : Nat) : XSt := ⟨[(0, rW w), (1, rO o), (4, .bool false), (6, .row false 3 l (o_q g x w)), (9, .sl 0 [] 0 0 n 1), (10, .int .i64 x), (11, .int .i64 i)], [(0, some (.tab n 1 (o_hd g)))], 1⟩
def s2 (w o : AV) (n : Nat) (g : Nat → Bool) (x l i k : Nat) : XSt := ⟨[(0, rW w), (1, rO o), (4, .bool false), (6, .row false 3 l (o_q g x w)), (9, .sl 0 [] 0 0 n 1), (10, .int .i64 x), (11, .int .i64 i), (12, .int .i64 k)], [(0, some (.tab n 1 (o_hd g)))], 1⟩
theorem TSook : TabOk Try.prog TSo := mkT_ok (((clok_law16.app clok_slots).app clok_slices).app clok_ref15) ⟨sp_fill, sp_res, sp_pop, trivial⟩ (glok_slices.app glok_ref15)
theorem r_ord1 (w o : AV) (r : AV) : (goS Try.prog TSo [(.tmp 4)] r (.run c_law16_SlotsOrder) [] ⟨envX 0 [rW w, rO o], [], 0⟩) =
    (bif bif decide ((↑(avN w) : Int) > (30 : Int)) then true else !decide ((↑(avN w) : Int) > (30 : Int)) then
  bif bif decide ((↑(avN w) : Int) > (30 : Int)) then true else decide ((↑(avN o) : Int) < (↑(avN w) : Int)) then con (XV.bool true) = r
  else
    LoopAt (Ok Try.prog (Tab.q TSo)) c_law16_SlotsOrder_l1
      (XSt.mk
        [((8 : Nat), XV.int IntKind.i64 (0 : Int)), ((6 : Nat), XV.row true (0 : Nat) (0 : Nat) fun (x : Nat) => XV.unk), ((4 : Nat), XV.bool false),
          ((0 : Nat), XV.row false (1 : Nat) (avN w) (o_el tU32 w)), ((1 : Nat), XV.row false (1 : Nat) (avN o) (o_el tI64 o))]
        [] (0 : Nat))
      [Frm.blk (0 : Nat), Frm.seq c_law16_SlotsOrder_p5] (finR [AR.tmp (4 : Nat)] r)
 else False) := by kernel_rfl
theorem r_ord2 (w o : AV) (i : Nat) (r : AV) (A : XSt → Prop) : (goS Try.prog TSo [(.tmp 4)] r (.run c_law16_SlotsOrder_l1) [.lp c_law16_SlotsOrder_l1 A, .blk 0, .seq c_law16_SlotsOrder_p5] (sA w o i)) =
    (bif decide ((↑i : Int) < (↑(avN w) : Int)) then
  bif decide (i ≤ (1000000 : Nat)) then
    bif allN (fun (i : Nat) => true) i then
      bif !!decide ((↑i : Int) ≥ (30 : Int)) then con (XV.bool false) = r
      else
        A
          (XSt.mk
            [((8 : Nat), XV.int IntKind.i64 (IntKind.wrap IntKind.i64 ((↑i : Int) + (1 : Int)))),
              ((6 : Nat), XV.row false (3 : Nat) (bif decide ((↑i : Int) ≥ (30 : Int)) then i else i + (1 : Nat)) (o_res i (o_q gN (0 : Nat) w) (IntKind.wrap IntKind.i64 ((100 : Int) + (↑i : Int))))),
              ((0 : Nat), XV.row false (1 : Nat) (avN w) (o_el tU32 w)), ((1 : Nat), XV.row false (1 : Nat) (avN o) (o_el tI64 o)), ((4 : Nat), XV.bool false)]
            [] (0 : Nat))
    else False
  else False
 else
   bif decide (avN w * (1 : Nat) ≤ (140737488355328 : Nat)) then
     LoopAt (Ok Try.prog (Tab.q TSo)) c_law16_SlotsOrder_l4
       (XSt.mk
         [((11 : Nat), XV.int IntKind.i64 (0 : Int)), ((10 : Nat), XV.int IntKind.i64 (0 : Int)), ((9 : Nat), XV.sl (0 : Nat) [] (0 : Nat) (0 : Nat) (avN w) (1 : Nat)),
           ((0 : Nat), XV.row false (1 : Nat) (avN w) (o_el tU32 w)), ((1 : Nat), XV.row false (1 : Nat) (avN o) (o_el tI64 o)), ((4 : Nat), XV.bool false),
           ((6 : Nat), XV.row false (3 : Nat) i (o_q gN (0 : Nat) w))]
         [((0 : Nat), some (XV.tab (avN w) (1 : Nat) fun (x : Nat) => XV.bool false))] (1 : Nat))
       [Frm.blk (2 : Nat), Frm.seq c_law16_SlotsOrder_p4] (finR [AR.tmp (4 : Nat)] r)
   else False) := by kernel_rfl
theorem r_ord3 (w o : AV) (n : Nat) (g : Nat → Bool) (x l i : Nat) (r : AV) (A : XSt → Prop) : (goS Try.prog TSo [(.tmp 4)] r (.run c_law16_SlotsOrder_l4) [.lp c_law16_SlotsOrder_l4 A, .blk 2, .seq c_law16_SlotsOrder_p4] (s4 w o n g x l i)) =
    (bif decide ((↑i : Int) < (↑(avN w) : Int)) then
  bif decide ((↑i : Int) < (↑(avN o) : Int)) then
    bif !decide ((↑(avN w) : Int) = (0 : Int)) then
      LoopAt (Ok Try.prog (Tab.q TSo)) c_law16_SlotsOrder_l2
        (XSt.mk
          [((12 : Nat), XV.int IntKind.i64 (Int.tmod (bitsI BinOp.and IntKind.i64 (avI (avAt o (Int.toNat (↑i : Int)))) (1023 : Int)) (↑(avN w) : Int))),
            ((0 : Nat), XV.row false (1 : Nat) (avN w) (o_el tU32 w)), ((1 : Nat), XV.row false (1 : Nat) (avN o) (o_el tI64 o)), ((4 : Nat), XV.bool false),
            ((6 : Nat), XV.row false (3 : Nat) l (o_q g x w)), ((9 : Nat), XV.sl (0 : Nat) [] (0 : Nat) (0 : Nat) n (1 : Nat)), ((10 : Nat), XV.int IntKind.i64 (↑x : Int)),
            ((11 : Nat), XV.int IntKind.i64 (↑i : Int))]
          [((0 : Nat), some (XV.tab n (1 : Nat) (o_hd g)))] (1 : Nat))
        [Frm.blk (4 : Nat), Frm.seq c_law16_SlotsOrder_p2, Frm.blk (3 : Nat), Frm.seq c_law16_SlotsOrder_p3, Frm.lp c_law16_SlotsOrder_l4 A, Frm.blk (2 : Nat), Frm.seq c_law16_SlotsOrder_p4]
        (finR [AR.tmp (4 : Nat)] r)
    else False
  else False
 else
   bif bif decide ((↑x : Int) = (↑(avN w) : Int)) then decide ((↑x : Int) = (↑(avN w) : Int)) else true then
     con (XV.bool (bif decide ((↑x : Int) = (↑(avN w) : Int)) then decide ((↑l : Int) = (0 : Int)) else false)) = r
   else False) := by kernel_rfl
theorem r_ord4 (w o : AV) (n : Nat) (g : Nat → Bool) (x l i k : Nat) (r : AV) (A B : XSt → Prop) : (goS Try.prog TSo [(.tmp 4)] r (.run c_law16_SlotsOrder_l2) [.lp c_law16_SlotsOrder_l2 B, .blk 4, .seq c_law16_SlotsOrder_p2, .blk 3, .seq c_law16_SlotsOrder_p3, .lp c_law16_SlotsOrder_l4 A, .blk 2, .seq c_law16_SlotsOrder_p4] (s2 w o n g x l i k)) =
    (bif decide ((↑k : Int) < (↑n : Int)) then
  bif Nat.beq (k * (1 : Nat)) (k * (1 : Nat)) then
    bif decide (k < n) then
      bif g k then
        bif !decide ((↑(avN w) : Int) = (0 : Int)) then
          B
            (XSt.mk
              [((12 : Nat), XV.int IntKind.i64 (Int.tmod (IntKind.wrap IntKind.i64 ((↑k : Int) + (1 : Int))) (↑(avN w) : Int))), ((0 : Nat), XV.row false (1 : Nat) (avN w) (o_el tU32 w)),
                ((1 : Nat), XV.row false (1 : Nat) (avN o) (o_el tI64 o)), ((4 : Nat), XV.bool false), ((6 : Nat), XV.row false (3 : Nat) l (o_q g x w)),
                ((9 : Nat), XV.sl (0 : Nat) [] (0 : Nat) (0 : Nat) n (1 : Nat)), ((10 : Nat), XV.int IntKind.i64 (↑x : Int)), ((11 : Nat), XV.int IntKind.i64 (↑i : Int))]
              [((0 : Nat), some (XV.tab n (1 : Nat) (o_hd g)))] (1 : Nat))
        else False
      else
        bif decide ((↑k : Int) < (↑n : Int)) then
          bif Nat.beq (k * (1 : Nat)) (k * (1 : Nat)) then
            bif decide (k < n) then
              bif decide (k < n) then
                bif decide ((↑k : Int) < (↑(avN w) : Int)) then
                  bif decide (l ≤ (1000000 : Nat)) then
                    bif allN (fun (i : Nat) => true) l then
                      bif !decide (fstOpen (IntKind.wrap IntKind.i64 ((100 : Int) + (↑k : Int))) l (o_q g x w) < l) then con (XV.bool false) = r
                      else
                        LoopAt (Ok Try.prog (Tab.q TSo)) c_law16_SlotsOrder_l3
                          (XSt.mk
                            [((6 : Nat),
                                XV.row false (3 : Nat) l (o_fill (fstOpen (IntKind.wrap IntKind.i64 ((100 : Int) + (↑k : Int))) l (o_q g x w)) (o_q g x w) (avI (avAt w (Int.toNat (↑k : Int)))))),
                              ((0 : Nat), XV.row false (1 : Nat) (avN w) (o_el tU32 w)), ((1 : Nat), XV.row false (1 : Nat) (avN o) (o_el tI64 o)), ((4 : Nat), XV.bool false),
                              ((9 : Nat), XV.sl (0 : Nat) [] (0 : Nat) (0 : Nat) n (1 : Nat)), ((10 : Nat), XV.int IntKind.i64 (↑x : Int)), ((11 : Nat), XV.int IntKind.i64 (↑i : Int))]
                            [((0 : Nat), some (XV.tab n (1 : Nat) fun (j : Nat) => XV.bool (bif Nat.beq j k then true else g j)))] (1 : Nat))
                          [Frm.blk (6 : Nat), Frm.seq c_law16_SlotsOrder_p1, Frm.blk (3 : Nat), Frm.seq c_law16_SlotsOrder_p3, Frm.lp c_law16_SlotsOrder_l4 A, Frm.blk (2 : Nat),
                            Frm.seq c_law16_SlotsOrder_p4]
                          (finR [AR.tmp (4 : Nat)] r)
                    else False
                  else False
                else False
              else False
            else False
          else False
        else False
    else False
  else False
 else False) := by kernel_rfl
theorem r_ord5 (w o : AV) (n : Nat) (g : Nat → Bool) (x l i : Nat) (r : AV) (A B : XSt → Prop) : (goS Try.prog TSo [(.tmp 4)] r (.run c_law16_SlotsOrder_l3) [.lp c_law16_SlotsOrder_l3 B, .blk 6, .seq c_law16_SlotsOrder_p1, .blk 3, .seq c_law16_SlotsOrder_p3, .lp c_law16_SlotsOrder_l4 A, .blk 2, .seq c_law16_SlotsOrder_p4] (s4 w o n g x l i)) =
    (bif bif decide ((↑x : Int) < (↑n : Int)) then true else !decide ((↑x : Int) < (↑(avN w) : Int)) then
  bif bif Nat.beq (x * (1 : Nat)) (x * (1 : Nat)) then true else !decide ((↑x : Int) < (↑(avN w) : Int)) then
    bif bif decide (x < n) then true else !decide ((↑x : Int) < (↑(avN w) : Int)) then
      bif bif decide ((↑x : Int) < (↑(avN w) : Int)) then decide ((↑x : Int) < (↑(avN w) : Int)) else true then
        bif bif decide ((↑x : Int) < (↑(avN w) : Int)) then g x else false then
          bif decide (l ≤ (1000000 : Nat)) then
            bif allN (fun (i : Nat) => true) l then
              bif bif decide ((↑x : Int) < (↑(avN w) : Int)) then true else !!!!popC l (o_q g x w) then
                bif bif !!popC l (o_q g x w) then true else !!!popC l (o_q g x w) then
                  bif
                      bif !!popC l (o_q g x w) then true
                      else decide ¬(bif popC l (o_q g x w) then (0 : Int) else bif g (x + (0 : Nat)) then avI (avAt w (x + (0 : Nat))) else (0 : Int)) = avI (avAt w (Int.toNat (↑x : Int))) then
                    con (XV.bool false) = r
                  else
                    B
                      (XSt.mk
                        [((10 : Nat), XV.int IntKind.i64 (IntKind.wrap IntKind.i64 ((↑x : Int) + (1 : Int)))),
                          ((6 : Nat), XV.row false (3 : Nat) (bif popC l (o_q g x w) then l else l - (1 : Nat)) (o_pop l (o_q g x w))), ((0 : Nat), XV.row false (1 : Nat) (avN w) (o_el tU32 w)),
                          ((1 : Nat), XV.row false (1 : Nat) (avN o) (o_el tI64 o)), ((4 : Nat), XV.bool false), ((9 : Nat), XV.sl (0 : Nat) [] (0 : Nat) (0 : Nat) n (1 : Nat)),
                          ((11 : Nat), XV.int IntKind.i64 (↑i : Int))]
                        [((0 : Nat), some (XV.tab n (1 : Nat) (o_hd g)))] (1 : Nat))
                else False
              else False
            else False
          else False
        else
          bif decide (l ≤ (1000000 : Nat)) then
            bif allN (fun (i : Nat) => true) l then
              bif !popC l (o_q g x w) then con (XV.bool false) = r
              else
                A
                  (XSt.mk
                    [((11 : Nat), XV.int IntKind.i64 (IntKind.wrap IntKind.i64 ((↑i : Int) + (1 : Int)))), ((0 : Nat), XV.row false (1 : Nat) (avN w) (o_el tU32 w)),
                      ((1 : Nat), XV.row false (1 : Nat) (avN o) (o_el tI64 o)), ((4 : Nat), XV.bool false), ((6 : Nat), XV.row false (3 : Nat) l (o_q g x w)),
                      ((9 : Nat), XV.sl (0 : Nat) [] (0 : Nat) (0 : Nat) n (1 : Nat)), ((10 : Nat), XV.int IntKind.i64 (↑x : Int))]
                    [((0 : Nat), some (XV.tab n (1 : Nat) (o_hd g)))] (1 : Nat))
            else False
          else False
      else False
    else False
  else False
 else False) := by kernel_rfl
def cntB (g : Nat → Bool) : Nat → Nat
  | 0 => 0
  | n + 1 => cntB g n + (bif g n then 1 else 0)
def updB (g : Nat → Bool) (k j : Nat) : Bool := bif Nat.beq j k then true else g j
theorem cnt_le (g : Nat → Bool) : ∀ n, cntB g n ≤ n
  | 0 => Nat.le_refl _
  | n + 1 => by
    have := cnt_le g n
    simp only [cntB]
    cases g n <;> simp only [cond_true, cond_false] <;> omega
theorem cnt_gap (g : Nat → Bool) : ∀ n, cntB g n < n → ∃ f, f < n ∧ g f = false
  | 0, h => by omega
  | n + 1, h => by
    cases hg : g n with
    | false => exact ⟨n, by omega, hg⟩
    | true =>
      simp only [cntB, hg, cond_true] at h
      obtain ⟨f, h1, h2⟩ := cnt_gap g n (by omega)
      exact ⟨f, by omega, h2⟩
theorem cnt_full (g : Nat → Bool) : ∀ n, cntB g n = n → ∀ j, j < n → g j = true
  | 0, h, j, hj => by omega
  | n + 1, h, j, hj => by
    have := cnt_le g n
    cases hg : g n with
    | false => simp only [cntB, hg, cond_false] at h; omega
    | true =>
      by_cases hjn : j = n
      · subst hjn; exact hg
      · simp only [cntB, hg, cond_true] at h
        exact cnt_full g n (by omega) j (by omega)
theorem cnt_same (g : Nat → Bool) (k : Nat) : ∀ n, n ≤ k → cntB (updB g k) n = cntB g n
  | 0, h => rfl
  | n + 1, h => by
    simp only [cntB, cnt_same g k n (by omega)]
    rw [show updB g k n = g n by simp only [updB, beq_ne (show ¬ n = k by omega), cond_false]]
theorem cnt_upd (g : Nat → Bool) (k : Nat) (hk : g k = false) : ∀ n, k < n → cntB (updB g k) n = cntB g n + 1
  | 0, h => by omega
  | n + 1, h => by
    simp only [cntB]
    by_cases hkn : n = k
    · subst hkn
      rw [cnt_same g n n (Nat.le_refl _), show updB g n n = true by simp only [updB, Nat.beq_refl, cond_true], hk]
      rfl
    · rw [cnt_upd g k hk n (by omega), show updB g k n = g n by simp only [updB, beq_ne hkn, cond_false]]
      omega
theorem and1023 (x : Int) : ∃ K : Nat, bitsI .and .i64 x 1023 = (K : Int) := by
  refine ⟨(BitVec.ofInt 64 x).toNat &&& 1023, ?_⟩
  show IntKind.i64.wrap (((BitVec.ofInt 64 x) &&& (BitVec.ofInt 64 1023)).toNat : Int) = _
  have h : (BitVec.ofInt 64 x).toNat &&& 1023 ≤ 1023 := Nat.and_le_right
  rw [BitVec.toNat_and, show (BitVec.ofInt 64 1023).toNat = 1023 from rfl]
  exact wrap_i64 (by omega) (by omega)
theorem cnt_zero : ∀ n, cntB gN n = 0
  | 0 => rfl
  | n + 1 => by simp only [cntB, cnt_zero n]; rfl
/-- Where a word goes. -/
theorem open_q {g : Nat → Bool} {x k n : Nat} {w : AV} (hx : x ≤ k) (hk : k < n) (hg : g k = false) : fstOpen (100 + (k : Int)) (n - x) (o_q g x w) = k - x := by
  refine fstI_is (by omega) ?_ (fun j hj => ?_)
  · show (bif decide ((100 + ((x + (k - x) : Nat) : Int)) = 100 + (k : Int)) then !g (x + (k - x)) else false) = true
    rw [show x + (k - x) = k by omega, hg]
    simp
  · show (bif decide ((100 + ((x + j : Nat) : Int)) = 100 + (k : Int)) then !g (x + j) else false) = false
    rw [decide_eq_false (by omega)]
    rfl
theorem fill_q {g : Nat → Bool} {x k : Nat} {w : AV} (hx : x ≤ k) (i : Nat) : o_fill (k - x) (o_q g x w) (avI (avAt w k)) i = o_q (updB g k) x w i := by
  by_cases h : i = k - x
  · subst h
    simp only [o_fill, o_q, fld, nth, asN, asB, updB, show x + (k - x) = k by omega, Nat.beq_refl, cond_true]
  · simp only [o_fill, o_q, fld, nth, asN, asB, updB, beq_ne h, beq_ne (show ¬ x + i = k by omega), cond_false]
theorem pop_q {g : Nat → Bool} {x l : Nat} {w : AV} : popC l (o_q g x w) = (bif decide (l = 0) then true else !g x) := by
  unfold popC
  simp only [o_q, fld, nth, asB, Nat.add_zero]
  by_cases h : l = 0
  · subst h; rfl
  · rw [decide_eq_false h, decide_eq_false (by omega)]
theorem ord_l3 (w o : AV) (n : Nat) (hn : n = avN w) (h1 : n ≤ 30) (g : Nat → Bool) (x i : Nat) (hx : x ≤ n) (r : AV) (A : XSt → Prop) (σ : XSt) (hp : ∀ j, j < x → g j = true) (h0 : Weak σ.st (s4 w o n g x (n - x) i).st)
    (hA : ∀ (y : Nat) (τ : XSt), y ≤ n → (∀ j, j < y → g j = true) → (y < n → g y = false) → Weak τ.st (s4 w o n g y (n - y) (i + 1)).st → A τ) (hi : i < n) :
    LoopAt (Ok Try.prog (Tab.q TSo)) c_law16_SlotsOrder_l3 σ [.blk 6, .seq c_law16_SlotsOrder_p1, .blk 3, .seq c_law16_SlotsOrder_p3, .lp c_law16_SlotsOrder_l4 A, .blk 2, .seq c_law16_SlotsOrder_p4] (finR [.tmp 4] r) := by
  subst hn
  refine loopS mix TSook (fun y : Nat => s4 w o (avN w) g y (avN w - y) i) (fun y => y ≤ avN w ∧ ∀ j, j < y → g j = true) (fun y => avN w - y) x ⟨hx, hp⟩ h0 ?_
  rintro y ⟨hy, hpy⟩
  rw [r_ord5]
  simp only [pk_or, pk_and, pop_q]
  have hl : avN w - y ≤ 1000000 := by omega
  have w1 : IntKind.i64.wrap ((i : Int) + 1) = ((i + 1 : Nat) : Int) := wrap_i64 (by omega) (by omega)
  have w2 : IntKind.i64.wrap ((y : Int) + 1) = ((y + 1 : Nat) : Int) := wrap_i64 (by omega) (by omega)
  by_cases hlt : y < avN w
  · have c1 : (y : Int) < ((avN w : Nat) : Int) := by omega
    have c2 : ¬ avN w - y = 0 := by omega
    cases hg : g y with
    | true =>
      simp only [hlt, c1, c2, hg, hl, w1, w2, Nat.add_zero, Nat.beq_refl, decide_true, decide_false, cond_true, cond_false, allN_true, Nat.le_refl, Int.toNat_natCast, Nat.beq_refl, pk_and, pk_or, Bool.not_true, Bool.not_false, not_true_eq_false, not_false_eq_true, Bool.and_true, Bool.true_and, Bool.and_self, ge_iff_le, Int.le_refl, if_true, if_false, reduceCtorEq, eq_self, BEq.rfl]
      refine ⟨y + 1, ⟨hlt, fun j hj => ?_⟩, weakN ⟨le_is rfl, le_is rfl, le_is rfl, le_row (by omega) (.inl rfl) (fun k hk => ?_), le_is rfl, le_is rfl, le_is rfl, trivial⟩ ⟨rfl, trivial⟩ (Nat.le_refl _), by omega⟩
      · by_cases hjy : j = y
        · subst hjy; exact hg
        · exact hpy j (by omega)
      · simp only [o_pop, pop_q, c2, hg, o_q, decide_true, decide_false, cond_true, cond_false, allN_true, Nat.le_refl, Int.toNat_natCast, Nat.beq_refl, pk_and, pk_or, Bool.not_true, Bool.not_false, not_true_eq_false, not_false_eq_true, Bool.and_true, Bool.true_and, Bool.and_self, ge_iff_le, Int.le_refl, if_true, if_false, reduceCtorEq, eq_self, BEq.rfl]
        rw [show y + (1 + k) = y + 1 + k by omega]
        rfl
    | false =>
      simp only [hlt, c1, c2, hg, hl, w1, w2, Nat.add_zero, Nat.beq_refl, decide_true, decide_false, cond_true, cond_false, allN_true, Nat.le_refl, Int.toNat_natCast, Nat.beq_refl, pk_and, pk_or, Bool.not_true, Bool.not_false, not_true_eq_false, not_false_eq_true, Bool.and_true, Bool.true_and, Bool.and_self, ge_iff_le, Int.le_refl, if_true, if_false, reduceCtorEq, eq_self, BEq.rfl]
      exact hA y _ hy hpy (fun _ => hg) (weakN ⟨le_is rfl, le_is rfl, le_is rfl, le_is rfl, le_is rfl, le_is rfl, le_is rfl, trivial⟩ ⟨rfl, trivial⟩ (Nat.le_refl _))
  · have c1 : ¬ (y : Int) < ((avN w : Nat) : Int) := by omega
    have c2 : avN w - y = 0 := by omega
    simp only [hlt, c1, c2, hl, w1, w2, Nat.add_zero, Nat.beq_refl, decide_true, decide_false, cond_true, cond_false, allN_true, Nat.le_refl, Int.toNat_natCast, Nat.beq_refl, pk_and, pk_or, Bool.not_true, Bool.not_false, not_true_eq_false, not_false_eq_true, Bool.and_true, Bool.true_and, Bool.and_self, ge_iff_le, Int.le_refl, if_true, if_false, reduceCtorEq, eq_self, BEq.rfl]
    refine hA y _ hy hpy (fun h => absurd h hlt) ?_
    rw [c2]
    exact weakN ⟨le_is rfl, le_is rfl, le_is rfl, le_is rfl, le_is rfl, le_is rfl, le_is rfl, trivial⟩ ⟨rfl, trivial⟩ (Nat.le_refl _)
theorem ord_l2 (w o : AV) (h1 : avN w ≤ 30) (g : Nat → Bool) (x i k0 f : Nat) (hx : x ≤ avN w) (hp : ∀ j, j < x → g j = true) (hf : f < avN w) (hgf : g f = false) (hi : i < avN w) (hk0 : k0 < avN w) (r : AV) (A : XSt → Prop) (σ : XSt) (h0 : Weak σ.st (s2 w o (avN w) g x (avN w - x) i k0).st)
    (hA : ∀ (k y : Nat) (τ : XSt), k < avN w → g k = false → y ≤ avN w → (∀ j, j < y → updB g k j = true) → (y < avN w → updB g k y = false) → Weak τ.st (s4 w o (avN w) (updB g k) y (avN w - y) (i + 1)).st → A τ) :
    LoopAt (Ok Try.prog (Tab.q TSo)) c_law16_SlotsOrder_l2 σ [.blk 4, .seq c_law16_SlotsOrder_p2, .blk 3, .seq c_law16_SlotsOrder_p3, .lp c_law16_SlotsOrder_l4 A, .blk 2, .seq c_law16_SlotsOrder_p4] (finR [.tmp 4] r) := by
  refine loopS mix TSook (fun k : Nat => s2 w o (avN w) g x (avN w - x) i k) (fun k => k < avN w) (fun k => if k ≤ f then f - k else avN w + f - k) k0 hk0 h0 ?_
  intro k hk
  rw [r_ord4]
  have c1 : (k : Int) < ((avN w : Nat) : Int) := by omega
  have c2 : ¬ ((avN w : Nat) : Int) = 0 := by omega
  have w2 : IntKind.i64.wrap ((k : Int) + 1) = ((k + 1 : Nat) : Int) := wrap_i64 (by omega) (by omega)
  have w3 : IntKind.i64.wrap (100 + (k : Int)) = 100 + (k : Int) := wrap_i64 (by omega) (by omega)
  have hl : avN w - x ≤ 1000000 := by omega
  cases hg : g k with
  | true =>
    have w4 : Int.tmod ((k + 1 : Nat) : Int) ((avN w : Nat) : Int) = (((k + 1) % avN w : Nat) : Int) := rfl
    have hkf : ¬ k = f := fun e => by rw [e, hgf] at hg; cases hg
    simp only [hk, c1, c2, hg, w2, w4, decide_true, decide_false, cond_true, cond_false, allN_true, Nat.le_refl, Int.toNat_natCast, Nat.beq_refl, pk_and, pk_or, Bool.not_true, Bool.not_false, not_true_eq_false, not_false_eq_true, Bool.and_true, Bool.true_and, Bool.and_self, ge_iff_le, Int.le_refl, if_true, if_false, reduceCtorEq, eq_self, BEq.rfl]
    have hm : (k + 1) % avN w < avN w := Nat.mod_lt _ (by omega)
    have hm2 : (k + 1) % avN w = if k + 1 < avN w then k + 1 else 0 := by
      by_cases h : k + 1 < avN w
      · rw [if_pos h, Nat.mod_eq_of_lt h]
      · rw [if_neg h, show k + 1 = avN w by omega, Nat.mod_self]
    refine ⟨(k + 1) % avN w, hm, weakN ⟨le_is rfl, le_is rfl, le_is rfl, le_is rfl, le_is rfl, le_is rfl, le_is rfl, le_is rfl, trivial⟩ ⟨rfl, trivial⟩ (Nat.le_refl _), ?_⟩
    rw [hm2]
    by_cases h : k + 1 < avN w
    · rw [if_pos h]
      by_cases h2 : k ≤ f
      · rw [if_pos h2, if_pos (by omega)]; omega
      · rw [if_neg h2, if_neg (by omega)]; omega
    · rw [if_neg h, if_pos (by omega), if_neg (by omega)]; omega
  | false =>
    have hxk : x ≤ k := by
      refine Nat.le_of_not_lt fun h => ?_
      rw [hp k h] at hg
      cases hg
    have e1 : fstOpen (100 + (k : Int)) (avN w - x) (o_q g x w) = k - x := open_q hxk hk hg
    have e2 : k - x < avN w - x := by omega
    simp only [hk, c1, c2, hg, w2, w3, e1, e2, hl, decide_true, decide_false, cond_true, cond_false, allN_true, Nat.le_refl, Int.toNat_natCast, Nat.beq_refl, pk_and, pk_or, Bool.not_true, Bool.not_false, not_true_eq_false, not_false_eq_true, Bool.and_true, Bool.true_and, Bool.and_self, ge_iff_le, Int.le_refl, if_true, if_false, reduceCtorEq, eq_self, BEq.rfl]
    refine ord_l3 w o (avN w) rfl h1 (updB g k) x i hx r A _ (fun j hj => ?_) (weakN ⟨le_is rfl, le_is rfl, le_is rfl, le_row rfl (.inl rfl) (fun j hj => by rw [fill_q hxk]), le_is rfl, le_is rfl, le_is rfl, trivial⟩ ⟨rfl, trivial⟩ (Nat.le_refl _)) (fun y τ h3 h4 h5 h6 => hA k y τ hk hg h3 h4 h5 h6) hi
    simp only [updB, hp j hj]
    cases Nat.beq j k <;> rfl
theorem order_pure (w o : AV) : Pure Try.prog 6 (cons [rW w, rO o]) (con (.bool true)) := by
  refine pureS mix TSook t_law16_SlotsOrder (Nat.le_of_ble_eq_true rfl) ?_
  rw [r_ord1]
  simp only [pk_or, cond_true]
  refine cnd2 (fun h => trivial) (fun h => ?_)
  simp only [Bool.cond_true_left, Bool.cond_false_right, Bool.cond_true_right, Bool.cond_false_left, Bool.or_eq_false_iff, Bool.or_eq_true, Bool.and_eq_true, Bool.and_eq_false_iff, decide_eq_false_iff_not, decide_eq_true_eq, Bool.not_eq_true', Bool.not_eq_false', Bool.not_not, Int.not_lt, Int.not_le, gt_iff_lt, ge_iff_le] at h
  obtain ⟨h1, h2⟩ := h
  refine loopS mix TSook (fun i : Nat => sA w o i) (fun i => i ≤ avN w) (fun i => avN w - i) 0 (Nat.zero_le _) (weakN ⟨le_is rfl, le_is rfl, le_is rfl, le_row rfl (.inr rfl) (fun i hi => by omega), le_is rfl, trivial⟩ trivial (Nat.le_refl _)) ?_
  intro i hi
  rw [r_ord2]
  by_cases hl : (i : Int) < ((avN w : Nat) : Int)
  · have c1 : i ≤ 1000000 := by omega
    have c2 : ¬ (30 : Int) ≤ (i : Int) := by omega
    have w1 : IntKind.i64.wrap ((i : Int) + 1) = ((i + 1 : Nat) : Int) := wrap_i64 (by omega) (by omega)
    have w3 : IntKind.i64.wrap (100 + (i : Int)) = 100 + (i : Int) := wrap_i64 (by omega) (by omega)
    simp only [hl, c1, c2, w1, w3, decide_true, decide_false, cond_true, cond_false, allN_true, Nat.le_refl, Int.toNat_natCast, Nat.beq_refl, pk_and, pk_or, Bool.not_true, Bool.not_false, not_true_eq_false, not_false_eq_true, Bool.and_true, Bool.true_and, Bool.and_self, ge_iff_le, Int.le_refl, if_true, if_false, reduceCtorEq, eq_self, BEq.rfl]
    refine ⟨i + 1, by omega, weakN ⟨le_is rfl, le_is rfl, le_is rfl, le_row rfl (.inl rfl) (fun k hk => ?_), le_is rfl, trivial⟩ trivial (Nat.le_refl _), by omega⟩
    by_cases hki : k < i
    · simp only [o_res, o_q, fld, nth, asN, asB, gN, hki, decide_true, decide_false, cond_true, cond_false, allN_true, Nat.le_refl, Int.toNat_natCast, Nat.beq_refl, pk_and, pk_or, Bool.not_true, Bool.not_false, not_true_eq_false, not_false_eq_true, Bool.and_true, Bool.true_and, Bool.and_self, ge_iff_le, Int.le_refl, if_true, if_false, reduceCtorEq, eq_self, BEq.rfl]
    · have : k = i := by omega
      subst this
      simp only [o_res, o_q, fld, nth, asN, asB, gN, Nat.zero_add, Nat.lt_irrefl, decide_true, decide_false, cond_true, cond_false, allN_true, Nat.le_refl, Int.toNat_natCast, Nat.beq_refl, pk_and, pk_or, Bool.not_true, Bool.not_false, not_true_eq_false, not_false_eq_true, Bool.and_true, Bool.true_and, Bool.and_self, ge_iff_le, Int.le_refl, if_true, if_false, reduceCtorEq, eq_self, BEq.rfl]
  · have hin : i = avN w := by omega
    have c1 : avN w * 1 ≤ 140737488355328 := by omega
    simp only [hl, c1, decide_true, decide_false, cond_true, cond_false, allN_true, Nat.le_refl, Int.toNat_natCast, Nat.beq_refl, pk_and, pk_or, Bool.not_true, Bool.not_false, not_true_eq_false, not_false_eq_true, Bool.and_true, Bool.true_and, Bool.and_self, ge_iff_le, Int.le_refl, if_true, if_false, reduceCtorEq, eq_self, BEq.rfl]
    subst hin
    refine loopS mix TSook (fun s : (Nat → Bool) × Nat × Nat => s4 w o (avN w) s.1 s.2.1 (avN w - s.2.1) s.2.2) (fun s => s.2.2 ≤ avN w ∧ s.2.1 ≤ avN w ∧ (∀ j, j < s.2.1 → s.1 j = true) ∧ (s.2.1 < avN w → s.1 s.2.1 = false) ∧ cntB s.1 (avN w) = s.2.2) (fun s => avN w - s.2.2) (gN, 0, 0) ⟨Nat.zero_le _, Nat.zero_le _, fun j hj => absurd hj (Nat.not_lt_zero j), fun _ => rfl, cnt_zero _⟩ (weakN ⟨le_is rfl, le_is rfl, le_is rfl, le_is rfl, le_is rfl, le_is rfl, le_is rfl, trivial⟩ ⟨rfl, trivial⟩ (Nat.le_refl _)) ?_
    rintro ⟨g, x, i⟩ ⟨hi, hx, hp, hxg, hc⟩
    simp only at hi hx hp hxg hc
    rw [r_ord3]
    by_cases hl : (i : Int) < ((avN w : Nat) : Int)
    · have hi2 : i < avN w := by omega
      have c2 : (i : Int) < ((avN o : Nat) : Int) := by omega
      have c3 : ¬ ((avN w : Nat) : Int) = 0 := by omega
      obtain ⟨K, hK⟩ := and1023 (avI (avAt o i))
      obtain ⟨f, hf, hgf⟩ := cnt_gap g (avN w) (by omega)
      have w4 : Int.tmod (K : Int) ((avN w : Nat) : Int) = ((K % avN w : Nat) : Int) := rfl
      simp only [hl, c2, c3, hK, w4, decide_true, decide_false, cond_true, cond_false, allN_true, Nat.le_refl, Int.toNat_natCast, Nat.beq_refl, pk_and, pk_or, Bool.not_true, Bool.not_false, not_true_eq_false, not_false_eq_true, Bool.and_true, Bool.true_and, Bool.and_self, ge_iff_le, Int.le_refl, if_true, if_false, reduceCtorEq, eq_self, BEq.rfl]
      refine ord_l2 w o (by omega) g x i (K % avN w) f hx hp hf hgf hi2 (Nat.mod_lt _ (by omega)) _ _ _ (weakN ⟨le_is rfl, le_is rfl, le_is rfl, le_is rfl, le_is rfl, le_is rfl, le_is rfl, le_is rfl, trivial⟩ ⟨rfl, trivial⟩ (Nat.le_refl _)) ?_
      intro k y τ hk hgk hy hpy hyg hτ
      exact ⟨(updB g k, y, i + 1), ⟨hi2, hy, hpy, hyg, by rw [cnt_upd g k hgk _ hk, hc]⟩, hτ, by show avN w - (i + 1) < avN w - i; omega⟩
    · have hin : i = avN w := by omega
      subst hin
      have hall := cnt_full g (avN w) hc
      have hxn : x = avN w := by
        refine Nat.le_antisymm hx (Nat.le_of_not_lt fun h => ?_)
        have := hxg h
        rw [hall x h] at this
        cases this
      subst hxn
      simp only [Nat.sub_self, Int.lt_irrefl, decide_true, decide_false, cond_true, cond_false, allN_true, Nat.le_refl, Int.toNat_natCast, Nat.beq_refl, pk_and, pk_or, Bool.not_true, Bool.not_false, not_true_eq_false, not_false_eq_true, Bool.and_true, Bool.true_and, Bool.and_self, ge_iff_le, Int.le_refl, if_true, if_false, reduceCtorEq, eq_self, BEq.rfl]
      rfl
end Go.Proofs.Ytmlnhecgcbohkaa
namespace Go.Proofs.Ytmlnhecgcbohkaa.slotsOrder
open Go.Ra Go.ChangeShapes Go.WideShapes Go.ChangeAt Go.RowKit
open Go.ChangeMaps (open_string shut_string)
theorem own : ownKnob Try.prog.godebug = none := by kernel_rfl
def Ts : List Ty := [.slice 1 4 tU32, .slice 1 8 tI64]
theorem law (xs : List AV) (h : Ty.hasL Ts xs) : Pure Try.prog 6 xs (.sc (.bool true)) := by
  have h0 := h
  simp only [Ts, Ty.hasL] at h0
  obtain ⟨a, _, rfl, ha, b, _, rfl, hb, rfl⟩ := h0
  exact lawX h (order_pure a b)
set_option maxRecDepth 100000 in
theorem lifted (os : Os) (started : os.Started) (H : Type) (enc : TypeId × Value → H) :
    ReturnsInHanded {} Try.checked os 6 .any (Rows.slotsOrderSpec.pre6 enc Try.prog Try.f6 Rows.slotsOrderRow.domain false) (Rows.slotsOrderSpec.post enc Try.prog Try.f6 false true false false) := by
  refine returnsInHanded_of_change_sized (C := Try.checked) own started (by kernel_rfl) Try.func6
    (ChangeSpec.witness6 (enc := enc) (C := Try.checked) false ⟨#[], #[.slice none 0 0, .slice none 0 0], []⟩ 8 (by kernel_rfl) (by kernel_rfl) (by kernel_rfl) (by kernel_rfl)) ?_
  intro W base args ds gs before hval hW hcnd hsz _
  refine law_post (s := Rows.slotsOrderSpec) (n := 60) (Ts := Ts) (ts := [39, 40]) (tb := 4) (by kernel_rfl) rfl rfl Try.underlying4 rfl (by kernel_rfl) (by kernel_rfl) (fun ds hds => ?_) law W base args ds gs before hval hW hsz
  match ds, hds with
  | [d1, d2], _ => exact ⟨rfl, rfl, rfl⟩
theorem over : Rows.slotsOrderRow.holds Try.pinned (OpenSpec.ofChange Rows.slotsOrderSpec) :=
  OpenClaim.holds_of_wide 6 Try.f6 rfl rfl rfl rfl rfl rfl rfl ⟨rfl, rfl, rfl, rfl, rfl⟩ rfl rfl rfl rfl rfl (by kernel_rfl) Try.func6 (by kernel_rfl)
    (of_decide_eq_true (by kernel_rfl)) (by unfold Func.isWrapper; first | (rw [if_pos (by decide +kernel)]; kernel_rfl) | (rw [if_neg (by decide +kernel)]; exact ⟨rfl, rfl⟩))
    (fun os started H enc _ => lifted os started H enc)
theorem proved : Rows.SlotsOrderSaid := over
end Go.Proofs.Ytmlnhecgcbohkaa.slotsOrder
namespace Go.Proofs.Ytmlnhecgcbohkaa
/-- The row, under a short name, for the claim. -/
theorem slotsOrder_holds : Rows.SlotsOrderSaid := slotsOrder.proved
end Go.Proofs.Ytmlnhecgcbohkaa
#print axioms Go.Proofs.Ytmlnhecgcbohkaa.slotsOrder_holds
