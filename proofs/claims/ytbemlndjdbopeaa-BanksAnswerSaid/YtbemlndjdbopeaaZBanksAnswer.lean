/- A load alone brings what memory has to its register, or its place, after just its latency. -/
import Derived.Test.YtbemlndjdbopeaaRows
import Derived.WalkKit
import Derived.ProofKit
import Derived.OpenShut
import Derived.ShutString
import Derived.ChangeOld
import Derived.Below
import Derived.SizedLaws
import Derived.Test.YtbemlndjdbopeaaPk5

namespace Go.Proofs.Ytbemlndjdbopeaa
open Go.Ra
set_option linter.unusedVariables false
set_option linter.unusedSimpArgs false
def TBa : Tab := mkT2 qq cl_law18 [(21, alvSp), (30, szSp), (31, formSp), (32, loadSp)] [] [(24, latS), (25, latS), (28, avS)] []
def baSt (c : Cfg) (s : Script) (m : List Int) (op a reg n : Int) (x : Stt) (i : Nat) : XSt := ⟨[(18, .int .i64 i), (17, .int .i64 n), (16, .ptr 2 [] 0), (15, .int .i64 a), (7, .ptr 1 [] 0), (6, .ptr 0 [] 0), (2, e_row 1 e_u8 m), (3, .int .i64 op), (5, .int .i64 reg)], [(2, some (e_Stt x)), (1, some (e_Script s)), (0, some (e_Cfg c))], 3⟩
theorem TBaok : TabOk Try.prog TBa := mkT2_ok clok_law18 ⟨sp_alv18, sp_size2, sp_form, sp_rload, trivial⟩ trivial ⟨sk_lat, sk_rlat, sk_adv, trivial⟩ trivial
theorem r_ans0 (c : Cfg) (s : Script) (m : List Int) (op at_ reg : Int) (r : XV) : (goQ Try.prog TBa [(.tmp 12)] r (.run c_law18_BanksAnswer) [] ⟨envX 0 [e_Cfg c, e_Script s, e_row 1 e_u8 m, .int .i64 op, .int .i64 at_, .int .i64 reg], [], 0⟩) = (let q1 : Bool := decide ((↑(List.length m) : Int) > 200);
let q2 : Bool := bif q1 then true else decide ((↑(List.length (Script.lats s)) : Int) > 60);
let q3
 : Bool := bif q2 then true else decide (Cfg.banks c < 1);
let q4 : Bool := bif q3 then true else decide (Cfg.banks c > 16);
let q5 : Bool := bif q4 then true else
 decide (Cfg.lat c < 1);
let q6 : Bool := bif q5 then true else decide (Cfg.lat c > 30);
let q7 : Bool := bif q6 then true else decide ¬formI op = 4;
let q8 : Bool
 := bif q7 then true else decide (at_ < 0);
let q9 : Bool := bif q8 then true else decide ((↑(List.length m) : Int) < szI op);
let q10 : Bool := bif q9 then true
 else decide (reg < (-1 : Int));
let q11 : Bool := bif q10 then true else decide (reg > 15);
let q12 : Nat := List.length m * 1;
let q13 : XV := .int .i64 (IntKind.wrap
 .i64 (Int.tmod at_ (IntKind.wrap .i64 (Int.tdiv (↑(List.length m) : Int) (szI op))) * szI op));
let q14 : List XV := [.int .i64 0, .int .i64 0, .int .i64 0];
let
 q15 : XV := .agg 3 q14;
let q16 : XV := .agg 38 [.tab 16 1 fun x => .int .u32 0, .tab 16 1 fun x => .int .i64 0, q15, .int .i64 0, .bool false, .int .i64 0];
let
 q17 : XV := .row true 0 0 fun x => .unk;
bif bif q1 then true else !q1 then bif bif q2 then true else !q2 then bif bif q3 then true else !q3 then bif bif q4 then
 true else !q4 then bif bif q5 then true else !q5 then bif bif q6 then true else !q6 then bif bif q7 then true else !q7 then bif bif q8 then true else !q8 then bif
 bif q9 then true else !q9 then bif bif q10 then true else !q10 then bif bif q11 then true else !q11 then bif bif q11 then true else decide (reg = 0) then ResLe (.bool
 true) r else bif !decide (szI op = 0) then bif !decide (IntKind.wrap .i64 (Int.tdiv (↑(List.length m) : Int) (szI op)) = 0) then bif decide (q12 ≤ 140737488355328)
 then ∃ (s_1 : Script × Int × Int), ArgsLe [e_Script s, .int .i64 0, .int .i64 (Cfg.lat c)] [e_Script (Prod.fst s_1), .int .i64 (Prod.fst (Prod.snd s_1)), .int .i64
 (Prod.snd (Prod.snd s_1))] ∧ PreIs True ∧ ∀ (y : Int), y = latF (Prod.fst s_1) (Prod.fst (Prod.snd s_1)) (Prod.snd (Prod.snd s_1)) → LoopAt (Ok Try.prog (Tab.q TBa))
 c_law18_BanksAnswer_l1 (XSt.mk [(18, .int .i64 0), (17, .int .i64 y), (16, .ptr 2 [] 0), (15, q13), (12, .bool false), (7, .ptr 1 [] 0), (6, .ptr 0 [] 0), (2, e_row
 1 e_u8 m), (3, .int .i64 op), (5, .int .i64 reg)] [(2, some (.agg 92 (.int .i64 0 :: q16 :: q16 :: (.row true 3 1 fun a => .agg 3 [.int .i64 7, .bool false, .int
 .u32 0]) :: q17 :: q17 :: q17 :: q17 :: q17 :: (.row true 8 1 fun a => .agg 8 [.bool false, .int .i64 op, q13, .int .i64 (szI op), .int .u32 0, .int .i64 0, .int
 .i64 reg, .int .i64 7]) :: e_row 1 e_u8 m :: q17 :: q15 :: q14))), (1, some (e_Script s)), (0, some (e_Cfg c))] 3) [Frm.blk 0, Frm.seq c_law18_BanksAnswer_p1] (finQR
 [AR.tmp 12] r) else False else False else False else False else False else False else False else False else False else False else False else False else False
else
 False) := by kernel_rfl
theorem r_ans1 (c : Cfg) (s : Script) (m : List Int) (op a reg n : Int) (x : Stt) (i : Nat) (r : XV) (A : XSt → Prop) : (goQ Try.prog TBa [(.tmp 12)] r (.run c_law18_BanksAnswer_l1) [.lp c_law18_BanksAnswer_l1 A, .blk 0, .seq c_law18_BanksAnswer_p1] (baSt c s m op a reg n x i)) = (let q1 : List XV := [e_Cfg c, e_Script s, e_Stt x];
let q2 : Cfg × Script × Stt → List XV := fun (s : Cfg × Script × Stt) => [e_Cfg (Prod.fst s), e_Script (Prod.fst
 (Prod.snd s)), e_Stt (Prod.snd (Prod.snd s))];
let q3 : Cfg × Script × Stt → Stt := fun (s : Cfg × Script × Stt) => advF (Prod.fst s) (Prod.fst (Prod.snd s)) (Prod.snd
 (Prod.snd s));
let q4 : Stt → Bool := fun y => decide ¬(↑(List.length (Stt.table y)) : Int) = 0;
let q5 : Stt → Bool := fun y => decide (0 < (↑(List.length (Stt.ldq
 y)) : Int));
let q6 : Int := loadI (List.length m) (fun i => e_u8 (ix m i)) op (IntKind.wrap .u32 a);
let q7 : Bool := decide (0 ≤ reg);
let q8 : Bool := decide
 (reg < 16);
let q9 : Nat := Int.toNat reg * 1;
let q10 : Nat := pl 1 q9;
let q11 : Bool := decide (Int.toNat reg < 16);
let q12 : Stt → Bool := fun y => decide (Side.regs
 (Stt.a y) (Int.toNat reg) = q6);
let q13 : Stt → Bool := fun y => !q12 y;
let q14 : Nat := pl 17 q9;
let q15 : Int := IntKind.wrap .i64 (n + (1 : Int));
let q16
 : Stt → Bool := fun y => bif q12 y then decide (Side.ready (Stt.a y) (Int.toNat reg) = q15) else false;
bif decide ((↑i : Int) < n) then ∃ (s_1 : Cfg × Script ×
 Stt), ArgsLe q1 (q2 s_1) ∧ PreIs (goodS (Prod.snd (Prod.snd s_1))) ∧ ∀ (y : Stt), y = q3 s_1 → bif decide ¬(↑(List.length (Stt.table y)) : Int) = 1 then ResLe (.bool
 false) r else A (XSt.mk [(18, .int .i64 (IntKind.wrap .i64 ((↑i : Int) + (1 : Int)))), (17, .int .i64 n), (16, .ptr 2 [] 0), (15, .int .i64 a), (7, .ptr 1 [] 0),
 (6, .ptr 0 [] 0), (2, e_row 1 e_u8 m), (3, .int .i64 op), (5, .int .i64 reg)] [(2, some (.agg 92 [.int .i64 (IntKind.wrap .i64 (Stt.cycle y + (1 : Int))), e_Side
 (Stt.a y), e_Side (Stt.e y), e_row 3 e_Slot (Stt.ldq y), e_row 1 e_u32 (Stt.sdq y), e_row 1 e_u32 (Stt.aeq y), e_row 1 e_bool (Stt.abq y), e_row 1 e_bool (Stt.ebq
 y), e_row 5 e_Entry (Stt.saq y), e_row 8 e_Req (Stt.table y), e_row 1 e_u8 (Stt.mem y), e_row 3 e_Wr (Stt.writes y), e_Trp (Stt.trap y), .int .i64 (Stt.lats y),
 .int .i64 (Stt.picks y), .int .i64 (Stt.tags y)])), (1, some (e_Script s)), (0, some (e_Cfg c))] 3)
else ∃ (s : Cfg × Script × Stt), ArgsLe q1 (q2 s) ∧ PreIs (goodS
 (Prod.snd (Prod.snd s))) ∧ ∀ (y : Stt), y = q3 s → bif decide (List.length m ≤ 1099511627776) then bif allN (fun i => true) (List.length m) then bif rngB (List.length
 m) fun i => e_u8 (ix m i) then bif decide (0 ≤ IntKind.wrap .u32 a) then bif decide (IntKind.wrap .u32 a ≤ 4294967295) then bif bif q4 y then true else !q4 y then
 bif bif q4 y then true else decide ¬(↑(List.length (Stt.ldq y)) : Int) = 1 then ResLe (.bool false) r else bif decide (reg < 0) then bif q5 y then ResLe (.bool (decide
 (Slot.tag (ix (Stt.ldq y) 0) = 7) && (Slot.full (ix (Stt.ldq y) 0) == true && (decide (Slot.val (ix (Stt.ldq y) 0) = q6) && true)))) r else False else bif q7 then
 bif q8 then bif Nat.beq q10 q10 then bif q11 then bif bif q7 then true else q13 y then bif bif q8 then true else q13 y then bif bif Nat.beq q14 q14 then true else
 q13 y then bif bif q11 then true else q13 y then bif bif q12 y then q12 y else true then bif bif q5 y then true else !q16 y then bif bif q16 y then q16 y else true
 then ResLe (.bool (bif q16 y then !Slot.full (ix (Stt.ldq y) 0) else false)) r else False else False else False else False else False else False else False else
 False else False else False else False else False else False else False else False else False else False) := by kernel_rfl
/-- The state ahead of the i-th cycle. -/
def anI (m : List Int) (op a sz reg n : Int) (i : Nat) : Stt := if i = 0 then anX m op a sz reg 0 0 0 else anX m op a sz reg (n - i + 1) 1 i
theorem ba_in {c : Cfg} {s : Script} {m : List Int} {op a reg n : Int} : WeakE 3 (XSt.st (XSt.mk [(18, .int .i64 0), (17, .int .i64 n), (16, .ptr 2 [] 0), (15, .int .i64 a), (12, .bool false), (7, .ptr 1 [] 0), (6, .ptr 0 [] 0), (2, e_row 1 e_u8 m), (3, .int .i64 op), (5, .int .i64 reg)] [(2, some (.agg 92 [.int .i64 0, e_Side zS0, e_Side zS0, .row true 3 1 fun a => .agg 3 [.int .i64 7, .bool false, .int .u32 0], zNil, zNil, zNil, zNil, zNil, .row true 8 1 fun b => .agg 8 [.bool false, .int .i64 op, .int .i64 a, .int .i64 (szI op), .int .u32 0, .int .i64 0, .int .i64 reg, .int .i64 7], e_row 1 e_u8 m, zNil, .agg 3 [.int .i64 0, .int .i64 0, .int .i64 0], .int .i64 0, .int .i64 0, .int .i64 0])), (1, some (e_Script s)), (0, some (e_Cfg c))] 3)) (baSt c s m op a reg n (anI m op a (szI op) reg n 0) 0).st :=
  weakM [(0, 0), (1, 1), (2, 2)] rfl rfl rfl rfl rfl ⟨(k_is rfl rfl), (k_is rfl rfl), .ptr rfl, (k_is rfl rfl), .ptr rfl, .ptr rfl, (k_is rfl rfl), (k_is rfl rfl), (k_is rfl rfl), trivial⟩ ⟨.agg (.cons (k_is rfl rfl) (.cons (k_is rfl rfl) (.cons (k_is rfl rfl) (.cons (k_row rfl (.inl rfl) fun j hj => by
      obtain rfl : j = 0 := by omega
      rfl) (.cons (k_row rfl (.inr rfl) fun j hj => absurd hj (Nat.not_lt_zero _)) (.cons (k_row rfl (.inr rfl) fun j hj => absurd hj (Nat.not_lt_zero _)) (.cons (k_row rfl (.inr rfl) fun j hj => absurd hj (Nat.not_lt_zero _)) (.cons (k_row rfl (.inr rfl) fun j hj => absurd hj (Nat.not_lt_zero _)) (.cons (k_row rfl (.inr rfl) fun j hj => absurd hj (Nat.not_lt_zero _)) (.cons (k_row rfl (.inl rfl) fun j hj => by
      obtain rfl : j = 0 := by omega
      rfl) (.cons (k_is rfl rfl) (.cons (k_row rfl (.inr rfl) fun j hj => absurd hj (Nat.not_lt_zero _)) (.cons (k_is rfl rfl) (.cons (k_is rfl rfl) (.cons (k_is rfl rfl) (.cons (k_is rfl rfl) .nil)))))))))))))))), (k_is rfl rfl), (k_is rfl rfl), trivial⟩
theorem eqE {x y : Bool} (h : x = y) : ResLe (.bool x) (.bool y) := by rw [h]; exact .rfl
theorem ans_pure (c : Cfg) (s : Script) (m : List Int) (op at_ reg : Int) (hm : (∀ x ∈ m, u8R x)) (ho : i64R op) : Pure Try.prog 9 (cons [e_Cfg c, e_Script s, e_row 1 e_u8 m, .int .i64 op, .int .i64 at_, .int .i64 reg]) (con (.bool true)) := by
  refine pureQ mix TBaok t_law18_BanksAnswer (Nat.le_of_ble_eq_true rfl) ?_
  refine Eq.mpr (r_ans0 c s m op at_ reg _) ?_
  simp only [g1, g2, g3, g4, g5, g6, g7, allN_true, cond_true, Nat.le_refl, decide_true, pl_eq]
  by_cases hb : (m.length : Int) > 200 ∨ (s.lats.length : Int) > 60 ∨ c.banks < 1 ∨ c.banks > 16 ∨ c.lat < 1 ∨ c.lat > 30 ∨ ¬ formI op = 4 ∨ at_ < 0 ∨ (m.length : Int) < szI op ∨ reg < -1 ∨ reg > 15 ∨ reg = 0
  · simp only [bor]
    have e : (decide ((m.length : Int) > 200) || decide ((s.lats.length : Int) > 60) || decide (c.banks < 1) || decide (c.banks > 16) || decide (c.lat < 1) || decide (c.lat > 30) || decide (¬ formI op = 4) || decide (at_ < 0) || decide ((m.length : Int) < szI op) || decide (reg < -1) || decide (reg > 15) || decide (reg = 0)) = true := by
      simp only [Bool.or_eq_true, decide_eq_true_eq]
      rcases hb with h | h | h | h | h | h | h | h | h | h | h | h <;> simp [h]
    rw [e]
    exact .rfl
  have n1 : ¬ (m.length : Int) > 200 := fun h => hb (.inl h)
  have n2 : ¬ (s.lats.length : Int) > 60 := fun h => hb (.inr (.inl h))
  have n3 : ¬ c.banks < 1 := fun h => hb (.inr (.inr (.inl h)))
  have n4 : ¬ c.banks > 16 := fun h => hb (.inr (.inr (.inr (.inl h))))
  have n5 : ¬ c.lat < 1 := fun h => hb (.inr (.inr (.inr (.inr (.inl h)))))
  have n6 : ¬ c.lat > 30 := fun h => hb (.inr (.inr (.inr (.inr (.inr (.inl h))))))
  have n7 : formI op = 4 := Classical.byContradiction fun h => hb (.inr (.inr (.inr (.inr (.inr (.inr (.inl h)))))))
  have n8 : ¬ at_ < 0 := fun h => hb (.inr (.inr (.inr (.inr (.inr (.inr (.inr (.inl h))))))))
  have n9 : ¬ (m.length : Int) < szI op := fun h => hb (.inr (.inr (.inr (.inr (.inr (.inr (.inr (.inr (.inl h)))))))))
  have n10 : ¬ reg < -1 := fun h => hb (.inr (.inr (.inr (.inr (.inr (.inr (.inr (.inr (.inr (.inl h))))))))))
  have n11 : ¬ reg > 15 := fun h => hb (.inr (.inr (.inr (.inr (.inr (.inr (.inr (.inr (.inr (.inr (.inl h)))))))))))
  have n12 : ¬ reg = 0 := fun h => hb (.inr (.inr (.inr (.inr (.inr (.inr (.inr (.inr (.inr (.inr (.inr h)))))))))))
  clear hb
  have hop : 26 ≤ op ∧ op ≤ 30 := by
    unfold formI at n7
    repeat' split at n7
    all_goals omega
  have hsz := sz_load hop.1 hop.2
  have hbm : m.length * 1 ≤ 140737488355328 := by omega
  generalize hsd : szI op = sz at hsz n9
  have hz : ¬ sz = 0 := by omega
  have hdv : Int.tdiv (m.length : Int) sz = (m.length : Int) / sz := Int.tdiv_eq_ediv_of_nonneg (by omega)
  have hd1 : 1 ≤ (m.length : Int) / sz ∧ (m.length : Int) / sz * sz ≤ m.length := by
    rcases hsz with rfl | rfl | rfl <;> omega
  have hwd : IntKind.i64.wrap ((m.length : Int) / sz) = (m.length : Int) / sz := wrap_i64 (by omega) (by rcases hsz with rfl | rfl | rfl <;> omega)
  have hdz : ¬ (m.length : Int) / sz = 0 := by omega
  have hmd : Int.tmod at_ ((m.length : Int) / sz) = at_ % ((m.length : Int) / sz) := Int.tmod_eq_emod_of_nonneg (by omega)
  have hmr := Int.emod_nonneg at_ hdz
  have hmr2 := Int.emod_lt_of_pos at_ (show 0 < (m.length : Int) / sz by omega)
  have har : 0 ≤ at_ % ((m.length : Int) / sz) * sz ∧ at_ % ((m.length : Int) / sz) * sz + sz ≤ m.length := by
    generalize at_ % ((m.length : Int) / sz) = k at hmr hmr2 ⊢
    generalize (m.length : Int) / sz = d at hd1 hmr2
    have : (k + 1) * sz ≤ d * sz := Int.mul_le_mul_of_nonneg_right (by omega) (by omega)
    have h0 : 0 ≤ k * sz := Int.mul_nonneg hmr (by omega)
    rw [Int.add_mul, Int.one_mul] at this
    omega
  have hwa : IntKind.i64.wrap (at_ % ((m.length : Int) / sz) * sz) = at_ % ((m.length : Int) / sz) * sz := wrap_i64 (by omega) (by omega)
  simp only [n1, n2, n3, n4, n5, n6, n7, n8, n9, n10, n11, n12, hz, hdv, hwd, hdz, hmd, hwa, hbm, not_true_eq_false, decide_true, decide_false, cond_true, cond_false, Bool.not_false, Bool.not_true]
  generalize at_ % ((m.length : Int) / sz) * sz = a at har ⊢
  clear hmr hmr2 hwa hmd hdz hwd hd1 hdv n8
  refine ⟨(s, 0, c.lat), .rfl, ⟨trivial⟩, ?_⟩
  intro n hn
  replace hn : n = latF s 0 c.lat := hn
  have hnr := lat_rng s 0 (most := c.lat) (by omega)
  rw [← hn] at hnr
  subst hsd
  have i64 : ∀ z : Int, -1000 ≤ z → z ≤ 1000 → i64R z := fun z h1 h2 => by unfold i64R; omega
  have hgd : ∀ i : Nat, (i : Int) ≤ n → goodS (anI m op a (szI op) reg n i) := fun i hi => by
    unfold anI
    split
    · exact an_good hm (by omega) ho (i64 _ (by omega) (by omega)) (i64 _ (by omega) (by omega)) (i64 _ (by omega) (by omega)) (i64 _ (by omega) (by omega)) (i64 _ (by omega) (by omega)) (i64 _ (by omega) (by omega))
    · exact an_good hm (by omega) ho (i64 _ (by omega) (by omega)) (i64 _ (by omega) (by omega)) (i64 _ (by omega) (by omega)) (i64 _ (by omega) (by omega)) (i64 _ (by omega) (by omega)) (i64 _ (by omega) (by omega))
  refine loopQ mix TBaok (fun i : Nat => baSt c s m op a reg n (anI m op a (szI op) reg n i) i) (fun i => (i : Int) ≤ n) (fun i => n.toNat - i) 0 (by show ((0 : Nat) : Int) ≤ n; omega) ba_in ?_
  intro i hi
  replace hi : (i : Int) ≤ n := hi
  have hgi := hgd i hi
  refine Eq.mpr (r_ans1 c s m op a reg n _ i _ _) ?_
  by_cases hlt : (i : Int) < n
  · have w1 : IntKind.i64.wrap ((i : Int) + 1) = ((i + 1 : Nat) : Int) := wrap_i64 (by omega) (by omega)
    have hx : advF c s (anI m op a (szI op) reg n i) = anX m op a (szI op) reg (n - i) 1 i := by
      unfold anI
      split
      · rename_i h0
        subst h0
        rw [adv_first (by omega) (by omega) (by omega) (by omega), ← hn]
        simp
      · rw [adv_next (by omega) (by omega) (by omega) (by omega) (by omega)]
        congr 1
        omega
    simp only [hlt, w1, decide_true, cond_true]
    refine ⟨(c, s, anI m op a (szI op) reg n i), .rfl, ⟨hgi⟩, ?_⟩
    intro y hy
    replace hy : y = advF c s (anI m op a (szI op) reg n i) := hy
    rw [hx] at hy
    subst hy
    have e1 : decide (¬ ((anX m op a (szI op) reg (n - i) 1 i).table.length : Int) = 1) = false := rfl
    rw [e1, cond_false]
    have hX : anI m op a (szI op) reg n (i + 1) = anX m op a (szI op) reg (n - i) 1 ((i + 1 : Nat) : Int) := by
      unfold anI
      rw [if_neg (by omega)]
      congr 1
      omega
    refine ⟨i + 1, (by show ((i + 1 : Nat) : Int) ≤ n; omega), ?_, by omega⟩
    rw [hX]
    have w2 : IntKind.i64.wrap ((anX m op a (szI op) reg (n - i) 1 i).cycle + 1) = ((i + 1 : Nat) : Int) := w1
    rw [w2]
    exact .of (weakX ⟨rfl, rfl, rfl, rfl, rfl, rfl, rfl, rfl, rfl, trivial⟩ ⟨rfl, rfl, rfl, trivial⟩ (Nat.le_refl _))
  · have hin : (i : Int) = n := by omega
    have hX : anI m op a (szI op) reg n i = anX m op a (szI op) reg 1 1 n := by
      unfold anI
      rw [if_neg (by omega), hin]
      congr 1
      omega
    have gw : IntKind.u32.wrap a = a := wrap_u32 (by omega) (by omega)
    have g3 : a ≤ 4294967295 := by omega
    have g0 : 0 ≤ a := har.1
    have hu : rngB m.length (fun i => e_u8 (ix m i)) = true := rngB_iff.2 fun i hi => hm _ (ix_mem hi)
    have b4 : m.length ≤ 1099511627776 := by omega
    simp only [hlt, decide_false, cond_false, gw, g0, g3, hu, b4, allN_true, decide_true, cond_true]
    refine ⟨(c, s, anI m op a (szI op) reg n i), .rfl, ⟨hgi⟩, ?_⟩
    intro y hy
    replace hy : y = advF c s (anI m op a (szI op) reg n i) := hy
    rw [hX, adv_last (by omega) (by omega) (by omega) (by omega)] at hy
    have hld : ldF (anX m op a (szI op) reg 1 1 n) ⟨false, op, a, szI op, 0, 1, reg, 7⟩ = loadI m.length (fun i => e_u8 (ix m i)) op a := by
      unfold ldF
      rw [if_pos ⟨g0, g3⟩]
      rfl
    generalize loadI m.length (fun i => e_u8 (ix m i)) op a = v at hld ⊢
    have ht : y.table = [] := by rw [hy]
    have hl0 : (y.table.length : Int) = 0 := by rw [ht]; rfl
    by_cases hr : reg < 0
    · rw [done_ldq rfl hr, hld] at hy
      have hq : y.ldq = [⟨7, true, v⟩] := by rw [hy]; rfl
      have hl1 : (y.ldq.length : Int) = 1 := by rw [hq]; rfl
      have hi0 : ix y.ldq 0 = ⟨7, true, v⟩ := by rw [hq]; rfl
      simp only [hr, hl0, hl1, hi0, not_true_eq_false, decide_true, decide_false, cond_true, cond_false, Bool.not_false, Bool.not_true]
      exact eqE (by simp)
    · have hk : 1 ≤ reg ∧ reg ≤ 15 := by omega
      rw [done_reg rfl hk, hld] at hy
      have hq : y.ldq = [⟨7, false, 0⟩] := by rw [hy]; rfl
      have hl1 : (y.ldq.length : Int) = 1 := by rw [hq]; rfl
      have hi0 : ix y.ldq 0 = ⟨7, false, 0⟩ := by rw [hq]; rfl
      have hr1 : y.a.regs reg.toNat = v := by
        rw [hy]
        show (bif Nat.beq reg.toNat reg.toNat then v else _) = v
        rw [Nat.beq_refl, cond_true]
      have hr2 : y.a.ready reg.toNat = IntKind.i64.wrap (n + 1) := by
        rw [hy]
        show (bif Nat.beq reg.toNat reg.toNat then IntKind.i64.wrap (n + 1) else _) = _
        rw [Nat.beq_refl, cond_true]
      have k3 : 0 ≤ reg := by omega
      have k4 : reg < 16 := by omega
      have k5 : reg.toNat < 16 := by omega
      have k6 : (0 : Int) < 1 := by omega
      simp only [hr, hl0, hl1, hi0, hr1, hr2, k3, k4, k5, k6, Nat.beq_refl, not_true_eq_false, decide_true, decide_false, cond_true, cond_false, Bool.not_false, Bool.not_true]
      exact .rfl
end Go.Proofs.Ytbemlndjdbopeaa
namespace Go.Proofs.Ytbemlndjdbopeaa.banksAnswer
open Go.Ra Go.ChangeShapes Go.WideShapes Go.ChangeAt Go.RowKit
open Go.ChangeMaps (open_string shut_string)
theorem own : ownKnob Try.prog.godebug = none := by kernel_rfl
def Ts : List Ty := [T_Cfg, T_Script, .slice 1 1 (.int .u8), .int .i64, .int .i64, .int .i64]
theorem law (xs : List AV) (h : Ty.hasL Ts xs) : Pure Try.prog 9 xs (.sc (.bool true)) := by
  simp only [Ts, Ty.hasL] at h
  obtain ⟨a, _, rfl, ha, b, _, rfl, hb, d, _, rfl, hd, e, _, rfl, he, f, _, rfl, hf, g, _, rfl, hg, rfl⟩ := h
  obtain ⟨c, rfl, _⟩ := has_Cfg _ ha
  obtain ⟨s, rfl, hs⟩ := has_Script _ hb
  obtain ⟨m, rfl, hm⟩ := has_row (en := e_u8) (wf := u8R) has_u8' hd
  obtain ⟨u, rfl, hu⟩ := has_i64' _ he
  obtain ⟨v, rfl, _⟩ := has_i64' _ hf
  obtain ⟨w, rfl, _⟩ := has_i64' _ hg
  exact ans_pure c s m u v w hm.1 hu
set_option maxRecDepth 100000 in
theorem lifted (os : Os) (started : os.Started) (H : Type) (enc : TypeId × Value → H) :
    ReturnsInHanded {} Try.checked os 9 .any (Rows.banksAnswerSpec.pre6 enc Try.prog Try.f9 Rows.banksAnswerRow.domain false) (Rows.banksAnswerSpec.post enc Try.prog Try.f9 false true false false) := by
  refine returnsInHanded_of_change_sized (C := Try.checked) own started (by kernel_rfl) Try.func9
    (ChangeSpec.witness6 (enc := enc) (C := Try.checked) false ⟨#[], #[.agg #[.int .i64 0, .int .i64 0, .int .i64 0, .int .i64 0, .int .i64 0, .int .i64 0, .int .i64 0, .int .i64 0, .int .i64 0, .int .i64 0, .int .i64 0, .int .i64 0], .agg #[.slice none 0 0, .slice none 0 0], .slice none 0 0, .int .i64 0, .int .i64 0, .int .i64 0], []⟩ 8 (by kernel_rfl) (by kernel_rfl) (by kernel_rfl) (by kernel_rfl)) ?_
  intro W base args ds gs before hval hW hcnd hsz _
  refine law_post (s := Rows.banksAnswerSpec) (n := 60) (Ts := Ts) (ts := [23, 57, 36, 3, 3, 3]) (tb := 4) (by kernel_rfl) rfl rfl Try.underlying4 rfl (by kernel_rfl) (by kernel_rfl) (fun ds hds => ?_) law W base args ds gs before hval hW hsz
  match ds, hds with
  | [d1, d2, d3, d4, d5, d6], _ => exact ⟨rfl, rfl, rfl⟩
theorem over : Rows.banksAnswerRow.holds Try.pinned (OpenSpec.ofChange Rows.banksAnswerSpec) :=
  OpenClaim.holds_of_wide 9 Try.f9 rfl rfl rfl rfl rfl rfl rfl ⟨rfl, rfl, rfl, rfl, rfl⟩ rfl rfl rfl rfl rfl (by kernel_rfl) Try.func9 (by kernel_rfl)
    (of_decide_eq_true (by kernel_rfl)) (by unfold Func.isWrapper; first | (rw [if_pos (by decide +kernel)]; kernel_rfl) | (rw [if_neg (by decide +kernel)]; exact ⟨rfl, rfl⟩))
    (fun os started H enc _ => lifted os started H enc)
theorem proved : Rows.BanksAnswerSaid := over
end Go.Proofs.Ytbemlndjdbopeaa.banksAnswer
namespace Go.Proofs.Ytbemlndjdbopeaa
/-- The row, under a short name, for the claim. -/
theorem banksAnswer_holds : Rows.BanksAnswerSaid := banksAnswer.proved
end Go.Proofs.Ytbemlndjdbopeaa
#print axioms Go.Proofs.Ytbemlndjdbopeaa.banksAnswer_holds
