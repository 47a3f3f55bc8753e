/- Each request is done at last, within as many cycles as there are requests times the longest latency and one; no bank has two at once. -/
import Derived.Test.YtbemlndjdbopeaaRows
import Derived.WalkKit
import Derived.ProofKit
import Derived.OpenShut
import Derived.ShutString
import Derived.ChangeOld
import Derived.Below
import Derived.SizedLaws
import Derived.Test.YtbemlndjdbopeaaPk5

namespace Go.Proofs.Ytbemlndjdbopeaa
open Go.Ra
set_option linter.unusedVariables false
set_option linter.unusedSimpArgs false
def itF (c : Cfg) (s : Script) (x : Stt) : Nat → Stt
  | 0 => x
  | k + 1 => advF c s (itF c s x k)
theorem wg_pos {M : Int} (hM : 1 ≤ M) {l : List Req} (h : 0 < l.length) : 1 ≤ sumI (wgI M) l := by
  have nn : ∀ r : Req, 0 ≤ wgI M r := fun r => by unfold wgI; split <;> omega
  have := sumI_ge nn h
  have : 1 ≤ wgI M (ix l 0) := by unfold wgI; split <;> omega
  omega
theorem it_sok {c : Cfg} {s : Script} {n st : Int} {x : Stt} (h : SOk c n st x) (h1 : 1 ≤ c.banks) (h2 : c.banks ≤ 16) (h3 : 1 ≤ c.lat) (h4 : c.lat ≤ 1000) (hn : 0 ≤ x.lats ∧ n ≤ 1000) : ∀ k : Nat, SOk c n st (itF c s x k) ∧ 0 ≤ (itF c s x k).lats ∧ (sumI (wgI c.lat) (itF c s x k).table + k ≤ sumI (wgI c.lat) x.table ∨ (itF c s x k).table.length = 0)
  | 0 => ⟨h, hn.1, .inl (by show sumI (wgI c.lat) x.table + ((0 : Nat) : Int) ≤ _; omega)⟩
  | k + 1 => by
    obtain ⟨a1, a2, a3⟩ := it_sok h h1 h2 h3 h4 hn k
    obtain ⟨b1, b2, b3, b4⟩ := adv_sok (s := s) a1 h1 h2 h3 h4 ⟨a2, hn.2⟩
    refine ⟨b1, b2, ?_⟩
    show sumI (wgI c.lat) (advF c s (itF c s x k)).table + ((k + 1 : Nat) : Int) ≤ _ ∨ (advF c s (itF c s x k)).table.length = 0
    by_cases hz : (itF c s x k).table.length = 0
    · right
      rw [List.eq_nil_of_length_eq_zero hz] at b3
      refine Classical.byContradiction fun hne => ?_
      have := wg_pos h3 (Nat.pos_of_ne_zero hne)
      have hb3 : sumI (wgI c.lat) (advF c s (itF c s x k)).table ≤ 0 := b3
      omega
    · have b5 := b4 (Nat.pos_of_ne_zero hz)
      rcases a3 with a3 | a3
      · left; omega
      · exact absurd a3 hz
theorem sum_new {f : Req → Int} {v : Int} : ∀ {l : List Req}, (∀ r ∈ l, f (newR r) = v) → sumI f (l.map newR) = l.length * v
  | [], _ => by simp [sumI]
  | r :: l, h => by
    have h1 := sum_new (l := l) fun q hq => h q (List.mem_cons_of_mem _ hq)
    show f (newR r) + sumI f (l.map newR) = _
    rw [h r List.mem_cons_self, h1]
    show v + (l.length : Int) * v = ((l.length + 1 : Nat) : Int) * v
    rw [Int.natCast_add, Int.add_mul]
    omega
theorem sum_st : ∀ {l : List Req}, sumI stI (l.map newR) = sumI stI l
  | [] => rfl
  | r :: l => by
    show stI (newR r) + sumI stI (l.map newR) = _
    rw [sum_st]; rfl
theorem sv_good {m : List Int} {l : List Req} (hm : ∀ x ∈ m, u8R x) (hl : ∀ r ∈ l, r.wf) (h1 : m.length ≤ 300) (h2 : l.length ≤ 20) : goodS (svX m (l.map newR)) := by
  have z : i64R 0 := by unfold i64R; omega
  have u : u32R 0 := by unfold u32R; omega
  have zs : zS0.wf := ⟨fun i _ => u, fun i _ => z, ⟨z, z, z⟩, z, z⟩
  have nl : ∀ {α : Type} {P : α → Prop} {k : Nat}, (∀ x ∈ ([] : List α), P x) ∧ ([] : List α).length * k ≤ 140737488351232 := fun {α P k} => ⟨fun x h => (by cases h), by simp⟩
  have hlen : (l.map newR).length = l.length := by simp
  refine ⟨⟨⟨z, zs, zs, nl, nl, nl, nl, nl, nl, ⟨fun x hx => ?_, by show (l.map newR).length * 64 ≤ _; omega⟩, ⟨hm, by show m.length * 1 ≤ _; omega⟩, nl, ⟨z, z, z⟩, z, z, z⟩, by show 0 ≤ _; omega, by show 0 ≤ _; omega, by show 0 ≤ _; omega, by show 0 ≤ _; omega, by show 0 ≤ _; omega, by show 0 ≤ _; omega, by show (l.map newR).length ≤ _; omega, by show m.length ≤ _; omega, by show 0 ≤ _; omega⟩, by show 0 + (l.map newR).length ≤ _; omega⟩
  obtain ⟨q, hq, rfl⟩ := List.mem_map.1 hx
  have := hl q hq
  exact ⟨this.1, this.2.1, this.2.2.1, this.2.2.2.1, z, z, this.2.2.2.2.2.2⟩
theorem sv_sok {c : Cfg} {m : List Int} {l : List Req} (hm : ∀ x ∈ m, u8R x) (hl : ∀ r ∈ l, r.wf) (h1 : m.length ≤ 300) (h2 : l.length ≤ 20) (h3 : 1 ≤ c.lat) : SOk c l.length (sumI stI l) (svX m (l.map newR)) ∧ sumI (wgI c.lat) (svX m (l.map newR)).table = l.length * (c.lat + 1) := by
  refine ⟨⟨sv_good hm hl h1 h2, fun r hr => ?_, fun b => ?_, ?_, ?_⟩, ?_⟩
  · obtain ⟨q, _, rfl⟩ := List.mem_map.1 hr
    show (0 : Int) ≤ 0 ∧ (0 : Int) ≤ c.lat
    omega
  · show sumI (bzI c b) (l.map newR) ≤ 1
    rw [sum_new (v := 0) fun r _ => by unfold bzI isBz newR; rw [if_neg (by simp)]]
    omega
  · show (0 : Int) + sumI zrI (l.map newR) = _
    rw [sum_new (v := 1) fun r _ => rfl]
    omega
  · show ((0 : Nat) : Int) + sumI stI (l.map newR) = _
    rw [sum_st]; omega
  · show sumI (wgI c.lat) (l.map newR) = _
    exact sum_new fun r _ => rfl
theorem l2_loop {c : Cfg} {s : Script} {l : List Req} {x : Stt} {n st : Int} {k i : Nat} {r : XV} {A B : XSt → Prop} (h : SOk c n st x) (hi : i < x.table.length) (hB : ∀ τ, WeakE 5 τ.st (sv3 c s l x k (i + 1)).st → B τ) :
    LoopAt (Ok Try.prog (Tab.q TBs)) c_law18_BanksServe_l2 (XSt.mk [(15, .int .i64 0), (14, .int .i64 i), (13, .int .i64 k), (10, .ptr 3 [] 0), (5, .ptr 1 [] 0), (4, .ptr 0 [] 0), (3, e_row 8 e_Req l)] [(3, some (e_Stt x)), (1, some (e_Script s)), (0, some (e_Cfg c))] 5) [Frm.blk 6, Frm.seq c_law18_BanksServe_p1, Frm.blk 5, Frm.seq c_law18_BanksServe_p2, Frm.lp c_law18_BanksServe_l3 B, Frm.blk 4, Frm.blk 3, Frm.seq c_law18_BanksServe_p3, Frm.lp c_law18_BanksServe_l4 A, Frm.blk 2, Frm.seq c_law18_BanksServe_p5] (finQR [AR.tmp 8] r) := by
  have hl0 : x.table.length ≤ 1000000 := h.good.1.2.2.2.2.2.2.2.1
  have hwf : ∀ q ∈ x.table, q.wf := h.good.1.1.2.2.2.2.2.2.2.2.2.1.1
  refine loopQ mix TBsok (fun j : Nat => sv2 c s l x k i j) (fun j => j ≤ i) (fun j => i - j) 0 (Nat.zero_le _) (.of (weakX ⟨rfl, rfl, rfl, rfl, rfl, rfl, rfl, trivial⟩ ⟨rfl, rfl, rfl, trivial⟩ (Nat.le_refl _))) ?_
  intro j hj
  replace hj : j ≤ i := hj
  refine Eq.mpr (r_srv2 c s l x k i j _ _ _ _) ?_
  have hI : (i : Int) < (x.table.length : Int) := by omega
  have hli := h.left _ (ix_mem hi)
  by_cases hlt : j < i
  · have g1 : (j : Int) < (i : Int) := by omega
    have g2 : (j : Int) < (x.table.length : Int) := by omega
    have w1 : IntKind.i64.wrap ((j : Int) + 1) = ((j + 1 : Nat) : Int) := wrap_i64 (by omega) (by omega)
    have a1 : (ix x.table i).addr ≤ 9223372036854775807 := (hwf _ (ix_mem hi)).2.1.2
    have a2 : (ix x.table j).addr ≤ 9223372036854775807 := (hwf _ (ix_mem (by omega))).2.1.2
    have key : (bif (bif decide ((ix x.table i).left > 0) then decide ((ix x.table j).left > 0) else false) then decide (bnkI (ix x.table i).addr c.banks = bnkI (ix x.table j).addr c.banks) else false) = false := by
      rw [← Bool.not_eq_true]
      intro hc
      simp only [band, Bool.and_eq_true, decide_eq_true_eq] at hc
      obtain ⟨⟨c1, c2⟩, c3⟩ := hc
      have h2 := sumI_two (bzI_nn c (bnkI (ix x.table i).addr c.banks)) hlt hi
      have e1 : bzI c (bnkI (ix x.table i).addr c.banks) (ix x.table i) = 1 := by unfold bzI isBz; rw [if_pos (by simp; exact c1)]
      have e2 : bzI c (bnkI (ix x.table i).addr c.banks) (ix x.table j) = 1 := by unfold bzI isBz; rw [if_pos (by rw [c3]; simp; exact c2)]
      rw [e1, e2] at h2
      have := h.one (bnkI (ix x.table i).addr c.banks)
      omega
    simp only [g1, g2, hI, w1, a1, a2, key, Ra.g2, decide_true, cond_true, cond_false]
    exact ⟨j + 1, hlt, .of (weakX ⟨rfl, rfl, rfl, rfl, rfl, rfl, rfl, trivial⟩ ⟨rfl, rfl, rfl, trivial⟩ (Nat.le_refl _)), by omega⟩
  · have g1 : ¬ (j : Int) < (i : Int) := by omega
    have w1 : IntKind.i64.wrap ((i : Int) + 1) = ((i + 1 : Nat) : Int) := wrap_i64 (by omega) (by omega)
    have g3 : ¬ (ix x.table i).left < 0 := by omega
    have g4 : ¬ (ix x.table i).left > c.lat := by omega
    simp only [g1, hI, w1, g3, g4, decide_true, decide_false, cond_true, cond_false, Bool.not_false]
    exact hB _ (.of (weakX ⟨rfl, rfl, rfl, rfl, rfl, rfl, trivial⟩ ⟨rfl, rfl, rfl, trivial⟩ (Nat.le_refl _)))
theorem l3_loop {c : Cfg} {s : Script} {l : List Req} {x : Stt} {n st : Int} {k : Nat} {r : XV} {A : XSt → Prop} (h : SOk c n st x) (hk : k ≤ 1000000) (hA : ∀ τ, WeakE 5 τ.st (sv4 c s l x (k + 1)).st → A τ) :
    LoopAt (Ok Try.prog (Tab.q TBs)) c_law18_BanksServe_l3 (XSt.mk [(14, .int .i64 0), (13, .int .i64 k), (10, .ptr 3 [] 0), (5, .ptr 1 [] 0), (4, .ptr 0 [] 0), (3, e_row 8 e_Req l)] [(3, some (e_Stt x)), (1, some (e_Script s)), (0, some (e_Cfg c))] 5) [Frm.blk 4, Frm.blk 3, Frm.seq c_law18_BanksServe_p3, Frm.lp c_law18_BanksServe_l4 A, Frm.blk 2, Frm.seq c_law18_BanksServe_p5] (finQR [AR.tmp 8] r) := by
  refine loopQ mix TBsok (fun i : Nat => sv3 c s l x k i) (fun i => i ≤ x.table.length) (fun i => x.table.length - i) 0 (Nat.zero_le _) (.of (weakX ⟨rfl, rfl, rfl, rfl, rfl, rfl, trivial⟩ ⟨rfl, rfl, rfl, trivial⟩ (Nat.le_refl _))) ?_
  intro i hi
  replace hi : i ≤ x.table.length := hi
  refine Eq.mpr (r_srv3 c s l x k i _ _ _) ?_
  by_cases hlt : i < x.table.length
  · have g1 : (i : Int) < (x.table.length : Int) := by omega
    simp only [g1, decide_true, cond_true]
    exact l2_loop h hlt fun τ hτ => ⟨i + 1, hlt, hτ, by omega⟩
  · have g1 : ¬ (i : Int) < (x.table.length : Int) := by omega
    have w1 : IntKind.i64.wrap ((k : Int) + 1) = ((k + 1 : Nat) : Int) := wrap_i64 (by omega) (by omega)
    simp only [g1, w1, decide_false, cond_false]
    exact hA _ (.of (weakX ⟨rfl, rfl, rfl, rfl, rfl, trivial⟩ ⟨rfl, rfl, rfl, trivial⟩ (Nat.le_refl _)))
def cstN (l : List Req) : Nat := l.countP (fun q => q.store)
theorem cst_sum : ∀ l : List Req, (cstN l : Int) = sumI stI l
  | [] => rfl
  | r :: l => by
    have := cst_sum l
    unfold cstN at this ⊢
    rw [List.countP_cons]
    simp only [sumI, stI]
    cases r.store <;> simp <;> omega
theorem cst_step {l : List Req} {i : Nat} (h : i < l.length) : cstN (l.take (i + 1)) = cstN (l.take i) + if (ix l i).store then 1 else 0 := by
  unfold cstN
  rw [List.take_succ_eq_append_getElem h, List.countP_append, ix_lt h]
  simp [List.countP_cons]
theorem l5_loop {c : Cfg} {s : Script} {l : List Req} {x : Stt} (hl : l.length ≤ 20) (h1 : x.table.length = 0) (h2 : x.writes.length = cstN l) (h3 : x.lats = l.length) :
    LoopAt (Ok Try.prog (Tab.q TBs)) c_law18_BanksServe_l5 (XSt.mk [(17, .int .i64 0), (16, .int .i64 0), (10, .ptr 3 [] 0), (3, e_row 8 e_Req l)] [(3, some (e_Stt x)), (1, some (e_Script s)), (0, some (e_Cfg c))] 5) [Frm.blk 8, Frm.seq c_law18_BanksServe_p4] (finQR [AR.tmp 8] (.bool true)) := by
  refine loopQ mix TBsok (fun i : Nat => sv5 c s l x i (cstN (l.take i))) (fun i => i ≤ l.length) (fun i => l.length - i) 0 (Nat.zero_le _) (.of (weakX ⟨rfl, rfl, rfl, rfl, trivial⟩ ⟨rfl, rfl, rfl, trivial⟩ (Nat.le_refl _))) ?_
  intro i hi
  replace hi : i ≤ l.length := hi
  refine Eq.mpr (r_srv5 c s l x i _ _ _) ?_
  by_cases hlt : i < l.length
  · have g1 : (i : Int) < (l.length : Int) := by omega
    have w1 : IntKind.i64.wrap ((i : Int) + 1) = ((i + 1 : Nat) : Int) := wrap_i64 (by omega) (by omega)
    have hc : cstN (l.take i) ≤ 20 := by
      have : cstN (l.take i) ≤ (l.take i).length := List.countP_le_length
      have := List.length_take_le i l
      omega
    have w2 : IntKind.i64.wrap ((cstN (l.take i) : Int) + 1) = ((cstN (l.take i) + 1 : Nat) : Int) := wrap_i64 (by omega) (by omega)
    have st := cst_step hlt
    simp only [g1, w1, w2, decide_true, cond_true]
    cases hs : (ix l i).store with
    | true =>
      rw [hs] at st
      exact ⟨i + 1, hlt, by rw [st]; exact .of (weakX ⟨rfl, rfl, rfl, rfl, trivial⟩ ⟨rfl, rfl, rfl, trivial⟩ (Nat.le_refl _)), by omega⟩
    | false =>
      rw [hs] at st
      exact ⟨i + 1, hlt, by rw [st]; exact .of (weakX ⟨rfl, rfl, rfl, rfl, trivial⟩ ⟨rfl, rfl, rfl, trivial⟩ (Nat.le_refl _)), by omega⟩
  · have g1 : ¬ (i : Int) < (l.length : Int) := by omega
    obtain rfl : i = l.length := by omega
    have g2 : (x.table.length : Int) = 0 := by omega
    rw [List.take_length]
    have g3 : (x.writes.length : Int) = (cstN l : Int) := by omega
    simp only [g1, g2, g3, h3, decide_true, decide_false, cond_true, cond_false]
    exact .rfl
theorem sv_in {c : Cfg} {s : Script} {m : List Int} {l : List Req} : WeakE 4 (XSt.st (XSt.mk [(11, .int .i64 0), (10, .ptr 3 [] 0), (8, .bool false), (5, .ptr 1 [] 0), (4, .ptr 0 [] 0), (3, e_row 8 e_Req l)] [(3, some (.agg 92 [.int .i64 0, e_Side zS0, e_Side zS0, zNil, zNil, zNil, zNil, zNil, zNil, zNil, .sl 2 [] 0 0 m.length 1, zNil, .agg 3 [.int .i64 0, .int .i64 0, .int .i64 0], .int .i64 0, .int .i64 0, .int .i64 0])), (2, some (e_tb 1 e_u8 m)), (1, some (e_Script s)), (0, some (e_Cfg c))] 4)) (sv1 c s m l [] 0).st := by
  refine WeakE.trans (τ := XSt.st (XSt.mk [(11, .int .i64 0), (10, .ptr 3 [] 0), (8, .bool false), (5, .ptr 1 [] 0), (4, .ptr 0 [] 0), (3, e_row 8 e_Req l)] [(3, some (.agg 92 [.int .i64 0, e_Side zS0, e_Side zS0, zNil, zNil, zNil, zNil, zNil, zNil, zNil, e_row 1 e_u8 m, zNil, .agg 3 [.int .i64 0, .int .i64 0, .int .i64 0], .int .i64 0, .int .i64 0, .int .i64 0])), (1, some (e_Script s)), (0, some (e_Cfg c))] 4)) ?_ ?_
  · refine WeakE.frz ?_
    refine frz_env (L := [2]) ?_ ?_ ?_
    · rfl
    · exact ⟨rfl, .same, rfl, .same, rfl, .same, rfl, .same, rfl, .same, rfl, .same, trivial⟩
    · exact ⟨rfl, .agg (.cons .same (.cons .same (.cons .same (.cons .same (.cons .same (.cons .same (.cons .same (.cons .same (.cons .same (.cons .same (.cons (fz_row rfl rfl) (.cons .same (.cons .same (.cons .same (.cons .same (.cons .same .nil)))))))))))))))), rfl, .same, rfl, .same, trivial⟩
  · exact weakM [(0, 0), (1, 1), (2, 2), (3, 3)] rfl rfl rfl rfl rfl ⟨(k_is rfl rfl), .ptr rfl, .ptr rfl, .ptr rfl, (k_is rfl rfl), trivial⟩ ⟨⟨8, rfl⟩, .agg (.cons (k_is rfl rfl) (.cons (k_is rfl rfl) (.cons (k_is rfl rfl) (.cons (k_row rfl (.inr rfl) fun j hj => absurd hj (Nat.not_lt_zero _)) (.cons (k_row rfl (.inr rfl) fun j hj => absurd hj (Nat.not_lt_zero _)) (.cons (k_row rfl (.inr rfl) fun j hj => absurd hj (Nat.not_lt_zero _)) (.cons (k_row rfl (.inr rfl) fun j hj => absurd hj (Nat.not_lt_zero _)) (.cons (k_row rfl (.inr rfl) fun j hj => absurd hj (Nat.not_lt_zero _)) (.cons (k_row rfl (.inr rfl) fun j hj => absurd hj (Nat.not_lt_zero _)) (.cons (k_nil rfl) (.cons (k_is rfl rfl) (.cons (k_row rfl (.inr rfl) fun j hj => absurd hj (Nat.not_lt_zero _)) (.cons (k_is rfl rfl) (.cons (k_is rfl rfl) (.cons (k_is rfl rfl) (.cons (k_is rfl rfl) .nil)))))))))))))))), (k_is rfl rfl), (k_is rfl rfl), trivial⟩
theorem sv_mid {c : Cfg} {s : Script} {m : List Int} {l t : List Req} : WeakE 5 (XSt.st (XSt.mk [(13, .int .i64 0), (10, .ptr 3 [] 0), (5, .ptr 1 [] 0), (4, .ptr 0 [] 0), (3, e_row 8 e_Req l)] [(4, some (e_tb 8 e_Req t)), (3, some (bxV m t.length)), (1, some (e_Script s)), (0, some (e_Cfg c))] 5)) (sv4 c s l (svX m t) 0).st := by
  refine WeakE.frz ?_
  refine frz_env (L := [4]) ?_ ?_ ?_
  · rfl
  · exact ⟨rfl, .same, rfl, .same, rfl, .same, rfl, .same, rfl, .same, trivial⟩
  · exact ⟨rfl, .agg (.cons .same (.cons .same (.cons .same (.cons .same (.cons .same (.cons .same (.cons .same (.cons .same (.cons .same (.cons (fz_row rfl rfl) (.cons .same (.cons .same (.cons .same (.cons .same (.cons .same (.cons .same .nil)))))))))))))))), rfl, .same, rfl, .same, trivial⟩
theorem new_step {l : List Req} {i : Nat} (h : i < l.length) : (l.take (i + 1)).map newR = (l.take i).map newR ++ [newR (ix l i)] := by
  rw [List.take_succ_eq_append_getElem h, List.map_append, ix_lt h]; rfl
theorem serve_pure (c : Cfg) (s : Script) (m : List Int) (l : List Req) (hm : ∀ x ∈ m, u8R x) (hw : ∀ r ∈ l, r.wf) : Pure Try.prog 8 (cons [e_Cfg c, e_Script s, e_row 1 e_u8 m, e_row 8 e_Req l]) (con (.bool true)) := by
  refine pureQ mix TBsok t_law18_BanksServe (Nat.le_of_ble_eq_true rfl) ?_
  refine Eq.mpr (r_srv0 c s m l _) ?_
  simp only [g1, g2, g3, g4, g5, g6, g7, allN_true, cond_true, Nat.le_refl, decide_true, pl_eq]
  by_cases hb : (l.length : Int) > 20 ∨ (m.length : Int) > 300 ∨ (s.lats.length : Int) > 60 ∨ (s.picks.length : Int) > 60 ∨ c.banks < 1 ∨ c.banks > 16 ∨ c.lat < 1 ∨ c.lat > 30
  · simp only [bor]
    have e : (decide ((l.length : Int) > 20) || decide ((m.length : Int) > 300) || decide ((s.lats.length : Int) > 60) || decide ((s.picks.length : Int) > 60) || decide (c.banks < 1) || decide (c.banks > 16) || decide (c.lat < 1) || decide (c.lat > 30)) = true := by
      simp only [Bool.or_eq_true, decide_eq_true_eq]
      rcases hb with h | h | h | h | h | h | h | h <;> simp [h]
    rw [e]
    exact .rfl
  have n1 : ¬ (l.length : Int) > 20 := fun h => hb (.inl h)
  have n2 : ¬ (m.length : Int) > 300 := fun h => hb (.inr (.inl h))
  have n3 : ¬ (s.lats.length : Int) > 60 := fun h => hb (.inr (.inr (.inl h)))
  have n4 : ¬ (s.picks.length : Int) > 60 := fun h => hb (.inr (.inr (.inr (.inl h))))
  have n5 : ¬ c.banks < 1 := fun h => hb (.inr (.inr (.inr (.inr (.inl h)))))
  have n6 : ¬ c.banks > 16 := fun h => hb (.inr (.inr (.inr (.inr (.inr (.inl h))))))
  have n7 : ¬ c.lat < 1 := fun h => hb (.inr (.inr (.inr (.inr (.inr (.inr (.inl h)))))))
  have n8 : ¬ c.lat > 30 := fun h => hb (.inr (.inr (.inr (.inr (.inr (.inr (.inr h)))))))
  clear hb
  have b1 : m.length * 1 ≤ 140737488355328 := by omega
  simp only [n1, n2, n3, n4, n5, n6, n7, n8, b1, decide_true, decide_false, cond_true, cond_false, Bool.not_false]
  refine loopQ mix TBsok (fun i : Nat => sv1 c s m l ((l.take i).map newR) i) (fun i => i ≤ l.length) (fun i => l.length - i) 0 (Nat.zero_le _) sv_in ?_
  intro i hi
  replace hi : i ≤ l.length := hi
  refine Eq.mpr (r_srv1 c s m l _ i _ _) ?_
  by_cases hlt : i < l.length
  · have g1 : (i : Int) < (l.length : Int) := by omega
    have w1 : IntKind.i64.wrap ((i : Int) + 1) = ((i + 1 : Nat) : Int) := wrap_i64 (by omega) (by omega)
    have hst := new_step hlt
    have htl : ((l.take i).map newR).length = i := by rw [List.length_map, List.length_take]; omega
    generalize (l.take i).map newR = t at hst htl ⊢
    have b2 : (t.length + 1) * 64 ≤ 140737488355328 := by omega
    simp only [g1, w1, b2, pl_eq, Nat.le_refl, decide_true, cond_true]
    refine ⟨i + 1, hlt, ?_, by omega⟩
    rw [hst]
    have wsl : leK (kap [(0, 0), (1, 1), (2, 2), (3, 3), (4, 6)]) (.sl 6 [] 0 0 (t.length + 1) 8) (.sl 4 [] 0 0 (t ++ [newR (ix l i)]).length 8) := by rw [app_len]; exact .sl rfl
    exact weakM [(0, 0), (1, 1), (2, 2), (3, 3), (4, 6)] rfl rfl rfl rfl rfl ⟨(k_is rfl rfl), .ptr rfl, .ptr rfl, .ptr rfl, (k_is rfl rfl), trivial⟩ ⟨(k_apT (fun j hj => by simp only [hj, decide_true, cond_true]; rfl) (by simp; rfl)), .agg (.cons (k_is rfl rfl) (.cons (k_is rfl rfl) (.cons (k_is rfl rfl) (.cons (k_is rfl rfl) (.cons (k_is rfl rfl) (.cons (k_is rfl rfl) (.cons (k_is rfl rfl) (.cons (k_is rfl rfl) (.cons (k_is rfl rfl) (.cons wsl (.cons (k_is rfl rfl) (.cons (k_is rfl rfl) (.cons (k_is rfl rfl) (.cons (k_is rfl rfl) (.cons (k_is rfl rfl) (.cons (k_is rfl rfl) .nil)))))))))))))))), (k_is rfl rfl), (k_is rfl rfl), trivial⟩
  · have g1 : ¬ (i : Int) < (l.length : Int) := by omega
    obtain rfl : i = l.length := by omega
    rw [List.take_length]
    simp only [g1, decide_false, cond_false]
    obtain ⟨s0, s1⟩ := sv_sok (c := c) hm hw (by omega) (by omega) (by omega)
    have hsk := it_sok (s := s) s0 (by omega) (by omega) (by omega) (by omega) ⟨Int.le_refl _, by omega⟩
    rw [s1] at hsk
    have hT : ∃ T : Nat, (T : Int) = ((l.length : Int) + 1) * (c.lat + 1) ∧ T ≤ 1000000 := by
      refine ⟨(((l.length : Int) + 1) * (c.lat + 1)).toNat, ?_, ?_⟩
      · have : 0 ≤ ((l.length : Int) + 1) * (c.lat + 1) := Int.mul_nonneg (by omega) (by omega)
        omega
      · have : ((l.length : Int) + 1) * (c.lat + 1) ≤ 21 * (c.lat + 1) := Int.mul_le_mul_of_nonneg_right (by omega) (by omega)
        omega
    obtain ⟨T, hT1, hT2⟩ := hT
    have hq : IntKind.i64.wrap (IntKind.i64.wrap ((l.length : Int) + 1) * IntKind.i64.wrap (c.lat + 1)) = (T : Int) := by
      rw [wrap_i64 (x := (l.length : Int) + 1) (by omega) (by omega), wrap_i64 (x := c.lat + 1) (by omega) (by omega), ← hT1]
      exact wrap_i64 (by omega) (by omega)
    refine loopQ mix TBsok (fun k : Nat => sv4 c s l (itF c s (svX m (l.map newR)) k) k) (fun k => k ≤ T) (fun k => T - k) 0 (Nat.zero_le _) sv_mid ?_
    intro k hk
    replace hk : k ≤ T := hk
    obtain ⟨k1, k2, k3⟩ := hsk k
    refine Eq.mpr (r_srv4 c s l _ k _ _) ?_
    rw [hq]
    by_cases hkt : k < T
    · have g1 : (k : Int) < (T : Int) := by omega
      simp only [g1, decide_true, cond_true]
      refine ⟨(c, s, itF c s (svX m (l.map newR)) k), .rfl, ⟨k1.good⟩, ?_⟩
      intro y hy
      replace hy : y = itF c s (svX m (l.map newR)) (k + 1) := hy
      subst hy
      exact l3_loop (hsk (k + 1)).1 (by omega) fun τ hτ => ⟨k + 1, hkt, hτ, by omega⟩
    · have g1 : ¬ (k : Int) < (T : Int) := by omega
      obtain rfl : k = T := by omega
      simp only [g1, decide_false, cond_false]
      have hz : (itF c s (svX m (l.map newR)) k).table.length = 0 := by
        rcases k3 with k3 | k3
        · exfalso
          have nn : ∀ r : Req, 0 ≤ wgI c.lat r := fun r => by unfold wgI; split <;> omega
          have := sumI_nn nn (l := (itF c s (svX m (l.map newR)) k).table)
          rw [hT1, Int.add_mul, Int.one_mul] at k3
          omega
        · exact k3
      have hl := k1.lats
      have hwr := k1.writes
      rw [List.eq_nil_of_length_eq_zero hz] at hl hwr
      have hl2 : (itF c s (svX m (l.map newR)) k).lats + 0 = (l.length : Int) := hl
      have hw2 : ((itF c s (svX m (l.map newR)) k).writes.length : Int) + 0 = sumI stI l := hwr
      rw [← cst_sum] at hw2
      exact l5_loop (by omega) hz (by omega) (by omega)
end Go.Proofs.Ytbemlndjdbopeaa
namespace Go.Proofs.Ytbemlndjdbopeaa.banksServe
open Go.Ra Go.ChangeShapes Go.WideShapes Go.ChangeAt Go.RowKit
open Go.ChangeMaps (open_string shut_string)
theorem own : ownKnob Try.prog.godebug = none := by kernel_rfl
def Ts : List Ty := [T_Cfg, T_Script, .slice 1 1 (.int .u8), .slice 8 64 T_Req]
theorem law (xs : List AV) (h : Ty.hasL Ts xs) : Pure Try.prog 8 xs (.sc (.bool true)) := by
  simp only [Ts, Ty.hasL] at h
  obtain ⟨a, _, rfl, ha, b, _, rfl, hb, d, _, rfl, hd, e, _, rfl, he, rfl⟩ := h
  obtain ⟨c, rfl, _⟩ := has_Cfg _ ha
  obtain ⟨s, rfl, _⟩ := has_Script _ hb
  obtain ⟨m, rfl, hm⟩ := has_row (en := e_u8) (wf := u8R) has_u8' hd
  obtain ⟨l, rfl, hl⟩ := has_row (en := e_Req) (wf := Req.wf) has_Req he
  exact serve_pure c s m l hm.1 hl.1
set_option maxRecDepth 100000 in
theorem lifted (os : Os) (started : os.Started) (H : Type) (enc : TypeId × Value → H) :
    ReturnsInHanded {} Try.checked os 8 .any (Rows.banksServeSpec.pre6 enc Try.prog Try.f8 Rows.banksServeRow.domain false) (Rows.banksServeSpec.post enc Try.prog Try.f8 false true false false) := by
  refine returnsInHanded_of_change_sized (C := Try.checked) own started (by kernel_rfl) Try.func8
    (ChangeSpec.witness6 (enc := enc) (C := Try.checked) false ⟨#[], #[.agg #[.int .i64 0, .int .i64 0, .int .i64 0, .int .i64 0, .int .i64 0, .int .i64 0, .int .i64 0, .int .i64 0, .int .i64 0, .int .i64 0, .int .i64 0, .int .i64 0], .agg #[.slice none 0 0, .slice none 0 0], .slice none 0 0, .slice none 0 0], []⟩ 8 (by kernel_rfl) (by kernel_rfl) (by kernel_rfl) (by kernel_rfl)) ?_
  intro W base args ds gs before hval hW hcnd hsz _
  refine law_post (s := Rows.banksServeSpec) (n := 60) (Ts := Ts) (ts := [23, 57, 36, 35]) (tb := 4) (by kernel_rfl) rfl rfl Try.underlying4 rfl (by kernel_rfl) (by kernel_rfl) (fun ds hds => ?_) law W base args ds gs before hval hW hsz
  match ds, hds with
  | [d1, d2, d3, d4], _ => exact ⟨rfl, rfl, rfl⟩
theorem over : Rows.banksServeRow.holds Try.pinned (OpenSpec.ofChange Rows.banksServeSpec) :=
  OpenClaim.holds_of_wide 8 Try.f8 rfl rfl rfl rfl rfl rfl rfl ⟨rfl, rfl, rfl, rfl, rfl⟩ rfl rfl rfl rfl rfl (by kernel_rfl) Try.func8 (by kernel_rfl)
    (of_decide_eq_true (by kernel_rfl)) (by unfold Func.isWrapper; first | (rw [if_pos (by decide +kernel)]; kernel_rfl) | (rw [if_neg (by decide +kernel)]; exact ⟨rfl, rfl⟩))
    (fun os started H enc _ => lifted os started H enc)
theorem proved : Rows.BanksServeSaid := over
end Go.Proofs.Ytbemlndjdbopeaa.banksServe
namespace Go.Proofs.Ytbemlndjdbopeaa
/-- The row, under a short name, for the claim. -/
theorem banksServe_holds : Rows.BanksServeSaid := banksServe.proved
end Go.Proofs.Ytbemlndjdbopeaa
#print axioms Go.Proofs.Ytbemlndjdbopeaa.banksServe_holds
