/- Texts put together. -/
import Derived.Test.YtbemlndjdbopeaaPk3
/- Abstract code of the functions of slots: printed by a program from what the given translation yields. -/
namespace Go.Proofs.Ytbemlndjdbopeaa
open Go.Ra
def c_slots_Fill : AC := (.seq (.ops [⟨(.some 4), (.box (.t 1)), .none⟩, ⟨(.some 6), (.mv (.c (.fro .true 0 []))), .none⟩, ⟨(.some 7), (.mv (.c (.sc (.bool .false)))), .none⟩]) (.seq (.ops [⟨(.some 10), (.mv (.t 0)), .none⟩, ⟨(.some 11), (.call 42 [(.t 10)]), .none⟩, ⟨(.some 8), (.mv (.t 11)), .none⟩]) (.seq (.ops [⟨(.some 12), (.mv (.t 8)), .none⟩, ⟨(.some 13), (.mkf 76 [(.t 4)]), .none⟩, ⟨(.some 14), (.call 75 [(.t 12), (.t 13)]), .none⟩, ⟨(.some 9), (.mv (.t 14)), .none⟩]) (.seq (.seq (.ops [⟨(.some 15), (.mv (.t 9)), .none⟩, ⟨(.some 16), (.bin .lss (.t 15) (.c (.sc (.int .i64 0)))), .none⟩]) (.cond (.t 16) (.seq (.ops [⟨(.some 17), (.mv (.t 8)), .none⟩, ⟨(.some 6), (.mv (.t 17)), .none⟩, ⟨(.some 7), (.mv (.c (.sc (.bool .false)))), .none⟩]) .ret) .skip)) (.seq (.ops [⟨(.some 18), (.mv (.t 8)), .none⟩, ⟨(.some 19), (.mv (.t 9)), .none⟩, ⟨(.some 20), (.mv (.t 8)), .none⟩, ⟨(.some 21), (.mv (.t 9)), .none⟩, ⟨(.some 22), (.mv (.t 2)), .none⟩, ⟨(.some 23), (.iadr .none 3 (.t 18) (.t 19)), .none⟩, ⟨(.some 24), (.fadr 1 1 1 (.t 23)), .none⟩, ⟨.none, (.store 1 (.t 24) (.c (.sc (.bool .true)))), .none⟩, ⟨(.some 25), (.iadr .none 3 (.t 20) (.t 21)), .none⟩, ⟨(.some 26), (.fadr 2 2 1 (.t 25)), .none⟩, ⟨.none, (.store 1 (.t 26) (.t 22)), .none⟩]) (.seq (.ops [⟨(.some 27), (.mv (.t 8)), .none⟩, ⟨(.some 6), (.mv (.t 27)), .none⟩, ⟨(.some 7), (.mv (.c (.sc (.bool .true)))), .none⟩]) .ret))))))
theorem t_slots_Fill : trF Try.prog qq 70 = some (28, [(.tmp 6), (.tmp 7)], c_slots_Fill) := by kernel_rfl
def c_slots_Fill_1 : AC := (.seq (.ops [⟨(.some 2), (.box (.t 0)), .none⟩, ⟨(.some 3), (.mv (.c (.sc (.bool .false)))), .none⟩]) (.seq (.ops [⟨(.some 4), (.fadr 0 0 1 (.t 2)), .none⟩, ⟨(.some 5), (.load .false 1 (.t 4)), .none⟩, ⟨(.some 6), (.load .false 1 (.t 1)), .none⟩, ⟨(.some 7), (.bin .eql (.t 5) (.t 6)), .none⟩, ⟨(.some 8), (.mv (.t 7)), .none⟩, ⟨(.some 9), (.fadr 1 1 1 (.t 2)), (.some (8, .true))⟩, ⟨(.some 10), (.load .false 1 (.t 9)), (.some (8, .true))⟩, ⟨(.some 11), (.un .not (.t 10)), (.some (8, .true))⟩, ⟨(.some 12), (.pick (.t 8) (.t 11) (.c (.sc (.bool .false)))), .none⟩, ⟨(.some 3), (.mv (.t 12)), .none⟩]) .ret))
theorem t_slots_Fill_1 : trF Try.prog qq 76 = some (13, [(.tmp 3)], c_slots_Fill_1) := by kernel_rfl
/-- The functions of slots. -/
def cl_slots : CodeL := [(70, 28, [(.tmp 6), (.tmp 7)], c_slots_Fill), (76, 13, [(.tmp 3)], c_slots_Fill_1)]
theorem clok_slots : AllL (fun p => trF Try.prog qq p.1 = some p.2) cl_slots := ⟨t_slots_Fill, t_slots_Fill_1, trivial⟩
end Go.Proofs.Ytbemlndjdbopeaa

/- Abstract code of the functions of state: printed by a program from what the given translation yields. -/
namespace Go.Proofs.Ytbemlndjdbopeaa
open Go.Ra
def c_state_Clone : AC := (.seq (.ops [⟨(.some 1), (.box (.t 0)), .none⟩, ⟨(.some 2), (.box (.c (.agg 92 [(.sc (.int .i64 0)), (.agg 38 [(.arr 16 1 [(.sc (.int .u32 0)), (.sc (.int .u32 0)), (.sc (.int .u32 0)), (.sc (.int .u32 0)), (.sc (.int .u32 0)), (.sc (.int .u32 0)), (.sc (.int .u32 0)), (.sc (.int .u32 0)), (.sc (.int .u32 0)), (.sc (.int .u32 0)), (.sc (.int .u32 0)), (.sc (.int .u32 0)), (.sc (.int .u32 0)), (.sc (.int .u32 0)), (.sc (.int .u32 0)), (.sc (.int .u32 0))]), (.arr 16 1 [(.sc (.int .i64 0)), (.sc (.int .i64 0)), (.sc (.int .i64 0)), (.sc (.int .i64 0)), (.sc (.int .i64 0)), (.sc (.int .i64 0)), (.sc (.int .i64 0)), (.sc (.int .i64 0)), (.sc (.int .i64 0)), (.sc (.int .i64 0)), (.sc (.int .i64 0)), (.sc (.int .i64 0)), (.sc (.int .i64 0)), (.sc (.int .i64 0)), (.sc (.int .i64 0)), (.sc (.int .i64 0))]), (.agg 3 [(.sc (.int .i64 0)), (.sc (.int .i64 0)), (.sc (.int .i64 0))]), (.sc (.int .i64 0)), (.sc (.bool .false)), (.sc (.int .i64 0))]), (.agg 38 [(.arr 16 1 [(.sc (.int .u32 0)), (.sc (.int .u32 0)), (.sc (.int .u32 0)), (.sc (.int .u32 0)), (.sc (.int .u32 0)), (.sc (.int .u32 0)), (.sc (.int .u32 0)), (.sc (.int .u32 0)), (.sc (.int .u32 0)), (.sc (.int .u32 0)), (.sc (.int .u32 0)), (.sc (.int .u32 0)), (.sc (.int .u32 0)), (.sc (.int .u32 0)), (.sc (.int .u32 0)), (.sc (.int .u32 0))]), (.arr 16 1 [(.sc (.int .i64 0)), (.sc (.int .i64 0)), (.sc (.int .i64 0)), (.sc (.int .i64 0)), (.sc (.int .i64 0)), (.sc (.int .i64 0)), (.sc (.int .i64 0)), (.sc (.int .i64 0)), (.sc (.int .i64 0)), (.sc (.int .i64 0)), (.sc (.int .i64 0)), (.sc (.int .i64 0)), (.sc (.int .i64 0)), (.sc (.int .i64 0)), (.sc (.int .i64 0)), (.sc (.int .i64 0))]), (.agg 3 [(.sc (.int .i64 0)), (.sc (.int .i64 0)), (.sc (.int .i64 0))]), (.sc (.int .i64 0)), (.sc (.bool .false)), (.sc (.int .i64 0))]), (.fro .true 0 []), (.fro .true 0 []), (.fro .true 0 []), (.fro .true 0 []), (.fro .true 0 []), (.fro .true 0 []), (.fro .true 0 []), (.fro .true 0 []), (.fro .true 0 []), (.agg 3 [(.sc (.int .i64 0)), (.sc (.int .i64 0)), (.sc (.int .i64 0))]), (.sc (.int .i64 0)), (.sc (.int .i64 0)), (.sc (.int .i64 0))]))), .none⟩]) (.seq (.ops [⟨(.some 3), (.fadr 3 77 1 (.t 1)), .none⟩, ⟨(.some 4), (.load .false 1 (.t 3)), .none⟩, ⟨(.some 5), (.call 42 [(.t 4)]), .none⟩, ⟨(.some 6), (.fadr 4 78 1 (.t 1)), .none⟩, ⟨(.some 7), (.load .false 1 (.t 6)), .none⟩, ⟨(.some 8), (.call 45 [(.t 7)]), .none⟩, ⟨(.some 9), (.fadr 5 79 1 (.t 1)), .none⟩, ⟨(.some 10), (.load .false 1 (.t 9)), .none⟩, ⟨(.some 11), (.call 45 [(.t 10)]), .none⟩, ⟨(.some 12), (.fadr 3 77 1 (.t 1)), .none⟩, ⟨.none, (.store 1 (.t 12) (.t 5)), .none⟩, ⟨(.some 13), (.fadr 4 78 1 (.t 1)), .none⟩, ⟨.none, (.store 1 (.t 13) (.t 8)), .none⟩, ⟨(.some 14), (.fadr 5 79 1 (.t 1)), .none⟩, ⟨.none, (.store 1 (.t 14) (.t 11)), .none⟩]) (.seq (.ops [⟨(.some 15), (.fadr 6 80 1 (.t 1)), .none⟩, ⟨(.some 16), (.load .false 1 (.t 15)), .none⟩, ⟨(.some 17), (.call 46 [(.t 16)]), .none⟩, ⟨(.some 18), (.fadr 7 81 1 (.t 1)), .none⟩, ⟨(.some 19), (.load .false 1 (.t 18)), .none⟩, ⟨(.some 20), (.call 46 [(.t 19)]), .none⟩, ⟨(.some 21), (.fadr 6 80 1 (.t 1)), .none⟩, ⟨.none, (.store 1 (.t 21) (.t 17)), .none⟩, ⟨(.some 22), (.fadr 7 81 1 (.t 1)), .none⟩, ⟨.none, (.store 1 (.t 22) (.t 20)), .none⟩]) (.seq (.ops [⟨(.some 23), (.fadr 8 82 1 (.t 1)), .none⟩, ⟨(.some 24), (.load .false 1 (.t 23)), .none⟩, ⟨(.some 25), (.call 43 [(.t 24)]), .none⟩, ⟨(.some 26), (.fadr 9 83 1 (.t 1)), .none⟩, ⟨(.some 27), (.load .false 1 (.t 26)), .none⟩, ⟨(.some 28), (.call 44 [(.t 27)]), .none⟩, ⟨(.some 29), (.fadr 8 82 1 (.t 1)), .none⟩, ⟨.none, (.store 1 (.t 29) (.t 25)), .none⟩, ⟨(.some 30), (.fadr 9 83 1 (.t 1)), .none⟩, ⟨.none, (.store 1 (.t 30) (.t 28)), .none⟩]) (.seq (.ops [⟨(.some 31), (.fadr 10 84 1 (.t 1)), .none⟩, ⟨(.some 32), (.load .false 1 (.t 31)), .none⟩, ⟨(.some 33), (.call 47 [(.t 32)]), .none⟩, ⟨(.some 34), (.fadr 11 85 1 (.t 1)), .none⟩, ⟨(.some 35), (.load .false 1 (.t 34)), .none⟩, ⟨(.some 36), (.call 48 [(.t 35)]), .none⟩, ⟨(.some 37), (.fadr 10 84 1 (.t 1)), .none⟩, ⟨.none, (.store 1 (.t 37) (.t 33)), .none⟩, ⟨(.some 38), (.fadr 11 85 1 (.t 1)), .none⟩, ⟨.none, (.store 1 (.t 38) (.t 36)), .none⟩]) (.seq (.ops [⟨(.some 39), (.load .true 92 (.t 1)), .none⟩, ⟨.none, (.store 92 (.t 2) (.t 39)), .none⟩]) .ret))))))
theorem t_state_Clone : trF Try.prog qq 37 = some (40, [(.cell 2 .true 92)], c_state_Clone) := by kernel_rfl
/-- The functions of state. -/
def cl_state : CodeL := [(37, 40, [(.cell 2 .true 92)], c_state_Clone)]
theorem clok_state : AllL (fun p => trF Try.prog qq p.1 = some p.2) cl_state := ⟨t_state_Clone, trivial⟩
end Go.Proofs.Ytbemlndjdbopeaa

/- Code gone through up to its loops. -/
namespace Go.Ra
set_option linter.unusedVariables false
set_option linter.unusedSimpArgs false

/-- What is read by a name. -/
def readX : AX → List Nat
  | .t i => [i]
  | .c _ => []
def memN (i : Nat) : List Nat → Bool
  | [] => false
  | k :: l => bif Nat.beq i k then true else memN i l
def diffN (l r : List Nat) : List Nat := l.filter fun i => !memN i r
def readsX : List AX → List Nat
  | [] => []
  | x :: l => readX x ++ readsX l
def dstL : Option Nat → List Nat
  | some d => [d]
  | none => []
def usesO : List AG → List Nat → List Nat
  | [], _ => []
  | ⟨d, o, g⟩ :: r, df => diffN ((match g with | some (t, _) => [t] | none => []) ++ readsX (opnds o)) df ++ usesO r (dstL d ++ df)
def mustO : List AG → List Nat
  | [] => []
  | ⟨d, _, _⟩ :: r => dstL d ++ mustO r
/-- The names that code sets, whatever comes. -/
def mustD : AC → List Nat
  | .ops l => mustO l
  | .opsD l _ => mustO l
  | .seq a b => mustD a ++ mustD b
  | _ => []
/-- The names that code may read before it sets them. -/
def usesC : AC → List Nat
  | .ops l => usesO l []
  | .opsD l _ => usesO l []
  | .seq a b => usesC a ++ diffN (usesC b) (mustD a)
  | .cond c x y => readX c ++ (usesC x ++ usesC y)
  | .block _ c => usesC c
  | .loop c => usesC c
  | _ => []
def delN (k : Nat) (l : List Nat) : List Nat := l.filter fun i => !Nat.beq i k
/-- The names of a list alone. -/
def pruneE : List Nat → List (Nat × XV) → List (Nat × XV)
  | _, [] => []
  | l, (k, v) :: r => bif memN k l then (k, v) :: pruneE (delN k l) r else pruneE l r

theorem memN_del {i k : Nat} : ∀ {l : List Nat}, memN i (delN k l) = true → memN i l = true
  | [], h => h
  | a :: l, h => by
    simp only [delN, List.filter_cons] at h
    simp only [memN]
    cases hb : Nat.beq i a
    · rw [cond_false]
      split at h
      · simp only [memN, hb, cond_false] at h
        exact memN_del (k := k) h
      · exact memN_del (k := k) h
    · rfl
theorem getX_prune_none {i : Nat} : ∀ (l : List Nat) (env : List (Nat × XV)), memN i l = false → getX (pruneE l env) i = .unk
  | l, [], h => rfl
  | l, (k, v) :: r, h => by
    simp only [pruneE]
    cases hk : memN k l
    · exact getX_prune_none l r h
    · simp only [cond_true, getX, beq_if]
      have : ¬ i = k := fun e => by rw [e, hk] at h; cases h
      rw [if_neg this]
      refine getX_prune_none _ r ?_
      cases hd : memN i (delN k l)
      · rfl
      · rw [memN_del hd] at h; cases h
theorem getX_prune {i : Nat} : ∀ (l : List Nat) (env : List (Nat × XV)), getX (pruneE l env) i = .unk ∨ getX (pruneE l env) i = getX env i
  | l, [] => .inl rfl
  | l, (k, v) :: r => by
    simp only [pruneE]
    cases hk : memN k l
    · rw [cond_false]
      by_cases hi : i = k
      · subst hi
        exact .inl (getX_prune_none l r hk)
      · simp only [getX, beq_if, if_neg hi]
        exact getX_prune l r
    · simp only [cond_true, getX, beq_if]
      by_cases hi : i = k
      · rw [if_pos hi, if_pos hi]; exact .inr rfl
      · rw [if_neg hi, if_neg hi]
        exact getX_prune _ r
def XSt.prune (l : List Nat) (σ : XSt) : XSt := ⟨pruneE l σ.env, σ.hl, σ.n⟩
theorem prune_weak (l : List Nat) (σ : XSt) : Weak σ.st (σ.prune l).st := by
  refine ⟨fun i => ?_, fun _ => .inr rfl, Nat.le_refl _⟩
  show leA (get (conE σ.env) i) (get (conE (pruneE l σ.env)) i)
  rw [get_conE, get_conE]
  rcases getX_prune l σ.env (i := i) with h | h
  · rw [h]; exact .inl rfl
  · rw [h]; exact .inr (.inl rfl)
theorem leA_trans {a b c : AV} (h1 : leA a b) (h2 : leA b c) : leA a c := by
  rcases h2 with rfl | rfl | ⟨x, es, es', ts, rfl, rfl, h⟩
  · exact .inl rfl
  · exact h1
  · rcases h1 with h1 | h1 | ⟨x', e1, e2, us, rfl, h3, h4⟩
    · cases h1
    · subst h1; exact .inr (.inr ⟨x, es, es', ts, rfl, rfl, h⟩)
    · simp only [AV.fro.injEq] at h3
      obtain ⟨_, rfl, rfl⟩ := h3
      refine .inr (.inr ⟨x', e1, es', ts, rfl, rfl, ?_⟩)
      rcases h with rfl | h
      · exact h4
      · exact .inr h
theorem Weak.trans {σ τ υ : St} (h1 : Weak σ τ) (h2 : Weak τ υ) : Weak σ υ :=
  ⟨fun i => leA_trans (h1.1 i) (h2.1 i), fun i => by
    rcases h2.2.1 i with h | h
    · exact .inl h
    · rw [h]; exact h1.2.1 i, Nat.le_trans h1.2.2 h2.2.2⟩

theorem weakE_less {m k : Nat} {σ τ : St} (hm : m ≤ k) (h : WeakE k σ τ) : WeakE m σ τ := by
  rcases h with ⟨g1, g2, g3⟩ | ⟨κ, k1, k2, k3, k4, k5, k6⟩
  · exact .inl ⟨g1, g2, g3.imp id fun g => ⟨Nat.le_trans hm g.1, g.2⟩⟩
  · exact .inr ⟨κ, fun j hj => k1 j (Nat.lt_of_lt_of_le hj hm), k2, Nat.le_trans hm k3, k4, k5, k6⟩
theorem leA_leK {κ : Nat → Option Nat} {a b c : AV} (h1 : leA a b) (h2 : c = .unk ∨ leK κ b c) : c = .unk ∨ leK κ a c := by
  rcases h2 with h2 | h2
  · exact .inl h2
  · rcases h1 with rfl | rfl | ⟨x, es, es', ts, rfl, rfl, h⟩
    · cases h2 with
      | same _ => exact .inl rfl
    · exact .inr h2
    · cases h2 with
      | same _ => exact .inr (.fro h)
      | fro h3 =>
        refine .inr (.fro ?_)
        rcases h3 with rfl | h3
        · exact h
        · exact .inr h3
theorem weakE_trans {m : Nat} {σ τ υ : St} (h1 : Weak σ τ) (h2 : WeakE m τ υ) : WeakE m σ υ := by
  rcases h2 with ⟨g1, g2, g3⟩ | ⟨κ, k1, k2, k3, k4, k5, k6⟩
  · refine .inl ⟨fun i => leA_trans (h1.1 i) (g1 i), fun i => ?_, g3.imp (fun h => Nat.le_trans h1.2.2 h) id⟩
    rcases g2 i with h | h
    · exact .inl h
    · rw [h]; exact h1.2.1 i
  · refine .inr ⟨κ, k1, k2, k3, k4, fun t => leA_leK (h1.1 t) (k5 t), fun j t' hj => ?_⟩
    rcases k6 j t' hj with ⟨i, t, a1, a2, a3⟩ | h
    · refine .inl ⟨i, t, a1, ?_, a3⟩
      rcases h1.2.1 i with h | h
      · rw [h] at a2; cases a2
      · rw [← h]; exact a2
    · exact .inr h

inductive Frm where
  | seq (b : AC)
  | blk (id : Nat)
  | lp (c : AC) (A : XSt → Prop)

def usesF : List Frm → List Nat
  | [] => []
  | .seq b :: s => usesC b ++ usesF s
  | .blk _ :: s => usesF s
  | .lp c _ :: s => usesC c ++ usesF s

/-- What is asked behind code that stands in other code. -/
def unwind (C : Orc) : List Frm → (AE → St → Prop) → AE → St → Prop
  | [], Φ => Φ
  | .seq b :: s, Φ => AE.then (fun σ => wpC C b σ (unwind C s Φ)) (unwind C s Φ)
  | .blk id :: s, Φ => AE.inBlock id (unwind C s Φ)
  | .lp _ A :: s, Φ => AE.then (fun t => ∃ σ : XSt, Weak t σ.st ∧ A σ) (unwind C s Φ)

/-- A loop, and what stands behind it. -/
structure LoopAt (C : Orc) (c : AC) (σ : XSt) (s : List Frm) (Φ : AE → St → Prop) : Prop where
  out : wpC C (.loop c) σ.st (unwind C s Φ)

inductive Job where
  | run (c : AC)
  | back (e : AE)

section
variable (T : Tab) (C : Orc) (ci : Nat → List XV → XSt → (XV → XSt → Prop) → Prop) (kp : List Nat) (fin : AE → XSt → Prop) (Φ : AE → St → Prop)
/-- Code, with what stands behind it; loops are left. -/
def exS : Nat → Job → List Frm → XSt → Prop
  | 0, _, _, _ => False
  | n + 1, .run c, s, σ =>
    match c with
    | .skip => exS n (.back .normal) s σ
    | .ops l => exO T ci (grp l) σ fun σ' => exS n (.back .normal) s σ'
    | .opsD l ps => exO T ci (grp l) σ fun σ' => need (sepXs σ' ps) (exS n (.back .normal) s σ')
    | .seq a b => exS n (.run a) (.seq b :: s) σ
    | .cond c x y =>
      match strip (σ.ev c) with
      | .bool b => need (isThere (σ.ev c)) (cond b (exS n (.run x) s σ) (exS n (.run y) s σ))
      | _ => False
    | .block id c => exS n (.run c) (.blk id :: s) σ
    | .loop c => LoopAt C c (σ.prune (usesC c ++ (usesF s ++ kp))) s Φ
    | .exit id => exS n (.back (.exit id)) s σ
    | .ret => exS n (.back .ret) s σ
    | .frz => need σ.fz.1 (exS n (.back .normal) s σ.fz.2)
  | n + 1, .back e, s, σ =>
    match s with
    | [] => fin e σ
    | .seq b :: s =>
      match e with
      | .normal => exS n (.run b) s σ
      | e => exS n (.back e) s σ
    | .blk id :: s =>
      match e with
      | .exit i => cond (Nat.beq i id) (exS n (.back .normal) s σ) (exS n (.back (.exit i)) s σ)
      | e => exS n (.back e) s σ
    | .lp c A :: s =>
      match e with
      | .normal => A (σ.prune (usesC c ++ (usesF s ++ kp)))
      | e => exS n (.back e) s σ
end

section
variable {P : Program} {T : Tab} {ci : Nat → List XV → XSt → (XV → XSt → Prop) → Prop} {kp : List Nat} {fin : AE → XSt → Prop} {Φ : AE → St → Prop}
def jobWp (C : Orc) (j : Job) (σ : XSt) (Ψ : AE → St → Prop) : Prop :=
  match j with
  | .run c => wpC C c σ.st Ψ
  | .back e => Ψ e σ.st

theorem wpC_loop_weak {C : Orc} {c : AC} {σ τ : St} {Ψ : AE → St → Prop} (hw : Weak σ τ) (h : wpC C (.loop c) τ Ψ) : wpC C (.loop c) σ Ψ := by
  unfold wpC at h ⊢
  obtain ⟨Inv, μ, ⟨υ, h1, h2⟩, h3⟩ := h
  refine ⟨Inv, μ, ⟨υ, weakE_trans hw (weakE_less hw.2.2 h1), h2⟩, fun τ' hτ => wpC_mono _ _ (fun e t he => ?_) c τ' (h3 τ' hτ)⟩
  cases e with
  | normal =>
    obtain ⟨t', g1, g2, g3⟩ := he
    exact ⟨t', weakE_less hw.2.2 g1, g2, g3⟩
  | exit _ => exact he
  | ret => exact he

theorem exS_ok (hT : TabOk P T) (hci : CiOk P T.q ci) (hfin : ∀ e σ, fin e σ → Φ e σ.st) : ∀ (n : Nat) (j : Job) (s : List Frm) (σ : XSt), exS T (Ok P T.q) ci kp fin Φ n j s σ → jobWp (Ok P T.q) j σ (unwind (Ok P T.q) s Φ)
  | 0, _, _, _, h => h.elim
  | n + 1, .run c, s, σ, h => by
    have ih := exS_ok hT hci hfin n
    simp only [jobWp]
    cases c with
    | skip => exact ih (.back .normal) s σ h
    | ops l =>
      simp only [exS] at h
      obtain ⟨h1, h2⟩ := grp_ung l
      obtain ⟨σ', h3, h4⟩ := exO_ok hT hci (grp l) σ _ h h2
      rw [h1] at h4
      exact h4 _ (ih (.back .normal) s σ' h3)
    | opsD l ps =>
      simp only [exS] at h
      obtain ⟨h1, h2⟩ := grp_ung l
      obtain ⟨σ', h3, h4⟩ := exO_ok hT hci (grp l) σ _ h h2
      rw [h1] at h4
      rw [need_iff] at h3
      exact h4 _ ⟨sepXs_ok h3.1, ih (.back .normal) s σ' h3.2⟩
    | seq a b => exact ih (.run a) (.seq b :: s) σ h
    | cond c x y =>
      simp only [exS] at h
      split at h
      · rename_i b hb
        rw [need_iff] at h
        have hc : σ.st.ev c = .sc (.bool b) := by rw [st_ev, strip_con h.1, hb]; rfl
        unfold wpC
        rw [hc]
        cases b with
        | true => exact ⟨fun _ => ih (.run x) s σ h.2, fun e => by cases e⟩
        | false => exact ⟨fun e => (by cases e), fun _ => ih (.run y) s σ h.2⟩
      · cases h
    | block id c => exact ih (.run c) (.blk id :: s) σ h
    | loop c => exact wpC_loop_weak (prune_weak _ σ) h.out
    | exit id => exact ih (.back (.exit id)) s σ h
    | ret => exact ih (.back .ret) s σ h
    | frz =>
      simp only [exS] at h
      rw [need_iff] at h
      exact ⟨_, fz_ok h.1, ih (.back .normal) s _ h.2⟩
  | n + 1, .back e, s, σ, h => by
    have ih := exS_ok hT hci hfin n
    simp only [jobWp]
    cases s with
    | nil => exact hfin e σ h
    | cons f s =>
      cases f with
      | seq b =>
        cases e with
        | normal => exact ih (.run b) s σ h
        | exit i => exact ih (.back (.exit i)) s σ h
        | ret => exact ih (.back .ret) s σ h
      | blk id =>
        cases e with
        | normal => exact ih (.back .normal) s σ h
        | ret => exact ih (.back .ret) s σ h
        | exit i =>
          simp only [exS] at h
          simp only [unwind, AE.inBlock]
          cases hi : Nat.beq i id <;> rw [hi] at h
          · rw [if_neg (Nat.ne_of_beq_eq_false hi)]
            exact ih (.back (.exit i)) s σ h
          · rw [if_pos (Nat.eq_of_beq_eq_true hi)]
            exact ih (.back .normal) s σ h
      | lp c A =>
        cases e with
        | normal => exact ⟨_, prune_weak _ σ, h⟩
        | exit i => exact ih (.back (.exit i)) s σ h
        | ret => exact ih (.back .ret) s σ h

/-- What is asked at the end of a function that leaves memory alone and gives r. -/
def finP (rs : List AR) (r : AV) : AE → XSt → Prop := retX rs (frzK fun v => con v = r)
def finR (rs : List AR) (r : AV) : AE → St → Prop := retP rs fun v τ => frz τ 6 v = some r
def keepR : List AR → List Nat
  | [] => []
  | .tmp t :: r => t :: keepR r
  | .cell t _ _ :: r => t :: keepR r

theorem finP_ok {rs : List AR} {r : AV} (e : AE) (σ : XSt) (h : finP rs r e σ) : finR rs r e σ.st := by
  obtain ⟨v, h3, h4⟩ := retX_ok h
  refine h4 (fun v τ => frz τ 6 v = some r) ?_
  unfold frzK at h3
  split at h3
  · rename_i nd r' hz
    rw [need_iff] at h3
    rw [← h3.2]
    exact frzX_con (st_H σ) 6 v nd r' hz h3.1
  · cases h3

/-- Code of a function up to its loops. -/
abbrev goS (P : Program) (T : Tab) (rs : List AR) (r : AV) (j : Job) (s : List Frm) (σ : XSt) : Prop := exS T (Ok P T.q) (callI T 80 20) (keepR rs) (finP rs r) (finR rs r) 2000 j s σ

/-- A function that leaves memory alone, gone through up to its loops. -/
theorem pureS (hmix : P.follows .mixedOrders = true) (hT : TabOk P T) {f nt : Nat} {rs : List AR} {c : AC} (hF : trF P T.q f = some (nt, rs, c)) {args : List XV} {r : AV} (hl : args.length ≤ nt) (h : goS P T rs r (.run c) [] ⟨envX 0 args, [], 0⟩) : Pure P f (cons args) r := by
  have := exS_ok hT (callI_ok hmix hT 20) finP_ok 2000 _ _ _ h
  refine pure_of (k := 6) hmix Ok.ok Ok.quiet hF (by rw [cons_len]; exact hl) ?_
  simpa [jobWp, unwind, XSt.st, envX_con, conH, finR] using this

/-- A loop whose states are numbered: one round, from each of them, and what stands behind the loop. -/
theorem loopS (hmix : P.follows .mixedOrders = true) (hT : TabOk P T) {rs : List AR} {r : AV} {c : AC} {σ : XSt} {s : List Frm} {ι : Type} (S : ι → XSt) (V : ι → Prop) (m : ι → Nat) (i0 : ι) (hV : V i0) (h0 : Weak σ.st (S i0).st)
    (hr : ∀ i, V i → goS P T rs r (.run c) (.lp c (fun τ => ∃ j, V j ∧ Weak τ.st (S j).st ∧ m j < m i) :: s) (S i)) : LoopAt (Ok P T.q) c σ s (finR rs r) :=
  ⟨wpC_for (fun i => (S i).st) V m i0 hV h0 fun i hi => by
    have h := exS_ok hT (callI_ok hmix hT 20) finP_ok 2000 _ _ _ (hr i hi)
    refine wpC_mono _ _ (fun e t he => ?_) c _ h
    cases e with
    | normal =>
      obtain ⟨τ, hw, j, h1, h2, h3⟩ := he
      exact ⟨j, h1, hw.trans h2, h3⟩
    | exit _ => exact he
    | ret => exact he⟩

theorem cnd2 {b : Bool} {p q : Prop} (h1 : b = true → p) (h2 : b = false → q) : cond b p q := by
  cases b
  · exact h2 rfl
  · exact h1 rfl
theorem cndF {b : Bool} {p : Prop} (h1 : b = true) (h2 : p) : cond b p False := by subst h1; exact h2
theorem pk_and (b : Bool) : (bif b then b else true) = true := by cases b <;> rfl
theorem pk_or (b : Bool) : (bif b then true else !b) = true := by cases b <;> rfl
theorem allN_true (n : Nat) : allN (fun _ => true) n = true := allN_iff.2 fun _ _ => rfl

/-- The state says no more than is so. -/
def agreeX : List (Nat × XV) → List (Nat × XV) → Prop
  | [], _ => True
  | (k, v) :: r, e => con (getX e k) = con v ∧ agreeX r e
def agreeXH : List (Nat × Option XV) → List (Nat × Option XV) → Prop
  | [], _ => True
  | (k, v) :: r, e => (lookX e k).map con = v.map con ∧ agreeXH r e
theorem agreeX_ok : ∀ {l e : List (Nat × XV)}, agreeX l e → agrees (conE l) (conE e)
  | [], e, h => trivial
  | (k, v) :: r, e, h => ⟨by rw [get_conE]; exact .inr (.inl h.1.symm), agreeX_ok h.2⟩
theorem agreeXH_ok : ∀ {l e : List (Nat × Option XV)}, agreeXH l e → agreesH (conH l) (conH e) (fun _ => none)
  | [], e, h => trivial
  | (k, v) :: r, e, h => ⟨by rw [look_conH]; exact h.1, agreeXH_ok h.2⟩
/-- The same, where less may be said of rows. -/
def agreeN : List (Nat × XV) → List (Nat × XV) → Prop
  | [], _ => True
  | (k, v) :: r, e => leA (con (getX e k)) (con v) ∧ agreeN r e
theorem agreeN_ok : ∀ {l e : List (Nat × XV)}, agreeN l e → agrees (conE l) (conE e)
  | [], e, h => trivial
  | (k, v) :: r, e, h => ⟨by rw [get_conE]; exact h.1, agreeN_ok h.2⟩
theorem weakN {σ τ : XSt} (h1 : agreeN τ.env σ.env) (h2 : agreeXH τ.hl σ.hl) (h3 : σ.n ≤ τ.n) : Weak σ.st τ.st := weak_of (agreeN_ok h1) (agreeXH_ok h2) h3
theorem le_is {a b : AV} (h : a = b) : leA a b := .inr (.inl h.symm)
theorem le_row {x : Bool} {e es n m : Nat} {f g : Nat → XV} (hn : n = m) (he : es = e ∨ n = 0) (h : ∀ i, i < n → con (f i) = con (g i)) : leA (con (.row x e n f)) (con (.row false es m g)) := by
  subst hn
  refine .inr (.inr ⟨x, e, es, _, rfl, ?_, ?_⟩)
  · simp only [con]
    rw [tabL_congr h]
  · exact he.imp id fun h => tabL_nil.2 h
theorem weakX {σ τ : XSt} (h1 : agreeX τ.env σ.env) (h2 : agreeXH τ.hl σ.hl) (h3 : σ.n ≤ τ.n) : Weak σ.st τ.st := weak_of (agreeX_ok h1) (agreeXH_ok h2) h3
mutual
def XV.low (n : Nat) : XV → Bool
  | .agg _ ts => XV.lows n ts
  | .clo _ cs => XV.lows n cs
  | .tup ts => XV.lows n ts
  | .sl id _ _ _ _ _ => Nat.blt id n
  | .ptr id _ _ => Nat.blt id n
  | .opt _ v => v.low n
  | .raw v => v.lowA n
  | _ => true
def XV.lows (n : Nat) : List XV → Bool
  | [] => true
  | t :: ts => bif t.low n then XV.lows n ts else false
end
mutual
theorem con_low {n : Nat} : ∀ t : XV, t.low n = true → (con t).lowA n = true
  | .opt g v, h => by
    cases g
    · rfl
    · exact con_low v h
  | .tri z b, h => by cases z <;> rfl
  | .int .., h => rfl
  | .bool _, h => rfl
  | .str .., h => rfl
  | .agg m ts, h => by simp only [con, AV.lowA]; exact cons_low ts h
  | .tab .., h => rfl
  | .row .., h => rfl
  | .fptr _, h => rfl
  | .sl .., h => h
  | .ptr .., h => h
  | .clo f cs, h => by simp only [con, AV.lowA]; exact cons_low cs h
  | .tup ts, h => by simp only [con, AV.lowA]; exact cons_low ts h
  | .anyb, h => rfl
  | .unk, h => rfl
  | .raw _, h => h
theorem cons_low {n : Nat} : ∀ ts : List XV, XV.lows n ts = true → AV.lowAs n (cons ts) = true
  | [], h => rfl
  | t :: ts, h => by
    simp only [XV.lows] at h
    cases ht : t.low n <;> rw [ht] at h
    · cases h
    · simp only [cons, AV.lowAs, con_low t ht, cons_low ts h, Bool.and_self]
end
def lowE (n : Nat) : List (Nat × XV) → Bool
  | [] => true
  | (_, v) :: r => bif v.low n then lowE n r else false
def lowH (n : Nat) : List (Nat × Option XV) → Bool
  | [] => true
  | (k, v) :: r => bif Nat.blt k n then (bif (match v with | some t => t.low n | none => true) then lowH n r else false) else false
/-- Nothing with a name from n on is spoken of. -/
def XSt.low (σ : XSt) : Bool := bif lowE σ.n σ.env then lowH σ.n σ.hl else false
theorem lowE_get {n i : Nat} : ∀ {l : List (Nat × XV)}, lowE n l = true → (get (conE l) i).lowA n = true
  | [], h => rfl
  | (k, v) :: r, h => by
    simp only [lowE] at h
    cases hv : v.low n <;> rw [hv] at h
    · cases h
    · show (if i = k then con v else get (conE r) i).lowA n = true
      split
      · exact con_low v hv
      · exact lowE_get h
theorem lowH_get {n i : Nat} : ∀ {l : List (Nat × Option XV)}, lowH n l = true → (n ≤ i → look (conH l) (fun _ => none) i = none) ∧ ∀ t, look (conH l) (fun _ => none) i = some t → t.lowA n = true
  | [], h => ⟨fun _ => rfl, fun t ht => by cases ht⟩
  | (k, v) :: r, h => by
    simp only [lowH] at h
    cases hk : Nat.blt k n <;> rw [hk] at h
    · cases h
    · rw [cond_true] at h
      have hkn : k < n := Nat.le_of_ble_eq_true hk
      have hr : lowH n r = true := by
        cases v with
        | none => exact h
        | some u =>
          simp only at h
          cases hu : u.low n <;> rw [hu] at h
          · cases h
          · exact h
      obtain ⟨i1, i2⟩ := lowH_get (i := i) (l := r) hr
      show (n ≤ i → (if i = k then v.map con else look (conH r) _ i) = none) ∧ ∀ t, (if i = k then v.map con else look (conH r) _ i) = some t → t.lowA n = true
      by_cases hik : i = k
      · subst hik
        refine ⟨fun hn => by omega, fun t ht => ?_⟩
        rw [if_pos rfl] at ht
        cases v with
        | none => cases ht
        | some u =>
          simp only [Option.map_some, Option.some.injEq] at ht
          subst ht
          simp only at h
          cases hu : u.low n <;> rw [hu] at h
          · cases h
          · exact con_low u hu
      · rw [if_neg hik]
        exact ⟨i1, i2⟩
theorem low_of {m : Nat} {σ τ : XSt} (h1 : m ≤ τ.n) (h2 : τ.low = true) : LowN m σ.st τ.st := by
  unfold XSt.low at h2
  cases he : lowE τ.n τ.env <;> rw [he] at h2
  · cases h2
  · rw [cond_true] at h2
    exact .inr ⟨h1, fun i => lowE_get he, fun i hi => (lowH_get h2).1 hi, fun i t ht => (lowH_get h2).2 t ht⟩
/-- The same for rounds that begin with the same names anew. -/
theorem weakT {m : Nat} {σ τ : XSt} (h1 : agreeN τ.env σ.env) (h2 : agreeXH τ.hl σ.hl) (h3 : m ≤ τ.n) (h4 : τ.low = true) : WeakL m σ.st τ.st :=
  ⟨agrees_get (agreeN_ok h1), agreesH_look (agreeXH_ok h2), low_of h3 h4⟩

/-- A loop whose states are numbered; the names of own memory that a round makes are given up behind it. -/
theorem loopT (hmix : P.follows .mixedOrders = true) (hT : TabOk P T) {rs : List AR} {r : AV} {c : AC} {σ : XSt} {s : List Frm} {ι : Type} (S : ι → XSt) (V : ι → Prop) (m : ι → Nat) (i0 : ι) (hV : V i0) (h0 : Weak σ.st (S i0).st)
    (hr : ∀ i, V i → goS P T rs r (.run c) (.lp c (fun τ => ∃ j, V j ∧ WeakL σ.n τ.st (S j).st ∧ m j < m i) :: s) (S i)) : LoopAt (Ok P T.q) c σ s (finR rs r) :=
  ⟨wpC_forL (fun i => (S i).st) V m i0 hV h0 fun i hi => by
    have h := exS_ok hT (callI_ok hmix hT 20) finP_ok 2000 _ _ _ (hr i hi)
    refine wpC_mono _ _ (fun e t he => ?_) c _ h
    cases e with
    | normal =>
      obtain ⟨τ, hw, j, h1, h2, h3⟩ := he
      exact ⟨j, h1, ⟨fun i => leA_trans (hw.1 i) (h2.1 i), fun i => by
        rcases h2.2.1 i with h | h
        · exact .inl h
        · rw [h]; exact hw.2.1 i, h2.2.2.imp (fun h => Nat.le_trans hw.2.2 h) id⟩, h3⟩
    | exit _ => exact he
    | ret => exact he⟩

def kap (l : List (Nat × Nat)) (j : Nat) : Option Nat :=
  match l with
  | [] => none
  | (k, i) :: r => bif Nat.beq j k then some i else kap r j
def kapLow (n : Nat) : List (Nat × Nat) → Bool
  | [] => true
  | (k, _) :: r => bif Nat.blt k n then kapLow n r else false
def kapNo (i : Nat) : List (Nat × Nat) → Bool
  | [] => true
  | (_, a) :: r => bif Nat.beq i a then false else kapNo i r
/-- Each name stands for another one. -/
def kapInj : List (Nat × Nat) → Bool
  | [] => true
  | (_, i) :: r => bif kapNo i r then kapInj r else false
def keysLow (n : Nat) : List (Nat × Option XV) → Bool
  | [] => true
  | (k, _) :: r => bif Nat.blt k n then keysLow n r else false
/-- The names ahead of the loop stay. -/
def kapId (l : List (Nat × Nat)) (m : Nat) : Bool := allN (fun j => match kap l j with | some i => Nat.beq i j | none => false) m
theorem kap_high {n j : Nat} : ∀ {l : List (Nat × Nat)}, kapLow n l = true → n ≤ j → kap l j = none
  | [], _, _ => rfl
  | (k, i) :: r, h, hj => by
    simp only [kapLow] at h
    cases hk : Nat.blt k n <;> rw [hk] at h
    · cases h
    · have hkn : k < n := Nat.le_of_ble_eq_true hk
      have : ¬ j = k := by omega
      simp only [kap, beq_if, if_neg this]
      exact kap_high h hj
theorem kap_no {i : Nat} : ∀ {l : List (Nat × Nat)}, kapNo i l = true → ∀ j, kap l j ≠ some i
  | [], _, j, h => by cases h
  | (k, a) :: r, h, j, hj => by
    simp only [kapNo, beq_if] at h
    split at h
    · cases h
    · rename_i hia
      simp only [kap, beq_if] at hj
      split at hj
      · simp only [Option.some.injEq] at hj
        exact hia hj.symm
      · exact kap_no h j hj
theorem kap_inj : ∀ {l : List (Nat × Nat)}, kapInj l = true → ∀ i j j', kap l j = some i → kap l j' = some i → j = j'
  | [], _, i, j, j', h, _ => by cases h
  | (k, a) :: r, h, i, j, j', h1, h2 => by
    simp only [kapInj] at h
    cases hno : kapNo a r <;> rw [hno] at h
    · cases h
    · rw [cond_true] at h
      simp only [kap, beq_if] at h1 h2
      split at h1
      · rename_i hj
        simp only [Option.some.injEq] at h1
        subst h1
        split at h2
        · rename_i hj'
          rw [hj, hj']
        · exact absurd h2 (kap_no hno j')
      · split at h2
        · simp only [Option.some.injEq] at h2
          subst h2
          exact absurd h1 (kap_no hno j)
        · exact kap_inj h i j j' h1 h2
theorem keys_high {n j : Nat} : ∀ {l : List (Nat × Option XV)}, keysLow n l = true → n ≤ j → look (conH l) (fun _ => none) j = none
  | [], _, _ => rfl
  | (k, v) :: r, h, hj => by
    simp only [keysLow] at h
    cases hk : Nat.blt k n <;> rw [hk] at h
    · cases h
    · have hkn : k < n := Nat.le_of_ble_eq_true hk
      have : ¬ j = k := by omega
      show (if j = k then v.map con else look (conH r) _ j) = none
      rw [if_neg this]
      exact keys_high h hj
def agreeK (κ : Nat → Option Nat) : List (Nat × XV) → List (Nat × XV) → Prop
  | [], _ => True
  | (k, v) :: r, e => leK κ (con (getX e k)) (con v) ∧ agreeK κ r e
def agreeKH (κ : Nat → Option Nat) : List (Nat × Option XV) → List (Nat × Option XV) → Prop
  | [], _ => True
  | (j, some t') :: r, e => (match κ j with
      | some i => (match lookX e i with | some t => leK κ (con t) (con t') | none => False)
      | none => ∃ es, con t' = .arr 0 es []) ∧ agreeKH κ r e
  | (_, none) :: r, e => agreeKH κ r e
theorem agreeK_get {κ : Nat → Option Nat} {i : Nat} : ∀ {l e : List (Nat × XV)}, agreeK κ l e → get (conE l) i = .unk ∨ leK κ (get (conE e) i) (get (conE l) i)
  | [], e, h => .inl rfl
  | (k, v) :: r, e, h => by
    show (if i = k then con v else get (conE r) i) = .unk ∨ leK κ _ (if i = k then con v else get (conE r) i)
    by_cases hi : i = k
    · subst hi
      rw [if_pos rfl, get_conE]
      exact .inr h.1
    · rw [if_neg hi]
      exact agreeK_get h.2
theorem agreeKH_get {κ : Nat → Option Nat} {j : Nat} {t' : AV} : ∀ {l e : List (Nat × Option XV)}, agreeKH κ l e → look (conH l) (fun _ => none) j = some t' → (∃ i t, κ j = some i ∧ look (conH e) (fun _ => none) i = some t ∧ leK κ t t') ∨ (κ j = none ∧ ∃ es, t' = .arr 0 es [])
  | [], e, h, hj => by cases hj
  | (k, v) :: r, e, h, hj => by
    have hj' : (if j = k then v.map con else look (conH r) (fun _ => none) j) = some t' := hj
    by_cases hk : j = k
    · subst hk
      rw [if_pos rfl] at hj'
      cases v with
      | none => cases hj'
      | some t =>
        simp only [Option.map_some, Option.some.injEq] at hj'
        subst hj'
        have h1 := h.1
        cases hκ : κ j with
        | none =>
          rw [hκ] at h1
          exact .inr ⟨rfl, h1⟩
        | some i =>
          rw [hκ] at h1
          simp only at h1
          cases hl : lookX e i with
          | none => rw [hl] at h1; cases h1
          | some u =>
            rw [hl] at h1
            exact .inl ⟨i, con u, rfl, by rw [look_conH, hl]; rfl, h1⟩
    · rw [if_neg hk] at hj'
      cases v with
      | none => exact agreeKH_get (l := r) h hj'
      | some t => exact agreeKH_get (l := r) h.2 hj'
/-- The state says no more than is so, under other names. -/
theorem weakK {m : Nat} {σ τ : XSt} (kl : List (Nat × Nat)) (h1 : kapId kl m = true) (h2 : kapLow τ.n kl = true) (h3 : keysLow τ.n τ.hl = true) (h4 : Nat.ble m τ.n = true) (h5 : kapInj kl = true) (h6 : agreeK (kap kl) τ.env σ.env) (h7 : agreeKH (kap kl) τ.hl σ.hl) : WeakE m σ.st τ.st :=
  .inr ⟨kap kl, (fun j hj => by
    have h8 := allN_spec h1 j hj
    cases hk : kap kl j with
    | none => rw [hk] at h8; cases h8
    | some i =>
      rw [hk] at h8
      rw [Nat.eq_of_beq_eq_true h8]), (fun j hj => ⟨keys_high h3 hj, kap_high h2 hj⟩), Nat.le_of_ble_eq_true h4, kap_inj h5, (fun t => agreeK_get h6), (fun j t' hj => agreeKH_get h7 hj)⟩
theorem k_is {κ : Nat → Option Nat} {a b : XV} (h : con a = con b) (hl : b.low 0 = true) : leK κ (con a) (con b) := by
  rw [h]; exact .same (con_low b hl)
theorem k_row {κ : Nat → Option Nat} {x : Bool} {e es n m : Nat} {f g : Nat → XV} (hn : n = m) (he : es = e ∨ n = 0) (h : ∀ i, i < n → con (f i) = con (g i)) : leK κ (con (.row x e n f)) (con (.row false es m g)) := by
  subst hn
  show leK κ (.fro x e (tabL n fun i => con (f i))) (.fro false es (tabL n fun i => con (g i)))
  rw [tabL_congr h]
  exact .fro (he.imp id fun h => tabL_nil.2 h)
theorem k_tab {κ : Nat → Option Nat} {es n : Nat} {f g : Nat → XV} (h : ∀ i, i < n → con (f i) = con (g i)) : leK κ (con (.tab n es f)) (con (.tab n es g)) := by
  refine k_is ?_ rfl
  simp only [con]
  rw [tabL_congr h]
theorem k_nil {κ : Nat → Option Nat} {e es j off k n : Nat} {path : List Nat} {f : Nat → XV} (hn : n = 0) : leK κ (con (.row true e n f)) (con (.sl j path off k 0 es)) := by
  subst hn
  exact .nil

/-- A loop whose states are numbered; own memory may get other names in each round. -/
theorem loopK (hmix : P.follows .mixedOrders = true) (hT : TabOk P T) {rs : List AR} {r : AV} {c : AC} {σ : XSt} {s : List Frm} {ι : Type} (S : ι → XSt) (V : ι → Prop) (m : ι → Nat) (i0 : ι) (hV : V i0) (h0 : WeakE σ.n σ.st (S i0).st)
    (hr : ∀ i, V i → goS P T rs r (.run c) (.lp c (fun τ => ∃ j, V j ∧ WeakE σ.n τ.st (S j).st ∧ m j < m i) :: s) (S i)) : LoopAt (Ok P T.q) c σ s (finR rs r) :=
  ⟨wpC_forE (fun i => (S i).st) V m i0 hV h0 fun i hi => by
    have h := exS_ok hT (callI_ok hmix hT 20) finP_ok 2000 _ _ _ (hr i hi)
    refine wpC_mono _ _ (fun e t he => ?_) c _ h
    cases e with
    | normal =>
      obtain ⟨τ, hw, j, h1, h2, h3⟩ := he
      exact ⟨j, h1, weakE_trans hw h2, h3⟩
    | exit _ => exact he
    | ret => exact he⟩
end
end Go.Ra

/- Rows of structs: their fields, and when two are one. -/
namespace Go.Ra
set_option linter.unusedVariables false
set_option linter.unusedSimpArgs false

def asB : XV → Bool
  | .bool b => b
  | _ => false
/-- A struct's field. -/
def fld (k : Nat) : XV → XV
  | .agg _ ts =>
    match nth ts k with
    | some t => t
    | none => .unk
  | _ => .unk
/-- Is it of these kinds? -/
inductive KD where
  | i (k : IntKind)
  | b
def isK : KD → XV → Bool
  | .i k, .int k' _ => decide (k = k')
  | .b, .bool _ => true
  | _, _ => false
def isKs : List KD → List XV → Bool
  | [], [] => true
  | k :: ks, t :: ts => bif isK k t then isKs ks ts else false
  | _, _ => false
def isS (ks : List KD) : XV → Bool
  | .agg n ts => bif Nat.beq n ks.length then isKs ks ts else false
  | _ => false
def mkK : KD → XV → XV
  | .i k, v => .int k (asN v)
  | .b, v => .bool (asB v)
def mkKs : List KD → Nat → XV → List XV
  | [], _, _ => []
  | k :: ks, j, v => mkK k (fld j v) :: mkKs ks (j + 1) v
/-- The struct, its fields read and put together. -/
def mkS (ks : List KD) (v : XV) : XV := .agg ks.length (mkKs ks 0 v)

theorem mkK_eq {k : KD} {v : XV} (h : isK k v = true) : mkK k v = v := by
  cases k <;> cases v <;> simp only [isK, Bool.false_eq_true, decide_eq_true_eq] at h
  · subst h; rfl
  · rfl
theorem mkKs_eq : ∀ (ks : List KD) (pre ts : List XV) (n : Nat), isKs ks ts = true → mkKs ks pre.length (.agg n (pre ++ ts)) = ts
  | [], pre, [], n, h => rfl
  | k :: ks, pre, t :: ts, n, h => by
    simp only [isKs] at h
    cases hk : isK k t <;> rw [hk] at h
    · cases h
    · have h1 : fld pre.length (.agg n (pre ++ t :: ts)) = t := by
        simp only [fld, nth_get]
        rw [List.getElem?_append_right (Nat.le_refl _), Nat.sub_self]
        rfl
      have h2 := mkKs_eq ks (pre ++ [t]) ts n h
      simp only [List.length_append, List.length_cons, List.length_nil, List.append_assoc, List.cons_append, List.nil_append] at h2
      simp only [mkKs, h1, mkK_eq hk]
      rw [show pre.length + 1 = pre.length + (0 + 1) from rfl, h2]
  | [], pre, _ :: _, n, h => by simp [isKs] at h
  | _ :: _, pre, [], n, h => by simp [isKs] at h
theorem mkS_eq {ks : List KD} {v : XV} (h : isS ks v = true) : mkS ks v = v := by
  cases v <;> simp only [isS, Bool.false_eq_true] at h
  rename_i n ts
  cases hn : Nat.beq n ks.length <;> rw [hn] at h
  · cases h
  · have := Nat.eq_of_beq_eq_true hn
    subst this
    rw [cond_true] at h
    have h1 := mkKs_eq ks [] ts ks.length h
    simp only [List.length_nil, List.nil_append] at h1
    simp only [mkS, h1]

/-- Rows of one length, alike in each place. -/
def eqR (n m : Nat) (p : Nat → Bool) : Bool := bif Nat.beq n m then allN p n else false
theorem eqR_iff {n m : Nat} {p : Nat → Bool} : eqR n m p = true ↔ n = m ∧ ∀ i, i < n → p i = true := by
  unfold eqR
  cases h : Nat.beq n m
  · simp only [cond_false, Bool.false_eq_true, false_iff]
    rintro ⟨h1, _⟩
    subst h1
    rw [Nat.beq_refl] at h
    cases h
  · rw [cond_true, allN_iff]
    exact ⟨fun h1 => ⟨Nat.eq_of_beq_eq_true h, h1⟩, fun h1 => h1.2⟩
theorem eqR_self {n : Nat} {p : Nat → Bool} (h : ∀ i, i < n → p i = true) : eqR n n p = true := eqR_iff.2 ⟨rfl, h⟩

/-- Whether two rows are alike. -/
def eqRow (p : XV → XV → Bool) (n m : Nat) (f g : Nat → XV) : Bool := eqR n m fun i => p (f i) (g i)
theorem eqRow_self {p : XV → XV → Bool} (hp : ∀ a, p a a = true) (n : Nat) (f : Nat → XV) : eqRow p n n f f = true := eqR_self fun i _ => hp (f i)

def okE (e es n : Nat) : Bool := Nat.beq e es || Nat.beq n 0

theorem con_row {x : Bool} {es n : Nat} {f g : Nat → XV} (h : ∀ i, i < n → con (f i) = con (g i)) : con (.row x es n f) = con (.row x es n g) := by
  simp only [con]
  rw [tabL_congr h]

/-- The same but for what an empty row's elements would be. -/
def nilEq (a b : AV) : Prop := a = b ∨ ∃ x es es', a = .fro x es [] ∧ b = .fro x es' []
inductive nilEqs : List AV → List AV → Prop
  | nil : nilEqs [] []
  | cons {a b : AV} {l r : List AV} : nilEq a b → nilEqs l r → nilEqs (a :: l) (b :: r)
theorem nilEq.rel {w : World} {F : Nat → Prop} {ρ : Nat → Option Loc} {a b : AV} {v : Value} (h : nilEq a b) (hr : RelV w F ρ a v) : RelV w F ρ b v := by
  rcases h with rfl | ⟨x, es, es', rfl, rfl⟩
  · exact hr
  · obtain ⟨a, cap, rfl, _, hc, _⟩ := hr.fro_inv
    exact .one (.fro0 fun hx => hc hx) rfl
theorem nilEqs.rel {w : World} {F : Nat → Prop} {ρ : Nat → Option Loc} : ∀ {l r : List AV} {vs : List Value}, nilEqs l r → RelVs w F ρ l vs → RelVs w F ρ r vs
  | _, _, _, .nil, .nil => .nil
  | _, _, _, .cons h1 h2, .cons h3 h4 => .cons (h1.rel h3) (nilEqs.rel h2 h4)
theorem Pure.nilEqs {P : Program} {f : Nat} {l r : List AV} {v : AV} (hp : Pure P f r v) (h : nilEqs l r) : Pure P f l v :=
  ⟨hp.1, fun w F vs hF hr => hp.2 w F vs hF (h.rel hr)⟩

theorem nil_row {x : Bool} {e es n : Nat} {f g : Nat → XV} (ho : okE e es n = true) (h : ∀ i, i < n → con (f i) = con (g i)) : nilEq (con (.row x e n f)) (con (.row x es n g)) := by
  simp only [okE, Bool.or_eq_true] at ho
  rcases ho with ho | ho
  · have := Nat.eq_of_beq_eq_true ho
    subst this
    exact .inl (con_row h)
  · have := Nat.eq_of_beq_eq_true ho
    subst this
    exact .inr ⟨x, e, es, rfl, rfl⟩
theorem nil_self (a : AV) : nilEq a a := .inl rfl
mutual
/-- The same but for what empty rows' elements would be, within structs too. -/
inductive nilQ : AV → AV → Prop
  | refl (a : AV) : nilQ a a
  | row {x : Bool} {es es' : Nat} : nilQ (.fro x es []) (.fro x es' [])
  | agg {n : Nat} {l r : List AV} : nilQs l r → nilQ (.agg n l) (.agg n r)
inductive nilQs : List AV → List AV → Prop
  | nil : nilQs [] []
  | cons {a b : AV} {l r : List AV} : nilQ a b → nilQs l r → nilQs (a :: l) (b :: r)
end
mutual
theorem nilQ.relC {w : World} {F : Nat → Prop} : ∀ {ρ : Nat → Option Loc} {a b : AV} {cs : List Value}, nilQ a b → RelC w F ρ a cs → RelC w F ρ b cs
  | _, _, _, _, .refl a, h => h
  | _, _, _, _, .row, h => by
    cases h with
    | fro0 h => exact .fro0 h
    | fro h1 h2 h3 h4 h5 => exact .fro0 h4
  | _, _, _, _, .agg hl, h => by
    cases h with
    | agg h hn => exact .agg (nilQs.relL hl h) hn
theorem nilQs.relL {w : World} {F : Nat → Prop} : ∀ {ρ : Nat → Option Loc} {l r : List AV} {cs : List Value}, nilQs l r → RelL w F ρ l cs → RelL w F ρ r cs
  | _, _, _, _, .nil, h => h
  | _, _, _, _, .cons h1 h2, .cons h3 h4 => .cons (nilQ.relC h1 h3) (nilQs.relL h2 h4)
end
theorem nilQ.isAgg {a b : AV} (h : nilQ a b) : b.isAgg = a.isAgg := by cases h <;> rfl
theorem nilQ.rel {w : World} {F : Nat → Prop} {ρ : Nat → Option Loc} {a b : AV} {v : Value} (h : nilQ a b) (hr : RelV w F ρ a v) : RelV w F ρ b v := by
  cases h with
  | refl => exact hr
  | row =>
    cases hr with
    | one h1 h2 => exact .one (nilQ.row.relC h1) rfl
    | agg h1 h2 => cases h2
  | agg hl =>
    cases hr with
    | one h1 h2 => cases h2
    | agg h1 h2 => exact .agg ((nilQ.agg hl).relC h1) rfl
theorem nilQs.rels {w : World} {F : Nat → Prop} {ρ : Nat → Option Loc} : ∀ {l r : List AV} {vs : List Value}, nilQs l r → RelVs w F ρ l vs → RelVs w F ρ r vs
  | _, _, _, .nil, .nil => .nil
  | _, _, _, .cons h1 h2, .cons h3 h4 => .cons (h1.rel h3) (nilQs.rels h2 h4)
theorem Pure.nilQ {P : Program} {f : Nat} {l r : List AV} {v : AV} (hp : Pure P f r v) (h : nilQs l r) : Pure P f l v :=
  ⟨hp.1, fun w F vs hF hr => hp.2 w F vs hF (h.rels hr)⟩
theorem nilQ_row {x : Bool} {e es n : Nat} {f g : Nat → XV} (ho : okE e es n = true) (h : ∀ i, i < n → con (f i) = con (g i)) : nilQ (con (.row x e n f)) (con (.row x es n g)) := by
  simp only [okE, Bool.or_eq_true] at ho
  rcases ho with ho | ho
  · have := Nat.eq_of_beq_eq_true ho
    subst this
    rw [con_row h]
    exact .refl _
  · have := Nat.eq_of_beq_eq_true ho
    subst this
    exact .row
theorem nilQs_refl : ∀ l : List AV, nilQs l l
  | [] => .nil
  | a :: l => .cons (.refl a) (nilQs_refl l)

/-- Whether two rows of such structs are one. -/
def sameS (es : Nat) (ks : List KD) (p : XV → XV → Bool) : List XV → Option (List Bool × XV)
  | [.row _ e1 n f, .row _ e2 m g] => bif (okE e1 es n && okE e2 es m) then some ([decide (n ≤ 4611686018427387904), allN (fun i => isS ks (f i)) n, allN (fun i => isS ks (g i)) m], .bool (eqRow p n m f g)) else none
  | _ => none
theorem sameS_ok {P : Program} {fn es : Nat} {ks : List KD} {p : XV → XV → Bool}
    (h : ∀ (x y : Bool) (n m : Nat) (f g : Nat → XV), n ≤ 4611686018427387904 → Pure P fn (cons [.row x es n (fun i => mkS ks (f i)), .row y es m (fun i => mkS ks (g i))]) (B (eqR n m fun i => p (mkS ks (f i)) (mkS ks (g i))))) :
    SpOk P (fn, sameS es ks p) := by
  intro args nd v ha hn
  simp only [sameS] at ha
  split at ha
  · rename_i x e1 n f y e2 m g
    cases hc : (okE e1 es n && okE e2 es m) <;> rw [hc] at ha
    · cases ha
    · simp only [cond_true, Option.some.injEq, Prod.mk.injEq] at ha
      obtain ⟨rfl, rfl⟩ := ha
      simp only [Bool.and_eq_true] at hc
      simp only [allT_cons, decide_eq_true_eq, allN_iff] at hn
      have h1 := h x y n m f g hn.1
      unfold eqRow
      have h2 : eqR n m (fun i => p (mkS ks (f i)) (mkS ks (g i))) = eqR n m fun i => p (f i) (g i) := by
        rw [Bool.eq_iff_iff, eqR_iff, eqR_iff]
        constructor
        · rintro ⟨h3, h4⟩
          subst h3
          exact ⟨rfl, fun i hi => by have := h4 i hi; rw [mkS_eq (hn.2.1 i hi), mkS_eq (hn.2.2.1 i hi)] at this; exact this⟩
        · rintro ⟨h3, h4⟩
          subst h3
          exact ⟨rfl, fun i hi => by rw [mkS_eq (hn.2.1 i hi), mkS_eq (hn.2.2.1 i hi)]; exact h4 i hi⟩
      rw [h2] at h1
      refine h1.nilEqs (.cons (nil_row hc.1 fun i hi => ?_) (.cons (nil_row hc.2 fun i hi => ?_) .nil))
      · rw [mkS_eq (hn.2.1 i hi)]
      · rw [mkS_eq (hn.2.2.1 i hi)]
  · cases ha

/-- What a function of a row of structs, and of more, gives. -/
def rowSp (es : Nat) (ks : List KD) (N : Nat) (g : Nat → (Nat → XV) → List XV → Option (List Bool × XV)) : List XV → Option (List Bool × XV)
  | .row _ e n f :: rest => bif okE e es n then
      match g n f rest with
      | some (nd, v) => some (decide (n ≤ N) :: allN (fun i => isS ks (f i)) n :: nd, v)
      | none => none
    else none
  | _ => none
theorem nilEqs_refl : ∀ l : List AV, nilEqs l l
  | [] => .nil
  | a :: l => .cons (nil_self a) (nilEqs_refl l)
theorem rowSp_ok {P : Program} {fn es N : Nat} {ks : List KD} {g : Nat → (Nat → XV) → List XV → Option (List Bool × XV)}
    (h : ∀ (x : Bool) (n : Nat) (f : Nat → XV) (rest : List XV) (nd : List Bool) (v : XV), n ≤ N → g n f rest = some (nd, v) → allT nd → Pure P fn (cons (.row x es n (fun i => mkS ks (f i)) :: rest)) (con v)) : SpOk P (fn, rowSp es ks N g) := by
  intro args nd v ha hn
  simp only [rowSp] at ha
  split at ha
  · rename_i x e n f rest
    cases hc : okE e es n <;> rw [hc] at ha
    · cases ha
    · rw [cond_true] at ha
      split at ha
      · rename_i nd' v' hg
        simp only [Option.some.injEq, Prod.mk.injEq] at ha
        obtain ⟨rfl, rfl⟩ := ha
        simp only [allT_cons, decide_eq_true_eq, allN_iff] at hn
        refine (h x n f rest nd' v' hn.1 hg hn.2.2).nilEqs (.cons (nil_row hc fun i hi => ?_) (nilEqs_refl _))
        rw [mkS_eq (hn.2.1 i hi)]
      · cases ha
  · cases ha

/-- What a function of a row of plain values, and of more, gives. -/
def rowKSp (es : Nat) (k : KD) (N : Nat) (g : Nat → (Nat → XV) → List XV → Option (List Bool × XV)) : List XV → Option (List Bool × XV)
  | .row _ e n f :: rest => bif okE e es n then
      match g n f rest with
      | some (nd, v) => some (decide (n ≤ N) :: allN (fun i => isK k (f i)) n :: nd, v)
      | none => none
    else none
  | _ => none
theorem rowKSp_ok {P : Program} {fn es N : Nat} {k : KD} {g : Nat → (Nat → XV) → List XV → Option (List Bool × XV)}
    (h : ∀ (x : Bool) (n : Nat) (f : Nat → XV) (rest : List XV) (nd : List Bool) (v : XV), n ≤ N → g n f rest = some (nd, v) → allT nd → Pure P fn (cons (.row x es n (fun i => mkK k (f i)) :: rest)) (con v)) : SpOk P (fn, rowKSp es k N g) := by
  intro args nd v ha hn
  simp only [rowKSp] at ha
  split at ha
  · rename_i x e n f rest
    cases hc : okE e es n <;> rw [hc] at ha
    · cases ha
    · rw [cond_true] at ha
      split at ha
      · rename_i nd' v' hg
        simp only [Option.some.injEq, Prod.mk.injEq] at ha
        obtain ⟨rfl, rfl⟩ := ha
        simp only [allT_cons, decide_eq_true_eq, allN_iff] at hn
        refine (h x n f rest nd' v' hn.1 hg hn.2.2).nilEqs (.cons (nil_row hc fun i hi => ?_) (nilEqs_refl _))
        rw [mkK_eq (hn.2.1 i hi)]
      · cases ha
  · cases ha
end Go.Ra

/- The first place of a row that has something; the last. -/
namespace Go.Ra
set_option linter.unusedVariables false
set_option linter.unusedSimpArgs false
/-- The first place below n where p is true; n if there is none. -/
def fstI (p : Nat → Bool) : Nat → Nat
  | 0 => 0
  | n + 1 => bif decide (fstI p n < n) then fstI p n else bif p n then n else n + 1
theorem fstI_spec (p : Nat → Bool) : ∀ n, fstI p n ≤ n ∧ (∀ j, j < fstI p n → p j = false) ∧ (fstI p n < n → p (fstI p n) = true)
  | 0 => ⟨Nat.le_refl _, fun j hj => absurd hj (Nat.not_lt_zero _), fun h => absurd h (Nat.not_lt_zero _)⟩
  | n + 1 => by
    obtain ⟨h1, h2, h3⟩ := fstI_spec p n
    simp only [fstI]
    by_cases h : fstI p n < n
    · simp only [h, decide_true, cond_true]
      exact ⟨by omega, h2, fun _ => h3 h⟩
    · have he : fstI p n = n := by omega
      simp only [h, decide_false, cond_false]
      rw [he] at h2
      cases hp : p n
      · simp only [cond_false]
        refine ⟨Nat.le_refl _, fun j hj => ?_, fun h => absurd h (Nat.lt_irrefl _)⟩
        by_cases hjn : j = n
        · subst hjn; exact hp
        · exact h2 j (by omega)
      · simp only [cond_true]
        exact ⟨by omega, h2, fun _ => hp⟩
theorem fstI_is {p : Nat → Bool} {n i : Nat} (hi : i < n) (hp : p i = true) (hn : ∀ j, j < i → p j = false) : fstI p n = i := by
  obtain ⟨h1, h2, h3⟩ := fstI_spec p n
  rcases Nat.lt_trichotomy (fstI p n) i with h | h | h
  · have := hn _ h
    rw [h3 (by omega)] at this; cases this
  · exact h
  · have := h2 i h
    rw [hp] at this; cases this
theorem fstI_none {p : Nat → Bool} {n : Nat} (hn : ∀ j, j < n → p j = false) : fstI p n = n := by
  obtain ⟨h1, h2, h3⟩ := fstI_spec p n
  rcases Nat.lt_or_ge (fstI p n) n with h | h
  · have := hn _ h
    rw [h3 h] at this; cases this
  · omega
theorem fstI_congr {p q : Nat → Bool} {n : Nat} (h : ∀ j, j < n → p j = q j) : fstI p n = fstI q n := by
  obtain ⟨h1, h2, h3⟩ := fstI_spec p n
  by_cases hlt : fstI p n < n
  · exact (fstI_is hlt (by rw [← h _ hlt]; exact h3 hlt) fun j hj => by rw [← h j (by omega)]; exact h2 j hj).symm
  · have he : fstI p n = n := by omega
    rw [he]
    exact (fstI_none fun j hj => by rw [← h j hj]; exact h2 j (by omega)).symm
/-- The place behind the last one below n where p is true; 0 if there is none. -/
def lstI (p : Nat → Bool) : Nat → Nat
  | 0 => 0
  | n + 1 => bif p n then n + 1 else lstI p n
theorem lstI_spec (p : Nat → Bool) : ∀ n, lstI p n ≤ n ∧ (∀ j, lstI p n ≤ j → j < n → p j = false) ∧ (0 < lstI p n → p (lstI p n - 1) = true)
  | 0 => ⟨Nat.le_refl _, fun j _ hj => absurd hj (Nat.not_lt_zero _), fun h => absurd h (Nat.lt_irrefl _)⟩
  | n + 1 => by
    obtain ⟨h1, h2, h3⟩ := lstI_spec p n
    simp only [lstI]
    cases hp : p n
    · simp only [cond_false]
      refine ⟨by omega, fun j hj hj2 => ?_, h3⟩
      by_cases hjn : j = n
      · subst hjn; exact hp
      · exact h2 j hj (by omega)
    · simp only [cond_true, Nat.add_sub_cancel]
      exact ⟨Nat.le_refl _, fun j hj hj2 => by omega, fun _ => hp⟩
theorem allN_congr {p q : Nat → Bool} {n : Nat} (h : ∀ i, i < n → p i = q i) : allN p n = allN q n := by
  rw [Bool.eq_iff_iff, allN_iff, allN_iff]
  exact ⟨fun h1 i hi => by rw [← h i hi]; exact h1 i hi, fun h1 i hi => by rw [h i hi]; exact h1 i hi⟩
theorem conI {k : IntKind} {a b : Int} (h : a = b) : con (.int k a) = con (.int k b) := by rw [h]
theorem conB {a b : Bool} (h : a = b) : con (.bool a) = con (.bool b) := by rw [h]
theorem conR {x : Bool} {es n m : Nat} {f g : Nat → XV} (hn : n = m) (h : ∀ i, i < n → con (f i) = con (g i)) : con (.row x es n f) = con (.row x es m g) := by
  subst hn; exact con_row h
theorem conT2 {a b a' b' : XV} (h1 : con a = con a') (h2 : con b = con b') : con (.tup [a, b]) = con (.tup [a', b']) := by simp only [con, cons, h1, h2]
theorem conT3 {a b c a' b' c' : XV} (h1 : con a = con a') (h2 : con b = con b') (h3 : con c = con c') : con (.tup [a, b, c]) = con (.tup [a', b', c']) := by simp only [con, cons, h1, h2, h3]
theorem wI64 (n : Int) : IntKind.i64.wrap n = (n + 9223372036854775808) % 18446744073709551616 - 9223372036854775808 := by
  first | (rw [IntKind.wrap_i64]; done) | (rw [IntKind.wrap_i64]; omega)
theorem wI32 (n : Int) : IntKind.i32.wrap n = (n + 2147483648) % 4294967296 - 2147483648 := by
  first | (rw [IntKind.wrap_i32]; done) | (rw [IntKind.wrap_i32]; omega)
theorem wI16 (n : Int) : IntKind.i16.wrap n = (n + 32768) % 65536 - 32768 := by
  simp [IntKind.wrap, IntKind.signed, IntKind.bits]; split <;> omega
theorem wI8 (n : Int) : IntKind.i8.wrap n = (n + 128) % 256 - 128 := by
  simp [IntKind.wrap, IntKind.signed, IntKind.bits]; split <;> omega
theorem wU64 (n : Int) : IntKind.u64.wrap n = n % 18446744073709551616 := rfl
theorem wU32 (n : Int) : IntKind.u32.wrap n = n % 4294967296 := rfl
theorem wU8 (n : Int) : IntKind.u8.wrap n = n % 256 := rfl
theorem beq_ne {i k : Nat} (h : ¬ i = k) : Nat.beq i k = false := by
  rw [← Bool.not_eq_true]
  exact fun e => h (Nat.eq_of_beq_eq_true e)
theorem fdivE {a b : Int} (h : 0 ≤ b) : a.fdiv b = a / b := Int.fdiv_eq_ediv_of_nonneg a h
/-- Bytes. -/
def rngB (n : Nat) (f : Nat → XV) : Bool := allN (fun i => decide (0 ≤ asN (f i)) && decide (asN (f i) ≤ 255)) n
theorem rngB_iff {n : Nat} {f : Nat → XV} : rngB n f = true ↔ ∀ i, i < n → 0 ≤ asN (f i) ∧ asN (f i) ≤ 255 := by
  simp only [rngB, allN_iff, Bool.and_eq_true, decide_eq_true_eq]
theorem or_u32 {x b : Int} {k : Nat} (hx : 0 ≤ x) (hx2 : x < 2 ^ k) (hb : 0 ≤ b) (hb2 : b * 2 ^ k + x ≤ 4294967295) : bitsI .or .u32 x (b * 2 ^ k) = x + b * 2 ^ k := by
  obtain ⟨m, rfl⟩ := Int.eq_ofNat_of_zero_le hx
  obtain ⟨c, rfl⟩ := Int.eq_ofNat_of_zero_le hb
  have hp : ((2 : Int) ^ k) = ((2 ^ k : Nat) : Int) := (Int.natCast_pow 2 k).symm
  rw [hp] at hx2 hb2 ⊢
  have hm : m < 2 ^ k := by exact_mod_cast hx2
  have h2 : (c : Int) * ((2 ^ k : Nat) : Int) = ((c * 2 ^ k : Nat) : Int) := (Int.natCast_mul c (2 ^ k)).symm
  rw [h2] at hb2 ⊢
  have h1 : c * 2 ^ k + m ≤ 4294967295 := by
    generalize c * 2 ^ k = d at *
    omega
  clear hb2
  have h3 := Nat.two_pow_add_eq_or_of_lt hm c
  have h4 : m ||| c * 2 ^ k = m + c * 2 ^ k := by rw [Nat.or_comm, Nat.mul_comm, ← h3, Nat.add_comm]
  generalize c * 2 ^ k = d at *
  show IntKind.u32.wrap (((BitVec.ofInt 32 (m : Int)) ||| (BitVec.ofInt 32 (d : Int))).toNat : Int) = _
  have e1 : (BitVec.ofInt 32 (m : Int)).toNat = m := by rw [BitVec.toNat_ofInt]; omega
  have e2 : (BitVec.ofInt 32 (d : Int)).toNat = d := by rw [BitVec.toNat_ofInt]; omega
  rw [BitVec.toNat_or, e1, e2, h4, wU32]
  omega
end Go.Ra

/- What comes in, read by its type. -/
namespace Go.Ra
set_option linter.unusedVariables false
set_option linter.unusedSimpArgs false
def avs : AV → List AV
  | .agg _ ts => ts
  | .arr _ _ ts => ts
  | .fro _ _ ts => ts
  | _ => []
def avI : AV → Int
  | .sc (.int _ n) => n
  | _ => 0
def avB : AV → Bool
  | .sc (.bool b) => b
  | _ => false
def avN (a : AV) : Nat := (avs a).length
def avAt (a : AV) (i : Nat) : AV := (avs a).getD i .unk
mutual
/-- A value of a type. -/
def rd : Ty → AV → XV
  | .int k, a => .int k (avI a)
  | .bool, a => .bool (avB a)
  | .str, a => .raw a
  | .slice es _ T, a => .row false es (avN a) (fun i => rd T (avAt a i))
  | .agg n l, a => .agg n (rdL l a 0)
  | .arr n es T, a => .tab n es (fun i => rd T (avAt a i))
def rdL : List Ty → AV → Nat → List XV
  | [], _, _ => []
  | T :: l, a, j => rd T (avAt a j) :: rdL l a (j + 1)
end

theorem avAt_mem {a : AV} {i : Nat} (h : i < avN a) : avAt a i ∈ avs a := by
  unfold avAt
  rw [List.getD_eq_getElem?_getD, List.getElem?_eq_getElem h]
  exact List.getElem_mem h

mutual
theorem con_rd : ∀ (T : Ty) (a : AV), T.has a → con (rd T a) = a
  | .int k, a, h => by
    simp only [Ty.has] at h
    obtain ⟨n, rfl, _⟩ := h; rfl
  | .bool, a, h => by
    simp only [Ty.has] at h
    obtain ⟨b, rfl⟩ := h; rfl
  | .str, a, h => rfl
  | .slice es bytes T, a, h => by
    simp only [Ty.has] at h
    obtain ⟨ts, rfl, _, h2⟩ := h
    simp only [rd, con]
    congr 1
    refine (tabL_eq rfl fun i hi => ?_).symm
    have hi : i < ts.length := hi
    show ts[i]? = _
    rw [List.getElem?_eq_getElem hi]
    have h3 : avAt (.fro false es ts) i = ts[i] := by
      show (ts.getD i .unk) = _
      rw [List.getD_eq_getElem?_getD, List.getElem?_eq_getElem hi]; rfl
    rw [h3, con_rd T _ (h2 _ (List.getElem_mem hi))]
  | .agg n l, a, h => by
    simp only [Ty.has] at h
    obtain ⟨ts, rfl, h2⟩ := h
    simp only [rd, con]
    have h3 := cons_rdL l [] ts n h2
    simp only [List.nil_append, List.length_nil] at h3
    rw [h3]
  | .arr n es T, a, h => by
    simp only [Ty.has] at h
    obtain ⟨ts, rfl, h1, h2⟩ := h
    simp only [rd, con]
    congr 1
    refine (tabL_eq h1 fun i hi => ?_).symm
    rw [List.getElem?_eq_getElem (by omega)]
    have h3 : avAt (.arr n es ts) i = ts[i] := by
      show (ts.getD i .unk) = _
      rw [List.getD_eq_getElem?_getD, List.getElem?_eq_getElem (by omega)]; rfl
    rw [h3, con_rd T _ (h2 _ (List.getElem_mem (by omega)))]
theorem cons_rdL : ∀ (l : List Ty) (pre ts : List AV) (n : Nat), Ty.hasL l ts → cons (rdL l (.agg n (pre ++ ts)) pre.length) = ts
  | [], pre, ts, n, h => by
    simp only [Ty.hasL] at h
    subst h; rfl
  | T :: l, pre, ts, n, h => by
    simp only [Ty.hasL] at h
    obtain ⟨t, r, rfl, h1, h2⟩ := h
    have h3 : avAt (.agg n (pre ++ t :: r)) pre.length = t := by
      show ((pre ++ t :: r).getD pre.length .unk) = t
      rw [List.getD_eq_getElem?_getD, List.getElem?_append_right (Nat.le_refl _), Nat.sub_self]; rfl
    have h4 := cons_rdL l (pre ++ [t]) r n h2
    simp only [List.length_append, List.length_cons, List.length_nil, List.append_assoc, List.cons_append, List.nil_append] at h4
    simp only [rdL, cons, h3, con_rd T t h1]
    rw [show pre.length + 1 = pre.length + (0 + 1) from rfl, h4]
end

/-- The elements of a row that comes in. -/
def o_el (T : Ty) (a : AV) (i : Nat) : XV := rd T (avAt a i)
/-- All that comes in. -/
def rdA : List Ty → List AV → List XV
  | T :: l, a :: r => rd T a :: rdA l r
  | _, _ => []
theorem cons_rdA : ∀ (l : List Ty) (as0 : List AV), Ty.hasL l as0 → cons (rdA l as0) = as0
  | [], as0, h => by
    simp only [Ty.hasL] at h
    subst h; rfl
  | T :: l, as0, h => by
    simp only [Ty.hasL] at h
    obtain ⟨t, r, rfl, h1, h2⟩ := h
    simp only [rdA, cons, con_rd T t h1, cons_rdA l r h2]
theorem lawX {P : Program} {f : Nat} {Ts : List Ty} {as0 : List AV} (h : Ty.hasL Ts as0) (hp : Pure P f (cons (rdA Ts as0)) (con (.bool true))) : Pure P f as0 (.sc (.bool true)) := by
  rw [cons_rdA Ts as0 h] at hp
  exact hp
theorem has_nat {es bytes : Nat} {T : Ty} {a : AV} (h : (Ty.slice es bytes T).has a) : avN a * bytes ≤ 140737488351232 := by
  simp only [Ty.has] at h
  obtain ⟨ts, rfl, h1, _⟩ := h
  exact h1
theorem has_at {es bytes : Nat} {T : Ty} {a : AV} (h : (Ty.slice es bytes T).has a) {i : Nat} (hi : i < avN a) : T.has (avAt a i) := by
  simp only [Ty.has] at h
  obtain ⟨ts, rfl, _, h2⟩ := h
  exact h2 _ (avAt_mem hi)
theorem has_arr {n es : Nat} {T : Ty} {a : AV} (h : (Ty.arr n es T).has a) {i : Nat} (hi : i < n) : T.has (avAt a i) := by
  simp only [Ty.has] at h
  obtain ⟨ts, rfl, h1, h2⟩ := h
  exact h2 _ (avAt_mem (by show i < ts.length; omega))
theorem has_u32 {a : AV} (h : (Ty.int .u32).has a) : 0 ≤ avI a ∧ avI a ≤ 4294967295 := by
  simp only [Ty.has] at h
  obtain ⟨n, rfl, h1⟩ := h
  simpa [Lit.wf, IntKind.min, IntKind.max, IntKind.signed, IntKind.bits, avI] using h1
theorem has_i64 {a : AV} (h : (Ty.int .i64).has a) : -9223372036854775808 ≤ avI a ∧ avI a ≤ 9223372036854775807 := by
  simp only [Ty.has] at h
  obtain ⟨n, rfl, h1⟩ := h
  simpa [Lit.wf, IntKind.min, IntKind.max, IntKind.signed, IntKind.bits, avI] using h1
theorem has_u8 {a : AV} (h : (Ty.int .u8).has a) : 0 ≤ avI a ∧ avI a ≤ 255 := by
  simp only [Ty.has] at h
  obtain ⟨n, rfl, h1⟩ := h
  simpa [Lit.wf, IntKind.min, IntKind.max, IntKind.signed, IntKind.bits, avI] using h1
theorem strEq_self (n : Nat) (f : Nat → Int) : strEq n f n f = true := by
  unfold strEq
  rw [Nat.beq_refl, cond_true, allN_iff]
  exact fun i _ => by simp
theorem rng_el {a : AV} {bytes : Nat} {T : Ty} (h : (Ty.slice 1 bytes (.int .u8)).has a) (hT : T = .int .u8) : rngB (avN a) (o_el T a) = true := by
  subst hT
  refine rngB_iff.2 fun i hi => ?_
  exact has_u8 (has_at h hi)
end Go.Ra

/- Banks: what shows that the layers are there. -/
namespace Go.Proofs.Ytbemlndjdbopeaa
open Go.Ra
set_option linter.unusedVariables false
set_option linter.unusedSimpArgs false
def TK0 : Tab := mkT qq (cl_law18 ++ cl_law23 ++ cl_banks ++ cl_bytes ++ cl_commit ++ cl_ref1 ++ cl_ref15 ++ cl_ref21 ++ cl_saq ++ cl_slices ++ cl_slots ++ cl_state) [] (gl_slices ++ gl_ref15)
def alvSp : List XV → Option (List Bool × XV)
  | [] => some ([], .bool true)
  | _ => none
def TK : Tab := mkT qq (cl_law18 ++ cl_law23 ++ cl_banks ++ cl_bytes ++ cl_commit ++ cl_ref1 ++ cl_ref15 ++ cl_ref21 ++ cl_saq ++ cl_slices ++ cl_slots ++ cl_state) [(21, alvSp), (12, alvSp)] (gl_slices ++ gl_ref15)
theorem TK0ok : TabOk Try.prog TK0 := mkT_ok (((((((((((clok_law18.app clok_law23).app clok_banks).app clok_bytes).app clok_commit).app clok_ref1).app clok_ref15).app clok_ref21).app clok_saq).app clok_slices).app clok_slots).app clok_state) trivial (glok_slices.app glok_ref15)
theorem r_alv18 (K : XV → Prop) : (quietGo TK0 80 (callI TK0 80 20) 21 [] K) = (K (.bool true)) := by kernel_rfl
theorem r_alv23 (K : XV → Prop) : (quietGo TK0 80 (callI TK0 80 20) 12 [] K) = (K (.bool true)) := by kernel_rfl
theorem alv18 : Pure Try.prog 21 (cons []) (con (.bool true)) := by
  refine pureX (u := 80) (k := 20) mix TK0ok ?_
  rw [r_alv18]
theorem sp_alv18 : SpOk Try.prog (21, alvSp) := fun args nd v h hn => by
  simp only [alvSp] at h
  split at h
  · simp only [Option.some.injEq, Prod.mk.injEq] at h
    obtain ⟨rfl, rfl⟩ := h
    exact alv18
  · cases h
theorem alv23 : Pure Try.prog 12 (cons []) (con (.bool true)) := by
  refine pureX (u := 80) (k := 20) mix TK0ok ?_
  rw [r_alv23]
theorem sp_alv23 : SpOk Try.prog (12, alvSp) := fun args nd v h hn => by
  simp only [alvSp] at h
  split at h
  · simp only [Option.some.injEq, Prod.mk.injEq] at h
    obtain ⟨rfl, rfl⟩ := h
    exact alv23
  · cases h
theorem TKok : TabOk Try.prog TK := mkT_ok (((((((((((clok_law18.app clok_law23).app clok_banks).app clok_bytes).app clok_commit).app clok_ref1).app clok_ref15).app clok_ref21).app clok_saq).app clok_slices).app clok_slots).app clok_state) ⟨sp_alv18, sp_alv23, trivial⟩ (glok_slices.app glok_ref15)
theorem pk3 (p z : Bool) : (bif (bif p then (bif !z then p else false) else true) then true else !!z) = true := by cases p <;> cases z <;> rfl
theorem pk4 (z : Bool) : (bif (bif !z then true else false) then true else !!z) = true := by cases z <;> rfl
end Go.Proofs.Ytbemlndjdbopeaa

