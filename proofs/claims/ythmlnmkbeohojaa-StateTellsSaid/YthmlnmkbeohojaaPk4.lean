/- Texts put together. -/
import Derived.Test.YthmlnmkbeohojaaPk3
/- Plain values of the program's types, and the abstract values that stand for them. -/
namespace Go.Ra
set_option linter.unusedVariables false
set_option linter.unusedSimpArgs false

/-- The element at a place. -/
def ix {α : Type} [Inhabited α] (l : List α) (i : Nat) : α := l.getD i default
section
variable {α : Type} [Inhabited α]
theorem ix_lt {l : List α} {i : Nat} (h : i < l.length) : ix l i = l[i] := by simp [ix, h]
theorem ix_mem {l : List α} {i : Nat} (h : i < l.length) : ix l i ∈ l := by rw [ix_lt h]; exact List.getElem_mem h
theorem ix_append {l r : List α} {i : Nat} : ix (l ++ r) i = if i < l.length then ix l i else ix r (i - l.length) := by
  unfold ix
  split
  · rename_i h; rw [List.getD_eq_getElem?_getD, List.getElem?_append_left h, List.getD_eq_getElem?_getD]
  · rename_i h; rw [List.getD_eq_getElem?_getD, List.getElem?_append_right (by omega), List.getD_eq_getElem?_getD]
theorem ix_ext {l r : List α} (hl : l.length = r.length) (h : ∀ i, i < l.length → ix l i = ix r i) : l = r := by
  refine List.ext_getElem hl fun i h1 h2 => ?_
  have := h i h1
  rw [ix_lt h1, ix_lt h2] at this
  exact this
theorem ix_tabL {n i : Nat} {f : Nat → α} (h : i < n) : ix (tabL n f) i = f i := by
  unfold ix
  rw [List.getD_eq_getElem?_getD, tabL_get h]; rfl
theorem tabL_ix (l : List α) : tabL l.length (ix l) = l := ix_ext tabL_len fun i h => by rw [tabL_len] at h; exact ix_tabL h
theorem ix_map {β : Type} [Inhabited β] {f : α → β} {l : List α} {i : Nat} (h : i < l.length) : ix (l.map f) i = f (ix l i) := by
  rw [ix_lt h, ix_lt (by simpa using h)]
  simp
end

/-- The first place that has something; -1 if there is none. -/
def idxF {α : Type} (p : α → Bool) (l : List α) : Int := if l.any p then (l.findIdx p : Int) else -1
theorem idxF_some {α : Type} [Inhabited α] {p : α → Bool} {l : List α} {i : Nat} (hi : i < l.length) (hp : p (ix l i) = true) (hn : ∀ j, j < i → p (ix l j) = false) : idxF p l = i := by
  unfold idxF
  have h1 : l.any p = true := List.any_eq_true.2 ⟨_, ix_mem hi, hp⟩
  rw [if_pos h1]
  have h2 : l.findIdx p = i := by
    rw [List.findIdx_eq hi]
    refine ⟨by rw [← ix_lt hi]; exact hp, fun j hj => ?_⟩
    rw [← ix_lt (by omega)]
    exact hn j hj
  rw [h2]
theorem idxF_none {α : Type} [Inhabited α] {p : α → Bool} {l : List α} (hn : ∀ j, j < l.length → p (ix l j) = false) : idxF p l = -1 := by
  unfold idxF
  rw [if_neg]
  rw [List.any_eq_true]
  rintro ⟨x, hx, hp⟩
  obtain ⟨j, hj, rfl⟩ := List.mem_iff_getElem.1 hx
  have := hn j hj
  rw [ix_lt hj, hp] at this
  cases this
theorem idxF_ge {α : Type} {p : α → Bool} {l : List α} : decide (idxF p l ≥ 0) = l.any p := by
  unfold idxF
  split
  · rename_i h; rw [h]; exact decide_eq_true (by omega)
  · rename_i h
    simp only [Bool.not_eq_true] at h
    rw [h]; exact decide_eq_false (by omega)

theorem app_len {α : Type} (l : List α) (x : α) : (l ++ [x]).length = l.length + 1 := by simp
theorem ix_app_lt {α : Type} [Inhabited α] {l : List α} {x : α} {i : Nat} (h : i < l.length) : ix (l ++ [x]) i = ix l i := by rw [ix_append, if_pos h]
theorem ix_app_eq {α : Type} [Inhabited α] {l : List α} {x : α} : ix (l ++ [x]) l.length = x := by rw [ix_append, if_neg (Nat.lt_irrefl _), Nat.sub_self]; rfl
/-- An own row, one element longer. -/
theorem k_app {α : Type} [Inhabited α] {κ : Nat → Option Nat} {es : Nat} {f g : Nat → XV} {en : α → XV} {l : List α} {x : α} (h1 : ∀ i, i < l.length → con (f i) = con (en (ix l i))) (h2 : con (f l.length) = con (en x)) (hg : g = fun i => en (ix (l ++ [x]) i)) : leK κ (con (.tab (l.length + 1) es f)) (con (.tab (l.length + 1) es g)) := by
  subst hg
  refine k_tab fun i hi => ?_
  by_cases hlt : i < l.length
  · rw [ix_app_lt hlt]; exact h1 i hlt
  · obtain rfl : i = l.length := by omega
    rw [ix_app_eq]; exact h2
theorem con_tabC {n es : Nat} {f g : Nat → XV} (h : ∀ i, i < n → con (f i) = con (g i)) : con (.tab n es f) = con (.tab n es g) := by
  simp only [con]
  rw [tabL_congr h]
theorem tabL_split {α : Type} {n i : Nat} {g : Nat → α} (h : i < n) : tabL n g = tabL i g ++ g i :: tabL (n - i - 1) (fun j => g (i + 1 + j)) := by
  refine (tabL_eq (by simp [tabL_len]; omega) fun j hj => ?_).symm
  by_cases hlt : j < i
  · rw [List.getElem?_append_left (by rw [tabL_len]; exact hlt), tabL_get hlt]
  · rw [List.getElem?_append_right (by rw [tabL_len]; omega), tabL_len]
    by_cases he : j = i
    · subst he; rw [Nat.sub_self]; rfl
    · obtain ⟨k, rfl⟩ : ∃ k, j = i + 1 + k := ⟨j - i - 1, by omega⟩
      rw [show i + 1 + k - i = k + 1 by omega, List.getElem?_cons_succ, tabL_get (by omega)]
/-- One element of an own row is looked at by itself. -/
theorem k_split {κ : Nat → Option Nat} {n es i : Nat} {f : Nat → XV} {u : XV} (h : i < n) (hu : leK κ (con (f i)) (con u)) : leK κ (con (.tab n es f)) (con (.agg (n * es) [.tab i es f, u, .tab (n - i - 1) es (fun j => f (i + 1 + j))])) := by
  have := leK.split (κ := κ) (n := n) (es := es) (pre := tabL i fun j => con (f j)) (post := tabL (n - i - 1) fun j => con (f (i + 1 + j))) (t := con (f i)) (u := con u) (by simp only [tabL_len]; omega) hu
  simp only [tabL_len] at this
  show leK κ (.arr n es (tabL n fun j => con (f j))) _
  rw [tabL_split h]
  exact this
/-- And put back. -/
theorem k_join {κ : Nat → Option Nat} {n m a b es : Nat} {f g h : Nat → XV} {t u : XV} (hn : a + (1 + b) = n) (hi : u.idf = true) (hs : u.size = es) (ht : leK κ (con t) (con u)) (h1 : ∀ j, j < a → con (f j) = con (h j)) (h2 : con u = con (h a)) (h3 : ∀ j, j < b → con (g j) = con (h (a + 1 + j))) : leK κ (con (.agg m [.tab a es f, t, .tab b es g])) (con (.tab n es h)) := by
  subst hn
  have := leK.join (κ := κ) (m := m) (a := a) (b := b) (es := es) (pre := tabL a fun j => con (f j)) (post := tabL b fun j => con (g j)) (t := con t) (u := con u) ((con_idf u).trans hi) ((con_size u).trans hs) ht
  show leK κ (.agg m [.arr a es (tabL a fun j => con (f j)), con t, .arr b es (tabL b fun j => con (g j))]) (.arr (a + (1 + b)) es (tabL (a + (1 + b)) fun j => con (h j)))
  rw [tabL_split (n := a + (1 + b)) (i := a) (by omega), show a + (1 + b) - a - 1 = b by omega, ← h2, ← tabL_congr h1, ← tabL_congr h3]
  exact this
/-- An own row, longer by a row. -/
theorem k_apps {α : Type} [Inhabited α] {κ : Nat → Option Nat} {es n : Nat} {f : Nat → XV} {en : α → XV} {l r : List α} (hn : n = l.length + r.length) (h1 : ∀ i, i < l.length → con (f i) = con (en (ix l i))) (h2 : ∀ i, i < r.length → con (f (l.length + i)) = con (en (ix r i))) : leK κ (con (.tab n es f)) (con (.tab (l ++ r).length es (fun i => en (ix (l ++ r) i)))) := by
  rw [List.length_append, ← hn]
  refine k_tab fun i hi => ?_
  rw [ix_append]
  by_cases hlt : i < l.length
  · rw [if_pos hlt]; exact h1 i hlt
  · rw [if_neg hlt, ← h2 _ (by omega), show l.length + (i - l.length) = i by omega]
def agreeF (L : List Nat) (σ : XSt) : List (Nat × Option XV) → Prop
  | [] => True
  | (_, none) :: r => agreeF L σ r
  | (j, some t') :: r => inL j L = false ∧ (match lookX σ.hl j with | some t => leF L σ.st (con t) (con t') | none => False) ∧ agreeF L σ r
theorem agreeF_get {L : List Nat} {σ : XSt} {j : Nat} : ∀ {l : List (Nat × Option XV)}, agreeF L σ l → look (conH l) (fun _ => none) j = none ∨ (j ∉ L ∧ ∃ t t', look (conH σ.hl) (fun _ => none) j = some t ∧ look (conH l) (fun _ => none) j = some t' ∧ leF L σ.st t t')
  | [], _ => .inl rfl
  | (k, v) :: r, h => by
    show (if j = k then v.map con else look (conH r) (fun _ => none) j) = none ∨ (j ∉ L ∧ ∃ t t', look (conH σ.hl) (fun _ => none) j = some t ∧ (if j = k then v.map con else look (conH r) (fun _ => none) j) = some t' ∧ leF L σ.st t t')
    by_cases hk : j = k
    · subst hk
      simp only [if_true]
      cases v with
      | none => exact .inl rfl
      | some t' =>
        obtain ⟨h1, h2, h3⟩ := h
        cases hl : lookX σ.hl j with
        | none => rw [hl] at h2; exact h2.elim
        | some t =>
          rw [hl] at h2
          refine .inr ⟨fun hj => ?_, con t, con t', ?_, rfl, h2⟩
          · rw [inL_iff.2 hj] at h1; cases h1
          · rw [look_conH, hl]; rfl
    · simp only [if_neg hk]
      cases v with
      | none => exact agreeF_get (l := r) h
      | some t' => exact agreeF_get (l := r) h.2.2
/-- Some own rows are taken as rows that nobody writes. -/
theorem frz_part {L : List Nat} {σ τ : XSt} (hn : τ.n = σ.n) (he : τ.env = σ.env) (hh : agreeF L σ τ.hl) : FrzS σ.st τ.st := by
  refine ⟨L, hn, fun t => ?_, fun j => agreeF_get hh⟩
  show leF L σ.st (get (conE σ.env) t) (get (conE τ.env) t)
  rw [he]; exact .same
theorem fz_row {σ : XSt} {L : List Nat} {id es n : Nat} {f : Nat → XV} (hin : inL id L = true) (hl : lookX σ.hl id = some (.tab n es f)) : leF L σ.st (con (.sl id [] 0 0 n es)) (con (.row false es n f)) := by
  have hr : rowX σ.hl es (.sl id [] 0 0 n es) = some ([Nat.beq 0 (pl 0 (0 * es)), decide (pl 0 n ≤ n)], n, fun i => f (pl 0 i)) := by
    simp only [rowX, hl, atx, Nat.beq_refl, Bool.and_self, cond_true]
  have h := rowX_con (σ := σ.st) (st_H σ) hr (by
    intro b hb
    simp only [List.mem_cons, List.not_mem_nil, or_false] at hb
    rcases hb with rfl | rfl
    · simp [pl_eq]
    · simp [pl_eq])
  have e : (fun i => con (f (pl 0 i))) = fun i => con (f i) := by funext i; rw [pl_eq, Nat.zero_add]
  rw [e] at h
  exact .fz (inL_iff.1 hin) h
theorem beq_dec {i k : Nat} : Nat.beq i k = decide (i = k) := by
  by_cases h : i = k
  · subst h; simp
  · rw [beq_ne h]; simp [h]
-- Conditions of runs that are so whatever comes.
theorem g1 (b : Bool) : (bif b then true else !b) = true := by cases b <;> rfl
theorem g2 (b : Bool) : (bif b then b else true) = true := by cases b <;> rfl
theorem g3 (p z : Bool) : (bif (bif p then (bif !z then p else false) else true) then true else !!z) = true := by cases p <;> cases z <;> rfl
theorem g4 (z : Bool) : (bif (bif !z then true else false) then true else !!z) = true := by cases z <;> rfl
theorem g5 (z : Bool) : (bif z then true else !!!z) = true := by cases z <;> rfl
theorem g6 (z : Bool) : (bif !!z then true else !z) = true := by cases z <;> rfl
theorem g7 (p z : Bool) : (bif (bif p then (bif z then p else false) else true) then true else !z) = true := by cases p <;> cases z <;> rfl
theorem band (a b : Bool) : (bif a then b else false) = (a && b) := by cases a <;> rfl
theorem bor (a b : Bool) : (bif a then true else b) = (a || b) := by cases a <;> rfl
def e_i64 (n : Int) : XV := .int .i64 n
def e_u32 (n : Int) : XV := .int .u32 n
def e_u8 (n : Int) : XV := .int .u8 n
def e_bool (b : Bool) : XV := .bool b
/-- A row. -/
def e_row {α : Type} [Inhabited α] (es : Nat) (en : α → XV) (l : List α) : XV := .row false es l.length (fun i => en (ix l i))

structure Slot where
  tag : Int
  full : Bool
  val : Int
  deriving Inhabited, DecidableEq
structure Entry where
  addr : Int
  size : Int
  step : Int
  known : Bool
  val : Int
  deriving Inhabited, DecidableEq
structure Req where
  store : Bool
  op : Int
  addr : Int
  size : Int
  val : Int
  left : Int
  reg : Int
  tag : Int
  deriving Inhabited, DecidableEq
structure Wr where
  addr : Int
  size : Int
  val : Int
  deriving Inhabited, DecidableEq
structure Pos where
  block : Int
  index : Int
  base : Int
  deriving Inhabited, DecidableEq
structure Trp where
  kind : Int
  step : Int
  pc : Int
  deriving Inhabited, DecidableEq
structure Side where
  regs : Nat → Int
  ready : Nat → Int
  pos : Pos
  wait : Int
  halted : Bool
  done : Int
  deriving Inhabited
structure Stt where
  cycle : Int
  a : Side
  e : Side
  ldq : List Slot
  sdq : List Int
  aeq : List Int
  abq : List Bool
  ebq : List Bool
  saq : List Entry
  table : List Req
  mem : List Int
  writes : List Wr
  trap : Trp
  lats : Int
  picks : Int
  tags : Int
  deriving Inhabited
structure Cfg where
  ldq : Int
  sdq : Int
  aeq : Int
  abq : Int
  ebq : Int
  saq : Int
  banks : Int
  flight : Int
  slip : Int
  lat : Int
  mul : Int
  div : Int
  deriving Inhabited, DecidableEq
structure Script where
  lats : List Int
  picks : List Int
  deriving Inhabited, DecidableEq
structure Ins where
  op : Int
  d : Int
  a : Int
  b : Int
  imm : Int
  deriving Inhabited, DecidableEq
structure Cell where
  kind : Int
  ins : Ins
  reg : Int
  pc : Int
  off : Int
  deriving Inhabited, DecidableEq
structure Block where
  src : Int
  dst : Int
  next : Int
  taken : Int
  a : List Cell
  e : List Cell
  deriving Inhabited, DecidableEq
structure Split where
  blocks : List Block
  owner : Nat → Int
  deriving Inhabited
structure Prog where
  code : List Ins
  size : Int
  data : List Int
  deriving Inhabited, DecidableEq
structure Rslt where
  fin : Int
  trap : Trp
  steps : Int
  regs : Nat → Int
  mem : List Int
  writes : List Wr
  deriving Inhabited

def e_Slot (s : Slot) : XV := .agg 3 [.int .i64 s.tag, .bool s.full, .int .u32 s.val]
def e_Entry (s : Entry) : XV := .agg 5 [.int .i64 s.addr, .int .i64 s.size, .int .i64 s.step, .bool s.known, .int .u32 s.val]
def e_Req (r : Req) : XV := .agg 8 [.bool r.store, .int .i64 r.op, .int .i64 r.addr, .int .i64 r.size, .int .u32 r.val, .int .i64 r.left, .int .i64 r.reg, .int .i64 r.tag]
def e_Wr (w : Wr) : XV := .agg 3 [.int .i64 w.addr, .int .i64 w.size, .int .u32 w.val]
def e_Pos (p : Pos) : XV := .agg 3 [.int .i64 p.block, .int .i64 p.index, .int .i64 p.base]
def e_Trp (t : Trp) : XV := .agg 3 [.int .i64 t.kind, .int .i64 t.step, .int .i64 t.pc]
def e_Side (s : Side) : XV := .agg 38 [.tab 16 1 (fun i => .int .u32 (s.regs i)), .tab 16 1 (fun i => .int .i64 (s.ready i)), e_Pos s.pos, .int .i64 s.wait, .bool s.halted, .int .i64 s.done]
def e_Stt (s : Stt) : XV := .agg 92 [.int .i64 s.cycle, e_Side s.a, e_Side s.e, e_row 3 e_Slot s.ldq, e_row 1 e_u32 s.sdq, e_row 1 e_u32 s.aeq, e_row 1 e_bool s.abq, e_row 1 e_bool s.ebq, e_row 5 e_Entry s.saq, e_row 8 e_Req s.table, e_row 1 e_u8 s.mem, e_row 3 e_Wr s.writes, e_Trp s.trap, .int .i64 s.lats, .int .i64 s.picks, .int .i64 s.tags]
def e_Cfg (c : Cfg) : XV := .agg 12 [.int .i64 c.ldq, .int .i64 c.sdq, .int .i64 c.aeq, .int .i64 c.abq, .int .i64 c.ebq, .int .i64 c.saq, .int .i64 c.banks, .int .i64 c.flight, .int .i64 c.slip, .int .i64 c.lat, .int .i64 c.mul, .int .i64 c.div]
def e_Ins (i : Ins) : XV := .agg 5 [.int .i64 i.op, .int .i64 i.d, .int .i64 i.a, .int .i64 i.b, .int .i64 i.imm]
def e_Cell (c : Cell) : XV := .agg 9 [.int .i64 c.kind, e_Ins c.ins, .int .i64 c.reg, .int .i64 c.pc, .int .i64 c.off]
def e_Block (b : Block) : XV := .agg 6 [.int .i64 b.src, .int .i64 b.dst, .int .i64 b.next, .int .i64 b.taken, e_row 9 e_Cell b.a, e_row 9 e_Cell b.e]
def e_Split (s : Split) : XV := .agg 17 [e_row 6 e_Block s.blocks, .tab 16 1 (fun i => .int .i64 (s.owner i))]
def e_Prog (p : Prog) : XV := .agg 3 [e_row 5 e_Ins p.code, .int .i64 p.size, e_row 1 e_u8 p.data]
/-- What a row stands for. -/
theorem con_erow {α : Type} [Inhabited α] {es : Nat} {en : α → XV} {l : List α} : con (e_row es en l) = .fro false es (l.map fun x => con (en x)) := by
  show AV.fro false es (tabL l.length fun i => con (en (ix l i))) = _
  congr 1
  have : (tabL l.length fun i => con (en (ix l i))) = (tabL l.length (ix l)).map fun x => con (en x) := by simp [tabL]
  rw [this, tabL_ix]
/-- A row of such elements stands for a list. -/
theorem lq_erow {α : Type} [Inhabited α] {x : Bool} {e es n : Nat} {f : Nat → XV} {en : α → XV} {l : List α} (hn : n = l.length) (he : es = e ∨ n = 0) (h : ∀ i, i < n → leQ (con (f i)) (con (en (ix l i)))) : leQ (con (.row x e n f)) (con (e_row es en l)) := lq_row hn he h
theorem lq_lit0 {α : Type} [Inhabited α] {x : Bool} {e es : Nat} {f : Nat → XV} {en : α → XV} : leQ (con (.row x e 0 f)) (con (e_row es en [])) := lq_erow rfl (.inr rfl) fun j hj => absurd hj (Nat.not_lt_zero _)
theorem lq_lit1 {α : Type} [Inhabited α] {x : Bool} {es : Nat} {f : Nat → XV} {en : α → XV} {a : α} (h : leQ (con (f 0)) (con (en a))) : leQ (con (.row x es 1 f)) (con (e_row es en [a])) := lq_erow rfl (.inl rfl) fun j hj => by
  obtain rfl : j = 0 := by omega
  exact h
theorem lq_lit2 {α : Type} [Inhabited α] {x : Bool} {es : Nat} {f : Nat → XV} {en : α → XV} {a b : α} (h : leQ (con (f 0)) (con (en a))) (h2 : leQ (con (f 1)) (con (en b))) : leQ (con (.row x es 2 f)) (con (e_row es en [a, b])) := lq_erow rfl (.inl rfl) fun j hj => by
  rcases (by omega : j = 0 ∨ j = 1) with rfl | rfl
  · exact h
  · exact h2
theorem lq_lit3 {α : Type} [Inhabited α] {x : Bool} {es : Nat} {f : Nat → XV} {en : α → XV} {a b c : α} (h : leQ (con (f 0)) (con (en a))) (h2 : leQ (con (f 1)) (con (en b))) (h3 : leQ (con (f 2)) (con (en c))) : leQ (con (.row x es 3 f)) (con (e_row es en [a, b, c])) := lq_erow rfl (.inl rfl) fun j hj => by
  rcases (by omega : j = 0 ∨ j = 1 ∨ j = 2) with rfl | rfl | rfl
  · exact h
  · exact h2
  · exact h3
def i64R (n : Int) : Prop := -9223372036854775808 ≤ n ∧ n ≤ 9223372036854775807
def u32R (n : Int) : Prop := 0 ≤ n ∧ n ≤ 4294967295
def u8R (n : Int) : Prop := 0 ≤ n ∧ n ≤ 255
theorem has_row {α : Type} [Inhabited α] {es bytes : Nat} {T : Ty} {a : AV} {en : α → XV} {wf : α → Prop} (ho : ∀ b, T.has b → ∃ x, b = con (en x) ∧ wf x) (h : (Ty.slice es bytes T).has a) : ∃ l : List α, a = con (e_row es en l) ∧ (∀ x ∈ l, wf x) ∧ l.length * bytes ≤ 140737488351232 := by
  simp only [Ty.has] at h
  obtain ⟨ts, rfl, h1, h2⟩ := h
  have key : ∀ us : List AV, (∀ t ∈ us, T.has t) → ∃ l : List α, us = l.map (fun x => con (en x)) ∧ ∀ x ∈ l, wf x := by
    intro us
    induction us with
    | nil => exact fun _ => ⟨[], rfl, fun x hx => by cases hx⟩
    | cons u us ih =>
      intro hu
      obtain ⟨x, h3, h4⟩ := ho u (hu u (by simp))
      obtain ⟨l, h5, h6⟩ := ih fun t ht => hu t (by simp [ht])
      refine ⟨x :: l, by rw [h3, h5]; rfl, fun y hy => ?_⟩
      rcases List.mem_cons.1 hy with rfl | hy
      · exact h4
      · exact h6 y hy
  obtain ⟨l, h3, h4⟩ := key ts h2
  refine ⟨l, by rw [con_erow, h3], h4, ?_⟩
  rw [h3] at h1
  simpa using h1
theorem has_tabI {n : Nat} {k : IntKind} {a : AV} {R : Int → Prop} (ho : ∀ b, (Ty.int k).has b → ∃ x, b = con (.int k x) ∧ R x) (h : (Ty.arr n 1 (.int k)).has a) : ∃ f : Nat → Int, a = con (.tab n 1 (fun i => .int k (f i))) ∧ ∀ i, i < n → R (f i) := by
  simp only [Ty.has] at h
  obtain ⟨ts, rfl, h1, h2⟩ := h
  refine ⟨fun i => avI (ts.getD i .unk), ?_, fun i hi => ?_⟩
  · show AV.arr n 1 ts = .arr n 1 (tabL n fun i => con (.int k (avI (ts.getD i .unk))))
    congr 1
    refine tabL_eq h1 fun i hi => ?_
    have hlt : i < ts.length := by omega
    obtain ⟨x, h3, _⟩ := ho _ (h2 _ (List.getElem_mem hlt))
    rw [List.getElem?_eq_getElem hlt, List.getD_eq_getElem?_getD, List.getElem?_eq_getElem hlt, Option.getD_some, h3]
    rfl
  · have hlt : i < ts.length := by omega
    obtain ⟨x, h3, h4⟩ := ho _ (h2 _ (List.getElem_mem hlt))
    show R (avI (ts.getD i .unk))
    rw [List.getD_eq_getElem?_getD, List.getElem?_eq_getElem hlt, Option.getD_some, h3]
    exact h4
theorem has_i64' (a : AV) (h : (Ty.int .i64).has a) : ∃ n, a = con (.int .i64 n) ∧ i64R n := by
  have h1 := has_i64 h
  simp only [Ty.has] at h
  obtain ⟨n, rfl, _⟩ := h
  exact ⟨n, rfl, h1⟩
theorem has_u32' (a : AV) (h : (Ty.int .u32).has a) : ∃ n, a = con (.int .u32 n) ∧ u32R n := by
  have h1 := has_u32 h
  simp only [Ty.has] at h
  obtain ⟨n, rfl, _⟩ := h
  exact ⟨n, rfl, h1⟩
theorem has_u8' (a : AV) (h : (Ty.int .u8).has a) : ∃ n, a = con (.int .u8 n) ∧ u8R n := by
  have h1 := has_u8 h
  simp only [Ty.has] at h
  obtain ⟨n, rfl, _⟩ := h
  exact ⟨n, rfl, h1⟩
theorem has_bool' (a : AV) (h : Ty.bool.has a) : ∃ b, a = con (.bool b) ∧ True := by
  simp only [Ty.has] at h
  obtain ⟨b, rfl⟩ := h
  exact ⟨b, rfl, trivial⟩
def T_Slot : Ty := .agg 3 [.int .i64, .bool, .int .u32]
def Slot.wf (s : Slot) : Prop := i64R s.tag ∧ u32R s.val
theorem has_Slot (a : AV) (h : T_Slot.has a) : ∃ s : Slot, a = con (e_Slot s) ∧ s.wf := by
  simp only [T_Slot, Ty.has, Ty.hasL] at h
  obtain ⟨_, rfl, h⟩ := h
  obtain ⟨a0, _, rfl, h0, h⟩ := h
  obtain ⟨a1, _, rfl, h1, h⟩ := h
  obtain ⟨a2, _, rfl, h2, h⟩ := h
  subst h
  obtain ⟨x0, rfl, w0⟩ := has_i64' _ (by simp only [Ty.has]; exact h0)
  obtain ⟨x1, rfl, w1⟩ := has_bool' _ (by simp only [Ty.has]; exact h1)
  obtain ⟨x2, rfl, w2⟩ := has_u32' _ (by simp only [Ty.has]; exact h2)
  exact ⟨⟨x0, x1, x2⟩, rfl, ⟨w0, w2⟩⟩
def T_Entry : Ty := .agg 5 [.int .i64, .int .i64, .int .i64, .bool, .int .u32]
def Entry.wf (s : Entry) : Prop := i64R s.addr ∧ i64R s.size ∧ i64R s.step ∧ u32R s.val
theorem has_Entry (a : AV) (h : T_Entry.has a) : ∃ s : Entry, a = con (e_Entry s) ∧ s.wf := by
  simp only [T_Entry, Ty.has, Ty.hasL] at h
  obtain ⟨_, rfl, h⟩ := h
  obtain ⟨a0, _, rfl, h0, h⟩ := h
  obtain ⟨a1, _, rfl, h1, h⟩ := h
  obtain ⟨a2, _, rfl, h2, h⟩ := h
  obtain ⟨a3, _, rfl, h3, h⟩ := h
  obtain ⟨a4, _, rfl, h4, h⟩ := h
  subst h
  obtain ⟨x0, rfl, w0⟩ := has_i64' _ (by simp only [Ty.has]; exact h0)
  obtain ⟨x1, rfl, w1⟩ := has_i64' _ (by simp only [Ty.has]; exact h1)
  obtain ⟨x2, rfl, w2⟩ := has_i64' _ (by simp only [Ty.has]; exact h2)
  obtain ⟨x3, rfl, w3⟩ := has_bool' _ (by simp only [Ty.has]; exact h3)
  obtain ⟨x4, rfl, w4⟩ := has_u32' _ (by simp only [Ty.has]; exact h4)
  exact ⟨⟨x0, x1, x2, x3, x4⟩, rfl, ⟨w0, w1, w2, w4⟩⟩
def T_Req : Ty := .agg 8 [.bool, .int .i64, .int .i64, .int .i64, .int .u32, .int .i64, .int .i64, .int .i64]
def Req.wf (s : Req) : Prop := i64R s.op ∧ i64R s.addr ∧ i64R s.size ∧ u32R s.val ∧ i64R s.left ∧ i64R s.reg ∧ i64R s.tag
theorem has_Req (a : AV) (h : T_Req.has a) : ∃ s : Req, a = con (e_Req s) ∧ s.wf := by
  simp only [T_Req, Ty.has, Ty.hasL] at h
  obtain ⟨_, rfl, h⟩ := h
  obtain ⟨a0, _, rfl, h0, h⟩ := h
  obtain ⟨a1, _, rfl, h1, h⟩ := h
  obtain ⟨a2, _, rfl, h2, h⟩ := h
  obtain ⟨a3, _, rfl, h3, h⟩ := h
  obtain ⟨a4, _, rfl, h4, h⟩ := h
  obtain ⟨a5, _, rfl, h5, h⟩ := h
  obtain ⟨a6, _, rfl, h6, h⟩ := h
  obtain ⟨a7, _, rfl, h7, h⟩ := h
  subst h
  obtain ⟨x0, rfl, w0⟩ := has_bool' _ (by simp only [Ty.has]; exact h0)
  obtain ⟨x1, rfl, w1⟩ := has_i64' _ (by simp only [Ty.has]; exact h1)
  obtain ⟨x2, rfl, w2⟩ := has_i64' _ (by simp only [Ty.has]; exact h2)
  obtain ⟨x3, rfl, w3⟩ := has_i64' _ (by simp only [Ty.has]; exact h3)
  obtain ⟨x4, rfl, w4⟩ := has_u32' _ (by simp only [Ty.has]; exact h4)
  obtain ⟨x5, rfl, w5⟩ := has_i64' _ (by simp only [Ty.has]; exact h5)
  obtain ⟨x6, rfl, w6⟩ := has_i64' _ (by simp only [Ty.has]; exact h6)
  obtain ⟨x7, rfl, w7⟩ := has_i64' _ (by simp only [Ty.has]; exact h7)
  exact ⟨⟨x0, x1, x2, x3, x4, x5, x6, x7⟩, rfl, ⟨w1, w2, w3, w4, w5, w6, w7⟩⟩
def T_Wr : Ty := .agg 3 [.int .i64, .int .i64, .int .u32]
def Wr.wf (s : Wr) : Prop := i64R s.addr ∧ i64R s.size ∧ u32R s.val
theorem has_Wr (a : AV) (h : T_Wr.has a) : ∃ s : Wr, a = con (e_Wr s) ∧ s.wf := by
  simp only [T_Wr, Ty.has, Ty.hasL] at h
  obtain ⟨_, rfl, h⟩ := h
  obtain ⟨a0, _, rfl, h0, h⟩ := h
  obtain ⟨a1, _, rfl, h1, h⟩ := h
  obtain ⟨a2, _, rfl, h2, h⟩ := h
  subst h
  obtain ⟨x0, rfl, w0⟩ := has_i64' _ (by simp only [Ty.has]; exact h0)
  obtain ⟨x1, rfl, w1⟩ := has_i64' _ (by simp only [Ty.has]; exact h1)
  obtain ⟨x2, rfl, w2⟩ := has_u32' _ (by simp only [Ty.has]; exact h2)
  exact ⟨⟨x0, x1, x2⟩, rfl, ⟨w0, w1, w2⟩⟩
def T_Pos : Ty := .agg 3 [.int .i64, .int .i64, .int .i64]
def Pos.wf (s : Pos) : Prop := i64R s.block ∧ i64R s.index ∧ i64R s.base
theorem has_Pos (a : AV) (h : T_Pos.has a) : ∃ s : Pos, a = con (e_Pos s) ∧ s.wf := by
  simp only [T_Pos, Ty.has, Ty.hasL] at h
  obtain ⟨_, rfl, h⟩ := h
  obtain ⟨a0, _, rfl, h0, h⟩ := h
  obtain ⟨a1, _, rfl, h1, h⟩ := h
  obtain ⟨a2, _, rfl, h2, h⟩ := h
  subst h
  obtain ⟨x0, rfl, w0⟩ := has_i64' _ (by simp only [Ty.has]; exact h0)
  obtain ⟨x1, rfl, w1⟩ := has_i64' _ (by simp only [Ty.has]; exact h1)
  obtain ⟨x2, rfl, w2⟩ := has_i64' _ (by simp only [Ty.has]; exact h2)
  exact ⟨⟨x0, x1, x2⟩, rfl, ⟨w0, w1, w2⟩⟩
def T_Trp : Ty := .agg 3 [.int .i64, .int .i64, .int .i64]
def Trp.wf (s : Trp) : Prop := i64R s.kind ∧ i64R s.step ∧ i64R s.pc
theorem has_Trp (a : AV) (h : T_Trp.has a) : ∃ s : Trp, a = con (e_Trp s) ∧ s.wf := by
  simp only [T_Trp, Ty.has, Ty.hasL] at h
  obtain ⟨_, rfl, h⟩ := h
  obtain ⟨a0, _, rfl, h0, h⟩ := h
  obtain ⟨a1, _, rfl, h1, h⟩ := h
  obtain ⟨a2, _, rfl, h2, h⟩ := h
  subst h
  obtain ⟨x0, rfl, w0⟩ := has_i64' _ (by simp only [Ty.has]; exact h0)
  obtain ⟨x1, rfl, w1⟩ := has_i64' _ (by simp only [Ty.has]; exact h1)
  obtain ⟨x2, rfl, w2⟩ := has_i64' _ (by simp only [Ty.has]; exact h2)
  exact ⟨⟨x0, x1, x2⟩, rfl, ⟨w0, w1, w2⟩⟩
def T_Side : Ty := .agg 38 [.arr 16 1 (.int .u32), .arr 16 1 (.int .i64), T_Pos, .int .i64, .bool, .int .i64]
def Side.wf (s : Side) : Prop := (∀ i, i < 16 → u32R (s.regs i)) ∧ (∀ i, i < 16 → i64R (s.ready i)) ∧ s.pos.wf ∧ i64R s.wait ∧ i64R s.done
theorem has_Side (a : AV) (h : T_Side.has a) : ∃ s : Side, a = con (e_Side s) ∧ s.wf := by
  simp only [T_Side, Ty.has, Ty.hasL] at h
  obtain ⟨_, rfl, h⟩ := h
  obtain ⟨a0, _, rfl, h0, h⟩ := h
  obtain ⟨a1, _, rfl, h1, h⟩ := h
  obtain ⟨a2, _, rfl, h2, h⟩ := h
  obtain ⟨a3, _, rfl, h3, h⟩ := h
  obtain ⟨a4, _, rfl, h4, h⟩ := h
  obtain ⟨a5, _, rfl, h5, h⟩ := h
  subst h
  obtain ⟨x0, rfl, w0⟩ := has_tabI has_u32' (by simp only [Ty.has]; exact h0)
  obtain ⟨x1, rfl, w1⟩ := has_tabI has_i64' (by simp only [Ty.has]; exact h1)
  obtain ⟨x2, rfl, w2⟩ := has_Pos _ h2
  obtain ⟨x3, rfl, w3⟩ := has_i64' _ (by simp only [Ty.has]; exact h3)
  obtain ⟨x4, rfl, w4⟩ := has_bool' _ (by simp only [Ty.has]; exact h4)
  obtain ⟨x5, rfl, w5⟩ := has_i64' _ (by simp only [Ty.has]; exact h5)
  exact ⟨⟨x0, x1, x2, x3, x4, x5⟩, rfl, ⟨w0, w1, w2, w3, w5⟩⟩
def T_Stt : Ty := .agg 92 [.int .i64, T_Side, T_Side, .slice 3 16 T_Slot, .slice 1 4 (.int .u32), .slice 1 4 (.int .u32), .slice 1 1 .bool, .slice 1 1 .bool, .slice 5 32 T_Entry, .slice 8 64 T_Req, .slice 1 1 (.int .u8), .slice 3 24 T_Wr, T_Trp, .int .i64, .int .i64, .int .i64]
def Stt.wf (s : Stt) : Prop := i64R s.cycle ∧ s.a.wf ∧ s.e.wf ∧ ((∀ x ∈ s.ldq, x.wf) ∧ s.ldq.length * 16 ≤ 140737488351232) ∧ ((∀ x ∈ s.sdq, u32R x) ∧ s.sdq.length * 4 ≤ 140737488351232) ∧ ((∀ x ∈ s.aeq, u32R x) ∧ s.aeq.length * 4 ≤ 140737488351232) ∧ ((∀ x ∈ s.abq, True) ∧ s.abq.length * 1 ≤ 140737488351232) ∧ ((∀ x ∈ s.ebq, True) ∧ s.ebq.length * 1 ≤ 140737488351232) ∧ ((∀ x ∈ s.saq, x.wf) ∧ s.saq.length * 32 ≤ 140737488351232) ∧ ((∀ x ∈ s.table, x.wf) ∧ s.table.length * 64 ≤ 140737488351232) ∧ ((∀ x ∈ s.mem, u8R x) ∧ s.mem.length * 1 ≤ 140737488351232) ∧ ((∀ x ∈ s.writes, x.wf) ∧ s.writes.length * 24 ≤ 140737488351232) ∧ s.trap.wf ∧ i64R s.lats ∧ i64R s.picks ∧ i64R s.tags
theorem has_Stt (a : AV) (h : T_Stt.has a) : ∃ s : Stt, a = con (e_Stt s) ∧ s.wf := by
  simp only [T_Stt, Ty.has, Ty.hasL] at h
  obtain ⟨_, rfl, h⟩ := h
  obtain ⟨a0, _, rfl, h0, h⟩ := h
  obtain ⟨a1, _, rfl, h1, h⟩ := h
  obtain ⟨a2, _, rfl, h2, h⟩ := h
  obtain ⟨a3, _, rfl, h3, h⟩ := h
  obtain ⟨a4, _, rfl, h4, h⟩ := h
  obtain ⟨a5, _, rfl, h5, h⟩ := h
  obtain ⟨a6, _, rfl, h6, h⟩ := h
  obtain ⟨a7, _, rfl, h7, h⟩ := h
  obtain ⟨a8, _, rfl, h8, h⟩ := h
  obtain ⟨a9, _, rfl, h9, h⟩ := h
  obtain ⟨a10, _, rfl, h10, h⟩ := h
  obtain ⟨a11, _, rfl, h11, h⟩ := h
  obtain ⟨a12, _, rfl, h12, h⟩ := h
  obtain ⟨a13, _, rfl, h13, h⟩ := h
  obtain ⟨a14, _, rfl, h14, h⟩ := h
  obtain ⟨a15, _, rfl, h15, h⟩ := h
  subst h
  obtain ⟨x0, rfl, w0⟩ := has_i64' _ (by simp only [Ty.has]; exact h0)
  obtain ⟨x1, rfl, w1⟩ := has_Side _ h1
  obtain ⟨x2, rfl, w2⟩ := has_Side _ h2
  obtain ⟨x3, rfl, w3⟩ := has_row (en := e_Slot) (wf := Slot.wf) has_Slot (by simp only [Ty.has]; exact h3)
  obtain ⟨x4, rfl, w4⟩ := has_row (en := e_u32) (wf := u32R) has_u32' (by simp only [Ty.has]; exact h4)
  obtain ⟨x5, rfl, w5⟩ := has_row (en := e_u32) (wf := u32R) has_u32' (by simp only [Ty.has]; exact h5)
  obtain ⟨x6, rfl, w6⟩ := has_row (en := e_bool) (wf := fun _ => True) has_bool' (by simp only [Ty.has]; exact h6)
  obtain ⟨x7, rfl, w7⟩ := has_row (en := e_bool) (wf := fun _ => True) has_bool' (by simp only [Ty.has]; exact h7)
  obtain ⟨x8, rfl, w8⟩ := has_row (en := e_Entry) (wf := Entry.wf) has_Entry (by simp only [Ty.has]; exact h8)
  obtain ⟨x9, rfl, w9⟩ := has_row (en := e_Req) (wf := Req.wf) has_Req (by simp only [Ty.has]; exact h9)
  obtain ⟨x10, rfl, w10⟩ := has_row (en := e_u8) (wf := u8R) has_u8' (by simp only [Ty.has]; exact h10)
  obtain ⟨x11, rfl, w11⟩ := has_row (en := e_Wr) (wf := Wr.wf) has_Wr (by simp only [Ty.has]; exact h11)
  obtain ⟨x12, rfl, w12⟩ := has_Trp _ h12
  obtain ⟨x13, rfl, w13⟩ := has_i64' _ (by simp only [Ty.has]; exact h13)
  obtain ⟨x14, rfl, w14⟩ := has_i64' _ (by simp only [Ty.has]; exact h14)
  obtain ⟨x15, rfl, w15⟩ := has_i64' _ (by simp only [Ty.has]; exact h15)
  exact ⟨⟨x0, x1, x2, x3, x4, x5, x6, x7, x8, x9, x10, x11, x12, x13, x14, x15⟩, rfl, ⟨w0, w1, w2, w3, w4, w5, w6, w7, w8, w9, w10, w11, w12, w13, w14, w15⟩⟩
def T_Cfg : Ty := .agg 12 [.int .i64, .int .i64, .int .i64, .int .i64, .int .i64, .int .i64, .int .i64, .int .i64, .int .i64, .int .i64, .int .i64, .int .i64]
def Cfg.wf (s : Cfg) : Prop := i64R s.ldq ∧ i64R s.sdq ∧ i64R s.aeq ∧ i64R s.abq ∧ i64R s.ebq ∧ i64R s.saq ∧ i64R s.banks ∧ i64R s.flight ∧ i64R s.slip ∧ i64R s.lat ∧ i64R s.mul ∧ i64R s.div
theorem has_Cfg (a : AV) (h : T_Cfg.has a) : ∃ s : Cfg, a = con (e_Cfg s) ∧ s.wf := by
  simp only [T_Cfg, Ty.has, Ty.hasL] at h
  obtain ⟨_, rfl, h⟩ := h
  obtain ⟨a0, _, rfl, h0, h⟩ := h
  obtain ⟨a1, _, rfl, h1, h⟩ := h
  obtain ⟨a2, _, rfl, h2, h⟩ := h
  obtain ⟨a3, _, rfl, h3, h⟩ := h
  obtain ⟨a4, _, rfl, h4, h⟩ := h
  obtain ⟨a5, _, rfl, h5, h⟩ := h
  obtain ⟨a6, _, rfl, h6, h⟩ := h
  obtain ⟨a7, _, rfl, h7, h⟩ := h
  obtain ⟨a8, _, rfl, h8, h⟩ := h
  obtain ⟨a9, _, rfl, h9, h⟩ := h
  obtain ⟨a10, _, rfl, h10, h⟩ := h
  obtain ⟨a11, _, rfl, h11, h⟩ := h
  subst h
  obtain ⟨x0, rfl, w0⟩ := has_i64' _ (by simp only [Ty.has]; exact h0)
  obtain ⟨x1, rfl, w1⟩ := has_i64' _ (by simp only [Ty.has]; exact h1)
  obtain ⟨x2, rfl, w2⟩ := has_i64' _ (by simp only [Ty.has]; exact h2)
  obtain ⟨x3, rfl, w3⟩ := has_i64' _ (by simp only [Ty.has]; exact h3)
  obtain ⟨x4, rfl, w4⟩ := has_i64' _ (by simp only [Ty.has]; exact h4)
  obtain ⟨x5, rfl, w5⟩ := has_i64' _ (by simp only [Ty.has]; exact h5)
  obtain ⟨x6, rfl, w6⟩ := has_i64' _ (by simp only [Ty.has]; exact h6)
  obtain ⟨x7, rfl, w7⟩ := has_i64' _ (by simp only [Ty.has]; exact h7)
  obtain ⟨x8, rfl, w8⟩ := has_i64' _ (by simp only [Ty.has]; exact h8)
  obtain ⟨x9, rfl, w9⟩ := has_i64' _ (by simp only [Ty.has]; exact h9)
  obtain ⟨x10, rfl, w10⟩ := has_i64' _ (by simp only [Ty.has]; exact h10)
  obtain ⟨x11, rfl, w11⟩ := has_i64' _ (by simp only [Ty.has]; exact h11)
  exact ⟨⟨x0, x1, x2, x3, x4, x5, x6, x7, x8, x9, x10, x11⟩, rfl, ⟨w0, w1, w2, w3, w4, w5, w6, w7, w8, w9, w10, w11⟩⟩
def Script.wf (s : Script) : Prop := ((∀ x ∈ s.lats, i64R x) ∧ s.lats.length * 8 ≤ 140737488351232) ∧ ((∀ x ∈ s.picks, i64R x) ∧ s.picks.length * 8 ≤ 140737488351232)
def T_Ins : Ty := .agg 5 [.int .i64, .int .i64, .int .i64, .int .i64, .int .i64]
def Ins.wf (s : Ins) : Prop := i64R s.op ∧ i64R s.d ∧ i64R s.a ∧ i64R s.b ∧ i64R s.imm
theorem has_Ins (a : AV) (h : T_Ins.has a) : ∃ s : Ins, a = con (e_Ins s) ∧ s.wf := by
  simp only [T_Ins, Ty.has, Ty.hasL] at h
  obtain ⟨_, rfl, h⟩ := h
  obtain ⟨a0, _, rfl, h0, h⟩ := h
  obtain ⟨a1, _, rfl, h1, h⟩ := h
  obtain ⟨a2, _, rfl, h2, h⟩ := h
  obtain ⟨a3, _, rfl, h3, h⟩ := h
  obtain ⟨a4, _, rfl, h4, h⟩ := h
  subst h
  obtain ⟨x0, rfl, w0⟩ := has_i64' _ (by simp only [Ty.has]; exact h0)
  obtain ⟨x1, rfl, w1⟩ := has_i64' _ (by simp only [Ty.has]; exact h1)
  obtain ⟨x2, rfl, w2⟩ := has_i64' _ (by simp only [Ty.has]; exact h2)
  obtain ⟨x3, rfl, w3⟩ := has_i64' _ (by simp only [Ty.has]; exact h3)
  obtain ⟨x4, rfl, w4⟩ := has_i64' _ (by simp only [Ty.has]; exact h4)
  exact ⟨⟨x0, x1, x2, x3, x4⟩, rfl, ⟨w0, w1, w2, w3, w4⟩⟩
def T_Cell : Ty := .agg 9 [.int .i64, T_Ins, .int .i64, .int .i64, .int .i64]
def Cell.wf (s : Cell) : Prop := i64R s.kind ∧ s.ins.wf ∧ i64R s.reg ∧ i64R s.pc ∧ i64R s.off
theorem has_Cell (a : AV) (h : T_Cell.has a) : ∃ s : Cell, a = con (e_Cell s) ∧ s.wf := by
  simp only [T_Cell, Ty.has, Ty.hasL] at h
  obtain ⟨_, rfl, h⟩ := h
  obtain ⟨a0, _, rfl, h0, h⟩ := h
  obtain ⟨a1, _, rfl, h1, h⟩ := h
  obtain ⟨a2, _, rfl, h2, h⟩ := h
  obtain ⟨a3, _, rfl, h3, h⟩ := h
  obtain ⟨a4, _, rfl, h4, h⟩ := h
  subst h
  obtain ⟨x0, rfl, w0⟩ := has_i64' _ (by simp only [Ty.has]; exact h0)
  obtain ⟨x1, rfl, w1⟩ := has_Ins _ h1
  obtain ⟨x2, rfl, w2⟩ := has_i64' _ (by simp only [Ty.has]; exact h2)
  obtain ⟨x3, rfl, w3⟩ := has_i64' _ (by simp only [Ty.has]; exact h3)
  obtain ⟨x4, rfl, w4⟩ := has_i64' _ (by simp only [Ty.has]; exact h4)
  exact ⟨⟨x0, x1, x2, x3, x4⟩, rfl, ⟨w0, w1, w2, w3, w4⟩⟩
def T_Block : Ty := .agg 6 [.int .i64, .int .i64, .int .i64, .int .i64, .slice 9 72 T_Cell, .slice 9 72 T_Cell]
def Block.wf (s : Block) : Prop := i64R s.src ∧ i64R s.dst ∧ i64R s.next ∧ i64R s.taken ∧ ((∀ x ∈ s.a, x.wf) ∧ s.a.length * 72 ≤ 140737488351232) ∧ ((∀ x ∈ s.e, x.wf) ∧ s.e.length * 72 ≤ 140737488351232)
theorem has_Block (a : AV) (h : T_Block.has a) : ∃ s : Block, a = con (e_Block s) ∧ s.wf := by
  simp only [T_Block, Ty.has, Ty.hasL] at h
  obtain ⟨_, rfl, h⟩ := h
  obtain ⟨a0, _, rfl, h0, h⟩ := h
  obtain ⟨a1, _, rfl, h1, h⟩ := h
  obtain ⟨a2, _, rfl, h2, h⟩ := h
  obtain ⟨a3, _, rfl, h3, h⟩ := h
  obtain ⟨a4, _, rfl, h4, h⟩ := h
  obtain ⟨a5, _, rfl, h5, h⟩ := h
  subst h
  obtain ⟨x0, rfl, w0⟩ := has_i64' _ (by simp only [Ty.has]; exact h0)
  obtain ⟨x1, rfl, w1⟩ := has_i64' _ (by simp only [Ty.has]; exact h1)
  obtain ⟨x2, rfl, w2⟩ := has_i64' _ (by simp only [Ty.has]; exact h2)
  obtain ⟨x3, rfl, w3⟩ := has_i64' _ (by simp only [Ty.has]; exact h3)
  obtain ⟨x4, rfl, w4⟩ := has_row (en := e_Cell) (wf := Cell.wf) has_Cell (by simp only [Ty.has]; exact h4)
  obtain ⟨x5, rfl, w5⟩ := has_row (en := e_Cell) (wf := Cell.wf) has_Cell (by simp only [Ty.has]; exact h5)
  exact ⟨⟨x0, x1, x2, x3, x4, x5⟩, rfl, ⟨w0, w1, w2, w3, w4, w5⟩⟩
def T_Split : Ty := .agg 17 [.slice 6 80 T_Block, .arr 16 1 (.int .i64)]
def Split.wf (s : Split) : Prop := ((∀ x ∈ s.blocks, x.wf) ∧ s.blocks.length * 80 ≤ 140737488351232) ∧ (∀ i, i < 16 → i64R (s.owner i))
theorem has_Split (a : AV) (h : T_Split.has a) : ∃ s : Split, a = con (e_Split s) ∧ s.wf := by
  simp only [T_Split, Ty.has, Ty.hasL] at h
  obtain ⟨_, rfl, h⟩ := h
  obtain ⟨a0, _, rfl, h0, h⟩ := h
  obtain ⟨a1, _, rfl, h1, h⟩ := h
  subst h
  obtain ⟨x0, rfl, w0⟩ := has_row (en := e_Block) (wf := Block.wf) has_Block (by simp only [Ty.has]; exact h0)
  obtain ⟨x1, rfl, w1⟩ := has_tabI has_i64' (by simp only [Ty.has]; exact h1)
  exact ⟨⟨x0, x1⟩, rfl, ⟨w0, w1⟩⟩
def T_Prog : Ty := .agg 3 [.slice 5 40 T_Ins, .int .i64, .slice 1 1 (.int .u8)]
def Prog.wf (s : Prog) : Prop := ((∀ x ∈ s.code, x.wf) ∧ s.code.length * 40 ≤ 140737488351232) ∧ i64R s.size ∧ ((∀ x ∈ s.data, u8R x) ∧ s.data.length * 1 ≤ 140737488351232)
theorem has_Prog (a : AV) (h : T_Prog.has a) : ∃ s : Prog, a = con (e_Prog s) ∧ s.wf := by
  simp only [T_Prog, Ty.has, Ty.hasL] at h
  obtain ⟨_, rfl, h⟩ := h
  obtain ⟨a0, _, rfl, h0, h⟩ := h
  obtain ⟨a1, _, rfl, h1, h⟩ := h
  obtain ⟨a2, _, rfl, h2, h⟩ := h
  subst h
  obtain ⟨x0, rfl, w0⟩ := has_row (en := e_Ins) (wf := Ins.wf) has_Ins (by simp only [Ty.has]; exact h0)
  obtain ⟨x1, rfl, w1⟩ := has_i64' _ (by simp only [Ty.has]; exact h1)
  obtain ⟨x2, rfl, w2⟩ := has_row (en := e_u8) (wf := u8R) has_u8' (by simp only [Ty.has]; exact h2)
  exact ⟨⟨x0, x1, x2⟩, rfl, ⟨w0, w1, w2⟩⟩
/-- A state whose rows are not too long. -/
def Stt.ok (s : Stt) : Prop := s.wf ∧ s.ldq.length ≤ 1000000 ∧ s.sdq.length ≤ 1000000 ∧ s.aeq.length ≤ 1000000 ∧ s.abq.length ≤ 1000000 ∧ s.ebq.length ≤ 1000000 ∧ s.saq.length ≤ 1000000 ∧ s.table.length ≤ 1000000 ∧ s.mem.length ≤ 1000000 ∧ s.writes.length ≤ 1000000
end Go.Ra

/- Numbers within bounds; which configs may be. -/
namespace Go.Proofs.Ythmlnmkbeohojaa
open Go.Ra
set_option linter.unusedVariables false
set_option linter.unusedSimpArgs false
def TA0 : Tab := mkT2 qq (cl_state ++ cl_slices) [] [] [] []
def outB (lo hi n : Int) : Bool := decide (n < lo) || decide (n > hi)
def idwS : List XV → Option ((XV → Prop) → Prop) := skOf (fun q : List Int × Int × Int => [e_row 1 e_i64 q.1, .clo 51 [.fptr (.int .i64 q.2.1), .fptr (.int .i64 q.2.2)]]) (fun q => q.1.length ≤ 1000000) (fun q => idxF (outB q.2.1 q.2.2) q.1) (fun y => .int .i64 y)
def TA1 : Tab := mkT2 qq (cl_state ++ cl_slices) [] [] [(71, idwS)] []
/-- Are numbers within bounds? -/
def withinF (lo hi : Int) (l : List Int) : Bool := l.all fun n => decide (lo ≤ n ∧ n ≤ hi)
def wnS : List XV → Option ((XV → Prop) → Prop) := skOf (fun q : Int × Int × List Int => [.int .i64 q.1, .int .i64 q.2.1, e_row 1 e_i64 q.2.2]) (fun q => q.2.2.length ≤ 1000000) (fun q => withinF q.1 q.2.1 q.2.2) (fun y => .bool y)
def TA2 : Tab := mkT2 qq (cl_state ++ cl_slices) [] [] [(23, wnS)] []
/-- May a config be? -/
def rightCfg (c : Cfg) : Bool := withinF 1 64 [c.ldq, c.sdq, c.aeq, c.abq, c.ebq, c.saq, c.flight, c.slip] && (withinF 1 16 [c.banks] && (withinF 1 1000 [c.lat] && withinF 1 50 [c.mul, c.div]))
def cfgS : List XV → Option ((XV → Prop) → Prop) := skOf (fun c : Cfg => [e_Cfg c]) (fun c => True) (fun c => rightCfg c) (fun y => .bool y)
theorem TA0ok : TabOk Try.prog TA0 := mkT2_ok (clok_state.app clok_slices) trivial trivial trivial trivial
theorem r_wi1 (l : List Int) (lo hi : Int) (r : XV) : (goQ Try.prog TA0 [(.tmp 4)] r (.run c_slices_IndexFunc_int_int) [] ⟨envX 0 [e_row 1 e_i64 l, .clo 51 [.fptr (.int .i64 lo), .fptr (.int .i64 hi)]], [], 0⟩) = (LoopAt (Ok Try.prog (Tab.q TA0)) c_slices_IndexFunc_int_int_l1 (XSt.mk [(8, .int .i64 0), (7, .int .i64 (↑(List.length l) : Int)), (4, .int .i64 0), (0, e_row
 1 e_i64 l), (1, .clo 51 [.fptr (.int .i64 lo), .fptr (.int .i64 hi)])] [] 0) [Frm.blk 0, Frm.seq c_slices_IndexFunc_int_int_p1] (finQR [AR.tmp 4] r)) := by kernel_rfl 

theorem r_wi2 (l : List Int) (lo hi : Int) (i : Nat) (r : XV) (A : XSt → Prop) : (goQ Try.prog TA0 [(.tmp 4)] r (.run c_slices_IndexFunc_int_int_l1) [.lp c_slices_IndexFunc_int_int_l1 A, .blk 0, .seq c_slices_IndexFunc_int_int_p1] ⟨[(0, e_row 1 e_i64 l), (1, .clo 51 [.fptr (.int .i64 lo), .fptr (.int .i64 hi)]), (8, .int .i64 i), (7, .int .i64 l.length)], [], 0⟩) = (bif decide ((↑i : Int) < (↑(List.length l) : Int)) then bif decide ((↑i : Int) < (↑(List.length l) : Int)) then bif bif decide (ix l i < lo) then true else !decide
 (ix l i < lo) then bif bif decide (ix l i < lo) then true else decide (ix l i > hi) then ResLe (.int .i64 (↑i : Int)) r else A (XSt.mk [(8, .int .i64 (IntKind.wrap
 .i64 ((↑i : Int) + (1 : Int)))), (0, e_row 1 e_i64 l), (1, .clo 51 [.fptr (.int .i64 lo), .fptr (.int .i64 hi)]), (7, .int .i64 (↑(List.length l) : Int))] [] 0)
 else False else False
else ResLe (.int .i64 (-1 : Int)) r) := by kernel_rfl
theorem sk_idw : SkOk Try.prog (71, idwS) := skOf_ok fun ⟨l, lo, hi⟩ h => by
  have hl : l.length ≤ 1000000 := h
  refine pureQ mix TA0ok t_slices_IndexFunc_int_int (Nat.le_of_ble_eq_true rfl) ?_
  refine Eq.mpr (r_wi1 l lo hi _) ?_
  refine loopQ mix TA0ok (fun i : Nat => ⟨[(0, e_row 1 e_i64 l), (1, .clo 51 [.fptr (.int .i64 lo), .fptr (.int .i64 hi)]), (8, .int .i64 i), (7, .int .i64 l.length)], [], 0⟩) (fun i => i ≤ l.length ∧ ∀ j, j < i → outB lo hi (ix l j) = false) (fun i => l.length - i) 0 ⟨Nat.zero_le _, fun j hj => by omega⟩ (.of (weakX ⟨rfl, rfl, rfl, rfl, trivial⟩ trivial (Nat.le_refl _))) ?_
  rintro i ⟨hi1, hp⟩
  refine Eq.mpr (r_wi2 l lo hi i _ _) ?_
  by_cases hlt : i < l.length
  · have h1 : (i : Int) < (l.length : Int) := by omega
    have w1 : IntKind.i64.wrap ((i : Int) + 1) = ((i + 1 : Nat) : Int) := wrap_i64 (by omega) (by omega)
    simp only [g1, g2, g3, g4, g5, g6, g7, allN_true, cond_true, Nat.le_refl, decide_true, pl_eq, h1, w1]
    rw [bor]
    refine cnd2 (fun h => ?_) (fun h => ?_)
    · have e : idxF (outB lo hi) l = i := idxF_some hlt h hp
      show ResLe _ (.int .i64 (idxF (outB lo hi) l))
      rw [e]; exact .rfl
    · refine ⟨i + 1, ⟨hlt, fun j hj => ?_⟩, .of (weakX ⟨rfl, rfl, rfl, rfl, trivial⟩ trivial (Nat.le_refl _)), by omega⟩
      by_cases hji : j = i
      · subst hji; exact h
      · exact hp j (by omega)
  · have h1 : ¬ (i : Int) < (l.length : Int) := by omega
    simp only [h1, decide_false, cond_false]
    have e : idxF (outB lo hi) l = -1 := idxF_none fun j hj => hp j (by omega)
    show ResLe _ (.int .i64 (idxF (outB lo hi) l))
    rw [e]; exact .rfl
theorem TA1ok : TabOk Try.prog TA1 := mkT2_ok (clok_state.app clok_slices) trivial trivial ⟨sk_idw, trivial⟩ trivial
theorem r_wn (l : List Int) (lo hi : Int) (r : XV) : (quietGo TA1 80 (callI TA1 80 20) 23 [.int .i64 lo, .int .i64 hi, e_row 1 e_i64 l] (fun v => ResLe v r)) = (∃ (s : List Int × Int × Int), ArgsLe [e_row 1 e_i64 l, .clo 51 [.fptr (.int .i64 lo), .fptr (.int .i64 hi)]] [e_row 1 e_i64 (Prod.fst s), .clo 51 [.fptr (.int
 .i64 (Prod.fst (Prod.snd s))), .fptr (.int .i64 (Prod.snd (Prod.snd s)))]] ∧ PreIs (List.length (Prod.fst s) ≤ 1000000) ∧ ∀ (y : Int), y = idxF (outB (Prod.fst (Prod.snd
 s)) (Prod.snd (Prod.snd s))) (Prod.fst s) → ResLe (.bool !decide (y ≥ 0)) r) := by kernel_rfl
theorem within_any {lo hi : Int} {l : List Int} : withinF lo hi l = !l.any (outB lo hi) := by
  unfold withinF
  rw [List.not_any_eq_all_not]
  congr 1
  funext n
  unfold outB
  rw [Bool.eq_iff_iff]
  simp
theorem sk_wn : SkOk Try.prog (23, wnS) := skOf_ok fun ⟨lo, hi, l⟩ h => by
  have hl : l.length ≤ 1000000 := h
  show Pure _ _ (cons [.int .i64 lo, .int .i64 hi, e_row 1 e_i64 l]) (con (.bool (withinF lo hi l)))
  refine pureR (u := 80) (k := 20) mix TA1ok ?_
  refine Eq.mpr (r_wn l lo hi _) ?_
  refine ⟨(l, lo, hi), .rfl, ⟨hl⟩, ?_⟩
  intro y hy
  replace hy : y = idxF (outB lo hi) l := hy
  subst hy
  rw [within_any, ← idxF_ge]
  exact .rfl
theorem TA2ok : TabOk Try.prog TA2 := mkT2_ok (clok_state.app clok_slices) trivial trivial ⟨sk_wn, trivial⟩ trivial
theorem r_cfg (c : Cfg) (r : XV) : (quietGo TA2 80 (callI TA2 80 20) 11 [e_Cfg c] (fun v => ResLe v r)) = (∃ (s : Int × Int × List Int), ArgsLe [.int .i64 1, .int .i64 64, .row true 1 8 fun a => .int .i64 (bif Nat.beq a 0 then Cfg.ldq c else bif Nat.beq (a - 1) 0
 then Cfg.sdq c else bif Nat.beq (a - 1 - 1) 0 then Cfg.aeq c else bif Nat.beq (a - 1 - 1 - 1) 0 then Cfg.abq c else bif Nat.beq (a - 1 - 1 - 1 - 1) 0 then Cfg.ebq
 c else bif Nat.beq (a - 1 - 1 - 1 - 1 - 1) 0 then Cfg.saq c else bif Nat.beq (a - 1 - 1 - 1 - 1 - 1 - 1) 0 then Cfg.flight c else Cfg.slip c)] [.int .i64 (Prod.fst
 s), .int .i64 (Prod.fst (Prod.snd s)), e_row 1 e_i64 (Prod.snd (Prod.snd s))] ∧ PreIs (List.length (Prod.snd (Prod.snd s)) ≤ 1000000) ∧ ∀ (y : Bool), y = withinF
 (Prod.fst s) (Prod.fst (Prod.snd s)) (Prod.snd (Prod.snd s)) → bif y then ∃ (s : Int × Int × List Int), ArgsLe [.int .i64 1, .int .i64 16, .row true 1 1 fun a =>
 .int .i64 (Cfg.banks c)] [.int .i64 (Prod.fst s), .int .i64 (Prod.fst (Prod.snd s)), e_row 1 e_i64 (Prod.snd (Prod.snd s))] ∧ PreIs (List.length (Prod.snd (Prod.snd
 s)) ≤ 1000000) ∧ ∀ (y_1 : Bool), y_1 = withinF (Prod.fst s) (Prod.fst (Prod.snd s)) (Prod.snd (Prod.snd s)) → bif bif y then y_1 else false then ∃ (s : Int × Int
 × List Int), ArgsLe [.int .i64 1, .int .i64 1000, .row true 1 1 fun a => .int .i64 (Cfg.lat c)] [.int .i64 (Prod.fst s), .int .i64 (Prod.fst (Prod.snd s)), e_row
 1 e_i64 (Prod.snd (Prod.snd s))] ∧ PreIs (List.length (Prod.snd (Prod.snd s)) ≤ 1000000) ∧ ∀ (y_2 : Bool), y_2 = withinF (Prod.fst s) (Prod.fst (Prod.snd s)) (Prod.snd
 (Prod.snd s)) → bif bif bif y then y_1 else false then y_2 else false then ∃ (s : Int × Int × List Int), ArgsLe [.int .i64 1, .int .i64 50, .row true 1 2 fun a =>
 .int .i64 (bif Nat.beq a 0 then Cfg.mul c else Cfg.div c)] [.int .i64 (Prod.fst s), .int .i64 (Prod.fst (Prod.snd s)), e_row 1 e_i64 (Prod.snd (Prod.snd s))] ∧ PreIs
 (List.length (Prod.snd (Prod.snd s)) ≤ 1000000) ∧ ∀ (y_3 : Bool), y_3 = withinF (Prod.fst s) (Prod.fst (Prod.snd s)) (Prod.snd (Prod.snd s)) → ResLe (.bool (bif
 bif bif y then y_1 else false then y_2 else false then y_3 else false)) r else bif !bif bif y then y_1 else false then y_2 else false then ResLe (.bool false) r
 else False else bif !bif y then y_1 else false then ResLe (.bool false) r else False else bif !y then ResLe (.bool false) r else False) := by kernel_rfl
theorem lq_lit {α : Type} [Inhabited α] {x : Bool} {es n : Nat} {f : Nat → XV} {en : α → XV} {l : List α} (hn : n = l.length) (h : allN (fun i => true) n = true → ∀ i, i < n → con (f i) = con (en (ix l i))) : leQ (con (.row x es n f)) (con (e_row es en l)) := lq_erow hn (.inl rfl) fun i hi => lq_con (h (allN_iff.2 fun _ _ => rfl) i hi)
theorem sk_cfg : SkOk Try.prog (11, cfgS) := skOf_ok fun c _ => by
  show Pure _ _ (cons [e_Cfg c]) (con (.bool (rightCfg c)))
  refine pureR (u := 80) (k := 20) mix TA2ok ?_
  refine Eq.mpr (r_cfg c _) ?_
  unfold rightCfg
  refine ⟨(1, 64, [c.ldq, c.sdq, c.aeq, c.abq, c.ebq, c.saq, c.flight, c.slip]), ⟨lqs_cons (.refl _) (lqs_cons (.refl _) (lqs_cons (lq_lit rfl fun _ i hi => ?_) lqs_nil))⟩, ⟨by show 8 ≤ 1000000; omega⟩, ?_⟩
  · match i, hi with
    | 0, _ => rfl
    | 1, _ => rfl
    | 2, _ => rfl
    | 3, _ => rfl
    | 4, _ => rfl
    | 5, _ => rfl
    | 6, _ => rfl
    | 7, _ => rfl
    | n + 8, h => omega
  intro y hy
  replace hy : y = withinF 1 64 [c.ldq, c.sdq, c.aeq, c.abq, c.ebq, c.saq, c.flight, c.slip] := hy
  rw [← hy]
  cases y with
  | false => exact .rfl
  | true =>
  refine ⟨(1, 16, [c.banks]), ⟨lqs_cons (.refl _) (lqs_cons (.refl _) (lqs_cons (lq_lit1 (.refl _)) lqs_nil))⟩, ⟨by show 1 ≤ 1000000; omega⟩, ?_⟩
  intro y hy
  replace hy : y = withinF 1 16 [c.banks] := hy
  rw [← hy]
  cases y with
  | false => exact .rfl
  | true =>
  refine ⟨(1, 1000, [c.lat]), ⟨lqs_cons (.refl _) (lqs_cons (.refl _) (lqs_cons (lq_lit1 (.refl _)) lqs_nil))⟩, ⟨by show 1 ≤ 1000000; omega⟩, ?_⟩
  intro y hy
  replace hy : y = withinF 1 1000 [c.lat] := hy
  rw [← hy]
  cases y with
  | false => exact .rfl
  | true =>
  refine ⟨(1, 50, [c.mul, c.div]), ⟨lqs_cons (.refl _) (lqs_cons (.refl _) (lqs_cons (lq_lit2 (.refl _) (.refl _)) lqs_nil))⟩, ⟨by show 2 ≤ 1000000; omega⟩, ?_⟩
  intro y hy
  replace hy : y = withinF 1 50 [c.mul, c.div] := hy
  subst hy
  exact .rfl
end Go.Proofs.Ythmlnmkbeohojaa

/- Abstract code of the functions of seq: printed by a program from what the given translation yields. -/
namespace Go.Proofs.Ythmlnmkbeohojaa
open Go.Ra
def c_seq_Memory : AC := (.seq (.ops [⟨(.some 1), (.box (.t 0)), .none⟩, ⟨(.some 2), (.mv (.c (.fro .true 0 []))), .none⟩]) (.seq (.ops [⟨(.some 4), (.fadr 1 1 1 (.t 1)), .none⟩, ⟨(.some 5), (.load .false 1 (.t 4)), .none⟩, ⟨(.some 6), (.mks 1 1 (.sc (.int .u8 0)) (.t 5)), .none⟩, ⟨(.some 3), (.mv (.t 6)), .none⟩]) (.seq (.ops [⟨(.some 7), (.mv (.t 3)), .none⟩, ⟨(.some 8), (.fadr 2 2 1 (.t 1)), .none⟩, ⟨(.some 9), (.load .false 1 (.t 8)), .none⟩, ⟨(.some 10), (.copy 1 (.t 7) (.t 9)), .none⟩]) (.seq (.ops [⟨(.some 11), (.mv (.t 3)), .none⟩, ⟨(.some 2), (.mv (.t 11)), .none⟩]) .ret))))
theorem t_seq_Memory : trF Try.prog qq 28 = some (12, [(.tmp 2)], c_seq_Memory) := by kernel_rfl
/-- The functions of seq. -/
def cl_seq : CodeL := [(28, 12, [(.tmp 2)], c_seq_Memory)]
theorem clok_seq : AllL (fun p => trF Try.prog qq p.1 = some p.2) cl_seq := ⟨t_seq_Memory, trivial⟩
end Go.Proofs.Ythmlnmkbeohojaa

/- Abstract code of the functions of image: printed by a program from what the given translation yields. -/
namespace Go.Proofs.Ythmlnmkbeohojaa
open Go.Ra
def c_image_Right : AC := (.seq (.ops [⟨(.some 1), (.box (.t 0)), .none⟩, ⟨(.some 2), (.mv (.c (.sc (.bool .false)))), .none⟩]) (.seq (.ops [⟨(.some 3), (.mv (.c (.clo 52 []))), .none⟩]) (.seq (.ops [⟨(.some 4), (.fadr 0 0 1 (.t 1)), .none⟩, ⟨(.some 5), (.load .false 1 (.t 4)), .none⟩, ⟨(.some 6), (.len .none (.t 5)), .none⟩, ⟨(.some 7), (.fadr 1 1 1 (.t 1)), .none⟩, ⟨(.some 8), (.load .false 1 (.t 7)), .none⟩, ⟨(.some 9), (.fadr 2 2 1 (.t 1)), .none⟩, ⟨(.some 10), (.load .false 1 (.t 9)), .none⟩, ⟨(.some 11), (.len .none (.t 10)), .none⟩, ⟨(.some 12), (.call 54 [(.t 6), (.t 8), (.t 11)]), .none⟩, ⟨(.some 13), (.mv (.t 12)), .none⟩, ⟨(.some 14), (.fadr 0 0 1 (.t 1)), (.some (13, .true))⟩, ⟨(.some 15), (.load .false 1 (.t 14)), (.some (13, .true))⟩, ⟨(.some 16), (.mv (.t 3)), (.some (13, .true))⟩, ⟨(.some 17), (.call 55 [(.t 15), (.t 16)]), (.some (13, .true))⟩, ⟨(.some 18), (.un .not (.t 17)), (.some (13, .true))⟩, ⟨(.some 19), (.pick (.t 13) (.t 18) (.c (.sc (.bool .false)))), .none⟩, ⟨(.some 20), (.mv (.t 19)), .none⟩, ⟨(.some 21), (.load .true 3 (.t 1)), (.some (20, .true))⟩, ⟨(.some 22), (.call 56 [(.t 21)]), (.some (20, .true))⟩, ⟨(.some 23), (.bin .eql (.t 22) (.c (.sc (.int .i64 0)))), (.some (20, .true))⟩, ⟨(.some 24), (.pick (.t 20) (.t 23) (.c (.sc (.bool .false)))), .none⟩, ⟨(.some 2), (.mv (.t 24)), .none⟩]) .ret)))
theorem t_image_Right : trF Try.prog qq 27 = some (25, [(.tmp 2)], c_image_Right) := by kernel_rfl
def c_image_Right_1 : AC := (.seq (.ops [⟨(.some 1), (.box (.t 0)), .none⟩, ⟨(.some 2), (.mv (.c (.sc (.bool .false)))), .none⟩]) (.seq (.ops [⟨(.some 3), (.load .true 5 (.t 1)), .none⟩, ⟨(.some 4), (.call 53 [(.t 3)]), .none⟩, ⟨(.some 5), (.un .not (.t 4)), .none⟩, ⟨(.some 2), (.mv (.t 5)), .none⟩]) .ret))
theorem t_image_Right_1 : trF Try.prog qq 52 = some (6, [(.tmp 2)], c_image_Right_1) := by kernel_rfl
def c_image_sizes : AC := (.seq (.ops [⟨(.some 6), (.mv (.c (.sc (.bool .false)))), .none⟩]) (.seq (.ops [⟨(.some 7), (.mv (.t 0)), .none⟩, ⟨(.some 8), (.bin .geq (.t 7) (.c (.sc (.int .i64 1)))), .none⟩, ⟨(.some 9), (.mv (.t 8)), .none⟩, ⟨(.some 10), (.mv (.t 0)), (.some (9, .true))⟩, ⟨(.some 11), (.bin .leq (.t 10) (.c (.sc (.int .i64 2000)))), (.some (9, .true))⟩, ⟨(.some 12), (.pick (.t 9) (.t 11) (.c (.sc (.bool .false)))), .none⟩, ⟨(.some 13), (.mv (.t 12)), .none⟩, ⟨(.some 14), (.mv (.t 1)), (.some (13, .true))⟩, ⟨(.some 15), (.bin .geq (.t 14) (.c (.sc (.int .i64 0)))), (.some (13, .true))⟩, ⟨(.some 16), (.pick (.t 13) (.t 15) (.c (.sc (.bool .false)))), .none⟩, ⟨(.some 17), (.mv (.t 16)), .none⟩, ⟨(.some 18), (.mv (.t 1)), (.some (17, .true))⟩, ⟨(.some 19), (.bin .leq (.t 18) (.c (.sc (.int .i64 65536)))), (.some (17, .true))⟩, ⟨(.some 20), (.pick (.t 17) (.t 19) (.c (.sc (.bool .false)))), .none⟩, ⟨(.some 21), (.mv (.t 20)), .none⟩, ⟨(.some 22), (.mv (.t 2)), (.some (21, .true))⟩, ⟨(.some 23), (.mv (.t 1)), (.some (21, .true))⟩, ⟨(.some 24), (.bin .leq (.t 22) (.t 23)), (.some (21, .true))⟩, ⟨(.some 25), (.pick (.t 21) (.t 24) (.c (.sc (.bool .false)))), .none⟩, ⟨(.some 6), (.mv (.t 25)), .none⟩]) .ret))
theorem t_image_sizes : trF Try.prog qq 54 = some (26, [(.tmp 6)], c_image_sizes) := by kernel_rfl
def c_image_Targets_l1 : AC := (.seq (.ops [⟨(.some 11), (.bin .lss (.t 10) (.t 9)), .none⟩]) (.seq (.cond (.t 11) .skip (.exit 0)) (.seq (.block 1 (.seq (.ops [⟨(.some 12), (.mv (.t 10)), .none⟩, ⟨(.some 13), (.iadr .none 5 (.t 8) (.t 10)), .none⟩, ⟨(.some 14), (.load .true 5 (.t 13)), .none⟩, ⟨(.some 4), (.box (.c (.agg 5 [(.sc (.int .i64 0)), (.sc (.int .i64 0)), (.sc (.int .i64 0)), (.sc (.int .i64 0)), (.sc (.int .i64 0))]))), .none⟩, ⟨(.some 3), (.mv (.t 12)), .none⟩, ⟨.none, (.store 5 (.t 4) (.t 14)), .none⟩]) (.seq (.ops [⟨(.some 16), (.load .true 3 (.t 1)), .none⟩, ⟨(.some 17), (.mv (.t 3)), .none⟩, ⟨(.some 18), (.call 79 [(.t 16), (.t 17)]), .none⟩, ⟨(.some 15), (.mv (.t 18)), .none⟩, ⟨(.some 19), (.ext (.t 15) 0), .none⟩, ⟨(.some 20), (.ext (.t 15) 1), .none⟩, ⟨(.some 5), (.mv (.t 19)), .none⟩, ⟨(.some 6), (.mv (.t 20)), .none⟩]) (.seq (.ops [⟨(.some 21), (.mv (.t 6)), .none⟩, ⟨(.some 22), (.mv (.t 21)), .none⟩, ⟨(.some 23), (.fadr 4 4 1 (.t 4)), (.some (22, .true))⟩, ⟨(.some 24), (.load .false 1 (.t 23)), (.some (22, .true))⟩, ⟨(.some 25), (.mv (.t 3)), (.some (22, .true))⟩, ⟨(.some 26), (.un .neg (.t 25)), (.some (22, .true))⟩, ⟨(.some 27), (.bin .lss (.t 24) (.t 26)), (.some (22, .true))⟩, ⟨(.some 28), (.mv (.t 27)), (.some (22, .true))⟩, ⟨(.some 29), (.fadr 4 4 1 (.t 4)), (.some (28, .false))⟩, ⟨(.some 30), (.load .false 1 (.t 29)), (.some (28, .false))⟩, ⟨(.some 31), (.fadr 0 0 1 (.t 1)), (.some (28, .false))⟩, ⟨(.some 32), (.load .false 1 (.t 31)), (.some (28, .false))⟩, ⟨(.some 33), (.len .none (.t 32)), (.some (28, .false))⟩, ⟨(.some 34), (.mv (.t 3)), (.some (28, .false))⟩, ⟨(.some 35), (.bin .sub (.t 33) (.t 34)), (.some (28, .false))⟩, ⟨(.some 36), (.bin .geq (.t 30) (.t 35)), (.some (28, .false))⟩, ⟨(.some 37), (.pick (.t 28) (.c (.sc (.bool .true))) (.t 36)), (.some (22, .true))⟩, ⟨(.some 38), (.pick (.t 22) (.t 37) (.c (.sc (.bool .false)))), .none⟩]) (.cond (.t 38) (.seq (.ops [⟨(.some 2), (.mv (.c (.sc (.int .i64 4)))), .none⟩]) .ret) .skip))))) (.ops [⟨(.some 39), (.bin .add (.t 10) (.c (.sc (.int .i64 1)))), .none⟩, ⟨(.some 10), (.mv (.t 39)), .none⟩]))))
def c_image_Targets_p1 : AC := (.seq (.ops [⟨(.some 2), (.mv (.c (.sc (.int .i64 0)))), .none⟩]) .ret)
def c_image_Targets : AC := (.seq (.ops [⟨(.some 1), (.box (.t 0)), .none⟩, ⟨(.some 2), (.mv (.c (.sc (.int .i64 0)))), .none⟩]) (.seq (.seq (.ops [⟨(.some 7), (.fadr 0 0 1 (.t 1)), .none⟩, ⟨(.some 8), (.load .false 1 (.t 7)), .none⟩, ⟨(.some 9), (.len .none (.t 8)), .none⟩, ⟨(.some 10), (.mv (.c (.sc (.int .i64 0)))), .none⟩]) (.block 0 (.loop c_image_Targets_l1))) c_image_Targets_p1))
theorem t_image_Targets : trF Try.prog qq 56 = some (40, [(.tmp 2)], c_image_Targets) := by kernel_rfl
def c_image_Target : AC := (.seq (.ops [⟨(.some 2), (.box (.t 0)), .none⟩, ⟨(.some 4), (.mv (.c (.sc (.int .i64 0)))), .none⟩, ⟨(.some 5), (.mv (.c (.sc (.bool .false)))), .none⟩]) (.seq (.ops [⟨(.some 7), (.fadr 0 0 1 (.t 2)), .none⟩, ⟨(.some 8), (.load .false 1 (.t 7)), .none⟩, ⟨(.some 9), (.mv (.t 1)), .none⟩, ⟨(.some 10), (.iadr .none 5 (.t 8) (.t 9)), .none⟩, ⟨(.some 11), (.fadr 0 0 1 (.t 10)), .none⟩, ⟨(.some 12), (.load .false 1 (.t 11)), .none⟩, ⟨(.some 13), (.call 72 [(.t 12)]), .none⟩, ⟨(.some 6), (.mv (.t 13)), .none⟩]) (.seq (.ops [⟨(.some 14), (.mv (.t 1)), .none⟩, ⟨(.some 15), (.fadr 0 0 1 (.t 2)), .none⟩, ⟨(.some 16), (.load .false 1 (.t 15)), .none⟩, ⟨(.some 17), (.mv (.t 1)), .none⟩, ⟨(.some 18), (.iadr .none 5 (.t 16) (.t 17)), .none⟩, ⟨(.some 19), (.fadr 4 4 1 (.t 18)), .none⟩, ⟨(.some 20), (.load .false 1 (.t 19)), .none⟩, ⟨(.some 21), (.bin .add (.t 14) (.t 20)), .none⟩, ⟨(.some 22), (.mv (.t 6)), .none⟩, ⟨(.some 23), (.bin .eql (.t 22) (.c (.sc (.int .i64 6)))), .none⟩, ⟨(.some 24), (.mv (.t 23)), .none⟩, ⟨(.some 25), (.mv (.t 6)), (.some (24, .false))⟩, ⟨(.some 26), (.bin .eql (.t 25) (.c (.sc (.int .i64 7)))), (.some (24, .false))⟩, ⟨(.some 27), (.pick (.t 24) (.c (.sc (.bool .true))) (.t 26)), .none⟩, ⟨(.some 4), (.mv (.t 21)), .none⟩, ⟨(.some 5), (.mv (.t 27)), .none⟩]) .ret)))
theorem t_image_Target : trF Try.prog qq 79 = some (28, [(.tmp 4), (.tmp 5)], c_image_Target) := by kernel_rfl
/-- The functions of image. -/
def cl_image : CodeL := [(27, 25, [(.tmp 2)], c_image_Right), (52, 6, [(.tmp 2)], c_image_Right_1), (54, 26, [(.tmp 6)], c_image_sizes), (56, 40, [(.tmp 2)], c_image_Targets), (79, 28, [(.tmp 4), (.tmp 5)], c_image_Target)]
theorem clok_image : AllL (fun p => trF Try.prog qq p.1 = some p.2) cl_image := ⟨t_image_Right, t_image_Right_1, t_image_sizes, t_image_Targets, t_image_Target, trivial⟩
end Go.Proofs.Ythmlnmkbeohojaa

/- Abstract code of the functions of isa: printed by a program from what the given translation yields. -/
namespace Go.Proofs.Ythmlnmkbeohojaa
open Go.Ra
def c_isa_Right : AC := (.seq (.ops [⟨(.some 1), (.box (.t 0)), .none⟩, ⟨(.some 2), (.mv (.c (.sc (.bool .false)))), .none⟩]) (.seq (.ops [⟨(.some 6), (.fadr 0 0 1 (.t 1)), .none⟩, ⟨(.some 7), (.load .false 1 (.t 6)), .none⟩, ⟨(.some 8), (.call 72 [(.t 7)]), .none⟩, ⟨(.some 3), (.mv (.t 8)), .none⟩]) (.seq (.ops [⟨(.some 4), (.mv (.c (.sc (.int .i64 (-8192))))), .none⟩, ⟨(.some 5), (.mv (.c (.sc (.int .i64 8191)))), .none⟩]) (.seq (.seq (.ops [⟨(.some 9), (.fadr 0 0 1 (.t 1)), .none⟩, ⟨(.some 10), (.load .false 1 (.t 9)), .none⟩, ⟨(.some 11), (.bin .eql (.t 10) (.c (.sc (.int .i64 22)))), .none⟩, ⟨(.some 12), (.mv (.t 11)), .none⟩, ⟨(.some 13), (.fadr 0 0 1 (.t 1)), (.some (12, .false))⟩, ⟨(.some 14), (.load .false 1 (.t 13)), (.some (12, .false))⟩, ⟨(.some 15), (.bin .eql (.t 14) (.c (.sc (.int .i64 23)))), (.some (12, .false))⟩, ⟨(.some 16), (.pick (.t 12) (.c (.sc (.bool .true))) (.t 15)), .none⟩, ⟨(.some 17), (.mv (.t 16)), .none⟩, ⟨(.some 18), (.fadr 0 0 1 (.t 1)), (.some (17, .false))⟩, ⟨(.some 19), (.load .false 1 (.t 18)), (.some (17, .false))⟩, ⟨(.some 20), (.bin .eql (.t 19) (.c (.sc (.int .i64 24)))), (.some (17, .false))⟩, ⟨(.some 21), (.pick (.t 17) (.c (.sc (.bool .true))) (.t 20)), .none⟩]) (.cond (.t 21) (.ops [⟨(.some 4), (.mv (.c (.sc (.int .i64 0)))), .none⟩, ⟨(.some 5), (.mv (.c (.sc (.int .i64 31)))), .none⟩]) .skip)) (.seq (.ops [⟨(.some 22), (.mv (.t 3)), .none⟩, ⟨(.some 23), (.bin .gtr (.t 22) (.c (.sc (.int .i64 0)))), .none⟩, ⟨(.some 24), (.mv (.t 23)), .none⟩, ⟨(.some 25), (.fadr 1 1 1 (.t 1)), (.some (24, .true))⟩, ⟨(.some 26), (.load .false 1 (.t 25)), (.some (24, .true))⟩, ⟨(.some 27), (.mv (.t 3)), (.some (24, .true))⟩, ⟨(.some 28), (.call 74 [(.t 27)]), (.some (24, .true))⟩, ⟨(.some 29), (.call 73 [(.t 26), (.t 28), (.c (.sc (.int .i64 0))), (.c (.sc (.int .i64 15)))]), (.some (24, .true))⟩, ⟨(.some 30), (.pick (.t 24) (.t 29) (.c (.sc (.bool .false)))), .none⟩, ⟨(.some 31), (.mv (.t 30)), .none⟩, ⟨(.some 32), (.fadr 2 2 1 (.t 1)), (.some (31, .true))⟩, ⟨(.some 33), (.load .false 1 (.t 32)), (.some (31, .true))⟩, ⟨(.some 34), (.mv (.t 3)), (.some (31, .true))⟩, ⟨(.some 35), (.call 75 [(.t 34)]), (.some (31, .true))⟩, ⟨(.some 36), (.call 73 [(.t 33), (.t 35), (.c (.sc (.int .i64 0))), (.c (.sc (.int .i64 15)))]), (.some (31, .true))⟩, ⟨(.some 37), (.pick (.t 31) (.t 36) (.c (.sc (.bool .false)))), .none⟩, ⟨(.some 38), (.mv (.t 37)), .none⟩, ⟨(.some 39), (.fadr 3 3 1 (.t 1)), (.some (38, .true))⟩, ⟨(.some 40), (.load .false 1 (.t 39)), (.some (38, .true))⟩, ⟨(.some 41), (.mv (.t 3)), (.some (38, .true))⟩, ⟨(.some 42), (.call 76 [(.t 41)]), (.some (38, .true))⟩, ⟨(.some 43), (.call 73 [(.t 40), (.t 42), (.c (.sc (.int .i64 0))), (.c (.sc (.int .i64 15)))]), (.some (38, .true))⟩, ⟨(.some 44), (.pick (.t 38) (.t 43) (.c (.sc (.bool .false)))), .none⟩, ⟨(.some 45), (.mv (.t 44)), .none⟩, ⟨(.some 46), (.fadr 4 4 1 (.t 1)), (.some (45, .true))⟩, ⟨(.some 47), (.load .false 1 (.t 46)), (.some (45, .true))⟩, ⟨(.some 48), (.mv (.t 3)), (.some (45, .true))⟩, ⟨(.some 49), (.call 77 [(.t 48)]), (.some (45, .true))⟩, ⟨(.some 50), (.mv (.t 4)), (.some (45, .true))⟩, ⟨(.some 51), (.mv (.t 5)), (.some (45, .true))⟩, ⟨(.some 52), (.call 73 [(.t 47), (.t 49), (.t 50), (.t 51)]), (.some (45, .true))⟩, ⟨(.some 53), (.pick (.t 45) (.t 52) (.c (.sc (.bool .false)))), .none⟩, ⟨(.some 2), (.mv (.t 53)), .none⟩]) .ret)))))
theorem t_isa_Right : trF Try.prog qq 53 = some (54, [(.tmp 2)], c_isa_Right) := by kernel_rfl
def c_isa_Form : AC := (.seq (.ops [⟨(.some 2), (.mv (.c (.sc (.int .i64 0)))), .none⟩]) (.seq (.block 0 (.seq (.ops [⟨(.some 4), (.mv (.t 0)), .none⟩, ⟨(.some 5), (.bin .lss (.t 4) (.c (.sc (.int .i64 1)))), .none⟩, ⟨(.some 6), (.mv (.t 5)), .none⟩, ⟨(.some 7), (.mv (.t 0)), (.some (6, .false))⟩, ⟨(.some 8), (.bin .gtr (.t 7) (.c (.sc (.int .i64 41)))), (.some (6, .false))⟩, ⟨(.some 9), (.pick (.t 6) (.c (.sc (.bool .true))) (.t 8)), .none⟩, ⟨(.some 3), (.mv (.t 9)), .none⟩]) (.cond (.t 3) (.seq (.ops [⟨(.some 2), (.mv (.c (.sc (.int .i64 0)))), .none⟩]) .ret) (.seq (.ops [⟨(.some 11), (.mv (.t 0)), .none⟩, ⟨(.some 12), (.bin .leq (.t 11) (.c (.sc (.int .i64 16)))), .none⟩, ⟨(.some 10), (.mv (.t 12)), .none⟩]) (.cond (.t 10) (.seq (.ops [⟨(.some 2), (.mv (.c (.sc (.int .i64 1)))), .none⟩]) .ret) (.seq (.ops [⟨(.some 14), (.mv (.t 0)), .none⟩, ⟨(.some 15), (.bin .leq (.t 14) (.c (.sc (.int .i64 24)))), .none⟩, ⟨(.some 13), (.mv (.t 15)), .none⟩]) (.cond (.t 13) (.seq (.ops [⟨(.some 2), (.mv (.c (.sc (.int .i64 2)))), .none⟩]) .ret) (.seq (.ops [⟨(.some 17), (.mv (.t 0)), .none⟩, ⟨(.some 18), (.bin .eql (.t 17) (.c (.sc (.int .i64 25)))), .none⟩, ⟨(.some 16), (.mv (.t 18)), .none⟩]) (.cond (.t 16) (.seq (.ops [⟨(.some 2), (.mv (.c (.sc (.int .i64 3)))), .none⟩]) .ret) (.seq (.ops [⟨(.some 20), (.mv (.t 0)), .none⟩, ⟨(.some 21), (.bin .leq (.t 20) (.c (.sc (.int .i64 30)))), .none⟩, ⟨(.some 19), (.mv (.t 21)), .none⟩]) (.cond (.t 19) (.seq (.ops [⟨(.some 2), (.mv (.c (.sc (.int .i64 4)))), .none⟩]) .ret) (.seq (.ops [⟨(.some 23), (.mv (.t 0)), .none⟩, ⟨(.some 24), (.bin .leq (.t 23) (.c (.sc (.int .i64 33)))), .none⟩, ⟨(.some 22), (.mv (.t 24)), .none⟩]) (.cond (.t 22) (.seq (.ops [⟨(.some 2), (.mv (.c (.sc (.int .i64 5)))), .none⟩]) .ret) (.seq (.ops [⟨(.some 26), (.mv (.t 0)), .none⟩, ⟨(.some 27), (.bin .leq (.t 26) (.c (.sc (.int .i64 39)))), .none⟩, ⟨(.some 25), (.mv (.t 27)), .none⟩]) (.cond (.t 25) (.seq (.ops [⟨(.some 2), (.mv (.c (.sc (.int .i64 6)))), .none⟩]) .ret) (.seq (.ops [⟨(.some 29), (.mv (.t 0)), .none⟩, ⟨(.some 30), (.bin .eql (.t 29) (.c (.sc (.int .i64 40)))), .none⟩, ⟨(.some 28), (.mv (.t 30)), .none⟩]) (.cond (.t 28) (.seq (.ops [⟨(.some 2), (.mv (.c (.sc (.int .i64 7)))), .none⟩]) .ret) .skip))))))))))))))))) (.seq (.ops [⟨(.some 2), (.mv (.c (.sc (.int .i64 8)))), .none⟩]) .ret)))
theorem t_isa_Form : trF Try.prog qq 72 = some (31, [(.tmp 2)], c_isa_Form) := by kernel_rfl
def c_isa_within : AC := (.seq (.ops [⟨(.some 8), (.mv (.c (.sc (.bool .false)))), .none⟩]) (.seq (.seq (.ops [⟨(.some 9), (.mv (.t 1)), .none⟩, ⟨(.some 10), (.un .not (.t 9)), .none⟩]) (.cond (.t 10) (.seq (.ops [⟨(.some 11), (.mv (.t 0)), .none⟩, ⟨(.some 12), (.bin .eql (.t 11) (.c (.sc (.int .i64 0)))), .none⟩, ⟨(.some 8), (.mv (.t 12)), .none⟩]) .ret) .skip)) (.seq (.ops [⟨(.some 13), (.mv (.t 0)), .none⟩, ⟨(.some 14), (.mv (.t 2)), .none⟩, ⟨(.some 15), (.bin .geq (.t 13) (.t 14)), .none⟩, ⟨(.some 16), (.mv (.t 15)), .none⟩, ⟨(.some 17), (.mv (.t 0)), (.some (16, .true))⟩, ⟨(.some 18), (.mv (.t 3)), (.some (16, .true))⟩, ⟨(.some 19), (.bin .leq (.t 17) (.t 18)), (.some (16, .true))⟩, ⟨(.some 20), (.pick (.t 16) (.t 19) (.c (.sc (.bool .false)))), .none⟩, ⟨(.some 8), (.mv (.t 20)), .none⟩]) .ret)))
theorem t_isa_within : trF Try.prog qq 73 = some (21, [(.tmp 8)], c_isa_within) := by kernel_rfl
def c_isa_HasD : AC := (.seq (.ops [⟨(.some 2), (.mv (.c (.sc (.bool .false)))), .none⟩]) (.seq (.ops [⟨(.some 3), (.mv (.t 0)), .none⟩, ⟨(.some 4), (.bin .geq (.t 3) (.c (.sc (.int .i64 1)))), .none⟩, ⟨(.some 5), (.mv (.t 4)), .none⟩, ⟨(.some 6), (.mv (.t 0)), (.some (5, .true))⟩, ⟨(.some 7), (.bin .leq (.t 6) (.c (.sc (.int .i64 4)))), (.some (5, .true))⟩, ⟨(.some 8), (.pick (.t 5) (.t 7) (.c (.sc (.bool .false)))), .none⟩, ⟨(.some 2), (.mv (.t 8)), .none⟩]) .ret))
theorem t_isa_HasD : trF Try.prog qq 74 = some (9, [(.tmp 2)], c_isa_HasD) := by kernel_rfl
def c_isa_HasA : AC := (.seq (.ops [⟨(.some 2), (.mv (.c (.sc (.bool .false)))), .none⟩]) (.seq (.ops [⟨(.some 3), (.mv (.t 0)), .none⟩, ⟨(.some 4), (.bin .eql (.t 3) (.c (.sc (.int .i64 1)))), .none⟩, ⟨(.some 5), (.mv (.t 4)), .none⟩, ⟨(.some 6), (.mv (.t 0)), (.some (5, .false))⟩, ⟨(.some 7), (.bin .eql (.t 6) (.c (.sc (.int .i64 2)))), (.some (5, .false))⟩, ⟨(.some 8), (.pick (.t 5) (.c (.sc (.bool .true))) (.t 7)), .none⟩, ⟨(.some 9), (.mv (.t 8)), .none⟩, ⟨(.some 10), (.mv (.t 0)), (.some (9, .false))⟩, ⟨(.some 11), (.bin .eql (.t 10) (.c (.sc (.int .i64 4)))), (.some (9, .false))⟩, ⟨(.some 12), (.pick (.t 9) (.c (.sc (.bool .true))) (.t 11)), .none⟩, ⟨(.some 13), (.mv (.t 12)), .none⟩, ⟨(.some 14), (.mv (.t 0)), (.some (13, .false))⟩, ⟨(.some 15), (.bin .eql (.t 14) (.c (.sc (.int .i64 5)))), (.some (13, .false))⟩, ⟨(.some 16), (.pick (.t 13) (.c (.sc (.bool .true))) (.t 15)), .none⟩, ⟨(.some 17), (.mv (.t 16)), .none⟩, ⟨(.some 18), (.mv (.t 0)), (.some (17, .false))⟩, ⟨(.some 19), (.bin .eql (.t 18) (.c (.sc (.int .i64 6)))), (.some (17, .false))⟩, ⟨(.some 20), (.pick (.t 17) (.c (.sc (.bool .true))) (.t 19)), .none⟩, ⟨(.some 2), (.mv (.t 20)), .none⟩]) .ret))
theorem t_isa_HasA : trF Try.prog qq 75 = some (21, [(.tmp 2)], c_isa_HasA) := by kernel_rfl
def c_isa_HasB : AC := (.seq (.ops [⟨(.some 2), (.mv (.c (.sc (.bool .false)))), .none⟩]) (.seq (.ops [⟨(.some 3), (.mv (.t 0)), .none⟩, ⟨(.some 4), (.bin .eql (.t 3) (.c (.sc (.int .i64 1)))), .none⟩, ⟨(.some 5), (.mv (.t 4)), .none⟩, ⟨(.some 6), (.mv (.t 0)), (.some (5, .false))⟩, ⟨(.some 7), (.bin .eql (.t 6) (.c (.sc (.int .i64 5)))), (.some (5, .false))⟩, ⟨(.some 8), (.pick (.t 5) (.c (.sc (.bool .true))) (.t 7)), .none⟩, ⟨(.some 9), (.mv (.t 8)), .none⟩, ⟨(.some 10), (.mv (.t 0)), (.some (9, .false))⟩, ⟨(.some 11), (.bin .eql (.t 10) (.c (.sc (.int .i64 6)))), (.some (9, .false))⟩, ⟨(.some 12), (.pick (.t 9) (.c (.sc (.bool .true))) (.t 11)), .none⟩, ⟨(.some 2), (.mv (.t 12)), .none⟩]) .ret))
theorem t_isa_HasB : trF Try.prog qq 76 = some (13, [(.tmp 2)], c_isa_HasB) := by kernel_rfl
def c_isa_HasImm : AC := (.seq (.ops [⟨(.some 2), (.mv (.c (.sc (.bool .false)))), .none⟩]) (.seq (.ops [⟨(.some 3), (.mv (.t 0)), .none⟩, ⟨(.some 4), (.bin .geq (.t 3) (.c (.sc (.int .i64 2)))), .none⟩, ⟨(.some 5), (.mv (.t 4)), .none⟩, ⟨(.some 6), (.mv (.t 0)), (.some (5, .true))⟩, ⟨(.some 7), (.bin .leq (.t 6) (.c (.sc (.int .i64 7)))), (.some (5, .true))⟩, ⟨(.some 8), (.pick (.t 5) (.t 7) (.c (.sc (.bool .false)))), .none⟩, ⟨(.some 2), (.mv (.t 8)), .none⟩]) .ret))
theorem t_isa_HasImm : trF Try.prog qq 77 = some (9, [(.tmp 2)], c_isa_HasImm) := by kernel_rfl
/-- The functions of isa. -/
def cl_isa : CodeL := [(53, 54, [(.tmp 2)], c_isa_Right), (72, 31, [(.tmp 2)], c_isa_Form), (73, 21, [(.tmp 8)], c_isa_within), (74, 9, [(.tmp 2)], c_isa_HasD), (75, 21, [(.tmp 2)], c_isa_HasA), (76, 13, [(.tmp 2)], c_isa_HasB), (77, 9, [(.tmp 2)], c_isa_HasImm)]
theorem clok_isa : AllL (fun p => trF Try.prog qq p.1 = some p.2) cl_isa := ⟨t_isa_Right, t_isa_Form, t_isa_within, t_isa_HasD, t_isa_HasA, t_isa_HasB, t_isa_HasImm, trivial⟩
end Go.Proofs.Ythmlnmkbeohojaa

/- Abstract code of the functions of ref1: printed by a program from what the given translation yields. -/
namespace Go.Proofs.Ythmlnmkbeohojaa
open Go.Ra
def c_ref1_First : AC := (.seq (.ops [⟨(.some 1), (.box (.t 0)), .none⟩, ⟨(.some 2), (.mv (.c (.fro .true 0 []))), .none⟩]) (.seq (.ops [⟨(.some 4), (.fadr 1 1 1 (.t 1)), .none⟩, ⟨(.some 5), (.load .false 1 (.t 4)), .none⟩, ⟨(.some 6), (.mks 1 1 (.sc (.int .u8 0)) (.t 5)), .none⟩, ⟨(.some 3), (.mv (.t 6)), .none⟩]) (.seq (.ops [⟨(.some 7), (.mv (.t 3)), .none⟩, ⟨(.some 8), (.fadr 2 2 1 (.t 1)), .none⟩, ⟨(.some 9), (.load .false 1 (.t 8)), .none⟩, ⟨(.some 10), (.copy 1 (.t 7) (.t 9)), .none⟩]) (.seq (.ops [⟨(.some 11), (.mv (.t 3)), .none⟩, ⟨(.some 2), (.mv (.t 11)), .none⟩]) .ret))))
theorem t_ref1_First : trF Try.prog qq 20 = some (12, [(.tmp 2)], c_ref1_First) := by kernel_rfl
def c_ref1_RightProgram_l1 : AC := (.seq (.seq (.ops [⟨(.some 32), (.mv (.t 3)), .none⟩, ⟨(.some 33), (.fadr 0 0 1 (.t 1)), .none⟩, ⟨(.some 34), (.load .false 1 (.t 33)), .none⟩, ⟨(.some 35), (.len .none (.t 34)), .none⟩, ⟨(.some 36), (.bin .lss (.t 32) (.t 35)), .none⟩]) (.cond (.t 36) .skip (.exit 0))) (.seq (.block 1 (.seq (.ops [⟨(.some 39), (.fadr 0 0 1 (.t 1)), .none⟩, ⟨(.some 40), (.load .false 1 (.t 39)), .none⟩, ⟨(.some 41), (.mv (.t 3)), .none⟩, ⟨(.some 42), (.iadr .none 5 (.t 40) (.t 41)), .none⟩, ⟨(.some 43), (.load .true 5 (.t 42)), .none⟩, ⟨(.some 44), (.call 57 [(.t 43)]), .none⟩, ⟨(.some 45), (.un .not (.t 44)), .none⟩]) (.cond (.t 45) (.seq (.ops [⟨(.some 2), (.mv (.c (.sc (.bool .false)))), .none⟩]) .ret) .skip))) (.ops [⟨(.some 37), (.mv (.t 3)), .none⟩, ⟨(.some 38), (.bin .add (.t 37) (.c (.sc (.int .i64 1)))), .none⟩, ⟨(.some 3), (.mv (.t 38)), .none⟩])))
def c_ref1_RightProgram_p1 : AC := (.seq (.ops [⟨(.some 46), (.load .true 3 (.t 1)), .none⟩, ⟨(.some 47), (.call 58 [(.t 46)]), .none⟩, ⟨(.some 48), (.bin .eql (.t 47) (.c (.sc (.int .i64 0)))), .none⟩, ⟨(.some 2), (.mv (.t 48)), .none⟩]) .ret)
def c_ref1_RightProgram : AC := (.seq (.ops [⟨(.some 1), (.box (.t 0)), .none⟩, ⟨(.some 2), (.mv (.c (.sc (.bool .false)))), .none⟩]) (.seq (.seq (.ops [⟨(.some 4), (.fadr 0 0 1 (.t 1)), .none⟩, ⟨(.some 5), (.load .false 1 (.t 4)), .none⟩, ⟨(.some 6), (.len .none (.t 5)), .none⟩, ⟨(.some 7), (.bin .lss (.t 6) (.c (.sc (.int .i64 1)))), .none⟩, ⟨(.some 8), (.mv (.t 7)), .none⟩, ⟨(.some 9), (.fadr 0 0 1 (.t 1)), (.some (8, .false))⟩, ⟨(.some 10), (.load .false 1 (.t 9)), (.some (8, .false))⟩, ⟨(.some 11), (.len .none (.t 10)), (.some (8, .false))⟩, ⟨(.some 12), (.bin .gtr (.t 11) (.c (.sc (.int .i64 2000)))), (.some (8, .false))⟩, ⟨(.some 13), (.pick (.t 8) (.c (.sc (.bool .true))) (.t 12)), .none⟩, ⟨(.some 14), (.mv (.t 13)), .none⟩, ⟨(.some 15), (.fadr 1 1 1 (.t 1)), (.some (14, .false))⟩, ⟨(.some 16), (.load .false 1 (.t 15)), (.some (14, .false))⟩, ⟨(.some 17), (.bin .lss (.t 16) (.c (.sc (.int .i64 0)))), (.some (14, .false))⟩, ⟨(.some 18), (.pick (.t 14) (.c (.sc (.bool .true))) (.t 17)), .none⟩, ⟨(.some 19), (.mv (.t 18)), .none⟩, ⟨(.some 20), (.fadr 1 1 1 (.t 1)), (.some (19, .false))⟩, ⟨(.some 21), (.load .false 1 (.t 20)), (.some (19, .false))⟩, ⟨(.some 22), (.bin .gtr (.t 21) (.c (.sc (.int .i64 65536)))), (.some (19, .false))⟩, ⟨(.some 23), (.pick (.t 19) (.c (.sc (.bool .true))) (.t 22)), .none⟩, ⟨(.some 24), (.mv (.t 23)), .none⟩, ⟨(.some 25), (.fadr 2 2 1 (.t 1)), (.some (24, .false))⟩, ⟨(.some 26), (.load .false 1 (.t 25)), (.some (24, .false))⟩, ⟨(.some 27), (.len .none (.t 26)), (.some (24, .false))⟩, ⟨(.some 28), (.fadr 1 1 1 (.t 1)), (.some (24, .false))⟩, ⟨(.some 29), (.load .false 1 (.t 28)), (.some (24, .false))⟩, ⟨(.some 30), (.bin .gtr (.t 27) (.t 29)), (.some (24, .false))⟩, ⟨(.some 31), (.pick (.t 24) (.c (.sc (.bool .true))) (.t 30)), .none⟩]) (.cond (.t 31) (.seq (.ops [⟨(.some 2), (.mv (.c (.sc (.bool .false)))), .none⟩]) .ret) .skip)) (.seq (.seq (.ops [⟨(.some 3), (.mv (.c (.sc (.int .i64 0)))), .none⟩]) (.block 0 (.loop c_ref1_RightProgram_l1))) c_ref1_RightProgram_p1)))
theorem t_ref1_RightProgram : trF Try.prog qq 29 = some (49, [(.tmp 2)], c_ref1_RightProgram) := by kernel_rfl
def c_ref1_RightIns : AC := (.seq (.ops [⟨(.some 1), (.box (.t 0)), .none⟩, ⟨(.some 2), (.mv (.c (.sc (.bool .false)))), .none⟩]) (.seq (.ops [⟨(.some 8), (.fadr 0 0 1 (.t 1)), .none⟩, ⟨(.some 9), (.load .false 1 (.t 8)), .none⟩, ⟨(.some 10), (.call 65 [(.t 9)]), .none⟩, ⟨(.some 3), (.mv (.t 10)), .none⟩]) (.seq (.ops [⟨(.some 12), (.mv (.t 3)), .none⟩, ⟨(.some 13), (.call 80 [(.t 12)]), .none⟩, ⟨(.some 11), (.mv (.t 13)), .none⟩, ⟨(.some 14), (.ext (.t 11) 0), .none⟩, ⟨(.some 15), (.ext (.t 11) 1), .none⟩, ⟨(.some 16), (.ext (.t 11) 2), .none⟩, ⟨(.some 17), (.ext (.t 11) 3), .none⟩, ⟨(.some 4), (.mv (.t 14)), .none⟩, ⟨(.some 5), (.mv (.t 15)), .none⟩, ⟨(.some 6), (.mv (.t 16)), .none⟩, ⟨(.some 7), (.mv (.t 17)), .none⟩]) (.seq (.seq (.ops [⟨(.some 18), (.mv (.t 3)), .none⟩, ⟨(.some 19), (.bin .eql (.t 18) (.c (.sc (.int .i64 0)))), .none⟩, ⟨(.some 20), (.mv (.t 19)), .none⟩, ⟨(.some 21), (.fadr 1 1 1 (.t 1)), (.some (20, .false))⟩, ⟨(.some 22), (.load .false 1 (.t 21)), (.some (20, .false))⟩, ⟨(.some 23), (.mv (.t 4)), (.some (20, .false))⟩, ⟨(.some 24), (.call 81 [(.t 22), (.t 23)]), (.some (20, .false))⟩, ⟨(.some 25), (.un .not (.t 24)), (.some (20, .false))⟩, ⟨(.some 26), (.pick (.t 20) (.c (.sc (.bool .true))) (.t 25)), .none⟩, ⟨(.some 27), (.mv (.t 26)), .none⟩, ⟨(.some 28), (.fadr 2 2 1 (.t 1)), (.some (27, .false))⟩, ⟨(.some 29), (.load .false 1 (.t 28)), (.some (27, .false))⟩, ⟨(.some 30), (.mv (.t 5)), (.some (27, .false))⟩, ⟨(.some 31), (.call 81 [(.t 29), (.t 30)]), (.some (27, .false))⟩, ⟨(.some 32), (.un .not (.t 31)), (.some (27, .false))⟩, ⟨(.some 33), (.pick (.t 27) (.c (.sc (.bool .true))) (.t 32)), .none⟩, ⟨(.some 34), (.mv (.t 33)), .none⟩, ⟨(.some 35), (.fadr 3 3 1 (.t 1)), (.some (34, .false))⟩, ⟨(.some 36), (.load .false 1 (.t 35)), (.some (34, .false))⟩, ⟨(.some 37), (.mv (.t 6)), (.some (34, .false))⟩, ⟨(.some 38), (.call 81 [(.t 36), (.t 37)]), (.some (34, .false))⟩, ⟨(.some 39), (.un .not (.t 38)), (.some (34, .false))⟩, ⟨(.some 40), (.pick (.t 34) (.c (.sc (.bool .true))) (.t 39)), .none⟩, ⟨(.some 41), (.mv (.t 40)), .none⟩, ⟨(.some 42), (.mv (.t 7)), (.some (41, .false))⟩, ⟨(.some 43), (.un .not (.t 42)), (.some (41, .false))⟩, ⟨(.some 44), (.mv (.t 43)), (.some (41, .false))⟩, ⟨(.some 45), (.fadr 4 4 1 (.t 1)), (.some (44, .true))⟩, ⟨(.some 46), (.load .false 1 (.t 45)), (.some (44, .true))⟩, ⟨(.some 47), (.bin .neq (.t 46) (.c (.sc (.int .i64 0)))), (.some (44, .true))⟩, ⟨(.some 48), (.pick (.t 44) (.t 47) (.c (.sc (.bool .false)))), (.some (41, .false))⟩, ⟨(.some 49), (.pick (.t 41) (.c (.sc (.bool .true))) (.t 48)), .none⟩]) (.cond (.t 49) (.seq (.ops [⟨(.some 2), (.mv (.c (.sc (.bool .false)))), .none⟩]) .ret) .skip)) (.seq (.seq (.ops [⟨(.some 50), (.fadr 0 0 1 (.t 1)), .none⟩, ⟨(.some 51), (.load .false 1 (.t 50)), .none⟩, ⟨(.some 52), (.bin .eql (.t 51) (.c (.sc (.int .i64 22)))), .none⟩, ⟨(.some 53), (.mv (.t 52)), .none⟩, ⟨(.some 54), (.fadr 0 0 1 (.t 1)), (.some (53, .false))⟩, ⟨(.some 55), (.load .false 1 (.t 54)), (.some (53, .false))⟩, ⟨(.some 56), (.bin .eql (.t 55) (.c (.sc (.int .i64 23)))), (.some (53, .false))⟩, ⟨(.some 57), (.pick (.t 53) (.c (.sc (.bool .true))) (.t 56)), .none⟩, ⟨(.some 58), (.mv (.t 57)), .none⟩, ⟨(.some 59), (.fadr 0 0 1 (.t 1)), (.some (58, .false))⟩, ⟨(.some 60), (.load .false 1 (.t 59)), (.some (58, .false))⟩, ⟨(.some 61), (.bin .eql (.t 60) (.c (.sc (.int .i64 24)))), (.some (58, .false))⟩, ⟨(.some 62), (.pick (.t 58) (.c (.sc (.bool .true))) (.t 61)), .none⟩]) (.cond (.t 62) (.seq (.ops [⟨(.some 63), (.fadr 4 4 1 (.t 1)), .none⟩, ⟨(.some 64), (.load .false 1 (.t 63)), .none⟩, ⟨(.some 65), (.bin .geq (.t 64) (.c (.sc (.int .i64 0)))), .none⟩, ⟨(.some 66), (.mv (.t 65)), .none⟩, ⟨(.some 67), (.fadr 4 4 1 (.t 1)), (.some (66, .true))⟩, ⟨(.some 68), (.load .false 1 (.t 67)), (.some (66, .true))⟩, ⟨(.some 69), (.bin .leq (.t 68) (.c (.sc (.int .i64 31)))), (.some (66, .true))⟩, ⟨(.some 70), (.pick (.t 66) (.t 69) (.c (.sc (.bool .false)))), .none⟩, ⟨(.some 2), (.mv (.t 70)), .none⟩]) .ret) .skip)) (.seq (.ops [⟨(.some 71), (.fadr 4 4 1 (.t 1)), .none⟩, ⟨(.some 72), (.load .false 1 (.t 71)), .none⟩, ⟨(.some 73), (.bin .geq (.t 72) (.c (.sc (.int .i64 (-8192))))), .none⟩, ⟨(.some 74), (.mv (.t 73)), .none⟩, ⟨(.some 75), (.fadr 4 4 1 (.t 1)), (.some (74, .true))⟩, ⟨(.some 76), (.load .false 1 (.t 75)), (.some (74, .true))⟩, ⟨(.some 77), (.bin .leq (.t 76) (.c (.sc (.int .i64 8191)))), (.some (74, .true))⟩, ⟨(.some 78), (.pick (.t 74) (.t 77) (.c (.sc (.bool .false)))), .none⟩, ⟨(.some 2), (.mv (.t 78)), .none⟩]) .ret))))))
theorem t_ref1_RightIns : trF Try.prog qq 57 = some (79, [(.tmp 2)], c_ref1_RightIns) := by kernel_rfl
def c_ref1_Targets_l1 : AC := (.seq (.seq (.ops [⟨(.some 5), (.mv (.t 3)), .none⟩, ⟨(.some 6), (.fadr 0 0 1 (.t 1)), .none⟩, ⟨(.some 7), (.load .false 1 (.t 6)), .none⟩, ⟨(.some 8), (.len .none (.t 7)), .none⟩, ⟨(.some 9), (.bin .lss (.t 5) (.t 8)), .none⟩]) (.cond (.t 9) .skip (.exit 0))) (.seq (.block 1 (.seq (.ops [⟨(.some 12), (.fadr 0 0 1 (.t 1)), .none⟩, ⟨(.some 13), (.load .false 1 (.t 12)), .none⟩, ⟨(.some 14), (.mv (.t 3)), .none⟩, ⟨(.some 15), (.iadr .none 5 (.t 13) (.t 14)), .none⟩, ⟨(.some 16), (.fadr 0 0 1 (.t 15)), .none⟩, ⟨(.some 17), (.load .false 1 (.t 16)), .none⟩, ⟨(.some 18), (.call 65 [(.t 17)]), .none⟩, ⟨(.some 4), (.mv (.t 18)), .none⟩]) (.seq (.ops [⟨(.some 19), (.mv (.t 4)), .none⟩, ⟨(.some 20), (.bin .eql (.t 19) (.c (.sc (.int .i64 6)))), .none⟩, ⟨(.some 21), (.mv (.t 20)), .none⟩, ⟨(.some 22), (.mv (.t 4)), (.some (21, .false))⟩, ⟨(.some 23), (.bin .eql (.t 22) (.c (.sc (.int .i64 7)))), (.some (21, .false))⟩, ⟨(.some 24), (.pick (.t 21) (.c (.sc (.bool .true))) (.t 23)), .none⟩, ⟨(.some 25), (.mv (.t 24)), .none⟩, ⟨(.some 26), (.load .true 3 (.t 1)), (.some (25, .true))⟩, ⟨(.some 27), (.mv (.t 3)), (.some (25, .true))⟩, ⟨(.some 28), (.call 82 [(.t 26), (.t 27)]), (.some (25, .true))⟩, ⟨(.some 29), (.bin .lss (.t 28) (.c (.sc (.int .i64 0)))), (.some (25, .true))⟩, ⟨(.some 30), (.pick (.t 25) (.t 29) (.c (.sc (.bool .false)))), .none⟩]) (.cond (.t 30) (.seq (.ops [⟨(.some 2), (.mv (.c (.sc (.int .i64 4)))), .none⟩]) .ret) .skip)))) (.ops [⟨(.some 10), (.mv (.t 3)), .none⟩, ⟨(.some 11), (.bin .add (.t 10) (.c (.sc (.int .i64 1)))), .none⟩, ⟨(.some 3), (.mv (.t 11)), .none⟩])))
def c_ref1_Targets_p1 : AC := (.seq (.ops [⟨(.some 2), (.mv (.c (.sc (.int .i64 0)))), .none⟩]) .ret)
def c_ref1_Targets : AC := (.seq (.ops [⟨(.some 1), (.box (.t 0)), .none⟩, ⟨(.some 2), (.mv (.c (.sc (.int .i64 0)))), .none⟩]) (.seq (.seq (.ops [⟨(.some 3), (.mv (.c (.sc (.int .i64 0)))), .none⟩]) (.block 0 (.loop c_ref1_Targets_l1))) c_ref1_Targets_p1))
theorem t_ref1_Targets : trF Try.prog qq 58 = some (31, [(.tmp 2)], c_ref1_Targets) := by kernel_rfl
def c_ref1_Form : AC := (.seq (.ops [⟨(.some 2), (.mv (.c (.sc (.int .i64 0)))), .none⟩]) (.seq (.block 0 (.seq (.ops [⟨(.some 4), (.mv (.t 0)), .none⟩, ⟨(.some 5), (.bin .lss (.t 4) (.c (.sc (.int .i64 1)))), .none⟩, ⟨(.some 6), (.mv (.t 5)), .none⟩, ⟨(.some 7), (.mv (.t 0)), (.some (6, .false))⟩, ⟨(.some 8), (.bin .gtr (.t 7) (.c (.sc (.int .i64 41)))), (.some (6, .false))⟩, ⟨(.some 9), (.pick (.t 6) (.c (.sc (.bool .true))) (.t 8)), .none⟩, ⟨(.some 3), (.mv (.t 9)), .none⟩]) (.cond (.t 3) (.seq (.ops [⟨(.some 2), (.mv (.c (.sc (.int .i64 0)))), .none⟩]) .ret) (.seq (.ops [⟨(.some 11), (.mv (.t 0)), .none⟩, ⟨(.some 12), (.bin .leq (.t 11) (.c (.sc (.int .i64 16)))), .none⟩, ⟨(.some 10), (.mv (.t 12)), .none⟩]) (.cond (.t 10) (.seq (.ops [⟨(.some 2), (.mv (.c (.sc (.int .i64 1)))), .none⟩]) .ret) (.seq (.ops [⟨(.some 14), (.mv (.t 0)), .none⟩, ⟨(.some 15), (.bin .leq (.t 14) (.c (.sc (.int .i64 24)))), .none⟩, ⟨(.some 13), (.mv (.t 15)), .none⟩]) (.cond (.t 13) (.seq (.ops [⟨(.some 2), (.mv (.c (.sc (.int .i64 2)))), .none⟩]) .ret) (.seq (.ops [⟨(.some 17), (.mv (.t 0)), .none⟩, ⟨(.some 18), (.bin .eql (.t 17) (.c (.sc (.int .i64 25)))), .none⟩, ⟨(.some 16), (.mv (.t 18)), .none⟩]) (.cond (.t 16) (.seq (.ops [⟨(.some 2), (.mv (.c (.sc (.int .i64 3)))), .none⟩]) .ret) (.seq (.ops [⟨(.some 20), (.mv (.t 0)), .none⟩, ⟨(.some 21), (.bin .leq (.t 20) (.c (.sc (.int .i64 30)))), .none⟩, ⟨(.some 19), (.mv (.t 21)), .none⟩]) (.cond (.t 19) (.seq (.ops [⟨(.some 2), (.mv (.c (.sc (.int .i64 4)))), .none⟩]) .ret) (.seq (.ops [⟨(.some 23), (.mv (.t 0)), .none⟩, ⟨(.some 24), (.bin .leq (.t 23) (.c (.sc (.int .i64 33)))), .none⟩, ⟨(.some 22), (.mv (.t 24)), .none⟩]) (.cond (.t 22) (.seq (.ops [⟨(.some 2), (.mv (.c (.sc (.int .i64 5)))), .none⟩]) .ret) (.seq (.ops [⟨(.some 26), (.mv (.t 0)), .none⟩, ⟨(.some 27), (.bin .leq (.t 26) (.c (.sc (.int .i64 39)))), .none⟩, ⟨(.some 25), (.mv (.t 27)), .none⟩]) (.cond (.t 25) (.seq (.ops [⟨(.some 2), (.mv (.c (.sc (.int .i64 6)))), .none⟩]) .ret) (.seq (.ops [⟨(.some 29), (.mv (.t 0)), .none⟩, ⟨(.some 30), (.bin .eql (.t 29) (.c (.sc (.int .i64 40)))), .none⟩, ⟨(.some 28), (.mv (.t 30)), .none⟩]) (.cond (.t 28) (.seq (.ops [⟨(.some 2), (.mv (.c (.sc (.int .i64 7)))), .none⟩]) .ret) .skip))))))))))))))))) (.seq (.ops [⟨(.some 2), (.mv (.c (.sc (.int .i64 8)))), .none⟩]) .ret)))
theorem t_ref1_Form : trF Try.prog qq 65 = some (31, [(.tmp 2)], c_ref1_Form) := by kernel_rfl
def c_ref1_Size : AC := (.seq (.ops [⟨(.some 2), (.mv (.c (.sc (.int .i64 0)))), .none⟩]) (.seq (.seq (.ops [⟨(.some 3), (.mv (.t 0)), .none⟩]) (.block 0 (.seq (.seq (.ops [⟨(.some 5), (.bin .eql (.t 3) (.c (.sc (.int .i64 26)))), .none⟩, ⟨(.some 4), (.mv (.t 5)), .none⟩]) (.cond (.t 4) .skip (.ops [⟨(.some 6), (.bin .eql (.t 3) (.c (.sc (.int .i64 31)))), .none⟩, ⟨(.some 4), (.mv (.t 6)), .none⟩]))) (.cond (.t 4) (.seq (.ops [⟨(.some 2), (.mv (.c (.sc (.int .i64 4)))), .none⟩]) .ret) (.seq (.seq (.ops [⟨(.some 8), (.bin .eql (.t 3) (.c (.sc (.int .i64 27)))), .none⟩, ⟨(.some 7), (.mv (.t 8)), .none⟩]) (.cond (.t 7) .skip (.seq (.ops [⟨(.some 9), (.bin .eql (.t 3) (.c (.sc (.int .i64 28)))), .none⟩, ⟨(.some 7), (.mv (.t 9)), .none⟩]) (.cond (.t 7) .skip (.ops [⟨(.some 10), (.bin .eql (.t 3) (.c (.sc (.int .i64 32)))), .none⟩, ⟨(.some 7), (.mv (.t 10)), .none⟩]))))) (.cond (.t 7) (.seq (.ops [⟨(.some 2), (.mv (.c (.sc (.int .i64 2)))), .none⟩]) .ret) (.seq (.seq (.ops [⟨(.some 12), (.bin .eql (.t 3) (.c (.sc (.int .i64 29)))), .none⟩, ⟨(.some 11), (.mv (.t 12)), .none⟩]) (.cond (.t 11) .skip (.seq (.ops [⟨(.some 13), (.bin .eql (.t 3) (.c (.sc (.int .i64 30)))), .none⟩, ⟨(.some 11), (.mv (.t 13)), .none⟩]) (.cond (.t 11) .skip (.ops [⟨(.some 14), (.bin .eql (.t 3) (.c (.sc (.int .i64 33)))), .none⟩, ⟨(.some 11), (.mv (.t 14)), .none⟩]))))) (.cond (.t 11) (.seq (.ops [⟨(.some 2), (.mv (.c (.sc (.int .i64 1)))), .none⟩]) .ret) .skip)))))))) (.seq (.ops [⟨(.some 2), (.mv (.c (.sc (.int .i64 0)))), .none⟩]) .ret)))
theorem t_ref1_Size : trF Try.prog qq 66 = some (15, [(.tmp 2)], c_ref1_Size) := by kernel_rfl
def c_ref1_Reads : AC := (.seq (.ops [⟨(.some 1), (.box (.t 0)), .none⟩, ⟨(.some 2), (.mv (.c (.fro .true 0 []))), .none⟩]) (.seq (.seq (.ops [⟨(.some 8), (.load .true 5 (.t 1)), .none⟩, ⟨(.some 9), (.call 57 [(.t 8)]), .none⟩, ⟨(.some 10), (.un .not (.t 9)), .none⟩]) (.cond (.t 10) (.seq (.ops [⟨(.some 2), (.mv (.c (.fro .true 0 []))), .none⟩]) .ret) .skip)) (.seq (.ops [⟨(.some 12), (.fadr 0 0 1 (.t 1)), .none⟩, ⟨(.some 13), (.load .false 1 (.t 12)), .none⟩, ⟨(.some 14), (.call 65 [(.t 13)]), .none⟩, ⟨(.some 15), (.call 80 [(.t 14)]), .none⟩, ⟨(.some 11), (.mv (.t 15)), .none⟩, ⟨(.some 16), (.ext (.t 11) 0), .none⟩, ⟨(.some 17), (.ext (.t 11) 1), .none⟩, ⟨(.some 18), (.ext (.t 11) 2), .none⟩, ⟨(.some 19), (.ext (.t 11) 3), .none⟩, ⟨(.some 3), (.mv (.t 16)), .none⟩, ⟨(.some 4), (.mv (.t 17)), .none⟩, ⟨(.some 5), (.mv (.t 18)), .none⟩, ⟨(.some 6), (.mv (.t 19)), .none⟩]) (.seq (.ops [⟨(.some 7), (.mv (.c (.fro .true 0 []))), .none⟩]) (.seq (.seq (.ops [⟨(.some 20), (.mv (.t 4)), .none⟩, ⟨(.some 21), (.mv (.t 20)), .none⟩, ⟨(.some 22), (.fadr 2 2 1 (.t 1)), (.some (21, .true))⟩, ⟨(.some 23), (.load .false 1 (.t 22)), (.some (21, .true))⟩, ⟨(.some 24), (.bin .neq (.t 23) (.c (.sc (.int .i64 0)))), (.some (21, .true))⟩, ⟨(.some 25), (.pick (.t 21) (.t 24) (.c (.sc (.bool .false)))), .none⟩]) (.cond (.t 25) (.ops [⟨(.some 26), (.mv (.t 7)), .none⟩, ⟨(.some 27), (.fadr 2 2 1 (.t 1)), .none⟩, ⟨(.some 28), (.load .false 1 (.t 27)), .none⟩, ⟨(.some 29), (.bsl 1 [(.t 28)]), .none⟩, ⟨(.some 30), (.app 1 8 (.t 26) (.t 29)), .none⟩, ⟨(.some 7), (.mv (.t 30)), .none⟩]) .skip)) (.seq (.seq (.ops [⟨(.some 31), (.mv (.t 5)), .none⟩, ⟨(.some 32), (.mv (.t 31)), .none⟩, ⟨(.some 33), (.fadr 3 3 1 (.t 1)), (.some (32, .true))⟩, ⟨(.some 34), (.load .false 1 (.t 33)), (.some (32, .true))⟩, ⟨(.some 35), (.bin .neq (.t 34) (.c (.sc (.int .i64 0)))), (.some (32, .true))⟩, ⟨(.some 36), (.pick (.t 32) (.t 35) (.c (.sc (.bool .false)))), .none⟩]) (.cond (.t 36) (.ops [⟨(.some 37), (.mv (.t 7)), .none⟩, ⟨(.some 38), (.fadr 3 3 1 (.t 1)), .none⟩, ⟨(.some 39), (.load .false 1 (.t 38)), .none⟩, ⟨(.some 40), (.bsl 1 [(.t 39)]), .none⟩, ⟨(.some 41), (.app 1 8 (.t 37) (.t 40)), .none⟩, ⟨(.some 7), (.mv (.t 41)), .none⟩]) .skip)) (.seq (.ops [⟨(.some 42), (.mv (.t 7)), .none⟩, ⟨(.some 2), (.mv (.t 42)), .none⟩]) .ret)))))))
theorem t_ref1_Reads : trF Try.prog qq 70 = some (43, [(.tmp 2)], c_ref1_Reads) := by kernel_rfl
def c_ref1_has : AC := (.seq (.ops [⟨(.some 2), (.mv (.c (.sc (.bool .false)))), .none⟩, ⟨(.some 3), (.mv (.c (.sc (.bool .false)))), .none⟩, ⟨(.some 4), (.mv (.c (.sc (.bool .false)))), .none⟩, ⟨(.some 5), (.mv (.c (.sc (.bool .false)))), .none⟩]) (.seq (.seq (.ops [⟨(.some 6), (.mv (.t 0)), .none⟩]) (.block 0 (.seq (.ops [⟨(.some 8), (.bin .eql (.t 6) (.c (.sc (.int .i64 1)))), .none⟩, ⟨(.some 7), (.mv (.t 8)), .none⟩]) (.cond (.t 7) (.seq (.ops [⟨(.some 2), (.mv (.c (.sc (.bool .true)))), .none⟩, ⟨(.some 3), (.mv (.c (.sc (.bool .true)))), .none⟩, ⟨(.some 4), (.mv (.c (.sc (.bool .true)))), .none⟩, ⟨(.some 5), (.mv (.c (.sc (.bool .false)))), .none⟩]) .ret) (.seq (.seq (.ops [⟨(.some 10), (.bin .eql (.t 6) (.c (.sc (.int .i64 2)))), .none⟩, ⟨(.some 9), (.mv (.t 10)), .none⟩]) (.cond (.t 9) .skip (.ops [⟨(.some 11), (.bin .eql (.t 6) (.c (.sc (.int .i64 4)))), .none⟩, ⟨(.some 9), (.mv (.t 11)), .none⟩]))) (.cond (.t 9) (.seq (.ops [⟨(.some 2), (.mv (.c (.sc (.bool .true)))), .none⟩, ⟨(.some 3), (.mv (.c (.sc (.bool .true)))), .none⟩, ⟨(.some 4), (.mv (.c (.sc (.bool .false)))), .none⟩, ⟨(.some 5), (.mv (.c (.sc (.bool .true)))), .none⟩]) .ret) (.seq (.ops [⟨(.some 13), (.bin .eql (.t 6) (.c (.sc (.int .i64 3)))), .none⟩, ⟨(.some 12), (.mv (.t 13)), .none⟩]) (.cond (.t 12) (.seq (.ops [⟨(.some 2), (.mv (.c (.sc (.bool .true)))), .none⟩, ⟨(.some 3), (.mv (.c (.sc (.bool .false)))), .none⟩, ⟨(.some 4), (.mv (.c (.sc (.bool .false)))), .none⟩, ⟨(.some 5), (.mv (.c (.sc (.bool .true)))), .none⟩]) .ret) (.seq (.seq (.ops [⟨(.some 15), (.bin .eql (.t 6) (.c (.sc (.int .i64 5)))), .none⟩, ⟨(.some 14), (.mv (.t 15)), .none⟩]) (.cond (.t 14) .skip (.ops [⟨(.some 16), (.bin .eql (.t 6) (.c (.sc (.int .i64 6)))), .none⟩, ⟨(.some 14), (.mv (.t 16)), .none⟩]))) (.cond (.t 14) (.seq (.ops [⟨(.some 2), (.mv (.c (.sc (.bool .false)))), .none⟩, ⟨(.some 3), (.mv (.c (.sc (.bool .true)))), .none⟩, ⟨(.some 4), (.mv (.c (.sc (.bool .true)))), .none⟩, ⟨(.some 5), (.mv (.c (.sc (.bool .true)))), .none⟩]) .ret) (.seq (.ops [⟨(.some 18), (.bin .eql (.t 6) (.c (.sc (.int .i64 7)))), .none⟩, ⟨(.some 17), (.mv (.t 18)), .none⟩]) (.cond (.t 17) (.seq (.ops [⟨(.some 2), (.mv (.c (.sc (.bool .false)))), .none⟩, ⟨(.some 3), (.mv (.c (.sc (.bool .false)))), .none⟩, ⟨(.some 4), (.mv (.c (.sc (.bool .false)))), .none⟩, ⟨(.some 5), (.mv (.c (.sc (.bool .true)))), .none⟩]) .ret) .skip)))))))))))) (.seq (.ops [⟨(.some 2), (.mv (.c (.sc (.bool .false)))), .none⟩, ⟨(.some 3), (.mv (.c (.sc (.bool .false)))), .none⟩, ⟨(.some 4), (.mv (.c (.sc (.bool .false)))), .none⟩, ⟨(.some 5), (.mv (.c (.sc (.bool .false)))), .none⟩]) .ret)))
theorem t_ref1_has : trF Try.prog qq 80 = some (19, [(.tmp 2), (.tmp 3), (.tmp 4), (.tmp 5)], c_ref1_has) := by kernel_rfl
def c_ref1_reg : AC := (.seq (.ops [⟨(.some 4), (.mv (.c (.sc (.bool .false)))), .none⟩]) (.seq (.ops [⟨(.some 5), (.mv (.t 0)), .none⟩, ⟨(.some 6), (.bin .eql (.t 5) (.c (.sc (.int .i64 0)))), .none⟩, ⟨(.some 7), (.mv (.t 6)), .none⟩, ⟨(.some 8), (.mv (.t 1)), (.some (7, .false))⟩, ⟨(.some 9), (.mv (.t 8)), (.some (7, .false))⟩, ⟨(.some 10), (.mv (.t 0)), (.some (9, .true))⟩, ⟨(.some 11), (.bin .gtr (.t 10) (.c (.sc (.int .i64 0)))), (.some (9, .true))⟩, ⟨(.some 12), (.pick (.t 9) (.t 11) (.c (.sc (.bool .false)))), (.some (7, .false))⟩, ⟨(.some 13), (.mv (.t 12)), (.some (7, .false))⟩, ⟨(.some 14), (.mv (.t 0)), (.some (13, .true))⟩, ⟨(.some 15), (.bin .leq (.t 14) (.c (.sc (.int .i64 15)))), (.some (13, .true))⟩, ⟨(.some 16), (.pick (.t 13) (.t 15) (.c (.sc (.bool .false)))), (.some (7, .false))⟩, ⟨(.some 17), (.pick (.t 7) (.c (.sc (.bool .true))) (.t 16)), .none⟩, ⟨(.some 4), (.mv (.t 17)), .none⟩]) .ret))
theorem t_ref1_reg : trF Try.prog qq 81 = some (18, [(.tmp 4)], c_ref1_reg) := by kernel_rfl
def c_ref1_Target : AC := (.seq (.ops [⟨(.some 2), (.box (.t 0)), .none⟩, ⟨(.some 4), (.mv (.c (.sc (.int .i64 0)))), .none⟩]) (.seq (.ops [⟨(.some 7), (.fadr 0 0 1 (.t 2)), .none⟩, ⟨(.some 8), (.load .false 1 (.t 7)), .none⟩, ⟨(.some 9), (.mv (.t 1)), .none⟩, ⟨(.some 10), (.iadr .none 5 (.t 8) (.t 9)), .none⟩, ⟨(.some 11), (.load .true 5 (.t 10)), .none⟩, ⟨(.some 5), (.box (.c (.agg 5 [(.sc (.int .i64 0)), (.sc (.int .i64 0)), (.sc (.int .i64 0)), (.sc (.int .i64 0)), (.sc (.int .i64 0))]))), .none⟩, ⟨.none, (.store 5 (.t 5) (.t 11)), .none⟩]) (.seq (.ops [⟨(.some 12), (.fadr 0 0 1 (.t 5)), .none⟩, ⟨(.some 13), (.load .false 1 (.t 12)), .none⟩, ⟨(.some 14), (.call 65 [(.t 13)]), .none⟩, ⟨(.some 6), (.mv (.t 14)), .none⟩]) (.seq (.seq (.ops [⟨(.some 15), (.mv (.t 6)), .none⟩, ⟨(.some 16), (.bin .neq (.t 15) (.c (.sc (.int .i64 6)))), .none⟩, ⟨(.some 17), (.mv (.t 16)), .none⟩, ⟨(.some 18), (.mv (.t 6)), (.some (17, .true))⟩, ⟨(.some 19), (.bin .neq (.t 18) (.c (.sc (.int .i64 7)))), (.some (17, .true))⟩, ⟨(.some 20), (.pick (.t 17) (.t 19) (.c (.sc (.bool .false)))), .none⟩, ⟨(.some 21), (.mv (.t 20)), .none⟩, ⟨(.some 22), (.fadr 4 4 1 (.t 5)), (.some (21, .false))⟩, ⟨(.some 23), (.load .false 1 (.t 22)), (.some (21, .false))⟩, ⟨(.some 24), (.bin .lss (.t 23) (.c (.sc (.int .i64 (-8192))))), (.some (21, .false))⟩, ⟨(.some 25), (.pick (.t 21) (.c (.sc (.bool .true))) (.t 24)), .none⟩, ⟨(.some 26), (.mv (.t 25)), .none⟩, ⟨(.some 27), (.fadr 4 4 1 (.t 5)), (.some (26, .false))⟩, ⟨(.some 28), (.load .false 1 (.t 27)), (.some (26, .false))⟩, ⟨(.some 29), (.bin .gtr (.t 28) (.c (.sc (.int .i64 8191)))), (.some (26, .false))⟩, ⟨(.some 30), (.pick (.t 26) (.c (.sc (.bool .true))) (.t 29)), .none⟩, ⟨(.some 31), (.mv (.t 30)), .none⟩, ⟨(.some 32), (.mv (.t 1)), (.some (31, .false))⟩, ⟨(.some 33), (.fadr 4 4 1 (.t 5)), (.some (31, .false))⟩, ⟨(.some 34), (.load .false 1 (.t 33)), (.some (31, .false))⟩, ⟨(.some 35), (.bin .add (.t 32) (.t 34)), (.some (31, .false))⟩, ⟨(.some 36), (.bin .lss (.t 35) (.c (.sc (.int .i64 0)))), (.some (31, .false))⟩, ⟨(.some 37), (.pick (.t 31) (.c (.sc (.bool .true))) (.t 36)), .none⟩, ⟨(.some 38), (.mv (.t 37)), .none⟩, ⟨(.some 39), (.mv (.t 1)), (.some (38, .false))⟩, ⟨(.some 40), (.fadr 4 4 1 (.t 5)), (.some (38, .false))⟩, ⟨(.some 41), (.load .false 1 (.t 40)), (.some (38, .false))⟩, ⟨(.some 42), (.bin .add (.t 39) (.t 41)), (.some (38, .false))⟩, ⟨(.some 43), (.fadr 0 0 1 (.t 2)), (.some (38, .false))⟩, ⟨(.some 44), (.load .false 1 (.t 43)), (.some (38, .false))⟩, ⟨(.some 45), (.len .none (.t 44)), (.some (38, .false))⟩, ⟨(.some 46), (.bin .geq (.t 42) (.t 45)), (.some (38, .false))⟩, ⟨(.some 47), (.pick (.t 38) (.c (.sc (.bool .true))) (.t 46)), .none⟩]) (.cond (.t 47) (.seq (.ops [⟨(.some 4), (.mv (.c (.sc (.int .i64 (-1))))), .none⟩]) .ret) .skip)) (.seq (.ops [⟨(.some 48), (.mv (.t 1)), .none⟩, ⟨(.some 49), (.fadr 4 4 1 (.t 5)), .none⟩, ⟨(.some 50), (.load .false 1 (.t 49)), .none⟩, ⟨(.some 51), (.bin .add (.t 48) (.t 50)), .none⟩, ⟨(.some 4), (.mv (.t 51)), .none⟩]) .ret)))))
theorem t_ref1_Target : trF Try.prog qq 82 = some (52, [(.tmp 4)], c_ref1_Target) := by kernel_rfl
/-- The functions of ref1. -/
def cl_ref1 : CodeL := [(20, 12, [(.tmp 2)], c_ref1_First), (29, 49, [(.tmp 2)], c_ref1_RightProgram), (57, 79, [(.tmp 2)], c_ref1_RightIns), (58, 31, [(.tmp 2)], c_ref1_Targets), (65, 31, [(.tmp 2)], c_ref1_Form), (66, 15, [(.tmp 2)], c_ref1_Size), (70, 43, [(.tmp 2)], c_ref1_Reads), (80, 19, [(.tmp 2), (.tmp 3), (.tmp 4), (.tmp 5)], c_ref1_has), (81, 18, [(.tmp 4)], c_ref1_reg), (82, 52, [(.tmp 4)], c_ref1_Target)]
theorem clok_ref1 : AllL (fun p => trF Try.prog qq p.1 = some p.2) cl_ref1 := ⟨t_ref1_First, t_ref1_RightProgram, t_ref1_RightIns, t_ref1_Targets, t_ref1_Form, t_ref1_Size, t_ref1_Reads, t_ref1_has, t_ref1_reg, t_ref1_Target, trivial⟩
end Go.Proofs.Ythmlnmkbeohojaa

/- Instructions: forms, and which may be. -/
namespace Go.Proofs.Ythmlnmkbeohojaa
open Go.Ra
set_option linter.unusedVariables false
set_option linter.unusedSimpArgs false
def TR0 : Tab := mkT qq cl_ref1 [] []
/-- The form of an operation. -/
def formI (op : Int) : Int := if op < 1 ∨ op > 41 then 0 else if op ≤ 16 then 1 else if op ≤ 24 then 2 else if op = 25 then 3 else if op ≤ 30 then 4 else if op ≤ 33 then 5 else if op ≤ 39 then 6 else if op = 40 then 7 else 8
def formSp : List XV → Option (List Bool × XV)
  | [.int .i64 op] => some ([], .int .i64 (formI op))
  | _ => none
def hasD (f : Int) : Bool := decide (f = 1 ∨ f = 2 ∨ f = 3 ∨ f = 4)
def hasA (f : Int) : Bool := decide (f = 1 ∨ f = 2 ∨ f = 4 ∨ f = 5 ∨ f = 6)
def hasB (f : Int) : Bool := decide (f = 1 ∨ f = 5 ∨ f = 6)
def hasI (f : Int) : Bool := decide (f = 2 ∨ f = 3 ∨ f = 4 ∨ f = 5 ∨ f = 6 ∨ f = 7)
def hasSp : List XV → Option (List Bool × XV)
  | [.int .i64 f] => some ([], .tup [.bool (hasD f), .bool (hasA f), .bool (hasB f), .bool (hasI f)])
  | _ => none
def regB (n : Int) (t : Bool) : Bool := decide (n = 0) || (t && (decide (n > 0) && decide (n ≤ 15)))
def regSp : List XV → Option (List Bool × XV)
  | [.int .i64 n, .bool t] => some ([], .bool (regB n t))
  | _ => none
def TR1 : Tab := mkT qq cl_ref1 [(65, formSp), (80, hasSp), (81, regSp)] []
/-- May an instruction be? -/
def rightIns (i : Ins) : Bool := decide (¬ formI i.op = 0) && (regB i.d (hasD (formI i.op)) && (regB i.a (hasA (formI i.op)) && (regB i.b (hasB (formI i.op)) && ((hasI (formI i.op) || decide (i.imm = 0)) && (if i.op = 22 ∨ i.op = 23 ∨ i.op = 24 then decide (0 ≤ i.imm ∧ i.imm ≤ 31) else decide (-8192 ≤ i.imm ∧ i.imm ≤ 8191))))))
def rtSp : List XV → Option (List Bool × XV)
  | [.agg 5 [.int .i64 op, .int .i64 d, .int .i64 a, .int .i64 b, .int .i64 m]] => some ([], .bool (rightIns ⟨op, d, a, b, m⟩))
  | _ => none
theorem TR0ok : TabOk Try.prog TR0 := mkT_ok clok_ref1 trivial trivial
theorem r_form (a : Int) (K : XV → Prop) : (quietGo TR0 80 (callI TR0 80 20) 65 [.int .i64 a] K) = (bif bif decide (a < 1) then true else !decide (a < 1) then bif bif decide (a < 1) then true else decide (a > 41) then K (.int .i64 0) else bif decide (a ≤ 16)
 then K (.int .i64 1) else bif decide (a ≤ 24) then K (.int .i64 2) else bif decide (a = 25) then K (.int .i64 3) else bif decide (a ≤ 30) then K (.int .i64 4) else
 bif decide (a ≤ 33) then K (.int .i64 5) else bif decide (a ≤ 39) then K (.int .i64 6) else bif decide (a = 40) then K (.int .i64 7) else K (.int .i64 8)
else False)
 := by kernel_rfl
theorem r_has (a : Int) (K : XV → Prop) : (quietGo TR0 80 (callI TR0 80 20) 80 [.int .i64 a] K) = (bif decide (a = 1) then K (.tup [.bool true, .bool true, .bool true, .bool false])
else bif decide (a = 2) then bif decide (a = 2) then K (.tup [.bool true,
 .bool true, .bool false, .bool true]) else bif decide (a = 3) then K (.tup [.bool true, .bool false, .bool false, .bool true]) else bif decide (a = 5) then bif decide
 (a = 5) then K (.tup [.bool false, .bool true, .bool true, .bool true]) else bif decide (a = 7) then K (.tup [.bool false, .bool false, .bool false, .bool true])
 else K (.tup [.bool false, .bool false, .bool false, .bool false]) else bif decide (a = 6) then K (.tup [.bool false, .bool true, .bool true, .bool true]) else bif
 decide (a = 7) then K (.tup [.bool false, .bool false, .bool false, .bool true]) else K (.tup [.bool false, .bool false, .bool false, .bool false]) else bif decide
 (a = 4) then K (.tup [.bool true, .bool true, .bool false, .bool true]) else bif decide (a = 3) then K (.tup [.bool true, .bool false, .bool false, .bool true])
 else bif decide (a = 5) then bif decide (a = 5) then K (.tup [.bool false, .bool true, .bool true, .bool true]) else bif decide (a = 7) then K (.tup [.bool false,
 .bool false, .bool false, .bool true]) else K (.tup [.bool false, .bool false, .bool false, .bool false]) else bif decide (a = 6) then K (.tup [.bool false, .bool
 true, .bool true, .bool true]) else bif decide (a = 7) then K (.tup [.bool false, .bool false, .bool false, .bool true]) else K (.tup [.bool false, .bool false,
 .bool false, .bool false])) := by kernel_rfl
theorem r_reg (a : Int) (t : Bool) (K : XV → Prop) : (quietGo TR0 80 (callI TR0 80 20) 81 [.int .i64 a, .bool t] K) = (bif bif !decide (a = 0) then true else !!decide (a = 0) then bif bif bif t then bif !decide (a = 0) then t else false else true then true else !!decide (a =
 0) then bif bif !decide (a = 0) then true else !!decide (a = 0) then bif bif bif bif t then decide (a > 0) else false then bif !decide (a = 0) then bif t then decide
 (a > 0) else false else false else true then true else !!decide (a = 0) then bif bif decide (a = 0) then true else !decide (a = 0) then K (.bool (bif decide (a =
 0) then true else bif bif t then decide (a > 0) else false then decide (a ≤ 15) else false)) else False else False else False else False
else False) := by kernel_rfl 

theorem r_rt (i : Ins) (K : XV → Prop) : (quietGo TR1 80 (callI TR1 80 20) 57 [e_Ins i] K) = (bif bif decide (formI (Ins.op i) = 0) then true else !decide (formI (Ins.op i) = 0) then bif bif bif decide (formI (Ins.op i) = 0) then true else !regB (Ins.d
 i) (hasD (formI (Ins.op i))) then true else !bif decide (formI (Ins.op i) = 0) then true else !regB (Ins.d i) (hasD (formI (Ins.op i))) then bif bif bif bif decide
 (formI (Ins.op i) = 0) then true else !regB (Ins.d i) (hasD (formI (Ins.op i))) then true else !regB (Ins.a i) (hasA (formI (Ins.op i))) then true else !bif bif
 decide (formI (Ins.op i) = 0) then true else !regB (Ins.d i) (hasD (formI (Ins.op i))) then true else !regB (Ins.a i) (hasA (formI (Ins.op i))) then bif bif !bif
 bif bif decide (formI (Ins.op i) = 0) then true else !regB (Ins.d i) (hasD (formI (Ins.op i))) then true else !regB (Ins.a i) (hasA (formI (Ins.op i))) then true
 else !regB (Ins.b i) (hasB (formI (Ins.op i))) then true else !!bif bif bif decide (formI (Ins.op i) = 0) then true else !regB (Ins.d i) (hasD (formI (Ins.op i)))
 then true else !regB (Ins.a i) (hasA (formI (Ins.op i))) then true else !regB (Ins.b i) (hasB (formI (Ins.op i))) then bif bif bif !hasI (formI (Ins.op i)) then
 bif !bif bif bif decide (formI (Ins.op i) = 0) then true else !regB (Ins.d i) (hasD (formI (Ins.op i))) then true else !regB (Ins.a i) (hasA (formI (Ins.op i)))
 then true else !regB (Ins.b i) (hasB (formI (Ins.op i))) then !hasI (formI (Ins.op i)) else false else true then true else !!bif bif bif decide (formI (Ins.op i)
 = 0) then true else !regB (Ins.d i) (hasD (formI (Ins.op i))) then true else !regB (Ins.a i) (hasA (formI (Ins.op i))) then true else !regB (Ins.b i) (hasB (formI
 (Ins.op i))) then bif bif bif bif bif decide (formI (Ins.op i) = 0) then true else !regB (Ins.d i) (hasD (formI (Ins.op i))) then true else !regB (Ins.a i) (hasA
 (formI (Ins.op i))) then true else !regB (Ins.b i) (hasB (formI (Ins.op i))) then true else !bif bif bif decide (formI (Ins.op i) = 0) then true else !regB (Ins.d
 i) (hasD (formI (Ins.op i))) then true else !regB (Ins.a i) (hasA (formI (Ins.op i))) then true else !regB (Ins.b i) (hasB (formI (Ins.op i))) then bif bif bif bif
 bif decide (formI (Ins.op i) = 0) then true else !regB (Ins.d i) (hasD (formI (Ins.op i))) then true else !regB (Ins.a i) (hasA (formI (Ins.op i))) then true else
 !regB (Ins.b i) (hasB (formI (Ins.op i))) then true else bif !hasI (formI (Ins.op i)) then decide ¬Ins.imm i = 0 else false then K (.bool false) else bif bif decide
 (Ins.op i = 22) then true else !decide (Ins.op i = 22) then bif bif bif decide (Ins.op i = 22) then true else decide (Ins.op i = 23) then true else !bif decide (Ins.op
 i = 22) then true else decide (Ins.op i = 23) then bif bif bif decide (Ins.op i = 22) then true else decide (Ins.op i = 23) then true else decide (Ins.op i = 24)
 then bif bif decide (Ins.imm i ≥ 0) then decide (Ins.imm i ≥ 0) else true then K (.bool (bif decide (Ins.imm i ≥ 0) then decide (Ins.imm i ≤ 31) else false)) else
 False else bif bif decide (Ins.imm i ≥ (-8192 : Int)) then decide (Ins.imm i ≥ (-8192 : Int)) else true then K (.bool (bif decide (Ins.imm i ≥ (-8192 : Int)) then
 decide (Ins.imm i ≤ 8191) else false)) else False else False else False else False else False else False else False else False
else False) := by kernel_rfl
theorem sp_form : SpOk Try.prog (65, formSp) := by
  intro args nd v ha hn
  simp only [formSp] at ha
  split at ha <;> simp only [Option.some.injEq, Prod.mk.injEq, reduceCtorEq] at ha
  obtain ⟨hnd, rfl⟩ := ha
  clear hnd hn
  rename_i a
  refine pureX (u := 80) (k := 20) mix TR0ok ?_
  rw [r_form]
  unfold formI
  simp only [g1, g2, g3, g4, g5, g6, g7, allN_true, cond_true, Nat.le_refl, decide_true, pl_eq]
  by_cases h0 : a < 1 ∨ a > 41
  · rw [if_pos h0]
    rcases h0 with h | h <;> simp [h]
  · rw [if_neg h0]
    have h1 : ¬ a < 1 := fun h => h0 (.inl h)
    have h2 : ¬ a > 41 := fun h => h0 (.inr h)
    simp only [h1, h2, decide_false, cond_false]
    by_cases h3 : a ≤ 16
    · simp [h3]
    by_cases h4 : a ≤ 24
    · simp [h3, h4]
    by_cases h5 : a = 25
    · simp [h5]
    by_cases h6 : a ≤ 30
    · simp [h3, h4, h5, h6]
    by_cases h7 : a ≤ 33
    · simp [h3, h4, h5, h6, h7]
    by_cases h8 : a ≤ 39
    · simp [h3, h4, h5, h6, h7, h8]
    by_cases h9 : a = 40
    · simp [h9]
    simp [h3, h4, h5, h6, h7, h8, h9]
theorem sp_has : SpOk Try.prog (80, hasSp) := by
  intro args nd v ha hn
  simp only [hasSp] at ha
  split at ha <;> simp only [Option.some.injEq, Prod.mk.injEq, reduceCtorEq] at ha
  obtain ⟨hnd, rfl⟩ := ha
  clear hnd hn
  rename_i a
  refine pureX (u := 80) (k := 20) mix TR0ok ?_
  rw [r_has]
  unfold hasD hasA hasB hasI
  by_cases h1 : a = 1
  · subst h1; simp
  by_cases h2 : a = 2
  · subst h2; simp
  by_cases h3 : a = 3
  · subst h3; simp
  by_cases h4 : a = 4
  · subst h4; simp
  by_cases h5 : a = 5
  · subst h5; simp
  by_cases h6 : a = 6
  · subst h6; simp
  by_cases h7 : a = 7
  · subst h7; simp
  simp [h1, h2, h3, h4, h5, h6, h7]
theorem sp_reg : SpOk Try.prog (81, regSp) := by
  intro args nd v ha hn
  simp only [regSp] at ha
  split at ha <;> simp only [Option.some.injEq, Prod.mk.injEq, reduceCtorEq] at ha
  obtain ⟨hnd, rfl⟩ := ha
  clear hnd hn
  rename_i a t
  refine pureX (u := 80) (k := 20) mix TR0ok ?_
  rw [r_reg]
  simp only [g1, g2, g3, g4, g5, g6, g7, allN_true, cond_true, Nat.le_refl, decide_true, pl_eq]
  refine conB ?_
  unfold regB
  simp only [band, bor, Bool.and_assoc]
theorem TR1ok : TabOk Try.prog TR1 := mkT_ok clok_ref1 ⟨sp_form, sp_has, sp_reg, trivial⟩ trivial
theorem sp_rt : SpOk Try.prog (57, rtSp) := by
  intro args nd v ha hn
  simp only [rtSp] at ha
  split at ha <;> simp only [Option.some.injEq, Prod.mk.injEq, reduceCtorEq] at ha
  obtain ⟨hnd, rfl⟩ := ha
  clear hnd hn
  rename_i op d a b m
  refine pureX (u := 80) (k := 20) mix TR1ok ?_
  refine Eq.mpr (r_rt ⟨op, d, a, b, m⟩ _) ?_
  simp only [g1, g2, g3, g4, g5, g6, g7, allN_true, cond_true, Nat.le_refl, decide_true, pl_eq]
  unfold rightIns
  dsimp only
  generalize formI op = f
  by_cases h0 : f = 0
  · simp [h0]
  cases h1 : regB d (hasD f) with
  | false => simp [h0, h1]
  | true =>
  cases h2 : regB a (hasA f) with
  | false => simp [h0, h1, h2]
  | true =>
  cases h3 : regB b (hasB f) with
  | false => simp [h0, h1, h2, h3]
  | true =>
  have e : (bif !hasI f then decide (¬ m = 0) else false) = !(hasI f || decide (m = 0)) := by cases hasI f <;> by_cases h : m = 0 <;> simp [h]
  simp only [h0, h1, h2, h3, e, decide_false, cond_false, Bool.not_true, not_false_eq_true, decide_true, Bool.true_and]
  cases h4 : (hasI f || decide (m = 0)) with
  | false => simp [h4]
  | true =>
    simp only [Bool.not_true, cond_false, Bool.true_and]
    simp only [bor, band]
    have e2 : (decide (op = 22) || decide (op = 23) || decide (op = 24)) = decide (op = 22 ∨ op = 23 ∨ op = 24) := by simp [Bool.or_assoc]
    rw [e2]
    by_cases h5 : op = 22 ∨ op = 23 ∨ op = 24
    · rw [decide_eq_true h5, cond_true, if_pos h5]
      refine conB ?_
      rw [Bool.eq_iff_iff]; simp
    · rw [decide_eq_false h5, cond_false, if_neg h5]
      refine conB ?_
      rw [Bool.eq_iff_iff]; simp
end Go.Proofs.Ythmlnmkbeohojaa

/- What instructions read, where they lead, and which programs may be. -/
namespace Go.Proofs.Ythmlnmkbeohojaa
open Go.Ra
set_option linter.unusedVariables false
set_option linter.unusedSimpArgs false
def TR2 : Tab := mkT qq cl_ref1 [(65, formSp), (80, hasSp), (57, rtSp)] []
/-- The registers that an instruction reads. -/
def readsF (i : Ins) : List Int := if rightIns i then (if hasA (formI i.op) && decide (¬ i.a = 0) then [i.a] else []) ++ (if hasB (formI i.op) && decide (¬ i.b = 0) then [i.b] else []) else []
def redS : List XV → Option ((XV → Prop) → Prop) := skOf (fun i : Ins => [e_Ins i]) (fun i => True) (fun i => readsF i) (fun y => e_row 1 e_i64 y)
/-- Where a branch or a jump leads; -1: nowhere. -/
def targetF (p : Prog) (n : Nat) : Int := if (¬ formI (ix p.code n).op = 6 ∧ ¬ formI (ix p.code n).op = 7) ∨ (ix p.code n).imm < -8192 ∨ (ix p.code n).imm > 8191 ∨ (n : Int) + (ix p.code n).imm < 0 ∨ (n : Int) + (ix p.code n).imm ≥ p.code.length then -1 else (n : Int) + (ix p.code n).imm
def tgtS : List XV → Option ((XV → Prop) → Prop) := skOf (fun q : Prog × Nat => [e_Prog q.1, .int .i64 q.2]) (fun q => q.1.wf ∧ q.2 < q.1.code.length) (fun q => targetF q.1 q.2) (fun y => .int .i64 y)
theorem TR2ok : TabOk Try.prog TR2 := mkT_ok clok_ref1 ⟨sp_form, sp_has, sp_rt, trivial⟩ trivial
theorem r_reads (i : Ins) (r : XV) : (quietGo TR2 80 (callI TR2 80 20) 70 [e_Ins i] (fun v => ResLe v r)) = (bif !rightIns i then ResLe (.row true 0 0 fun x => .unk) r
else bif bif hasA (formI (Ins.op i)) then hasA (formI (Ins.op i)) else true then bif bif hasA (formI
 (Ins.op i)) then decide ¬Ins.a i = 0 else false then bif bif hasB (formI (Ins.op i)) then hasB (formI (Ins.op i)) else true then bif bif hasB (formI (Ins.op i))
 then decide ¬Ins.b i = 0 else false then ResLe (.row false 1 2 fun i_1 => .int .i64 (bif decide (i_1 < 1) then Ins.a i else Ins.b i)) r else ResLe (.row false 1
 1 fun i_1 => .int .i64 (Ins.a i)) r else False else bif bif hasB (formI (Ins.op i)) then hasB (formI (Ins.op i)) else true then bif bif hasB (formI (Ins.op i)) then
 decide ¬Ins.b i = 0 else false then ResLe (.row false 1 1 fun i_1 => .int .i64 (Ins.b i)) r else ResLe (.row true 0 0 fun x => .unk) r else False else False) :=
 by kernel_rfl
theorem r_tgt (p : Prog) (n : Nat) (r : XV) : (quietGo TR2 80 (callI TR2 80 20) 82 [e_Prog p, .int .i64 n] (fun v => ResLe v r)) = (bif decide ((↑n : Int) < (↑(List.length (Prog.code p)) : Int)) then bif bif decide ¬formI (Ins.op (ix (Prog.code p) n)) = 6 then decide ¬formI (Ins.op (ix (Prog.code
 p) n)) = 6 else true then bif bif bif decide ¬formI (Ins.op (ix (Prog.code p) n)) = 6 then decide ¬formI (Ins.op (ix (Prog.code p) n)) = 7 else false then true else
 !bif decide ¬formI (Ins.op (ix (Prog.code p) n)) = 6 then decide ¬formI (Ins.op (ix (Prog.code p) n)) = 7 else false then bif bif bif bif decide ¬formI (Ins.op (ix
 (Prog.code p) n)) = 6 then decide ¬formI (Ins.op (ix (Prog.code p) n)) = 7 else false then true else decide (Ins.imm (ix (Prog.code p) n) < (-8192 : Int)) then true
 else !bif bif decide ¬formI (Ins.op (ix (Prog.code p) n)) = 6 then decide ¬formI (Ins.op (ix (Prog.code p) n)) = 7 else false then true else decide (Ins.imm (ix
 (Prog.code p) n) < (-8192 : Int)) then bif bif bif bif bif decide ¬formI (Ins.op (ix (Prog.code p) n)) = 6 then decide ¬formI (Ins.op (ix (Prog.code p) n)) = 7 else
 false then true else decide (Ins.imm (ix (Prog.code p) n) < (-8192 : Int)) then true else decide (Ins.imm (ix (Prog.code p) n) > 8191) then true else !bif bif bif
 decide ¬formI (Ins.op (ix (Prog.code p) n)) = 6 then decide ¬formI (Ins.op (ix (Prog.code p) n)) = 7 else false then true else decide (Ins.imm (ix (Prog.code p)
 n) < (-8192 : Int)) then true else decide (Ins.imm (ix (Prog.code p) n) > 8191) then bif bif bif bif bif bif decide ¬formI (Ins.op (ix (Prog.code p) n)) = 6 then
 decide ¬formI (Ins.op (ix (Prog.code p) n)) = 7 else false then true else decide (Ins.imm (ix (Prog.code p) n) < (-8192 : Int)) then true else decide (Ins.imm (ix
 (Prog.code p) n) > 8191) then true else decide (IntKind.wrap .i64 ((↑n : Int) + Ins.imm (ix (Prog.code p) n)) < 0) then true else !bif bif bif bif decide ¬formI
 (Ins.op (ix (Prog.code p) n)) = 6 then decide ¬formI (Ins.op (ix (Prog.code p) n)) = 7 else false then true else decide (Ins.imm (ix (Prog.code p) n) < (-8192 :
 Int)) then true else decide (Ins.imm (ix (Prog.code p) n) > 8191) then true else decide (IntKind.wrap .i64 ((↑n : Int) + Ins.imm (ix (Prog.code p) n)) < 0) then
 bif bif bif bif bif bif decide ¬formI (Ins.op (ix (Prog.code p) n)) = 6 then decide ¬formI (Ins.op (ix (Prog.code p) n)) = 7 else false then true else decide (Ins.imm
 (ix (Prog.code p) n) < (-8192 : Int)) then true else decide (Ins.imm (ix (Prog.code p) n) > 8191) then true else decide (IntKind.wrap .i64 ((↑n : Int) + Ins.imm
 (ix (Prog.code p) n)) < 0) then true else decide (IntKind.wrap .i64 ((↑n : Int) + Ins.imm (ix (Prog.code p) n)) ≥ (↑(List.length (Prog.code p)) : Int)) then ResLe
 (.int .i64 (-1 : Int)) r else ResLe (.int .i64 (IntKind.wrap .i64 ((↑n : Int) + Ins.imm (ix (Prog.code p) n)))) r else False else False else False else False else
 False
else False) := by kernel_rfl
theorem sk_reads : SkOk Try.prog (70, redS) := skOf_ok fun i _ => by
  refine pureR (u := 80) (k := 20) mix TR2ok ?_
  refine Eq.mpr (r_reads i _) ?_
  unfold readsF
  simp only [g1, g2, g3, g4, g5, g6, g7, allN_true, cond_true, Nat.le_refl, decide_true, pl_eq]
  simp only [band]
  show cond (!rightIns i) _ _
  cases rightIns i with
  | false => exact ⟨lq_erow rfl (.inr rfl) fun j hj => absurd hj (Nat.not_lt_zero _)⟩
  | true =>
    simp only [Bool.not_true, cond_false, if_true]
    cases (hasA (formI i.op) && decide (¬ i.a = 0)) <;> cases (hasB (formI i.op) && decide (¬ i.b = 0)) <;> simp only [cond_true, cond_false, if_true, if_false, Bool.false_eq_true]
    · exact ⟨lq_erow rfl (.inr rfl) fun j hj => absurd hj (Nat.not_lt_zero _)⟩
    · refine ⟨lq_erow rfl (.inl rfl) fun j hj => ?_⟩
      obtain rfl : j = 0 := by omega
      exact .refl _
    · refine ⟨lq_erow rfl (.inl rfl) fun j hj => ?_⟩
      obtain rfl : j = 0 := by omega
      exact .refl _
    · refine ⟨lq_erow rfl (.inl rfl) fun j hj => ?_⟩
      rcases (by omega : j = 0 ∨ j = 1) with rfl | rfl <;> exact .refl _
theorem sk_tgt : SkOk Try.prog (82, tgtS) := skOf_ok fun ⟨p, n⟩ h => by
  obtain ⟨hw, hn⟩ : p.wf ∧ n < p.code.length := h
  show Pure _ _ (cons [e_Prog p, .int .i64 n]) (con (.int .i64 (targetF p n)))
  refine pureR (u := 80) (k := 20) mix TR2ok ?_
  refine Eq.mpr (r_tgt p n _) ?_
  have h1 : (n : Int) < (p.code.length : Int) := by omega
  have hl := hw.1.2
  simp only [g1, g2, g3, g4, g5, g6, g7, allN_true, cond_true, Nat.le_refl, decide_true, pl_eq, h1]
  simp only [band, bor]
  unfold targetF
  generalize ix p.code n = i
  generalize formI i.op = f
  by_cases hm : i.imm < -8192 ∨ i.imm > 8191
  · rw [if_pos (.inr (hm.imp id .inl))]
    rcases hm with hm | hm <;> (simp only [decide_eq_true hm, Bool.true_or, Bool.or_true, cond_true]; exact .rfl)
  have m1 : ¬ i.imm < -8192 := fun h => hm (.inl h)
  have m2 : ¬ i.imm > 8191 := fun h => hm (.inr h)
  have w1 : IntKind.i64.wrap ((n : Int) + i.imm) = (n : Int) + i.imm := wrap_i64 (by omega) (by omega)
  simp only [w1, m1, m2, decide_false, Bool.or_false, false_or]
  have e : (decide (¬ f = 6) && decide (¬ f = 7) || decide ((n : Int) + i.imm < 0) || decide ((n : Int) + i.imm ≥ (p.code.length : Int))) = decide ((¬ f = 6 ∧ ¬ f = 7) ∨ (n : Int) + i.imm < 0 ∨ (n : Int) + i.imm ≥ p.code.length) := by
    rw [Bool.eq_iff_iff]; simp only [Bool.or_eq_true, Bool.and_eq_true, decide_eq_true_eq, or_assoc]
  rw [e]
  by_cases hc : (¬ f = 6 ∧ ¬ f = 7) ∨ (n : Int) + i.imm < 0 ∨ (n : Int) + i.imm ≥ p.code.length
  · rw [decide_eq_true hc, if_pos hc]; exact .rfl
  · rw [decide_eq_false hc, if_neg hc]; exact .rfl
end Go.Proofs.Ythmlnmkbeohojaa

/- Which programs may be, as the document says. -/
namespace Go.Proofs.Ythmlnmkbeohojaa
open Go.Ra
set_option linter.unusedVariables false
set_option linter.unusedSimpArgs false
def TR3 : Tab := mkT2 qq cl_ref1 [(65, formSp), (57, rtSp)] [] [(82, tgtS)] []
/-- Does an instruction lead somewhere, if it must? -/
def tgtOk (p : Prog) (n : Nat) : Bool := !((decide (formI (ix p.code n).op = 6) || decide (formI (ix p.code n).op = 7)) && decide (targetF p n < 0))
def tgsOk (p : Prog) : Bool := allN (tgtOk p) p.code.length
def tgsS : List XV → Option ((XV → Prop) → Prop) := skOf (fun p : Prog => [e_Prog p]) (fun p => p.wf) (fun p => if tgsOk p then (0 : Int) else 4) (fun y => .int .i64 y)
/-- May a program be? -/
def rightProg (p : Prog) : Bool := decide (1 ≤ p.code.length ∧ p.code.length ≤ 2000 ∧ 0 ≤ p.size ∧ p.size ≤ 65536 ∧ (p.data.length : Int) ≤ p.size) && (allN (fun n => rightIns (ix p.code n)) p.code.length && tgsOk p)
def rprS : List XV → Option ((XV → Prop) → Prop) := skOf (fun p : Prog => [e_Prog p]) (fun p => p.wf) (fun p => rightProg p) (fun y => .bool y)
def TR4 : Tab := mkT2 qq cl_ref1 [(57, rtSp)] [] [(58, tgsS)] []
theorem TR3ok : TabOk Try.prog TR3 := mkT2_ok clok_ref1 ⟨sp_form, sp_rt, trivial⟩ trivial ⟨sk_tgt, trivial⟩ trivial
theorem r_tgs0 (p : Prog) (r : XV) : (goQ Try.prog TR3 [(.tmp 2)] r (.run c_ref1_Targets) [] ⟨envX 0 [e_Prog p], [], 0⟩) = (LoopAt (Ok Try.prog (Tab.q TR3)) c_ref1_Targets_l1 (XSt.mk [(3, .int .i64 0), (2, .int .i64 0), (1, .ptr 0 [] 0)] [(0, some (e_Prog p))] 1) [Frm.blk 0, Frm.seq
 c_ref1_Targets_p1] (finQR [AR.tmp 2] r)) := by kernel_rfl
theorem r_tgs1 (p : Prog) (i : Nat) (r : XV) (A : XSt → Prop) : (goQ Try.prog TR3 [(.tmp 2)] r (.run c_ref1_Targets_l1) [.lp c_ref1_Targets_l1 A, .blk 0, .seq c_ref1_Targets_p1] ⟨[(3, .int .i64 i), (1, .ptr 0 [] 0)], [(0, some (e_Prog p))], 1⟩) = (bif decide ((↑i : Int) < (↑(List.length (Prog.code p)) : Int)) then bif decide ((↑i : Int) < (↑(List.length (Prog.code p)) : Int)) then bif bif decide (formI
 (Ins.op (ix (Prog.code p) i)) = 6) then true else !decide (formI (Ins.op (ix (Prog.code p) i)) = 6) then bif bif decide (formI (Ins.op (ix (Prog.code p) i)) = 6)
 then true else decide (formI (Ins.op (ix (Prog.code p) i)) = 7) then ∃ (s : Prog × Nat), ArgsLe [e_Prog p, .int .i64 (↑i : Int)] [e_Prog (Prod.fst s), .int .i64
 (↑(Prod.snd s) : Int)] ∧ PreIs (Prog.wf (Prod.fst s) ∧ Prod.snd s < List.length (Prog.code (Prod.fst s))) ∧ ∀ (y : Int), y = targetF (Prod.fst s) (Prod.snd s) →
 bif bif bif decide (formI (Ins.op (ix (Prog.code p) i)) = 6) then true else decide (formI (Ins.op (ix (Prog.code p) i)) = 7) then decide (y < 0) else false then
 ResLe (.int .i64 4) r else A (XSt.mk [(3, .int .i64 (IntKind.wrap .i64 ((↑i : Int) + (1 : Int)))), (1, .ptr 0 [] 0)] [(0, some (e_Prog p))] 1) else bif !bif decide
 (formI (Ins.op (ix (Prog.code p) i)) = 6) then true else decide (formI (Ins.op (ix (Prog.code p) i)) = 7) then A (XSt.mk [(3, .int .i64 (IntKind.wrap .i64 ((↑i :
 Int) + (1 : Int)))), (1, .ptr 0 [] 0)] [(0, some (e_Prog p))] 1) else False else False else False
else ResLe (.int .i64 0) r) := by kernel_rfl
theorem r_rpr0 (p : Prog) (r : XV) : (goQ Try.prog TR4 [(.tmp 2)] r (.run c_ref1_RightProgram) [] ⟨envX 0 [e_Prog p], [], 0⟩) = (bif bif decide ((↑(List.length (Prog.code p)) : Int) < 1) then true else !decide ((↑(List.length (Prog.code p)) : Int) < 1) then bif bif bif decide ((↑(List.length
 (Prog.code p)) : Int) < 1) then true else decide ((↑(List.length (Prog.code p)) : Int) > 2000) then true else !bif decide ((↑(List.length (Prog.code p)) : Int) <
 1) then true else decide ((↑(List.length (Prog.code p)) : Int) > 2000) then bif bif bif bif decide ((↑(List.length (Prog.code p)) : Int) < 1) then true else decide
 ((↑(List.length (Prog.code p)) : Int) > 2000) then true else decide (Prog.size p < 0) then true else !bif bif decide ((↑(List.length (Prog.code p)) : Int) < 1) then
 true else decide ((↑(List.length (Prog.code p)) : Int) > 2000) then true else decide (Prog.size p < 0) then bif bif bif bif bif decide ((↑(List.length (Prog.code
 p)) : Int) < 1) then true else decide ((↑(List.length (Prog.code p)) : Int) > 2000) then true else decide (Prog.size p < 0) then true else decide (Prog.size p >
 65536) then true else !bif bif bif decide ((↑(List.length (Prog.code p)) : Int) < 1) then true else decide ((↑(List.length (Prog.code p)) : Int) > 2000) then true
 else decide (Prog.size p < 0) then true else decide (Prog.size p > 65536) then bif bif bif bif bif decide ((↑(List.length (Prog.code p)) : Int) < 1) then true else
 decide ((↑(List.length (Prog.code p)) : Int) > 2000) then true else decide (Prog.size p < 0) then true else decide (Prog.size p > 65536) then true else decide ((↑(List.length
 (Prog.data p)) : Int) > Prog.size p) then ResLe (.bool false) r else LoopAt (Ok Try.prog (Tab.q TR4)) c_ref1_RightProgram_l1 (XSt.mk [(3, .int .i64 0), (2, .bool
 false), (1, .ptr 0 [] 0)] [(0, some (e_Prog p))] 1) [Frm.blk 0, Frm.seq c_ref1_RightProgram_p1] (finQR [AR.tmp 2] r) else False else False else False
else False)
 := by kernel_rfl
theorem r_rpr1 (p : Prog) (i : Nat) (r : XV) (A : XSt → Prop) : (goQ Try.prog TR4 [(.tmp 2)] r (.run c_ref1_RightProgram_l1) [.lp c_ref1_RightProgram_l1 A, .blk 0, .seq c_ref1_RightProgram_p1] ⟨[(3, .int .i64 i), (1, .ptr 0 [] 0)], [(0, some (e_Prog p))], 1⟩) = (bif decide ((↑i : Int) < (↑(List.length (Prog.code p)) : Int)) then bif decide ((↑i : Int) < (↑(List.length (Prog.code p)) : Int)) then bif !rightIns (ix (Prog.code
 p) i) then ResLe (.bool false) r else A (XSt.mk [(3, .int .i64 (IntKind.wrap .i64 ((↑i : Int) + (1 : Int)))), (1, .ptr 0 [] 0)] [(0, some (e_Prog p))] 1) else False
else
 ∃ (s : Prog), ArgsLe [e_Prog p] [e_Prog s] ∧ PreIs (Prog.wf s) ∧ ∀ (y : Int), (y = if tgsOk s = true then (0 : Int) else (4 : Int)) → ResLe (.bool (decide (y = 0)))
 r) := by kernel_rfl
theorem allN_false {p : Nat → Bool} {n i : Nat} (hi : i < n) (h : p i = false) : allN p n = false := by
  rw [← Bool.not_eq_true, allN_iff]
  intro h2
  rw [h2 i hi] at h
  cases h
theorem sk_tgs : SkOk Try.prog (58, tgsS) := skOf_ok fun p hw => by
  have hw : p.wf := hw
  have hl := hw.1.2
  refine pureQ mix TR3ok t_ref1_Targets (Nat.le_of_ble_eq_true rfl) ?_
  refine Eq.mpr (r_tgs0 p _) ?_
  refine loopQ mix TR3ok (fun i : Nat => ⟨[(3, .int .i64 i), (1, .ptr 0 [] 0)], [(0, some (e_Prog p))], 1⟩) (fun i => i ≤ p.code.length ∧ ∀ j, j < i → tgtOk p j = true) (fun i => p.code.length - i) 0 ⟨Nat.zero_le _, fun j hj => by omega⟩ (.of (weakX ⟨rfl, rfl, trivial⟩ ⟨rfl, trivial⟩ (Nat.le_refl _))) ?_
  rintro i ⟨hi, hp⟩
  refine Eq.mpr (r_tgs1 p i _ _) ?_
  by_cases hlt : i < p.code.length
  · have h1 : (i : Int) < (p.code.length : Int) := by omega
    have w1 : IntKind.i64.wrap ((i : Int) + 1) = ((i + 1 : Nat) : Int) := wrap_i64 (by omega) (by omega)
    simp only [g1, g2, g3, g4, g5, g6, g7, allN_true, cond_true, Nat.le_refl, decide_true, pl_eq, h1, w1]
    simp only [bor, band]
    have next : tgtOk p i = true → ∃ j, (j ≤ p.code.length ∧ ∀ k, k < j → tgtOk p k = true) ∧ WeakE 1 (XSt.st (XSt.mk [(3, .int .i64 ((i + 1 : Nat) : Int)), (1, .ptr 0 [] 0)] [(0, some (e_Prog p))] 1)) (XSt.st (XSt.mk [(3, .int .i64 (j : Nat)), (1, .ptr 0 [] 0)] [(0, some (e_Prog p))] 1)) ∧ p.code.length - j < p.code.length - i := fun h => by
      refine ⟨i + 1, ⟨hlt, fun j hj => ?_⟩, .of (weakX ⟨rfl, rfl, trivial⟩ ⟨rfl, trivial⟩ (Nat.le_refl _)), by omega⟩
      by_cases hji : j = i
      · subst hji; exact h
      · exact hp j (by omega)
    cases hc : (decide (formI (ix p.code i).op = 6) || decide (formI (ix p.code i).op = 7)) with
    | false =>
      simp only [cond_false, Bool.not_false, cond_true]
      exact next (by unfold tgtOk; rw [hc]; rfl)
    | true =>
      simp only [cond_true]
      refine ⟨(p, i), .rfl, ⟨hw, hlt⟩, ?_⟩
      rintro y rfl
      simp only [Bool.true_and]
      refine cnd2 (fun h => ?_) (fun h => ?_)
      · have : tgsOk p = false := allN_false hlt (by unfold tgtOk; rw [hc]; simpa using h)
        rw [this]
        exact .rfl
      · exact next (by unfold tgtOk; rw [hc]; simpa using h)
  · have h1 : ¬ (i : Int) < (p.code.length : Int) := by omega
    simp only [h1, decide_false, cond_false]
    have : tgsOk p = true := allN_iff.2 fun j hj => hp j (by omega)
    rw [this]
    exact .rfl
theorem TR4ok : TabOk Try.prog TR4 := mkT2_ok clok_ref1 ⟨sp_rt, trivial⟩ trivial ⟨sk_tgs, trivial⟩ trivial
theorem sk_rpr : SkOk Try.prog (29, rprS) := skOf_ok fun p hw => by
  have hw : p.wf := hw
  have hl := hw.1.2
  refine pureQ mix TR4ok t_ref1_RightProgram (Nat.le_of_ble_eq_true rfl) ?_
  refine Eq.mpr (r_rpr0 p _) ?_
  simp only [g1, g2, g3, g4, g5, g6, g7, allN_true, cond_true, Nat.le_refl, decide_true, pl_eq]
  simp only [bor]
  have e : (decide ((p.code.length : Int) < 1) || decide ((p.code.length : Int) > 2000) || decide (p.size < 0) || decide (p.size > 65536) || decide ((p.data.length : Int) > p.size)) = !decide (1 ≤ p.code.length ∧ p.code.length ≤ 2000 ∧ 0 ≤ p.size ∧ p.size ≤ 65536 ∧ (p.data.length : Int) ≤ p.size) := by
    rw [Bool.eq_iff_iff]
    simp only [Bool.or_eq_true, decide_eq_true_eq, Bool.not_eq_true', decide_eq_false_iff_not]
    omega
  rw [e]
  cases hd : decide (1 ≤ p.code.length ∧ p.code.length ≤ 2000 ∧ 0 ≤ p.size ∧ p.size ≤ 65536 ∧ (p.data.length : Int) ≤ p.size) with
  | false =>
    simp only [Bool.not_false, cond_true]
    unfold rightProg
    rw [hd]
    exact .rfl
  | true =>
    simp only [Bool.not_true, cond_false]
    refine loopQ mix TR4ok (fun i : Nat => ⟨[(3, .int .i64 i), (1, .ptr 0 [] 0)], [(0, some (e_Prog p))], 1⟩) (fun i => i ≤ p.code.length ∧ ∀ j, j < i → rightIns (ix p.code j) = true) (fun i => p.code.length - i) 0 ⟨Nat.zero_le _, fun j hj => by omega⟩ (.of (weakX ⟨rfl, rfl, trivial⟩ ⟨rfl, trivial⟩ (Nat.le_refl _))) ?_
    rintro i ⟨hi, hp⟩
    refine Eq.mpr (r_rpr1 p i _ _) ?_
    by_cases hlt : i < p.code.length
    · have h1 : (i : Int) < (p.code.length : Int) := by omega
      have w1 : IntKind.i64.wrap ((i : Int) + 1) = ((i + 1 : Nat) : Int) := wrap_i64 (by omega) (by omega)
      simp only [g1, g2, g3, g4, g5, g6, g7, allN_true, cond_true, Nat.le_refl, decide_true, pl_eq, h1, w1]
      refine cnd2 (fun h => ?_) (fun h => ?_)
      · have h2 : rightIns (ix p.code i) = false := by simpa using h
        have : rightProg p = false := by
          unfold rightProg
          rw [allN_false hlt h2]
          simp
        rw [this]
        exact .rfl
      · have h2 : rightIns (ix p.code i) = true := by simpa using h
        refine ⟨i + 1, ⟨hlt, fun j hj => ?_⟩, .of (weakX ⟨rfl, rfl, trivial⟩ ⟨rfl, trivial⟩ (Nat.le_refl _)), by omega⟩
        by_cases hji : j = i
        · subst hji; exact h2
        · exact hp j (by omega)
    · have h1 : ¬ (i : Int) < (p.code.length : Int) := by omega
      simp only [h1, decide_false, cond_false]
      refine ⟨p, .rfl, ⟨hw⟩, ?_⟩
      rintro y rfl
      have e2 : rightProg p = tgsOk p := by
        unfold rightProg
        rw [hd, allN_iff.2 fun j hj => hp j (by omega)]
        rfl
      rw [e2]
      cases tgsOk p <;> exact .rfl
end Go.Proofs.Ythmlnmkbeohojaa

/- Abstract code of the functions of ref10: printed by a program from what the given translation yields. -/
namespace Go.Proofs.Ythmlnmkbeohojaa
open Go.Ra
def c_ref10_Split : AC := (.seq (.ops [⟨(.some 1), (.box (.t 0)), .none⟩, ⟨(.some 2), (.box (.c (.agg 17 [(.fro .true 0 []), (.arr 16 1 [(.sc (.int .i64 0)), (.sc (.int .i64 0)), (.sc (.int .i64 0)), (.sc (.int .i64 0)), (.sc (.int .i64 0)), (.sc (.int .i64 0)), (.sc (.int .i64 0)), (.sc (.int .i64 0)), (.sc (.int .i64 0)), (.sc (.int .i64 0)), (.sc (.int .i64 0)), (.sc (.int .i64 0)), (.sc (.int .i64 0)), (.sc (.int .i64 0)), (.sc (.int .i64 0)), (.sc (.int .i64 0))])]))), .none⟩, ⟨(.some 3), (.mv (.c (.sc (.int .i64 0)))), .none⟩]) (.seq (.ops [⟨(.some 4), (.load .true 3 (.t 1)), .none⟩, ⟨(.some 5), (.load .true 3 (.t 1)), .none⟩, ⟨(.some 6), (.call 48 [(.t 5)]), .none⟩, ⟨(.some 7), (.call 47 [(.t 4), (.t 6)]), .none⟩, ⟨(.some 8), (.ext (.t 7) 0), .none⟩, ⟨(.some 9), (.ext (.t 7) 1), .none⟩, ⟨.none, (.store 17 (.t 2) (.t 8)), .none⟩, ⟨(.some 3), (.mv (.t 9)), .none⟩]) .ret))
theorem t_ref10_Split : trF Try.prog qq 19 = some (10, [(.cell 2 .true 17), (.tmp 3)], c_ref10_Split) := by kernel_rfl
def c_ref10_With_l1 : AC := (.seq (.seq (.ops [⟨(.some 36), (.mv (.t 9)), .none⟩, ⟨(.some 37), (.mv (.t 8)), .none⟩, ⟨(.some 38), (.nilck (.t 37)), .none⟩, ⟨(.some 39), (.fadr 1 1 1 (.t 38)), .none⟩, ⟨(.some 40), (.load .false 1 (.t 39)), .none⟩, ⟨(.some 41), (.bin .lss (.t 36) (.t 40)), .none⟩]) (.cond (.t 41) .skip (.exit 2))) (.seq (.block 3 (.seq (.ops [⟨(.some 45), (.fadr 0 0 1 (.t 2)), .none⟩, ⟨(.some 46), (.load .false 1 (.t 45)), .none⟩, ⟨(.some 47), (.mv (.t 9)), .none⟩, ⟨(.some 48), (.iadr .none 5 (.t 46) (.t 47)), .none⟩, ⟨(.some 49), (.load .true 5 (.t 48)), .none⟩, ⟨(.some 50), (.load .true 16 (.t 3)), .none⟩, ⟨(.some 51), (.mv (.t 9)), .none⟩, ⟨(.some 52), (.mv (.t 9)), .none⟩, ⟨(.some 53), (.mv (.t 8)), .none⟩, ⟨(.some 54), (.nilck (.t 53)), .none⟩, ⟨(.some 55), (.fadr 0 0 1 (.t 54)), .none⟩, ⟨(.some 56), (.load .false 1 (.t 55)), .none⟩, ⟨(.some 57), (.bin .sub (.t 52) (.t 56)), .none⟩, ⟨(.some 58), (.call 69 [(.t 49), (.t 50), (.t 51), (.t 57)]), .none⟩, ⟨(.some 44), (.mv (.t 58)), .none⟩, ⟨(.some 59), (.ext (.t 44) 0), .none⟩, ⟨(.some 60), (.ext (.t 44) 1), .none⟩, ⟨(.some 10), (.mv (.t 59)), .none⟩, ⟨(.some 11), (.mv (.t 60)), .none⟩]) (.seq (.ops [⟨(.some 61), (.mv (.t 8)), .none⟩, ⟨(.some 62), (.mv (.t 8)), .none⟩, ⟨(.some 63), (.nilck (.t 62)), .none⟩, ⟨(.some 64), (.fadr 4 4 1 (.t 63)), .none⟩, ⟨(.some 65), (.load .false 1 (.t 64)), .none⟩, ⟨(.some 66), (.mv (.t 10)), .none⟩, ⟨(.some 67), (.app 9 72 (.t 65) (.t 66)), .none⟩, ⟨(.some 68), (.nilck (.t 61)), .none⟩, ⟨(.some 69), (.fadr 4 4 1 (.t 68)), .none⟩, ⟨.none, (.store 1 (.t 69) (.t 67)), .none⟩]) (.ops [⟨(.some 70), (.mv (.t 8)), .none⟩, ⟨(.some 71), (.mv (.t 8)), .none⟩, ⟨(.some 72), (.nilck (.t 71)), .none⟩, ⟨(.some 73), (.fadr 5 5 1 (.t 72)), .none⟩, ⟨(.some 74), (.load .false 1 (.t 73)), .none⟩, ⟨(.some 75), (.mv (.t 11)), .none⟩, ⟨(.some 76), (.app 9 72 (.t 74) (.t 75)), .none⟩, ⟨(.some 77), (.nilck (.t 70)), .none⟩, ⟨(.some 78), (.fadr 5 5 1 (.t 77)), .none⟩, ⟨.none, (.store 1 (.t 78) (.t 76)), .none⟩])))) (.ops [⟨(.some 42), (.mv (.t 9)), .none⟩, ⟨(.some 43), (.bin .add (.t 42) (.c (.sc (.int .i64 1)))), .none⟩, ⟨(.some 9), (.mv (.t 43)), .none⟩])))
def c_ref10_With_p1 : AC := (.ops [⟨(.some 26), (.mv (.t 7)), .none⟩, ⟨(.some 27), (.bin .add (.t 26) (.c (.sc (.int .i64 1)))), .none⟩, ⟨(.some 7), (.mv (.t 27)), .none⟩])
def c_ref10_With_l2 : AC := (.seq (.seq (.ops [⟨(.some 21), (.mv (.t 7)), .none⟩, ⟨(.some 22), (.fadr 0 0 1 (.t 6)), .none⟩, ⟨(.some 23), (.load .false 1 (.t 22)), .none⟩, ⟨(.some 24), (.len .none (.t 23)), .none⟩, ⟨(.some 25), (.bin .lss (.t 21) (.t 24)), .none⟩]) (.cond (.t 25) .skip (.exit 0))) (.seq (.block 1 (.seq (.ops [⟨(.some 28), (.fadr 0 0 1 (.t 6)), .none⟩, ⟨(.some 29), (.load .false 1 (.t 28)), .none⟩, ⟨(.some 30), (.mv (.t 7)), .none⟩, ⟨(.some 31), (.iadr .none 6 (.t 29) (.t 30)), .none⟩, ⟨(.some 8), (.mv (.t 31)), .none⟩]) (.seq (.ops [⟨(.some 32), (.mv (.t 8)), .none⟩, ⟨(.some 33), (.nilck (.t 32)), .none⟩, ⟨(.some 34), (.fadr 0 0 1 (.t 33)), .none⟩, ⟨(.some 35), (.load .false 1 (.t 34)), .none⟩, ⟨(.some 9), (.mv (.t 35)), .none⟩]) (.block 2 (.loop c_ref10_With_l1))))) c_ref10_With_p1))
def c_ref10_With_p2 : AC := (.seq (.ops [⟨(.some 79), (.load .true 17 (.t 6)), .none⟩, ⟨.none, (.store 17 (.t 4) (.t 79)), .none⟩, ⟨(.some 5), (.mv (.c (.sc (.int .i64 0)))), .none⟩]) .ret)
def c_ref10_With : AC := (.seq (.ops [⟨(.some 2), (.box (.t 0)), .none⟩, ⟨(.some 3), (.box (.t 1)), .none⟩, ⟨(.some 4), (.box (.c (.agg 17 [(.fro .true 0 []), (.arr 16 1 [(.sc (.int .i64 0)), (.sc (.int .i64 0)), (.sc (.int .i64 0)), (.sc (.int .i64 0)), (.sc (.int .i64 0)), (.sc (.int .i64 0)), (.sc (.int .i64 0)), (.sc (.int .i64 0)), (.sc (.int .i64 0)), (.sc (.int .i64 0)), (.sc (.int .i64 0)), (.sc (.int .i64 0)), (.sc (.int .i64 0)), (.sc (.int .i64 0)), (.sc (.int .i64 0)), (.sc (.int .i64 0))])]))), .none⟩, ⟨(.some 5), (.mv (.c (.sc (.int .i64 0)))), .none⟩]) (.seq (.seq (.ops [⟨(.some 12), (.load .true 3 (.t 2)), .none⟩, ⟨(.some 13), (.load .true 16 (.t 3)), .none⟩, ⟨(.some 14), (.call 67 [(.t 12), (.t 13)]), .none⟩, ⟨(.some 15), (.un .not (.t 14)), .none⟩]) (.cond (.t 15) (.seq (.ops [⟨(.some 16), (.build 17 [(.fro .true 0 []), (.arr 16 1 [(.sc (.int .i64 0)), (.sc (.int .i64 0)), (.sc (.int .i64 0)), (.sc (.int .i64 0)), (.sc (.int .i64 0)), (.sc (.int .i64 0)), (.sc (.int .i64 0)), (.sc (.int .i64 0)), (.sc (.int .i64 0)), (.sc (.int .i64 0)), (.sc (.int .i64 0)), (.sc (.int .i64 0)), (.sc (.int .i64 0)), (.sc (.int .i64 0)), (.sc (.int .i64 0)), (.sc (.int .i64 0))])] []), .none⟩, ⟨.none, (.store 17 (.t 4) (.t 16)), .none⟩, ⟨(.some 5), (.mv (.c (.sc (.int .i64 1)))), .none⟩]) .ret) .skip)) (.seq (.ops [⟨(.some 17), (.load .true 3 (.t 2)), .none⟩, ⟨(.some 18), (.call 68 [(.t 17)]), .none⟩, ⟨(.some 19), (.load .true 16 (.t 3)), .none⟩, ⟨(.some 20), (.build 17 [(.fro .true 0 []), (.arr 16 1 [(.sc (.int .i64 0)), (.sc (.int .i64 0)), (.sc (.int .i64 0)), (.sc (.int .i64 0)), (.sc (.int .i64 0)), (.sc (.int .i64 0)), (.sc (.int .i64 0)), (.sc (.int .i64 0)), (.sc (.int .i64 0)), (.sc (.int .i64 0)), (.sc (.int .i64 0)), (.sc (.int .i64 0)), (.sc (.int .i64 0)), (.sc (.int .i64 0)), (.sc (.int .i64 0)), (.sc (.int .i64 0))])] [(0, (.t 18)), (1, (.t 19))]), .none⟩, ⟨(.some 6), (.box (.c (.agg 17 [(.fro .true 0 []), (.arr 16 1 [(.sc (.int .i64 0)), (.sc (.int .i64 0)), (.sc (.int .i64 0)), (.sc (.int .i64 0)), (.sc (.int .i64 0)), (.sc (.int .i64 0)), (.sc (.int .i64 0)), (.sc (.int .i64 0)), (.sc (.int .i64 0)), (.sc (.int .i64 0)), (.sc (.int .i64 0)), (.sc (.int .i64 0)), (.sc (.int .i64 0)), (.sc (.int .i64 0)), (.sc (.int .i64 0)), (.sc (.int .i64 0))])]))), .none⟩, ⟨.none, (.store 17 (.t 6) (.t 20)), .none⟩]) (.seq (.seq (.ops [⟨(.some 7), (.mv (.c (.sc (.int .i64 0)))), .none⟩]) (.block 0 (.loop c_ref10_With_l2))) c_ref10_With_p2))))
theorem t_ref10_With : trF Try.prog qq 47 = some (80, [(.cell 4 .true 17), (.tmp 5)], c_ref10_With) := by kernel_rfl
def c_ref10_Owner_l1 : AC := (.seq (.seq (.ops [⟨(.some 15), (.mv (.t 4)), .none⟩, ⟨(.some 16), (.bin .lss (.t 15) (.c (.sc (.int .i64 16)))), .none⟩]) (.cond (.t 16) .skip (.exit 0))) (.seq (.block 1 (.ops [⟨(.some 19), (.mv (.t 4)), .none⟩, ⟨(.some 20), (.iadr (.some 16) 1 (.t 3) (.t 19)), .none⟩, ⟨.none, (.store 1 (.t 20) (.c (.sc (.int .i64 2)))), .none⟩])) (.ops [⟨(.some 17), (.mv (.t 4)), .none⟩, ⟨(.some 18), (.bin .add (.t 17) (.c (.sc (.int .i64 1)))), .none⟩, ⟨(.some 4), (.mv (.t 18)), .none⟩])))
def c_ref10_Owner_l2 : AC := (.seq (.seq (.ops [⟨(.some 74), (.mv (.t 10)), .none⟩, ⟨(.some 75), (.mv (.t 9)), .none⟩, ⟨(.some 76), (.len .none (.t 75)), .none⟩, ⟨(.some 77), (.bin .lss (.t 74) (.t 76)), .none⟩]) (.cond (.t 77) .skip (.exit 6))) (.seq (.block 7 (.ops [⟨(.some 80), (.mv (.t 9)), .none⟩, ⟨(.some 81), (.mv (.t 10)), .none⟩, ⟨(.some 82), (.iadr .none 1 (.t 80) (.t 81)), .none⟩, ⟨(.some 83), (.load .false 1 (.t 82)), .none⟩, ⟨(.some 84), (.iadr (.some 16) 1 (.t 3) (.t 83)), .none⟩, ⟨.none, (.store 1 (.t 84) (.c (.sc (.int .i64 1)))), .none⟩])) (.ops [⟨(.some 78), (.mv (.t 10)), .none⟩, ⟨(.some 79), (.bin .add (.t 78) (.c (.sc (.int .i64 1)))), .none⟩, ⟨(.some 10), (.mv (.t 79)), .none⟩])))
def c_ref10_Owner_p1 : AC := (.ops [⟨(.some 30), (.mv (.t 6)), .none⟩, ⟨(.some 31), (.bin .add (.t 30) (.c (.sc (.int .i64 1)))), .none⟩, ⟨(.some 6), (.mv (.t 31)), .none⟩])
def c_ref10_Owner_l3 : AC := (.seq (.seq (.ops [⟨(.some 25), (.mv (.t 6)), .none⟩, ⟨(.some 26), (.fadr 0 0 1 (.t 1)), .none⟩, ⟨(.some 27), (.load .false 1 (.t 26)), .none⟩, ⟨(.some 28), (.len .none (.t 27)), .none⟩, ⟨(.some 29), (.bin .lss (.t 25) (.t 28)), .none⟩]) (.cond (.t 29) .skip (.exit 4))) (.seq (.block 5 (.seq (.ops [⟨(.some 32), (.fadr 0 0 1 (.t 1)), .none⟩, ⟨(.some 33), (.load .false 1 (.t 32)), .none⟩, ⟨(.some 34), (.mv (.t 6)), .none⟩, ⟨(.some 35), (.iadr .none 5 (.t 33) (.t 34)), .none⟩, ⟨(.some 36), (.load .true 5 (.t 35)), .none⟩, ⟨(.some 7), (.box (.c (.agg 5 [(.sc (.int .i64 0)), (.sc (.int .i64 0)), (.sc (.int .i64 0)), (.sc (.int .i64 0)), (.sc (.int .i64 0))]))), .none⟩, ⟨.none, (.store 5 (.t 7) (.t 36)), .none⟩]) (.seq (.ops [⟨(.some 37), (.fadr 0 0 1 (.t 7)), .none⟩, ⟨(.some 38), (.load .false 1 (.t 37)), .none⟩, ⟨(.some 39), (.call 65 [(.t 38)]), .none⟩, ⟨(.some 8), (.mv (.t 39)), .none⟩]) (.seq (.seq (.ops [⟨(.some 40), (.mv (.t 8)), .none⟩, ⟨(.some 41), (.bin .eql (.t 40) (.c (.sc (.int .i64 4)))), .none⟩, ⟨(.some 42), (.mv (.t 41)), .none⟩, ⟨(.some 43), (.mv (.t 8)), (.some (42, .false))⟩, ⟨(.some 44), (.bin .eql (.t 43) (.c (.sc (.int .i64 5)))), (.some (42, .false))⟩, ⟨(.some 45), (.pick (.t 42) (.c (.sc (.bool .true))) (.t 44)), .none⟩, ⟨(.some 46), (.mv (.t 45)), .none⟩, ⟨(.some 47), (.fadr 2 2 1 (.t 7)), (.some (46, .true))⟩, ⟨(.some 48), (.load .false 1 (.t 47)), (.some (46, .true))⟩, ⟨(.some 49), (.bin .gtr (.t 48) (.c (.sc (.int .i64 0)))), (.some (46, .true))⟩, ⟨(.some 50), (.pick (.t 46) (.t 49) (.c (.sc (.bool .false)))), .none⟩]) (.cond (.t 50) (.ops [⟨(.some 51), (.fadr 2 2 1 (.t 7)), .none⟩, ⟨(.some 52), (.load .false 1 (.t 51)), .none⟩, ⟨(.some 53), (.iadr (.some 16) 1 (.t 3) (.t 52)), .none⟩, ⟨.none, (.store 1 (.t 53) (.c (.sc (.int .i64 1)))), .none⟩]) .skip)) (.seq (.ops [⟨(.some 54), (.mv (.t 8)), .none⟩, ⟨(.some 55), (.bin .geq (.t 54) (.c (.sc (.int .i64 1)))), .none⟩, ⟨(.some 56), (.mv (.t 55)), .none⟩, ⟨(.some 57), (.mv (.t 8)), (.some (56, .true))⟩, ⟨(.some 58), (.bin .leq (.t 57) (.c (.sc (.int .i64 3)))), (.some (56, .true))⟩, ⟨(.some 59), (.pick (.t 56) (.t 58) (.c (.sc (.bool .false)))), .none⟩, ⟨(.some 60), (.mv (.t 59)), .none⟩, ⟨(.some 61), (.fadr 1 1 1 (.t 7)), (.some (60, .true))⟩, ⟨(.some 62), (.load .false 1 (.t 61)), (.some (60, .true))⟩, ⟨(.some 63), (.bin .gtr (.t 62) (.c (.sc (.int .i64 0)))), (.some (60, .true))⟩, ⟨(.some 64), (.pick (.t 60) (.t 63) (.c (.sc (.bool .false)))), .none⟩, ⟨(.some 65), (.mv (.t 64)), .none⟩, ⟨(.some 66), (.fadr 1 1 1 (.t 7)), (.some (65, .true))⟩, ⟨(.some 67), (.load .false 1 (.t 66)), (.some (65, .true))⟩, ⟨(.some 68), (.iadr (.some 16) 1 (.t 3) (.t 67)), (.some (65, .true))⟩, ⟨(.some 69), (.load .false 1 (.t 68)), (.some (65, .true))⟩, ⟨(.some 70), (.bin .eql (.t 69) (.c (.sc (.int .i64 1)))), (.some (65, .true))⟩, ⟨(.some 71), (.pick (.t 65) (.t 70) (.c (.sc (.bool .false)))), .none⟩]) (.cond (.t 71) (.seq (.ops [⟨(.some 72), (.load .true 5 (.t 7)), .none⟩, ⟨(.some 73), (.call 70 [(.t 72)]), .none⟩, ⟨(.some 9), (.mv (.t 73)), .none⟩]) (.seq (.ops [⟨(.some 10), (.mv (.c (.sc (.int .i64 0)))), .none⟩]) (.block 6 (.loop c_ref10_Owner_l2)))) .skip)))))) c_ref10_Owner_p1))
def c_ref10_Owner_p2 : AC := (.ops [⟨(.some 23), (.mv (.t 5)), .none⟩, ⟨(.some 24), (.bin .add (.t 23) (.c (.sc (.int .i64 1)))), .none⟩, ⟨(.some 5), (.mv (.t 24)), .none⟩])
def c_ref10_Owner_l4 : AC := (.seq (.seq (.ops [⟨(.some 21), (.mv (.t 5)), .none⟩, ⟨(.some 22), (.bin .lss (.t 21) (.c (.sc (.int .i64 17)))), .none⟩]) (.cond (.t 22) .skip (.exit 2))) (.seq (.block 3 (.seq (.ops [⟨(.some 6), (.mv (.c (.sc (.int .i64 0)))), .none⟩]) (.block 4 (.loop c_ref10_Owner_l3)))) c_ref10_Owner_p2))
def c_ref10_Owner_p3 : AC := (.seq (.ops [⟨(.some 85), (.load .true 16 (.t 3)), .none⟩, ⟨.none, (.store 16 (.t 2) (.t 85)), .none⟩]) .ret)
def c_ref10_Owner_p4 : AC := (.seq (.seq (.ops [⟨(.some 5), (.mv (.c (.sc (.int .i64 0)))), .none⟩]) (.block 2 (.loop c_ref10_Owner_l4))) c_ref10_Owner_p3)
def c_ref10_Owner : AC := (.seq (.ops [⟨(.some 1), (.box (.t 0)), .none⟩, ⟨(.some 2), (.box (.c (.arr 16 1 [(.sc (.int .i64 0)), (.sc (.int .i64 0)), (.sc (.int .i64 0)), (.sc (.int .i64 0)), (.sc (.int .i64 0)), (.sc (.int .i64 0)), (.sc (.int .i64 0)), (.sc (.int .i64 0)), (.sc (.int .i64 0)), (.sc (.int .i64 0)), (.sc (.int .i64 0)), (.sc (.int .i64 0)), (.sc (.int .i64 0)), (.sc (.int .i64 0)), (.sc (.int .i64 0)), (.sc (.int .i64 0))]))), .none⟩]) (.seq (.ops [⟨(.some 3), (.box (.c (.arr 16 1 [(.sc (.int .i64 0)), (.sc (.int .i64 0)), (.sc (.int .i64 0)), (.sc (.int .i64 0)), (.sc (.int .i64 0)), (.sc (.int .i64 0)), (.sc (.int .i64 0)), (.sc (.int .i64 0)), (.sc (.int .i64 0)), (.sc (.int .i64 0)), (.sc (.int .i64 0)), (.sc (.int .i64 0)), (.sc (.int .i64 0)), (.sc (.int .i64 0)), (.sc (.int .i64 0)), (.sc (.int .i64 0))]))), .none⟩]) (.seq (.seq (.ops [⟨(.some 11), (.load .true 3 (.t 1)), .none⟩, ⟨(.some 12), (.call 29 [(.t 11)]), .none⟩, ⟨(.some 13), (.un .not (.t 12)), .none⟩]) (.cond (.t 13) (.seq (.ops [⟨(.some 14), (.load .true 16 (.t 3)), .none⟩, ⟨.none, (.store 16 (.t 2) (.t 14)), .none⟩]) .ret) .skip)) (.seq (.seq (.ops [⟨(.some 4), (.mv (.c (.sc (.int .i64 1)))), .none⟩]) (.block 0 (.loop c_ref10_Owner_l1))) c_ref10_Owner_p4))))
theorem t_ref10_Owner : trF Try.prog qq 48 = some (86, [(.cell 2 .true 16)], c_ref10_Owner) := by kernel_rfl
def c_ref10_Closed_l1 : AC := (.seq (.seq (.ops [⟨(.some 17), (.mv (.t 5)), .none⟩, ⟨(.some 18), (.bin .lss (.t 17) (.c (.sc (.int .i64 16)))), .none⟩]) (.cond (.t 18) .skip (.exit 0))) (.seq (.block 1 (.seq (.ops [⟨(.some 21), (.mv (.t 5)), .none⟩, ⟨(.some 22), (.iadr (.some 16) 1 (.t 3) (.t 21)), .none⟩, ⟨(.some 23), (.load .false 1 (.t 22)), .none⟩, ⟨(.some 24), (.bin .neq (.t 23) (.c (.sc (.int .i64 1)))), .none⟩, ⟨(.some 25), (.mv (.t 24)), .none⟩, ⟨(.some 26), (.mv (.t 5)), (.some (25, .true))⟩, ⟨(.some 27), (.iadr (.some 16) 1 (.t 3) (.t 26)), (.some (25, .true))⟩, ⟨(.some 28), (.load .false 1 (.t 27)), (.some (25, .true))⟩, ⟨(.some 29), (.bin .neq (.t 28) (.c (.sc (.int .i64 2)))), (.some (25, .true))⟩, ⟨(.some 30), (.pick (.t 25) (.t 29) (.c (.sc (.bool .false)))), .none⟩]) (.cond (.t 30) (.seq (.ops [⟨(.some 4), (.mv (.c (.sc (.bool .false)))), .none⟩]) .ret) .skip))) (.ops [⟨(.some 19), (.mv (.t 5)), .none⟩, ⟨(.some 20), (.bin .add (.t 19) (.c (.sc (.int .i64 1)))), .none⟩, ⟨(.some 5), (.mv (.t 20)), .none⟩])))
def c_ref10_Closed_l2 : AC := (.seq (.seq (.ops [⟨(.some 31), (.mv (.t 6)), .none⟩, ⟨(.some 32), (.fadr 0 0 1 (.t 2)), .none⟩, ⟨(.some 33), (.load .false 1 (.t 32)), .none⟩, ⟨(.some 34), (.len .none (.t 33)), .none⟩, ⟨(.some 35), (.bin .lss (.t 31) (.t 34)), .none⟩]) (.cond (.t 35) .skip (.exit 2))) (.seq (.block 3 (.seq (.ops [⟨(.some 38), (.fadr 0 0 1 (.t 2)), .none⟩, ⟨(.some 39), (.load .false 1 (.t 38)), .none⟩, ⟨(.some 40), (.mv (.t 6)), .none⟩, ⟨(.some 41), (.iadr .none 5 (.t 39) (.t 40)), .none⟩, ⟨(.some 42), (.load .true 5 (.t 41)), .none⟩, ⟨(.some 7), (.box (.c (.agg 5 [(.sc (.int .i64 0)), (.sc (.int .i64 0)), (.sc (.int .i64 0)), (.sc (.int .i64 0)), (.sc (.int .i64 0))]))), .none⟩, ⟨.none, (.store 5 (.t 7) (.t 42)), .none⟩]) (.seq (.ops [⟨(.some 43), (.fadr 0 0 1 (.t 7)), .none⟩, ⟨(.some 44), (.load .false 1 (.t 43)), .none⟩, ⟨(.some 45), (.call 65 [(.t 44)]), .none⟩, ⟨(.some 8), (.mv (.t 45)), .none⟩]) (.seq (.seq (.ops [⟨(.some 46), (.mv (.t 8)), .none⟩, ⟨(.some 47), (.bin .eql (.t 46) (.c (.sc (.int .i64 4)))), .none⟩, ⟨(.some 48), (.mv (.t 47)), .none⟩, ⟨(.some 49), (.mv (.t 8)), (.some (48, .false))⟩, ⟨(.some 50), (.bin .eql (.t 49) (.c (.sc (.int .i64 5)))), (.some (48, .false))⟩, ⟨(.some 51), (.pick (.t 48) (.c (.sc (.bool .true))) (.t 50)), .none⟩, ⟨(.some 52), (.mv (.t 51)), .none⟩, ⟨(.some 53), (.load .true 16 (.t 3)), (.some (52, .true))⟩, ⟨(.some 54), (.fadr 2 2 1 (.t 7)), (.some (52, .true))⟩, ⟨(.some 55), (.load .false 1 (.t 54)), (.some (52, .true))⟩, ⟨(.some 56), (.call 86 [(.t 53), (.t 55)]), (.some (52, .true))⟩, ⟨(.some 57), (.pick (.t 52) (.t 56) (.c (.sc (.bool .false)))), .none⟩]) (.cond (.t 57) (.seq (.ops [⟨(.some 4), (.mv (.c (.sc (.bool .false)))), .none⟩]) .ret) .skip)) (.seq (.ops [⟨(.some 58), (.mv (.t 8)), .none⟩, ⟨(.some 59), (.bin .geq (.t 58) (.c (.sc (.int .i64 1)))), .none⟩, ⟨(.some 60), (.mv (.t 59)), .none⟩, ⟨(.some 61), (.mv (.t 8)), (.some (60, .true))⟩, ⟨(.some 62), (.bin .leq (.t 61) (.c (.sc (.int .i64 3)))), (.some (60, .true))⟩, ⟨(.some 63), (.pick (.t 60) (.t 62) (.c (.sc (.bool .false)))), .none⟩, ⟨(.some 64), (.mv (.t 63)), .none⟩, ⟨(.some 65), (.fadr 1 1 1 (.t 7)), (.some (64, .true))⟩, ⟨(.some 66), (.load .false 1 (.t 65)), (.some (64, .true))⟩, ⟨(.some 67), (.bin .gtr (.t 66) (.c (.sc (.int .i64 0)))), (.some (64, .true))⟩, ⟨(.some 68), (.pick (.t 64) (.t 67) (.c (.sc (.bool .false)))), .none⟩, ⟨(.some 69), (.mv (.t 68)), .none⟩, ⟨(.some 70), (.fadr 1 1 1 (.t 7)), (.some (69, .true))⟩, ⟨(.some 71), (.load .false 1 (.t 70)), (.some (69, .true))⟩, ⟨(.some 72), (.iadr (.some 16) 1 (.t 3) (.t 71)), (.some (69, .true))⟩, ⟨(.some 73), (.load .false 1 (.t 72)), (.some (69, .true))⟩, ⟨(.some 74), (.bin .eql (.t 73) (.c (.sc (.int .i64 1)))), (.some (69, .true))⟩, ⟨(.some 75), (.pick (.t 69) (.t 74) (.c (.sc (.bool .false)))), .none⟩, ⟨(.some 76), (.mv (.t 75)), .none⟩, ⟨(.some 77), (.load .true 16 (.t 3)), (.some (76, .true))⟩, ⟨(.some 78), (.load .true 5 (.t 7)), (.some (76, .true))⟩, ⟨(.some 79), (.call 70 [(.t 78)]), (.some (76, .true))⟩, ⟨(.some 80), (.call 87 [(.t 77), (.t 79)]), (.some (76, .true))⟩, ⟨(.some 81), (.pick (.t 76) (.t 80) (.c (.sc (.bool .false)))), .none⟩]) (.cond (.t 81) (.seq (.ops [⟨(.some 4), (.mv (.c (.sc (.bool .false)))), .none⟩]) .ret) .skip)))))) (.ops [⟨(.some 36), (.mv (.t 6)), .none⟩, ⟨(.some 37), (.bin .add (.t 36) (.c (.sc (.int .i64 1)))), .none⟩, ⟨(.some 6), (.mv (.t 37)), .none⟩])))
def c_ref10_Closed_p1 : AC := (.seq (.ops [⟨(.some 4), (.mv (.c (.sc (.bool .true)))), .none⟩]) .ret)
def c_ref10_Closed_p2 : AC := (.seq (.seq (.ops [⟨(.some 6), (.mv (.c (.sc (.int .i64 0)))), .none⟩]) (.block 2 (.loop c_ref10_Closed_l2))) c_ref10_Closed_p1)
def c_ref10_Closed : AC := (.seq (.ops [⟨(.some 2), (.box (.t 0)), .none⟩, ⟨(.some 3), (.box (.t 1)), .none⟩, ⟨(.some 4), (.mv (.c (.sc (.bool .false)))), .none⟩]) (.seq (.seq (.ops [⟨(.some 9), (.load .true 3 (.t 2)), .none⟩, ⟨(.some 10), (.call 29 [(.t 9)]), .none⟩, ⟨(.some 11), (.un .not (.t 10)), .none⟩, ⟨(.some 12), (.mv (.t 11)), .none⟩, ⟨(.some 13), (.iadr (.some 16) 1 (.t 3) (.c (.sc (.int .i64 0)))), (.some (12, .false))⟩, ⟨(.some 14), (.load .false 1 (.t 13)), (.some (12, .false))⟩, ⟨(.some 15), (.bin .neq (.t 14) (.c (.sc (.int .i64 0)))), (.some (12, .false))⟩, ⟨(.some 16), (.pick (.t 12) (.c (.sc (.bool .true))) (.t 15)), .none⟩]) (.cond (.t 16) (.seq (.ops [⟨(.some 4), (.mv (.c (.sc (.bool .false)))), .none⟩]) .ret) .skip)) (.seq (.seq (.ops [⟨(.some 5), (.mv (.c (.sc (.int .i64 1)))), .none⟩]) (.block 0 (.loop c_ref10_Closed_l1))) c_ref10_Closed_p2)))
theorem t_ref10_Closed : trF Try.prog qq 67 = some (82, [(.tmp 4)], c_ref10_Closed) := by kernel_rfl
def c_ref10_Cut_l1 : AC := (.seq (.seq (.ops [⟨(.some 11), (.mv (.t 5)), .none⟩, ⟨(.some 12), (.mv (.t 3)), .none⟩, ⟨(.some 13), (.len .none (.t 12)), .none⟩, ⟨(.some 14), (.bin .lss (.t 11) (.t 13)), .none⟩]) (.cond (.t 14) .skip (.exit 0))) (.seq (.block 1 (.seq (.ops [⟨(.some 17), (.mv (.t 3)), .none⟩, ⟨(.some 18), (.mv (.t 5)), .none⟩, ⟨(.some 19), (.iadr .none 1 (.t 17) (.t 18)), .none⟩, ⟨(.some 20), (.load .false 1 (.t 19)), .none⟩, ⟨(.some 21), (.fadr 0 0 1 (.t 1)), .none⟩, ⟨(.some 22), (.load .false 1 (.t 21)), .none⟩, ⟨(.some 23), (.len .none (.t 22)), .none⟩, ⟨(.some 24), (.build 6 [(.sc (.int .i64 0)), (.sc (.int .i64 0)), (.sc (.int .i64 0)), (.sc (.int .i64 0)), (.fro .true 0 []), (.fro .true 0 [])] [(0, (.t 20)), (1, (.t 23)), (2, (.c (.sc (.int .i64 (-1))))), (3, (.c (.sc (.int .i64 (-1)))))]), .none⟩, ⟨(.some 6), (.box (.c (.agg 6 [(.sc (.int .i64 0)), (.sc (.int .i64 0)), (.sc (.int .i64 0)), (.sc (.int .i64 0)), (.fro .true 0 []), (.fro .true 0 [])]))), .none⟩, ⟨.none, (.store 6 (.t 6) (.t 24)), .none⟩]) (.seq (.seq (.ops [⟨(.some 25), (.mv (.t 5)), .none⟩, ⟨(.some 26), (.bin .add (.t 25) (.c (.sc (.int .i64 1)))), .none⟩, ⟨(.some 27), (.mv (.t 3)), .none⟩, ⟨(.some 28), (.len .none (.t 27)), .none⟩, ⟨(.some 29), (.bin .lss (.t 26) (.t 28)), .none⟩]) (.cond (.t 29) (.ops [⟨(.some 30), (.mv (.t 3)), .none⟩, ⟨(.some 31), (.mv (.t 5)), .none⟩, ⟨(.some 32), (.bin .add (.t 31) (.c (.sc (.int .i64 1)))), .none⟩, ⟨(.some 33), (.iadr .none 1 (.t 30) (.t 32)), .none⟩, ⟨(.some 34), (.load .false 1 (.t 33)), .none⟩, ⟨(.some 35), (.fadr 1 1 1 (.t 6)), .none⟩, ⟨.none, (.store 1 (.t 35) (.t 34)), .none⟩]) .skip)) (.seq (.ops [⟨(.some 36), (.fadr 0 0 1 (.t 1)), .none⟩, ⟨(.some 37), (.load .false 1 (.t 36)), .none⟩, ⟨(.some 38), (.fadr 1 1 1 (.t 6)), .none⟩, ⟨(.some 39), (.load .false 1 (.t 38)), .none⟩, ⟨(.some 40), (.bin .sub (.t 39) (.c (.sc (.int .i64 1)))), .none⟩, ⟨(.some 41), (.iadr .none 5 (.t 37) (.t 40)), .none⟩, ⟨(.some 42), (.load .true 5 (.t 41)), .none⟩, ⟨(.some 7), (.box (.c (.agg 5 [(.sc (.int .i64 0)), (.sc (.int .i64 0)), (.sc (.int .i64 0)), (.sc (.int .i64 0)), (.sc (.int .i64 0))]))), .none⟩, ⟨.none, (.store 5 (.t 7) (.t 42)), .none⟩]) (.seq (.seq (.ops [⟨(.some 43), (.fadr 0 0 1 (.t 7)), .none⟩, ⟨(.some 44), (.load .false 1 (.t 43)), .none⟩, ⟨(.some 45), (.bin .neq (.t 44) (.c (.sc (.int .i64 40)))), .none⟩, ⟨(.some 46), (.mv (.t 45)), .none⟩, ⟨(.some 47), (.fadr 0 0 1 (.t 7)), (.some (46, .true))⟩, ⟨(.some 48), (.load .false 1 (.t 47)), (.some (46, .true))⟩, ⟨(.some 49), (.bin .neq (.t 48) (.c (.sc (.int .i64 41)))), (.some (46, .true))⟩, ⟨(.some 50), (.pick (.t 46) (.t 49) (.c (.sc (.bool .false)))), .none⟩]) (.cond (.t 50) (.ops [⟨(.some 51), (.mv (.t 3)), .none⟩, ⟨(.some 52), (.fadr 1 1 1 (.t 6)), .none⟩, ⟨(.some 53), (.load .false 1 (.t 52)), .none⟩, ⟨(.some 54), (.call 89 [(.t 51), (.t 53)]), .none⟩, ⟨(.some 55), (.fadr 2 2 1 (.t 6)), .none⟩, ⟨.none, (.store 1 (.t 55) (.t 54)), .none⟩]) .skip)) (.seq (.ops [⟨(.some 56), (.load .true 3 (.t 1)), .none⟩, ⟨(.some 57), (.fadr 1 1 1 (.t 6)), .none⟩, ⟨(.some 58), (.load .false 1 (.t 57)), .none⟩, ⟨(.some 59), (.bin .sub (.t 58) (.c (.sc (.int .i64 1)))), .none⟩, ⟨(.some 60), (.call 82 [(.t 56), (.t 59)]), .none⟩, ⟨(.some 8), (.mv (.t 60)), .none⟩]) (.seq (.seq (.ops [⟨(.some 61), (.mv (.t 8)), .none⟩, ⟨(.some 62), (.bin .geq (.t 61) (.c (.sc (.int .i64 0)))), .none⟩]) (.cond (.t 62) (.ops [⟨(.some 63), (.mv (.t 3)), .none⟩, ⟨(.some 64), (.mv (.t 8)), .none⟩, ⟨(.some 65), (.call 89 [(.t 63), (.t 64)]), .none⟩, ⟨(.some 66), (.fadr 3 3 1 (.t 6)), .none⟩, ⟨.none, (.store 1 (.t 66) (.t 65)), .none⟩]) .skip)) (.ops [⟨(.some 67), (.mv (.t 4)), .none⟩, ⟨(.some 68), (.load .true 6 (.t 6)), .none⟩, ⟨(.some 69), (.bsl 6 [(.t 68)]), .none⟩, ⟨(.some 70), (.app 6 80 (.t 67) (.t 69)), .none⟩, ⟨(.some 4), (.mv (.t 70)), .none⟩])))))))) (.ops [⟨(.some 15), (.mv (.t 5)), .none⟩, ⟨(.some 16), (.bin .add (.t 15) (.c (.sc (.int .i64 1)))), .none⟩, ⟨(.some 5), (.mv (.t 16)), .none⟩])))
def c_ref10_Cut_p1 : AC := (.seq (.ops [⟨(.some 71), (.mv (.t 4)), .none⟩, ⟨(.some 2), (.mv (.t 71)), .none⟩]) .ret)
def c_ref10_Cut : AC := (.seq (.ops [⟨(.some 1), (.box (.t 0)), .none⟩, ⟨(.some 2), (.mv (.c (.fro .true 0 []))), .none⟩]) (.seq (.ops [⟨(.some 9), (.load .true 3 (.t 1)), .none⟩, ⟨(.some 10), (.call 88 [(.t 9)]), .none⟩, ⟨(.some 3), (.mv (.t 10)), .none⟩]) (.seq (.ops [⟨(.some 4), (.mv (.c (.fro .true 0 []))), .none⟩]) (.seq (.seq (.ops [⟨(.some 5), (.mv (.c (.sc (.int .i64 0)))), .none⟩]) (.block 0 (.loop c_ref10_Cut_l1))) c_ref10_Cut_p1))))
theorem t_ref10_Cut : trF Try.prog qq 68 = some (72, [(.tmp 2)], c_ref10_Cut) := by kernel_rfl
def c_ref10_Emit : AC := (.seq (.ops [⟨(.some 4), (.box (.t 0)), .none⟩, ⟨(.some 5), (.box (.t 1)), .none⟩, ⟨(.some 8), (.mv (.c (.fro .true 0 []))), .none⟩, ⟨(.some 9), (.mv (.c (.fro .true 0 []))), .none⟩]) (.seq (.ops [⟨(.some 12), (.mv (.t 2)), .none⟩, ⟨(.some 13), (.mv (.t 3)), .none⟩, ⟨(.some 14), (.build 3 [(.sc (.int .i64 0)), (.sc (.int .i64 0)), (.fro .true 0 [])] [(0, (.t 12)), (1, (.t 13))]), .none⟩, ⟨(.some 15), (.box (.t 14)), .none⟩, ⟨(.some 10), (.mv (.t 15)), .none⟩]) (.seq (.ops [⟨(.some 16), (.mv (.t 2)), .none⟩, ⟨(.some 17), (.mv (.t 3)), .none⟩, ⟨(.some 18), (.build 3 [(.sc (.int .i64 0)), (.sc (.int .i64 0)), (.fro .true 0 [])] [(0, (.t 16)), (1, (.t 17))]), .none⟩, ⟨(.some 19), (.box (.t 18)), .none⟩, ⟨(.some 11), (.mv (.t 19)), .none⟩]) (.seq (.seq (.ops [⟨(.some 20), (.load .true 5 (.t 4)), .none⟩, ⟨(.some 21), (.call 57 [(.t 20)]), .none⟩, ⟨(.some 22), (.un .not (.t 21)), .none⟩]) (.cond (.t 22) (.seq (.ops [⟨(.some 8), (.mv (.c (.fro .true 0 []))), .none⟩, ⟨(.some 9), (.mv (.c (.fro .true 0 []))), .none⟩]) .ret) .skip)) (.seq (.seq (.ops [⟨(.some 23), (.fadr 0 0 1 (.t 4)), .none⟩, ⟨(.some 24), (.load .false 1 (.t 23)), .none⟩, ⟨(.some 25), (.call 65 [(.t 24)]), .none⟩]) (.block 0 (.seq (.seq (.ops [⟨(.some 27), (.bin .eql (.t 25) (.c (.sc (.int .i64 1)))), .none⟩, ⟨(.some 26), (.mv (.t 27)), .none⟩]) (.cond (.t 26) .skip (.seq (.ops [⟨(.some 28), (.bin .eql (.t 25) (.c (.sc (.int .i64 2)))), .none⟩, ⟨(.some 26), (.mv (.t 28)), .none⟩]) (.cond (.t 26) .skip (.ops [⟨(.some 29), (.bin .eql (.t 25) (.c (.sc (.int .i64 3)))), .none⟩, ⟨(.some 26), (.mv (.t 29)), .none⟩]))))) (.cond (.t 26) (.seq (.seq (.ops [⟨(.some 30), (.load .true 5 (.t 4)), .none⟩, ⟨(.some 31), (.load .true 16 (.t 5)), .none⟩, ⟨(.some 32), (.call 90 [(.t 30), (.t 31)]), .none⟩, ⟨(.some 33), (.bin .eql (.t 32) (.c (.sc (.int .i64 1)))), .none⟩]) (.cond (.t 33) (.seq (.ops [⟨(.some 34), (.mv (.t 10)), .none⟩, ⟨(.some 35), (.load .true 5 (.t 4)), .none⟩, ⟨(.some 36), (.call 91 [(.t 34), (.c (.sc (.int .i64 1))), (.t 35)]), .none⟩]) (.exit 0)) .skip)) (.seq (.ops [⟨(.some 37), (.mv (.t 10)), .none⟩, ⟨(.some 38), (.load .true 5 (.t 4)), .none⟩, ⟨(.some 39), (.load .true 16 (.t 5)), .none⟩, ⟨(.some 40), (.call 93 [(.t 38), (.t 39)]), .none⟩, ⟨(.some 41), (.call 92 [(.t 37), (.c (.sc (.int .i64 5))), (.t 40)]), .none⟩]) (.seq (.ops [⟨(.some 42), (.mv (.t 11)), .none⟩, ⟨(.some 43), (.load .true 5 (.t 4)), .none⟩, ⟨(.some 44), (.load .true 16 (.t 5)), .none⟩, ⟨(.some 45), (.call 93 [(.t 43), (.t 44)]), .none⟩, ⟨(.some 46), (.call 92 [(.t 42), (.c (.sc (.int .i64 6))), (.t 45)]), .none⟩]) (.ops [⟨(.some 47), (.mv (.t 11)), .none⟩, ⟨(.some 48), (.load .true 5 (.t 4)), .none⟩, ⟨(.some 49), (.call 91 [(.t 47), (.c (.sc (.int .i64 1))), (.t 48)]), .none⟩])))) (.seq (.ops [⟨(.some 51), (.bin .eql (.t 25) (.c (.sc (.int .i64 4)))), .none⟩, ⟨(.some 50), (.mv (.t 51)), .none⟩]) (.cond (.t 50) (.seq (.seq (.ops [⟨(.some 52), (.load .true 16 (.t 5)), .none⟩, ⟨(.some 53), (.fadr 1 1 1 (.t 4)), .none⟩, ⟨(.some 54), (.load .false 1 (.t 53)), .none⟩, ⟨(.some 55), (.call 86 [(.t 52), (.t 54)]), .none⟩]) (.cond (.t 55) (.seq (.ops [⟨(.some 56), (.mv (.t 10)), .none⟩, ⟨(.some 57), (.load .true 5 (.t 4)), .none⟩, ⟨(.some 58), (.call 91 [(.t 56), (.c (.sc (.int .i64 3))), (.t 57)]), .none⟩]) (.seq (.ops [⟨(.some 59), (.mv (.t 11)), .none⟩, ⟨(.some 60), (.load .true 5 (.t 4)), .none⟩, ⟨(.some 61), (.call 91 [(.t 59), (.c (.sc (.int .i64 7))), (.t 60)]), .none⟩]) (.exit 0))) .skip)) (.ops [⟨(.some 62), (.mv (.t 10)), .none⟩, ⟨(.some 63), (.load .true 5 (.t 4)), .none⟩, ⟨(.some 64), (.call 91 [(.t 62), (.c (.sc (.int .i64 2))), (.t 63)]), .none⟩])) (.seq (.ops [⟨(.some 66), (.bin .eql (.t 25) (.c (.sc (.int .i64 5)))), .none⟩, ⟨(.some 65), (.mv (.t 66)), .none⟩]) (.cond (.t 65) (.seq (.seq (.ops [⟨(.some 67), (.load .true 16 (.t 5)), .none⟩, ⟨(.some 68), (.fadr 3 3 1 (.t 4)), .none⟩, ⟨(.some 69), (.load .false 1 (.t 68)), .none⟩, ⟨(.some 70), (.call 94 [(.t 67), (.t 69)]), .none⟩, ⟨(.some 71), (.bin .eql (.t 70) (.c (.sc (.int .i64 1)))), .none⟩]) (.cond (.t 71) (.seq (.ops [⟨(.some 72), (.mv (.t 10)), .none⟩, ⟨(.some 73), (.fadr 3 3 1 (.t 4)), .none⟩, ⟨(.some 74), (.load .false 1 (.t 73)), .none⟩, ⟨(.some 75), (.call 95 [(.t 72), (.c (.sc (.int .i64 5))), (.t 74)]), .none⟩]) (.ops [⟨(.some 76), (.mv (.t 11)), .none⟩, ⟨(.some 77), (.fadr 3 3 1 (.t 4)), .none⟩, ⟨(.some 78), (.load .false 1 (.t 77)), .none⟩, ⟨(.some 79), (.call 95 [(.t 76), (.c (.sc (.int .i64 6))), (.t 78)]), .none⟩])) .skip)) (.seq (.ops [⟨(.some 80), (.mv (.t 10)), .none⟩, ⟨(.some 81), (.load .true 5 (.t 4)), .none⟩, ⟨(.some 82), (.call 91 [(.t 80), (.c (.sc (.int .i64 4))), (.t 81)]), .none⟩]) (.ops [⟨(.some 83), (.mv (.t 11)), .none⟩, ⟨(.some 84), (.fadr 3 3 1 (.t 4)), .none⟩, ⟨(.some 85), (.load .false 1 (.t 84)), .none⟩, ⟨(.some 86), (.call 95 [(.t 83), (.c (.sc (.int .i64 8))), (.t 85)]), .none⟩]))) (.seq (.ops [⟨(.some 88), (.bin .eql (.t 25) (.c (.sc (.int .i64 6)))), .none⟩, ⟨(.some 87), (.mv (.t 88)), .none⟩]) (.cond (.t 87) (.seq (.seq (.ops [⟨(.some 89), (.load .true 16 (.t 5)), .none⟩, ⟨(.some 90), (.load .true 5 (.t 4)), .none⟩, ⟨(.some 91), (.call 70 [(.t 90)]), .none⟩, ⟨(.some 92), (.call 87 [(.t 89), (.t 91)]), .none⟩, ⟨(.some 93), (.un .not (.t 92)), .none⟩]) (.cond (.t 93) (.seq (.ops [⟨(.some 94), (.mv (.t 10)), .none⟩, ⟨(.some 95), (.load .true 5 (.t 4)), .none⟩, ⟨(.some 96), (.call 91 [(.t 94), (.c (.sc (.int .i64 9))), (.t 95)]), .none⟩]) (.seq (.ops [⟨(.some 97), (.mv (.t 11)), .none⟩, ⟨(.some 98), (.call 96 [(.t 97), (.c (.sc (.int .i64 10)))]), .none⟩]) (.exit 0))) .skip)) (.seq (.ops [⟨(.some 99), (.mv (.t 10)), .none⟩, ⟨(.some 100), (.load .true 5 (.t 4)), .none⟩, ⟨(.some 101), (.load .true 16 (.t 5)), .none⟩, ⟨(.some 102), (.call 93 [(.t 100), (.t 101)]), .none⟩, ⟨(.some 103), (.call 92 [(.t 99), (.c (.sc (.int .i64 5))), (.t 102)]), .none⟩]) (.seq (.ops [⟨(.some 104), (.mv (.t 10)), .none⟩, ⟨(.some 105), (.call 96 [(.t 104), (.c (.sc (.int .i64 10)))]), .none⟩]) (.seq (.ops [⟨(.some 106), (.mv (.t 11)), .none⟩, ⟨(.some 107), (.load .true 5 (.t 4)), .none⟩, ⟨(.some 108), (.load .true 16 (.t 5)), .none⟩, ⟨(.some 109), (.call 93 [(.t 107), (.t 108)]), .none⟩, ⟨(.some 110), (.call 92 [(.t 106), (.c (.sc (.int .i64 6))), (.t 109)]), .none⟩]) (.ops [⟨(.some 111), (.mv (.t 11)), .none⟩, ⟨(.some 112), (.load .true 5 (.t 4)), .none⟩, ⟨(.some 113), (.call 91 [(.t 111), (.c (.sc (.int .i64 9))), (.t 112)]), .none⟩]))))) (.seq (.ops [⟨(.some 115), (.bin .eql (.t 25) (.c (.sc (.int .i64 7)))), .none⟩, ⟨(.some 114), (.mv (.t 115)), .none⟩]) (.cond (.t 114) (.seq (.ops [⟨(.some 116), (.mv (.t 10)), .none⟩, ⟨(.some 117), (.call 96 [(.t 116), (.c (.sc (.int .i64 11)))]), .none⟩]) (.ops [⟨(.some 118), (.mv (.t 11)), .none⟩, ⟨(.some 119), (.call 96 [(.t 118), (.c (.sc (.int .i64 11)))]), .none⟩])) (.seq (.ops [⟨(.some 121), (.bin .eql (.t 25) (.c (.sc (.int .i64 8)))), .none⟩, ⟨(.some 120), (.mv (.t 121)), .none⟩]) (.cond (.t 120) (.seq (.ops [⟨(.some 122), (.mv (.t 10)), .none⟩, ⟨(.some 123), (.call 96 [(.t 122), (.c (.sc (.int .i64 12)))]), .none⟩]) (.ops [⟨(.some 124), (.mv (.t 11)), .none⟩, ⟨(.some 125), (.call 96 [(.t 124), (.c (.sc (.int .i64 12)))]), .none⟩])) .skip)))))))))))))) (.seq (.ops [⟨(.some 126), (.mv (.t 10)), .none⟩, ⟨(.some 127), (.nilck (.t 126)), .none⟩, ⟨(.some 128), (.fadr 2 2 1 (.t 127)), .none⟩, ⟨(.some 129), (.load .false 1 (.t 128)), .none⟩, ⟨(.some 130), (.mv (.t 11)), .none⟩, ⟨(.some 131), (.nilck (.t 130)), .none⟩, ⟨(.some 132), (.fadr 2 2 1 (.t 131)), .none⟩, ⟨(.some 133), (.load .false 1 (.t 132)), .none⟩, ⟨(.some 8), (.mv (.t 129)), .none⟩, ⟨(.some 9), (.mv (.t 133)), .none⟩]) .ret))))))
theorem t_ref10_Emit : trF Try.prog qq 69 = some (134, [(.tmp 8), (.tmp 9)], c_ref10_Emit) := by kernel_rfl
def c_ref10_onE : AC := (.seq (.ops [⟨(.some 2), (.box (.t 0)), .none⟩, ⟨(.some 4), (.mv (.c (.sc (.bool .false)))), .none⟩]) (.seq (.ops [⟨(.some 5), (.mv (.t 1)), .none⟩, ⟨(.some 6), (.bin .gtr (.t 5) (.c (.sc (.int .i64 0)))), .none⟩, ⟨(.some 7), (.mv (.t 6)), .none⟩, ⟨(.some 8), (.mv (.t 1)), (.some (7, .true))⟩, ⟨(.some 9), (.iadr (.some 16) 1 (.t 2) (.t 8)), (.some (7, .true))⟩, ⟨(.some 10), (.load .false 1 (.t 9)), (.some (7, .true))⟩, ⟨(.some 11), (.bin .eql (.t 10) (.c (.sc (.int .i64 2)))), (.some (7, .true))⟩, ⟨(.some 12), (.pick (.t 7) (.t 11) (.c (.sc (.bool .false)))), .none⟩, ⟨(.some 4), (.mv (.t 12)), .none⟩]) .ret))
theorem t_ref10_onE : trF Try.prog qq 86 = some (13, [(.tmp 4)], c_ref10_onE) := by kernel_rfl
def c_ref10_anyE_l1 : AC := (.seq (.seq (.ops [⟨(.some 6), (.mv (.t 5)), .none⟩, ⟨(.some 7), (.mv (.t 1)), .none⟩, ⟨(.some 8), (.len .none (.t 7)), .none⟩, ⟨(.some 9), (.bin .lss (.t 6) (.t 8)), .none⟩]) (.cond (.t 9) .skip (.exit 0))) (.seq (.block 1 (.seq (.ops [⟨(.some 12), (.load .true 16 (.t 2)), .none⟩, ⟨(.some 13), (.mv (.t 1)), .none⟩, ⟨(.some 14), (.mv (.t 5)), .none⟩, ⟨(.some 15), (.iadr .none 1 (.t 13) (.t 14)), .none⟩, ⟨(.some 16), (.load .false 1 (.t 15)), .none⟩, ⟨(.some 17), (.call 86 [(.t 12), (.t 16)]), .none⟩]) (.cond (.t 17) (.seq (.ops [⟨(.some 4), (.mv (.c (.sc (.bool .true)))), .none⟩]) .ret) .skip))) (.ops [⟨(.some 10), (.mv (.t 5)), .none⟩, ⟨(.some 11), (.bin .add (.t 10) (.c (.sc (.int .i64 1)))), .none⟩, ⟨(.some 5), (.mv (.t 11)), .none⟩])))
def c_ref10_anyE_p1 : AC := (.seq (.ops [⟨(.some 4), (.mv (.c (.sc (.bool .false)))), .none⟩]) .ret)
def c_ref10_anyE : AC := (.seq (.ops [⟨(.some 2), (.box (.t 0)), .none⟩, ⟨(.some 4), (.mv (.c (.sc (.bool .false)))), .none⟩]) (.seq (.seq (.ops [⟨(.some 5), (.mv (.c (.sc (.int .i64 0)))), .none⟩]) (.block 0 (.loop c_ref10_anyE_l1))) c_ref10_anyE_p1))
theorem t_ref10_anyE : trF Try.prog qq 87 = some (18, [(.tmp 4)], c_ref10_anyE) := by kernel_rfl
def c_ref10_Leaders_l1 : AC := (.seq (.seq (.ops [⟨(.some 17), (.mv (.t 4)), .none⟩, ⟨(.some 18), (.fadr 0 0 1 (.t 1)), .none⟩, ⟨(.some 19), (.load .false 1 (.t 18)), .none⟩, ⟨(.some 20), (.len .none (.t 19)), .none⟩, ⟨(.some 21), (.bin .lss (.t 17) (.t 20)), .none⟩]) (.cond (.t 21) .skip (.exit 0))) (.seq (.block 1 (.seq (.ops [⟨(.some 24), (.load .true 3 (.t 1)), .none⟩, ⟨(.some 25), (.mv (.t 4)), .none⟩, ⟨(.some 26), (.call 82 [(.t 24), (.t 25)]), .none⟩, ⟨(.some 5), (.mv (.t 26)), .none⟩]) (.seq (.seq (.ops [⟨(.some 27), (.mv (.t 5)), .none⟩, ⟨(.some 28), (.bin .geq (.t 27) (.c (.sc (.int .i64 0)))), .none⟩]) (.cond (.t 28) (.ops [⟨(.some 29), (.mv (.t 3)), .none⟩, ⟨(.some 30), (.mv (.t 5)), .none⟩, ⟨(.some 31), (.iadr .none 1 (.t 29) (.t 30)), .none⟩, ⟨.none, (.store 1 (.t 31) (.c (.sc (.bool .true)))), .none⟩]) .skip)) (.seq (.ops [⟨(.some 32), (.fadr 0 0 1 (.t 1)), .none⟩, ⟨(.some 33), (.load .false 1 (.t 32)), .none⟩, ⟨(.some 34), (.mv (.t 4)), .none⟩, ⟨(.some 35), (.iadr .none 5 (.t 33) (.t 34)), .none⟩, ⟨(.some 36), (.load .true 5 (.t 35)), .none⟩, ⟨(.some 37), (.call 97 [(.t 36)]), .none⟩, ⟨(.some 38), (.mv (.t 37)), .none⟩, ⟨(.some 39), (.mv (.t 4)), (.some (38, .true))⟩, ⟨(.some 40), (.bin .add (.t 39) (.c (.sc (.int .i64 1)))), (.some (38, .true))⟩, ⟨(.some 41), (.fadr 0 0 1 (.t 1)), (.some (38, .true))⟩, ⟨(.some 42), (.load .false 1 (.t 41)), (.some (38, .true))⟩, ⟨(.some 43), (.len .none (.t 42)), (.some (38, .true))⟩, ⟨(.some 44), (.bin .lss (.t 40) (.t 43)), (.some (38, .true))⟩, ⟨(.some 45), (.pick (.t 38) (.t 44) (.c (.sc (.bool .false)))), .none⟩]) (.cond (.t 45) (.ops [⟨(.some 46), (.mv (.t 3)), .none⟩, ⟨(.some 47), (.mv (.t 4)), .none⟩, ⟨(.some 48), (.bin .add (.t 47) (.c (.sc (.int .i64 1)))), .none⟩, ⟨(.some 49), (.iadr .none 1 (.t 46) (.t 48)), .none⟩, ⟨.none, (.store 1 (.t 49) (.c (.sc (.bool .true)))), .none⟩]) .skip))))) (.ops [⟨(.some 22), (.mv (.t 4)), .none⟩, ⟨(.some 23), (.bin .add (.t 22) (.c (.sc (.int .i64 1)))), .none⟩, ⟨(.some 4), (.mv (.t 23)), .none⟩])))
def c_ref10_Leaders_l2 : AC := (.seq (.seq (.ops [⟨(.some 50), (.mv (.t 7)), .none⟩, ⟨(.some 51), (.mv (.t 3)), .none⟩, ⟨(.some 52), (.len .none (.t 51)), .none⟩, ⟨(.some 53), (.bin .lss (.t 50) (.t 52)), .none⟩]) (.cond (.t 53) .skip (.exit 2))) (.seq (.block 3 (.seq (.ops [⟨(.some 56), (.mv (.t 3)), .none⟩, ⟨(.some 57), (.mv (.t 7)), .none⟩, ⟨(.some 58), (.iadr .none 1 (.t 56) (.t 57)), .none⟩, ⟨(.some 59), (.load .false 1 (.t 58)), .none⟩]) (.cond (.t 59) (.ops [⟨(.some 60), (.mv (.t 6)), .none⟩, ⟨(.some 61), (.mv (.t 7)), .none⟩, ⟨(.some 62), (.bsl 1 [(.t 61)]), .none⟩, ⟨(.some 63), (.app 1 8 (.t 60) (.t 62)), .none⟩, ⟨(.some 6), (.mv (.t 63)), .none⟩]) .skip))) (.ops [⟨(.some 54), (.mv (.t 7)), .none⟩, ⟨(.some 55), (.bin .add (.t 54) (.c (.sc (.int .i64 1)))), .none⟩, ⟨(.some 7), (.mv (.t 55)), .none⟩])))
def c_ref10_Leaders_p1 : AC := (.seq (.ops [⟨(.some 64), (.mv (.t 6)), .none⟩, ⟨(.some 2), (.mv (.t 64)), .none⟩]) .ret)
def c_ref10_Leaders_p2 : AC := (.seq (.ops [⟨(.some 6), (.mv (.c (.fro .true 0 []))), .none⟩]) (.seq (.seq (.ops [⟨(.some 7), (.mv (.c (.sc (.int .i64 0)))), .none⟩]) (.block 2 (.loop c_ref10_Leaders_l2))) c_ref10_Leaders_p1))
def c_ref10_Leaders : AC := (.seq (.ops [⟨(.some 1), (.box (.t 0)), .none⟩, ⟨(.some 2), (.mv (.c (.fro .true 0 []))), .none⟩]) (.seq (.seq (.ops [⟨(.some 8), (.load .true 3 (.t 1)), .none⟩, ⟨(.some 9), (.call 29 [(.t 8)]), .none⟩, ⟨(.some 10), (.un .not (.t 9)), .none⟩]) (.cond (.t 10) (.seq (.ops [⟨(.some 2), (.mv (.c (.fro .true 0 []))), .none⟩]) .ret) .skip)) (.seq (.ops [⟨(.some 11), (.fadr 0 0 1 (.t 1)), .none⟩, ⟨(.some 12), (.load .false 1 (.t 11)), .none⟩, ⟨(.some 13), (.len .none (.t 12)), .none⟩, ⟨(.some 14), (.mks 1 1 (.sc (.bool .false)) (.t 13)), .none⟩, ⟨(.some 3), (.mv (.t 14)), .none⟩]) (.seq (.ops [⟨(.some 15), (.mv (.t 3)), .none⟩, ⟨(.some 16), (.iadr .none 1 (.t 15) (.c (.sc (.int .i64 0)))), .none⟩, ⟨.none, (.store 1 (.t 16) (.c (.sc (.bool .true)))), .none⟩]) (.seq (.seq (.ops [⟨(.some 4), (.mv (.c (.sc (.int .i64 0)))), .none⟩]) (.block 0 (.loop c_ref10_Leaders_l1))) c_ref10_Leaders_p2)))))
theorem t_ref10_Leaders : trF Try.prog qq 88 = some (65, [(.tmp 2)], c_ref10_Leaders) := by kernel_rfl
def c_ref10_find_l1 : AC := (.seq (.seq (.ops [⟨(.some 6), (.mv (.t 5)), .none⟩, ⟨(.some 7), (.mv (.t 0)), .none⟩, ⟨(.some 8), (.len .none (.t 7)), .none⟩, ⟨(.some 9), (.bin .lss (.t 6) (.t 8)), .none⟩]) (.cond (.t 9) .skip (.exit 0))) (.seq (.block 1 (.seq (.ops [⟨(.some 12), (.mv (.t 0)), .none⟩, ⟨(.some 13), (.mv (.t 5)), .none⟩, ⟨(.some 14), (.iadr .none 1 (.t 12) (.t 13)), .none⟩, ⟨(.some 15), (.load .false 1 (.t 14)), .none⟩, ⟨(.some 16), (.mv (.t 1)), .none⟩, ⟨(.some 17), (.bin .eql (.t 15) (.t 16)), .none⟩]) (.cond (.t 17) (.seq (.ops [⟨(.some 18), (.mv (.t 5)), .none⟩, ⟨(.some 4), (.mv (.t 18)), .none⟩]) .ret) .skip))) (.ops [⟨(.some 10), (.mv (.t 5)), .none⟩, ⟨(.some 11), (.bin .add (.t 10) (.c (.sc (.int .i64 1)))), .none⟩, ⟨(.some 5), (.mv (.t 11)), .none⟩])))
def c_ref10_find_p1 : AC := (.seq (.ops [⟨(.some 4), (.mv (.c (.sc (.int .i64 (-1))))), .none⟩]) .ret)
def c_ref10_find : AC := (.seq (.ops [⟨(.some 4), (.mv (.c (.sc (.int .i64 0)))), .none⟩]) (.seq (.seq (.ops [⟨(.some 5), (.mv (.c (.sc (.int .i64 0)))), .none⟩]) (.block 0 (.loop c_ref10_find_l1))) c_ref10_find_p1))
theorem t_ref10_find : trF Try.prog qq 89 = some (19, [(.tmp 4)], c_ref10_find) := by kernel_rfl
def c_ref10_Side : AC := (.seq (.ops [⟨(.some 2), (.box (.t 0)), .none⟩, ⟨(.some 3), (.box (.t 1)), .none⟩, ⟨(.some 4), (.mv (.c (.sc (.int .i64 0)))), .none⟩]) (.seq (.ops [⟨(.some 7), (.fadr 0 0 1 (.t 2)), .none⟩, ⟨(.some 8), (.load .false 1 (.t 7)), .none⟩, ⟨(.some 9), (.call 65 [(.t 8)]), .none⟩, ⟨(.some 5), (.mv (.t 9)), .none⟩]) (.seq (.seq (.ops [⟨(.some 10), (.mv (.t 5)), .none⟩, ⟨(.some 11), (.bin .lss (.t 10) (.c (.sc (.int .i64 1)))), .none⟩, ⟨(.some 12), (.mv (.t 11)), .none⟩, ⟨(.some 13), (.mv (.t 5)), (.some (12, .false))⟩, ⟨(.some 14), (.bin .gtr (.t 13) (.c (.sc (.int .i64 3)))), (.some (12, .false))⟩, ⟨(.some 15), (.pick (.t 12) (.c (.sc (.bool .true))) (.t 14)), .none⟩]) (.cond (.t 15) (.seq (.ops [⟨(.some 4), (.mv (.c (.sc (.int .i64 0)))), .none⟩]) .ret) .skip)) (.seq (.ops [⟨(.some 16), (.load .true 5 (.t 2)), .none⟩, ⟨(.some 17), (.call 70 [(.t 16)]), .none⟩, ⟨(.some 6), (.mv (.t 17)), .none⟩]) (.seq (.seq (.ops [⟨(.some 18), (.load .true 16 (.t 3)), .none⟩, ⟨(.some 19), (.fadr 1 1 1 (.t 2)), .none⟩, ⟨(.some 20), (.load .false 1 (.t 19)), .none⟩, ⟨(.some 21), (.call 94 [(.t 18), (.t 20)]), .none⟩, ⟨(.some 22), (.bin .eql (.t 21) (.c (.sc (.int .i64 1)))), .none⟩, ⟨(.some 23), (.mv (.t 22)), .none⟩, ⟨(.some 24), (.fadr 1 1 1 (.t 2)), (.some (23, .false))⟩, ⟨(.some 25), (.load .false 1 (.t 24)), (.some (23, .false))⟩, ⟨(.some 26), (.bin .eql (.t 25) (.c (.sc (.int .i64 0)))), (.some (23, .false))⟩, ⟨(.some 27), (.mv (.t 26)), (.some (23, .false))⟩, ⟨(.some 28), (.load .true 16 (.t 3)), (.some (27, .true))⟩, ⟨(.some 29), (.mv (.t 6)), (.some (27, .true))⟩, ⟨(.some 30), (.call 87 [(.t 28), (.t 29)]), (.some (27, .true))⟩, ⟨(.some 31), (.un .not (.t 30)), (.some (27, .true))⟩, ⟨(.some 32), (.pick (.t 27) (.t 31) (.c (.sc (.bool .false)))), (.some (23, .false))⟩, ⟨(.some 33), (.pick (.t 23) (.c (.sc (.bool .true))) (.t 32)), .none⟩]) (.cond (.t 33) (.seq (.ops [⟨(.some 4), (.mv (.c (.sc (.int .i64 1)))), .none⟩]) .ret) .skip)) (.seq (.ops [⟨(.some 4), (.mv (.c (.sc (.int .i64 2)))), .none⟩]) .ret))))))
theorem t_ref10_Side : trF Try.prog qq 90 = some (34, [(.tmp 4)], c_ref10_Side) := by kernel_rfl
def c_ref10_maker_ins : AC := (.seq (.ops [⟨(.some 5), (.box (.t 2)), .none⟩]) (.ops [⟨(.some 6), (.mv (.t 0)), .none⟩, ⟨(.some 7), (.mv (.t 0)), .none⟩, ⟨(.some 8), (.nilck (.t 7)), .none⟩, ⟨(.some 9), (.fadr 2 2 1 (.t 8)), .none⟩, ⟨(.some 10), (.load .false 1 (.t 9)), .none⟩, ⟨(.some 11), (.mv (.t 1)), .none⟩, ⟨(.some 12), (.load .true 5 (.t 5)), .none⟩, ⟨(.some 13), (.mv (.t 0)), .none⟩, ⟨(.some 14), (.nilck (.t 13)), .none⟩, ⟨(.some 15), (.fadr 0 0 1 (.t 14)), .none⟩, ⟨(.some 16), (.load .false 1 (.t 15)), .none⟩, ⟨(.some 17), (.mv (.t 0)), .none⟩, ⟨(.some 18), (.nilck (.t 17)), .none⟩, ⟨(.some 19), (.fadr 1 1 1 (.t 18)), .none⟩, ⟨(.some 20), (.load .false 1 (.t 19)), .none⟩, ⟨(.some 21), (.build 9 [(.sc (.int .i64 0)), (.agg 5 [(.sc (.int .i64 0)), (.sc (.int .i64 0)), (.sc (.int .i64 0)), (.sc (.int .i64 0)), (.sc (.int .i64 0))]), (.sc (.int .i64 0)), (.sc (.int .i64 0)), (.sc (.int .i64 0))] [(0, (.t 11)), (1, (.t 12)), (3, (.t 16)), (4, (.t 20))]), .none⟩, ⟨(.some 22), (.bsl 9 [(.t 21)]), .none⟩, ⟨(.some 23), (.app 9 72 (.t 10) (.t 22)), .none⟩, ⟨(.some 24), (.nilck (.t 6)), .none⟩, ⟨(.some 25), (.fadr 2 2 1 (.t 24)), .none⟩, ⟨.none, (.store 1 (.t 25) (.t 23)), .none⟩]))
theorem t_ref10_maker_ins : trF Try.prog qq 91 = some (26, [], c_ref10_maker_ins) := by kernel_rfl
def c_ref10_maker_regs_l1 : AC := (.seq (.seq (.ops [⟨(.some 7), (.mv (.t 6)), .none⟩, ⟨(.some 8), (.mv (.t 2)), .none⟩, ⟨(.some 9), (.len .none (.t 8)), .none⟩, ⟨(.some 10), (.bin .lss (.t 7) (.t 9)), .none⟩]) (.cond (.t 10) .skip (.exit 0))) (.seq (.block 1 (.ops [⟨(.some 13), (.mv (.t 0)), .none⟩, ⟨(.some 14), (.mv (.t 1)), .none⟩, ⟨(.some 15), (.mv (.t 2)), .none⟩, ⟨(.some 16), (.mv (.t 6)), .none⟩, ⟨(.some 17), (.iadr .none 1 (.t 15) (.t 16)), .none⟩, ⟨(.some 18), (.load .false 1 (.t 17)), .none⟩, ⟨(.some 19), (.call 95 [(.t 13), (.t 14), (.t 18)]), .none⟩])) (.ops [⟨(.some 11), (.mv (.t 6)), .none⟩, ⟨(.some 12), (.bin .add (.t 11) (.c (.sc (.int .i64 1)))), .none⟩, ⟨(.some 6), (.mv (.t 12)), .none⟩])))
def c_ref10_maker_regs : AC := (.seq (.ops [⟨(.some 6), (.mv (.c (.sc (.int .i64 0)))), .none⟩]) (.block 0 (.loop c_ref10_maker_regs_l1)))
theorem t_ref10_maker_regs : trF Try.prog qq 92 = some (20, [], c_ref10_maker_regs) := by kernel_rfl
def c_ref10_sent_l1 : AC := (.seq (.seq (.ops [⟨(.some 10), (.mv (.t 7)), .none⟩, ⟨(.some 11), (.mv (.t 5)), .none⟩, ⟨(.some 12), (.len .none (.t 11)), .none⟩, ⟨(.some 13), (.bin .lss (.t 10) (.t 12)), .none⟩]) (.cond (.t 13) .skip (.exit 0))) (.seq (.block 1 (.seq (.ops [⟨(.some 16), (.load .true 16 (.t 3)), .none⟩, ⟨(.some 17), (.mv (.t 5)), .none⟩, ⟨(.some 18), (.mv (.t 7)), .none⟩, ⟨(.some 19), (.iadr .none 1 (.t 17) (.t 18)), .none⟩, ⟨(.some 20), (.load .false 1 (.t 19)), .none⟩, ⟨(.some 21), (.call 94 [(.t 16), (.t 20)]), .none⟩, ⟨(.some 22), (.bin .eql (.t 21) (.c (.sc (.int .i64 1)))), .none⟩, ⟨(.some 23), (.mv (.t 22)), .none⟩, ⟨(.some 24), (.mv (.t 6)), (.some (23, .true))⟩, ⟨(.some 25), (.mv (.t 5)), (.some (23, .true))⟩, ⟨(.some 26), (.mv (.t 7)), (.some (23, .true))⟩, ⟨(.some 27), (.iadr .none 1 (.t 25) (.t 26)), (.some (23, .true))⟩, ⟨(.some 28), (.load .false 1 (.t 27)), (.some (23, .true))⟩, ⟨(.some 29), (.call 89 [(.t 24), (.t 28)]), (.some (23, .true))⟩, ⟨(.some 30), (.bin .lss (.t 29) (.c (.sc (.int .i64 0)))), (.some (23, .true))⟩, ⟨(.some 31), (.pick (.t 23) (.t 30) (.c (.sc (.bool .false)))), .none⟩]) (.cond (.t 31) (.ops [⟨(.some 32), (.mv (.t 6)), .none⟩, ⟨(.some 33), (.mv (.t 5)), .none⟩, ⟨(.some 34), (.mv (.t 7)), .none⟩, ⟨(.some 35), (.iadr .none 1 (.t 33) (.t 34)), .none⟩, ⟨(.some 36), (.load .false 1 (.t 35)), .none⟩, ⟨(.some 37), (.bsl 1 [(.t 36)]), .none⟩, ⟨(.some 38), (.app 1 8 (.t 32) (.t 37)), .none⟩, ⟨(.some 6), (.mv (.t 38)), .none⟩]) .skip))) (.ops [⟨(.some 14), (.mv (.t 7)), .none⟩, ⟨(.some 15), (.bin .add (.t 14) (.c (.sc (.int .i64 1)))), .none⟩, ⟨(.some 7), (.mv (.t 15)), .none⟩])))
def c_ref10_sent_p1 : AC := (.seq (.ops [⟨(.some 39), (.mv (.t 6)), .none⟩, ⟨(.some 4), (.mv (.t 39)), .none⟩]) .ret)
def c_ref10_sent : AC := (.seq (.ops [⟨(.some 2), (.box (.t 0)), .none⟩, ⟨(.some 3), (.box (.t 1)), .none⟩, ⟨(.some 4), (.mv (.c (.fro .true 0 []))), .none⟩]) (.seq (.ops [⟨(.some 8), (.load .true 5 (.t 2)), .none⟩, ⟨(.some 9), (.call 70 [(.t 8)]), .none⟩, ⟨(.some 5), (.mv (.t 9)), .none⟩]) (.seq (.ops [⟨(.some 6), (.mv (.c (.fro .true 0 []))), .none⟩]) (.seq (.seq (.ops [⟨(.some 7), (.mv (.c (.sc (.int .i64 0)))), .none⟩]) (.block 0 (.loop c_ref10_sent_l1))) c_ref10_sent_p1))))
theorem t_ref10_sent : trF Try.prog qq 93 = some (40, [(.tmp 4)], c_ref10_sent) := by kernel_rfl
def c_ref10_owned : AC := (.seq (.ops [⟨(.some 2), (.box (.t 0)), .none⟩, ⟨(.some 4), (.mv (.c (.sc (.int .i64 0)))), .none⟩]) (.seq (.seq (.ops [⟨(.some 5), (.mv (.t 1)), .none⟩, ⟨(.some 6), (.bin .lss (.t 5) (.c (.sc (.int .i64 1)))), .none⟩, ⟨(.some 7), (.mv (.t 6)), .none⟩, ⟨(.some 8), (.mv (.t 1)), (.some (7, .false))⟩, ⟨(.some 9), (.bin .gtr (.t 8) (.c (.sc (.int .i64 15)))), (.some (7, .false))⟩, ⟨(.some 10), (.pick (.t 7) (.c (.sc (.bool .true))) (.t 9)), .none⟩]) (.cond (.t 10) (.seq (.ops [⟨(.some 4), (.mv (.c (.sc (.int .i64 0)))), .none⟩]) .ret) .skip)) (.seq (.ops [⟨(.some 11), (.mv (.t 1)), .none⟩, ⟨(.some 12), (.iadr (.some 16) 1 (.t 2) (.t 11)), .none⟩, ⟨(.some 13), (.load .false 1 (.t 12)), .none⟩, ⟨(.some 4), (.mv (.t 13)), .none⟩]) .ret)))
theorem t_ref10_owned : trF Try.prog qq 94 = some (14, [(.tmp 4)], c_ref10_owned) := by kernel_rfl
def c_ref10_maker_reg : AC := (.ops [⟨(.some 6), (.mv (.t 0)), .none⟩, ⟨(.some 7), (.mv (.t 0)), .none⟩, ⟨(.some 8), (.nilck (.t 7)), .none⟩, ⟨(.some 9), (.fadr 2 2 1 (.t 8)), .none⟩, ⟨(.some 10), (.load .false 1 (.t 9)), .none⟩, ⟨(.some 11), (.mv (.t 1)), .none⟩, ⟨(.some 12), (.mv (.t 2)), .none⟩, ⟨(.some 13), (.mv (.t 0)), .none⟩, ⟨(.some 14), (.nilck (.t 13)), .none⟩, ⟨(.some 15), (.fadr 0 0 1 (.t 14)), .none⟩, ⟨(.some 16), (.load .false 1 (.t 15)), .none⟩, ⟨(.some 17), (.mv (.t 0)), .none⟩, ⟨(.some 18), (.nilck (.t 17)), .none⟩, ⟨(.some 19), (.fadr 1 1 1 (.t 18)), .none⟩, ⟨(.some 20), (.load .false 1 (.t 19)), .none⟩, ⟨(.some 21), (.build 9 [(.sc (.int .i64 0)), (.agg 5 [(.sc (.int .i64 0)), (.sc (.int .i64 0)), (.sc (.int .i64 0)), (.sc (.int .i64 0)), (.sc (.int .i64 0))]), (.sc (.int .i64 0)), (.sc (.int .i64 0)), (.sc (.int .i64 0))] [(0, (.t 11)), (2, (.t 12)), (3, (.t 16)), (4, (.t 20))]), .none⟩, ⟨(.some 22), (.bsl 9 [(.t 21)]), .none⟩, ⟨(.some 23), (.app 9 72 (.t 10) (.t 22)), .none⟩, ⟨(.some 24), (.nilck (.t 6)), .none⟩, ⟨(.some 25), (.fadr 2 2 1 (.t 24)), .none⟩, ⟨.none, (.store 1 (.t 25) (.t 23)), .none⟩])
theorem t_ref10_maker_reg : trF Try.prog qq 95 = some (26, [], c_ref10_maker_reg) := by kernel_rfl
def c_ref10_maker_plain : AC := (.ops [⟨(.some 4), (.mv (.t 0)), .none⟩, ⟨(.some 5), (.mv (.t 0)), .none⟩, ⟨(.some 6), (.nilck (.t 5)), .none⟩, ⟨(.some 7), (.fadr 2 2 1 (.t 6)), .none⟩, ⟨(.some 8), (.load .false 1 (.t 7)), .none⟩, ⟨(.some 9), (.mv (.t 1)), .none⟩, ⟨(.some 10), (.mv (.t 0)), .none⟩, ⟨(.some 11), (.nilck (.t 10)), .none⟩, ⟨(.some 12), (.fadr 0 0 1 (.t 11)), .none⟩, ⟨(.some 13), (.load .false 1 (.t 12)), .none⟩, ⟨(.some 14), (.mv (.t 0)), .none⟩, ⟨(.some 15), (.nilck (.t 14)), .none⟩, ⟨(.some 16), (.fadr 1 1 1 (.t 15)), .none⟩, ⟨(.some 17), (.load .false 1 (.t 16)), .none⟩, ⟨(.some 18), (.build 9 [(.sc (.int .i64 0)), (.agg 5 [(.sc (.int .i64 0)), (.sc (.int .i64 0)), (.sc (.int .i64 0)), (.sc (.int .i64 0)), (.sc (.int .i64 0))]), (.sc (.int .i64 0)), (.sc (.int .i64 0)), (.sc (.int .i64 0))] [(0, (.t 9)), (3, (.t 13)), (4, (.t 17))]), .none⟩, ⟨(.some 19), (.bsl 9 [(.t 18)]), .none⟩, ⟨(.some 20), (.app 9 72 (.t 8) (.t 19)), .none⟩, ⟨(.some 21), (.nilck (.t 4)), .none⟩, ⟨(.some 22), (.fadr 2 2 1 (.t 21)), .none⟩, ⟨.none, (.store 1 (.t 22) (.t 20)), .none⟩])
theorem t_ref10_maker_plain : trF Try.prog qq 96 = some (23, [], c_ref10_maker_plain) := by kernel_rfl
def c_ref10_ends : AC := (.seq (.ops [⟨(.some 1), (.box (.t 0)), .none⟩, ⟨(.some 2), (.mv (.c (.sc (.bool .false)))), .none⟩]) (.seq (.ops [⟨(.some 4), (.fadr 0 0 1 (.t 1)), .none⟩, ⟨(.some 5), (.load .false 1 (.t 4)), .none⟩, ⟨(.some 6), (.call 65 [(.t 5)]), .none⟩, ⟨(.some 3), (.mv (.t 6)), .none⟩]) (.seq (.ops [⟨(.some 7), (.mv (.t 3)), .none⟩, ⟨(.some 8), (.bin .eql (.t 7) (.c (.sc (.int .i64 6)))), .none⟩, ⟨(.some 9), (.mv (.t 8)), .none⟩, ⟨(.some 10), (.mv (.t 3)), (.some (9, .false))⟩, ⟨(.some 11), (.bin .eql (.t 10) (.c (.sc (.int .i64 7)))), (.some (9, .false))⟩, ⟨(.some 12), (.pick (.t 9) (.c (.sc (.bool .true))) (.t 11)), .none⟩, ⟨(.some 13), (.mv (.t 12)), .none⟩, ⟨(.some 14), (.mv (.t 3)), (.some (13, .false))⟩, ⟨(.some 15), (.bin .eql (.t 14) (.c (.sc (.int .i64 8)))), (.some (13, .false))⟩, ⟨(.some 16), (.pick (.t 13) (.c (.sc (.bool .true))) (.t 15)), .none⟩, ⟨(.some 2), (.mv (.t 16)), .none⟩]) .ret)))
theorem t_ref10_ends : trF Try.prog qq 97 = some (17, [(.tmp 2)], c_ref10_ends) := by kernel_rfl
/-- The functions of ref10. -/
def cl_ref10 : CodeL := [(19, 10, [(.cell 2 .true 17), (.tmp 3)], c_ref10_Split), (47, 80, [(.cell 4 .true 17), (.tmp 5)], c_ref10_With), (48, 86, [(.cell 2 .true 16)], c_ref10_Owner), (67, 82, [(.tmp 4)], c_ref10_Closed), (68, 72, [(.tmp 2)], c_ref10_Cut), (69, 134, [(.tmp 8), (.tmp 9)], c_ref10_Emit), (86, 13, [(.tmp 4)], c_ref10_onE), (87, 18, [(.tmp 4)], c_ref10_anyE), (88, 65, [(.tmp 2)], c_ref10_Leaders), (89, 19, [(.tmp 4)], c_ref10_find), (90, 34, [(.tmp 4)], c_ref10_Side), (91, 26, [], c_ref10_maker_ins), (92, 20, [], c_ref10_maker_regs), (93, 40, [(.tmp 4)], c_ref10_sent), (94, 14, [(.tmp 4)], c_ref10_owned), (95, 26, [], c_ref10_maker_reg), (96, 23, [], c_ref10_maker_plain), (97, 17, [(.tmp 2)], c_ref10_ends)]
theorem clok_ref10 : AllL (fun p => trF Try.prog qq p.1 = some p.2) cl_ref10 := ⟨t_ref10_Split, t_ref10_With, t_ref10_Owner, t_ref10_Closed, t_ref10_Cut, t_ref10_Emit, t_ref10_onE, t_ref10_anyE, t_ref10_Leaders, t_ref10_find, t_ref10_Side, t_ref10_maker_ins, t_ref10_maker_regs, t_ref10_sent, t_ref10_owned, t_ref10_maker_reg, t_ref10_maker_plain, t_ref10_ends, trivial⟩
end Go.Proofs.Ythmlnmkbeohojaa

/- The document's small functions on splits. -/
namespace Go.Proofs.Ythmlnmkbeohojaa
open Go.Ra
set_option linter.unusedVariables false
set_option linter.unusedSimpArgs false
def e_own (o : Nat → Int) : XV := .tab 16 1 (fun i => .int .i64 (o i))
def TT0 : Tab := mkT2 qq cl_ref10 [(65, formSp)] [] [] []
/-- Does a block end behind an instruction? -/
def endsB (i : Ins) : Bool := decide (formI i.op = 6 ∨ formI i.op = 7 ∨ formI i.op = 8)
def endsSp : List XV → Option (List Bool × XV)
  | [.agg 5 [.int .i64 op, .int .i64 d, .int .i64 a, .int .i64 b, .int .i64 m]] => some ([], .bool (endsB ⟨op, d, a, b, m⟩))
  | _ => none
def onEB (o : Nat → Int) (n : Int) : Bool := decide (n > 0) && decide (o n.toNat = 2)
def onES : List XV → Option ((XV → Prop) → Prop) := skOf (fun q : (Nat → Int) × Int => [e_own q.1, .int .i64 q.2]) (fun q => q.2 ≤ 15) (fun q => onEB q.1 q.2) (fun y => .bool y)
def ownedF (o : Nat → Int) (n : Int) : Int := if n < 1 ∨ n > 15 then 0 else o n.toNat
def owndS : List XV → Option ((XV → Prop) → Prop) := skOf (fun q : (Nat → Int) × Int => [e_own q.1, .int .i64 q.2]) (fun q => True) (fun q => ownedF q.1 q.2) (fun y => .int .i64 y)
def findF (l : List Int) (n : Int) : Int := idxF (fun x => decide (x = n)) l
def findS : List XV → Option ((XV → Prop) → Prop) := skOf (fun q : List Int × Int => [e_row 1 e_i64 q.1, .int .i64 q.2]) (fun q => q.1.length ≤ 1000000000) (fun q => findF q.1 q.2) (fun y => .int .i64 y)
def anyEB (o : Nat → Int) (l : List Int) : Bool := l.any (onEB o)
def anyES : List XV → Option ((XV → Prop) → Prop) := skOf (fun q : (Nat → Int) × List Int => [e_own q.1, e_row 1 e_i64 q.2]) (fun q => q.2.length ≤ 1000000000 ∧ ∀ x ∈ q.2, x ≤ 15) (fun q => anyEB q.1 q.2) (fun y => .bool y)
def TT1 : Tab := mkT2 qq cl_ref10 [] [] [(86, onES)] []
theorem TT0ok : TabOk Try.prog TT0 := mkT2_ok clok_ref10 ⟨sp_form, trivial⟩ trivial trivial trivial
theorem r_ends (i : Ins) (r : XV) : (quietGo TT0 80 (callI TT0 80 20) 97 [e_Ins i] (fun v => ResLe v r)) = (bif bif decide (formI (Ins.op i) = 6) then true else !decide (formI (Ins.op i) = 6) then bif bif bif decide (formI (Ins.op i) = 6) then true else decide (formI
 (Ins.op i) = 7) then true else !bif decide (formI (Ins.op i) = 6) then true else decide (formI (Ins.op i) = 7) then ResLe (.bool (bif bif decide (formI (Ins.op i)
 = 6) then true else decide (formI (Ins.op i) = 7) then true else decide (formI (Ins.op i) = 8))) r else False
else False) := by kernel_rfl
theorem r_onE (o : Nat → Int) (n : Int) (r : XV) : (quietGo TT0 80 (callI TT0 80 20) 86 [e_own o, .int .i64 n] (fun v => ResLe v r)) = (bif bif decide (0 ≤ n) then true else !decide (n > 0) then bif bif decide (n < 16) then true else !decide (n > 0) then bif bif Nat.beq (Int.toNat n * 1) (Int.toNat
 n * 1) then true else !decide (n > 0) then bif bif decide (Int.toNat n < 16) then true else !decide (n > 0) then bif bif decide (n > 0) then decide (n > 0) else
 true then ResLe (.bool (bif decide (n > 0) then decide (o (Int.toNat n) = 2) else false)) r else False else False else False else False
else False) := by kernel_rfl 

theorem r_ownd (o : Nat → Int) (n : Int) (r : XV) : (quietGo TT0 80 (callI TT0 80 20) 94 [e_own o, .int .i64 n] (fun v => ResLe v r)) = (bif bif decide (n < 1) then true else !decide (n < 1) then bif bif decide (n < 1) then true else decide (n > 15) then ResLe (.int .i64 0) r else bif decide (0
 ≤ n) then bif decide (n < 16) then bif Nat.beq (Int.toNat n * 1) (Int.toNat n * 1) then bif decide (Int.toNat n < 16) then ResLe (.int .i64 (o (Int.toNat n))) r
 else False else False else False else False
else False) := by kernel_rfl
theorem r_fnd0 (l : List Int) (n : Int) (r : XV) : (goQ Try.prog TT0 [(.tmp 4)] r (.run c_ref10_find) [] ⟨envX 0 [e_row 1 e_i64 l, .int .i64 n], [], 0⟩) = (LoopAt (Ok Try.prog (Tab.q TT0)) c_ref10_find_l1 (XSt.mk [(5, .int .i64 0), (4, .int .i64 0), (0, e_row 1 e_i64 l), (1, .int .i64 n)] [] 0) [Frm.blk 0, Frm.seq
 c_ref10_find_p1] (finQR [AR.tmp 4] r)) := by kernel_rfl
theorem r_fnd1 (l : List Int) (n : Int) (i : Nat) (r : XV) (A : XSt → Prop) : (goQ Try.prog TT0 [(.tmp 4)] r (.run c_ref10_find_l1) [.lp c_ref10_find_l1 A, .blk 0, .seq c_ref10_find_p1] ⟨[(5, .int .i64 i), (0, e_row 1 e_i64 l), (1, .int .i64 n)], [], 0⟩) = (bif decide ((↑i : Int) < (↑(List.length l) : Int)) then bif decide ((↑i : Int) < (↑(List.length l) : Int)) then bif decide (ix l i = n) then ResLe (.int .i64
 (↑i : Int)) r else A (XSt.mk [(5, .int .i64 (IntKind.wrap .i64 ((↑i : Int) + (1 : Int)))), (0, e_row 1 e_i64 l), (1, .int .i64 n)] [] 0) else False
else ResLe (.int
 .i64 (-1 : Int)) r) := by kernel_rfl
theorem r_anyE0 (o : Nat → Int) (l : List Int) (r : XV) : (goQ Try.prog TT1 [(.tmp 4)] r (.run c_ref10_anyE) [] ⟨envX 0 [e_own o, e_row 1 e_i64 l], [], 0⟩) = (LoopAt (Ok Try.prog (Tab.q TT1)) c_ref10_anyE_l1 (XSt.mk [(5, .int .i64 0), (4, .bool false), (2, .ptr 0 [] 0), (1, e_row 1 e_i64 l)] [(0, some (.tab 16 1 fun
 i => .int .i64 (o i)))] 1) [Frm.blk 0, Frm.seq c_ref10_anyE_p1] (finQR [AR.tmp 4] r)) := by kernel_rfl
theorem r_anyE1 (o : Nat → Int) (l : List Int) (i : Nat) (r : XV) (A : XSt → Prop) : (goQ Try.prog TT1 [(.tmp 4)] r (.run c_ref10_anyE_l1) [.lp c_ref10_anyE_l1 A, .blk 0, .seq c_ref10_anyE_p1] ⟨[(5, .int .i64 i), (2, .ptr 0 [] 0), (1, e_row 1 e_i64 l)], [(0, some (e_own o))], 1⟩) = (bif decide ((↑i : Int) < (↑(List.length l) : Int)) then bif decide ((↑i : Int) < (↑(List.length l) : Int)) then ∃ (s : (Nat → Int) × Int), ArgsLe [.tab 16 1
 fun i => .int .i64 (o i), .int .i64 (ix l i)] [e_own (Prod.fst s), .int .i64 (Prod.snd s)] ∧ PreIs (Prod.snd s ≤ 15) ∧ ∀ (y : Bool), y = onEB (Prod.fst s) (Prod.snd
 s) → bif y then ResLe (.bool true) r else A (XSt.mk [(5, .int .i64 (IntKind.wrap .i64 ((↑i : Int) + (1 : Int)))), (2, .ptr 0 [] 0), (1, e_row 1 e_i64 l)] [(0, some
 (e_own o))] 1) else False
else ResLe (.bool false) r) := by kernel_rfl
theorem sp_ends : SpOk Try.prog (97, endsSp) := by
  intro args nd v ha hn
  simp only [endsSp] at ha
  split at ha <;> simp only [Option.some.injEq, Prod.mk.injEq, reduceCtorEq] at ha
  obtain ⟨hnd, rfl⟩ := ha
  clear hnd hn
  rename_i op d a b m
  refine pureR (u := 80) (k := 20) mix TT0ok (args := [e_Ins ⟨op, d, a, b, m⟩]) ?_
  refine Eq.mpr (r_ends ⟨op, d, a, b, m⟩ _) ?_
  simp only [g1, g2, g3, g4, g5, g6, g7, allN_true, cond_true, Nat.le_refl, decide_true, pl_eq]
  refine ⟨lq_bool ?_⟩
  simp only [bor]
  unfold endsB
  rw [Bool.eq_iff_iff]
  simp [or_assoc]
theorem sk_onE : SkOk Try.prog (86, onES) := skOf_ok fun ⟨o, n⟩ h => by
  have h : n ≤ 15 := h
  show Pure _ _ (cons [e_own o, .int .i64 n]) (con (.bool (onEB o n)))
  refine pureR (u := 80) (k := 20) mix TT0ok ?_
  refine Eq.mpr (r_onE o n _) ?_
  have h1 : n < 16 := by omega
  have h2 : n.toNat < 16 := by omega
  by_cases h3 : n > 0
  · have h4 : 0 ≤ n := by omega
    simp only [h1, h2, h3, h4, decide_true, cond_true, Nat.beq_refl]
    unfold onEB
    rw [decide_eq_true h3]
    exact .rfl
  · simp only [h1, h2, h3, decide_true, decide_false, cond_true, cond_false, Nat.beq_refl, Bool.not_false, g1, g2, g3, g4, g5, g6, g7, allN_true, cond_true, Nat.le_refl, decide_true, pl_eq]
    unfold onEB
    rw [decide_eq_false h3]
    cases decide (0 ≤ n) <;> exact .rfl
theorem sk_ownd : SkOk Try.prog (94, owndS) := skOf_ok fun ⟨o, n⟩ h => by
  show Pure _ _ (cons [e_own o, .int .i64 n]) (con (.int .i64 (ownedF o n)))
  refine pureR (u := 80) (k := 20) mix TT0ok ?_
  refine Eq.mpr (r_ownd o n _) ?_
  unfold ownedF
  by_cases h1 : n < 1
  · rw [if_pos (.inl h1)]
    simp only [h1, decide_true, cond_true]; exact .rfl
  by_cases h2 : n > 15
  · rw [if_pos (.inr h2)]
    simp only [h1, h2, decide_true, decide_false, cond_true, cond_false, Bool.not_false]; exact .rfl
  rw [if_neg (by omega)]
  have h3 : 0 ≤ n := by omega
  have h4 : n < 16 := by omega
  have h5 : n.toNat < 16 := by omega
  simp only [h1, h2, h3, h4, h5, decide_true, decide_false, cond_true, cond_false, Bool.not_false, Nat.beq_refl]
  exact .rfl
theorem sk_find : SkOk Try.prog (89, findS) := skOf_ok fun ⟨l, n⟩ h => by
  have hl : l.length ≤ 1000000000 := h
  show Pure _ _ (cons [e_row 1 e_i64 l, .int .i64 n]) (con (.int .i64 (findF l n)))
  refine pureQ mix TT0ok t_ref10_find (Nat.le_of_ble_eq_true rfl) ?_
  refine Eq.mpr (r_fnd0 l n _) ?_
  refine loopQ mix TT0ok (fun i : Nat => ⟨[(5, .int .i64 i), (0, e_row 1 e_i64 l), (1, .int .i64 n)], [], 0⟩) (fun i => i ≤ l.length ∧ ∀ j, j < i → decide (ix l j = n) = false) (fun i => l.length - i) 0 ⟨Nat.zero_le _, fun j hj => by omega⟩ (.of (weakX ⟨rfl, rfl, rfl, trivial⟩ trivial (Nat.le_refl _))) ?_
  rintro i ⟨hi, hp⟩
  refine Eq.mpr (r_fnd1 l n i _ _) ?_
  by_cases hlt : i < l.length
  · have h1 : (i : Int) < (l.length : Int) := by omega
    have w1 : IntKind.i64.wrap ((i : Int) + 1) = ((i + 1 : Nat) : Int) := wrap_i64 (by omega) (by omega)
    simp only [g1, g2, g3, g4, g5, g6, g7, allN_true, cond_true, Nat.le_refl, decide_true, pl_eq, h1, w1]
    refine cnd2 (fun h => ?_) (fun h => ?_)
    · unfold findF
      rw [idxF_some hlt h hp]
      exact .rfl
    · refine ⟨i + 1, ⟨hlt, fun j hj => ?_⟩, .of (weakX ⟨rfl, rfl, rfl, trivial⟩ trivial (Nat.le_refl _)), by omega⟩
      by_cases hji : j = i
      · subst hji; exact h
      · exact hp j (by omega)
  · have h1 : ¬ (i : Int) < (l.length : Int) := by omega
    simp only [h1, decide_false, cond_false]
    unfold findF
    rw [idxF_none fun j hj => hp j (by omega)]
    exact .rfl
theorem TT1ok : TabOk Try.prog TT1 := mkT2_ok clok_ref10 trivial trivial ⟨sk_onE, trivial⟩ trivial
theorem any_false {α : Type} [Inhabited α] {p : α → Bool} {l : List α} (hn : ∀ j, j < l.length → p (ix l j) = false) : l.any p = false := by
  rw [← Bool.not_eq_true, List.any_eq_true]
  rintro ⟨x, hx, hp⟩
  obtain ⟨j, hj, rfl⟩ := List.mem_iff_getElem.1 hx
  have := hn j hj
  rw [ix_lt hj, hp] at this
  cases this
theorem sk_anyE : SkOk Try.prog (87, anyES) := skOf_ok fun ⟨o, l⟩ h => by
  obtain ⟨hl, hx⟩ : l.length ≤ 1000000000 ∧ ∀ x ∈ l, x ≤ 15 := h
  show Pure _ _ (cons [e_own o, e_row 1 e_i64 l]) (con (.bool (anyEB o l)))
  refine pureQ mix TT1ok t_ref10_anyE (Nat.le_of_ble_eq_true rfl) ?_
  refine Eq.mpr (r_anyE0 o l _) ?_
  refine loopQ mix TT1ok (fun i : Nat => ⟨[(5, .int .i64 i), (2, .ptr 0 [] 0), (1, e_row 1 e_i64 l)], [(0, some (e_own o))], 1⟩) (fun i => i ≤ l.length ∧ ∀ j, j < i → onEB o (ix l j) = false) (fun i => l.length - i) 0 ⟨Nat.zero_le _, fun j hj => by omega⟩ (.of (weakX ⟨rfl, rfl, rfl, trivial⟩ ⟨rfl, trivial⟩ (Nat.le_refl _))) ?_
  rintro i ⟨hi, hp⟩
  refine Eq.mpr (r_anyE1 o l i _ _) ?_
  by_cases hlt : i < l.length
  · have h1 : (i : Int) < (l.length : Int) := by omega
    have w1 : IntKind.i64.wrap ((i : Int) + 1) = ((i + 1 : Nat) : Int) := wrap_i64 (by omega) (by omega)
    simp only [g1, g2, g3, g4, g5, g6, g7, allN_true, cond_true, Nat.le_refl, decide_true, pl_eq, h1, w1]
    refine ⟨(o, ix l i), .rfl, ⟨hx _ (ix_mem hlt)⟩, ?_⟩
    rintro y rfl
    refine cnd2 (fun h => ?_) (fun h => ?_)
    · have : anyEB o l = true := List.any_eq_true.2 ⟨_, ix_mem hlt, h⟩
      rw [this]
      exact .rfl
    · refine ⟨i + 1, ⟨hlt, fun j hj => ?_⟩, .of (weakX ⟨rfl, rfl, rfl, trivial⟩ ⟨rfl, trivial⟩ (Nat.le_refl _)), by omega⟩
      by_cases hji : j = i
      · subst hji; exact h
      · exact hp j (by omega)
  · have h1 : ¬ (i : Int) < (l.length : Int) := by omega
    simp only [h1, decide_false, cond_false]
    unfold anyEB
    rw [any_false fun j hj => hp j (by omega)]
    exact .rfl
end Go.Proofs.Ythmlnmkbeohojaa

/- Which side an instruction is on, what it sends. -/
namespace Go.Proofs.Ythmlnmkbeohojaa
open Go.Ra
set_option linter.unusedVariables false
set_option linter.unusedSimpArgs false
def TT2 : Tab := mkT2 qq cl_ref10 [(65, formSp)] [] [(87, anyES), (94, owndS), (70, redS), (89, findS)] []
/-- The side of an instruction. -/
def sideF (i : Ins) (o : Nat → Int) : Int := if formI i.op < 1 ∨ formI i.op > 3 then 0 else if ownedF o i.d = 1 ∨ (i.d = 0 ∧ anyEB o (readsF i) = false) then 1 else 2
def sideS : List XV → Option ((XV → Prop) → Prop) := skOf (fun q : Ins × (Nat → Int) => [e_Ins q.1, e_own q.2]) (fun q => True) (fun q => sideF q.1 q.2) (fun y => .int .i64 y)
def sentL (o : Nat → Int) (l : List Int) : List Int := l.foldl (fun out x => if ownedF o x = 1 ∧ findF out x < 0 then out ++ [x] else out) []
/-- The registers on A that an instruction reads, each once. -/
def sentF (i : Ins) (o : Nat → Int) : List Int := sentL o (readsF i)
def sntS (l : List Int) (o : Nat → Int) (out : List Int) (i : Nat) : XSt := ⟨[(7, .int .i64 i), (6, .sl 2 [] 0 0 out.length 1), (5, e_row 1 e_i64 l), (3, .ptr 1 [] 0)], [(2, some (.tab out.length 1 (fun i => e_i64 (ix out i)))), (1, some (e_own o))], 3⟩
def sntT : List XV → Option ((XV → Prop) → Prop) := skOf (fun q : Ins × (Nat → Int) => [e_Ins q.1, e_own q.2]) (fun q => True) (fun q => sentF q.1 q.2) (fun y => e_row 1 e_i64 y)
theorem r_side (i : Ins) (o : Nat → Int) (r : XV) : (quietGo TT2 80 (callI TT2 80 20) 90 [e_Ins i, e_own o] (fun v => ResLe v r)) = (bif bif decide (formI (Ins.op i) < 1) then true else !decide (formI (Ins.op i) < 1) then bif bif decide (formI (Ins.op i) < 1) then true else decide (formI (Ins.op
 i) > 3) then ResLe (.int .i64 0) r else ∃ (s : Ins), ArgsLe [e_Ins i] [e_Ins s] ∧ PreIs True ∧ ∀ (y : List Int), y = readsF s → ∃ (s : (Nat → Int) × Int), ArgsLe
 [.tab 16 1 fun i => .int .i64 (o i), .int .i64 (Ins.d i)] [e_own (Prod.fst s), .int .i64 (Prod.snd s)] ∧ PreIs True ∧ ∀ (y_1 : Int), y_1 = ownedF (Prod.fst s) (Prod.snd
 s) → bif bif !decide (y_1 = 1) then decide (Ins.d i = 0) else false then ∃ (s : (Nat → Int) × List Int), ArgsLe [.tab 16 1 fun i => .int .i64 (o i), e_row 1 e_i64
 y] [e_own (Prod.fst s), e_row 1 e_i64 (Prod.snd s)] ∧ PreIs (List.length (Prod.snd s) ≤ 1000000000 ∧ ∀ (x : Int), x ∈ Prod.snd s → x ≤ 15) ∧ ∀ (y : Bool), y = anyEB
 (Prod.fst s) (Prod.snd s) → bif bif !decide (y_1 = 1) then true else !!decide (y_1 = 1) then bif bif decide (y_1 = 1) then true else !decide (y_1 = 1) then bif bif
 decide (y_1 = 1) then true else bif decide (Ins.d i = 0) then !y else false then ResLe (.int .i64 1) r else ResLe (.int .i64 2) r else False else False else bif
 bif !decide (y_1 = 1) then true else !!decide (y_1 = 1) then bif bif !decide (Ins.d i = 0) then true else !!decide (y_1 = 1) then bif bif decide (y_1 = 1) then true
 else !decide (y_1 = 1) then bif bif decide (y_1 = 1) then true else false then ResLe (.int .i64 1) r else ResLe (.int .i64 2) r else False else False else False
else
 False) := by kernel_rfl
theorem r_snt0 (i : Ins) (o : Nat → Int) (r : XV) : (goQ Try.prog TT2 [(.tmp 4)] r (.run c_ref10_sent) [] ⟨envX 0 [e_Ins i, e_own o], [], 0⟩) = (∃ (s : Ins), ArgsLe [e_Ins i] [e_Ins s] ∧ PreIs True ∧ ∀ (y : List Int), y = readsF s → LoopAt (Ok Try.prog (Tab.q TT2)) c_ref10_sent_l1 (XSt.mk [(7, .int .i64
 0), (6, .row true 0 0 fun x => .unk), (5, e_row 1 e_i64 y), (4, .row true 0 0 fun x => .unk), (3, .ptr 1 [] 0)] [(1, some (.tab 16 1 fun i => .int .i64 (o i))),
 (0, some (e_Ins i))] 2) [Frm.blk 0, Frm.seq c_ref10_sent_p1] (finQR [AR.tmp 4] r)) := by kernel_rfl
theorem r_snt1 (l : List Int) (o : Nat → Int) (out : List Int) (i : Nat) (r : XV) (A : XSt → Prop) : (goQ Try.prog TT2 [(.tmp 4)] r (.run c_ref10_sent_l1) [.lp c_ref10_sent_l1 A, .blk 0, .seq c_ref10_sent_p1] (sntS l o out i)) = (bif decide ((↑i : Int) < (↑(List.length l) : Int)) then bif decide ((↑i : Int) < (↑(List.length l) : Int)) then ∃ (s : (Nat → Int) × Int), ArgsLe [.tab 16 1
 fun i => .int .i64 (o i), .int .i64 (ix l i)] [e_own (Prod.fst s), .int .i64 (Prod.snd s)] ∧ PreIs True ∧ ∀ (y : Int), y = ownedF (Prod.fst s) (Prod.snd s) → bif
 decide (y = 1) then bif decide ((↑i : Int) < (↑(List.length l) : Int)) then bif decide (List.length out ≤ List.length out) then ∃ (s : List Int × Int), ArgsLe [e_row
 1 e_i64 out, .int .i64 (ix l i)] [e_row 1 e_i64 (Prod.fst s), .int .i64 (Prod.snd s)] ∧ PreIs (List.length (Prod.fst s) ≤ 1000000000) ∧ ∀ (y_1 : Int), y_1 = findF
 (Prod.fst s) (Prod.snd s) → bif bif decide (y = 1) then decide (y_1 < 0) else false then bif decide ((↑i : Int) < (↑(List.length l) : Int)) then bif decide (List.length
 out ≤ List.length out) then bif decide (pl (List.length out) 1 * 8 ≤ 140737488355328) then A (XSt.mk [(7, .int .i64 (IntKind.wrap .i64 ((↑i : Int) + (1 : Int)))),
 (6, .sl 3 [] 0 0 (pl (List.length out) 1) 1), (5, e_row 1 e_i64 l), (3, .ptr 1 [] 0)] [(3, some (.tab (pl (List.length out) 1) 1 fun i_1 => .int .i64 (bif decide
 (i_1 < List.length out) then ix out i_1 else ix l i))), (2, none), (1, some (e_own o))] 4) else False else False else False else A (XSt.mk [(7, .int .i64 (IntKind.wrap
 .i64 ((↑i : Int) + (1 : Int)))), (6, .sl 2 [] 0 0 (List.length out) 1), (5, e_row 1 e_i64 l), (3, .ptr 1 [] 0)] [(2, some (.tab (List.length out) 1 fun i => e_i64
 (ix out i))), (1, some (e_own o))] 3) else False else False else bif !decide (y = 1) then A (XSt.mk [(7, .int .i64 (IntKind.wrap .i64 ((↑i : Int) + (1 : Int)))),
 (6, .sl 2 [] 0 0 (List.length out) 1), (5, e_row 1 e_i64 l), (3, .ptr 1 [] 0)] [(2, some (.tab (List.length out) 1 fun i => e_i64 (ix out i))), (1, some (e_own o))]
 3) else False else False
else bif decide (List.length out ≤ List.length out) then ResLe (e_row 1 e_i64 out) r else False) := by kernel_rfl
theorem TT2ok : TabOk Try.prog TT2 := mkT2_ok clok_ref10 ⟨sp_form, trivial⟩ trivial ⟨sk_anyE, sk_ownd, sk_reads, sk_find, trivial⟩ trivial
theorem reads_ok {i : Ins} : (readsF i).length ≤ 2 ∧ ∀ x ∈ readsF i, 1 ≤ x ∧ x ≤ 15 := by
  unfold readsF
  cases hr : rightIns i with
  | false => exact ⟨Nat.zero_le _, fun x hx => by cases hx⟩
  | true =>
    simp only [rightIns, Bool.and_eq_true] at hr
    obtain ⟨_, _, ha, hb, _⟩ := hr
    rw [if_pos rfl]
    have pa : (hasA (formI i.op) && decide (¬ i.a = 0)) = true → 1 ≤ i.a ∧ i.a ≤ 15 := fun h => by
      simp only [Bool.and_eq_true, decide_eq_true_eq] at h
      simp only [regB, Bool.or_eq_true, Bool.and_eq_true, decide_eq_true_eq] at ha
      omega
    have pb : (hasB (formI i.op) && decide (¬ i.b = 0)) = true → 1 ≤ i.b ∧ i.b ≤ 15 := fun h => by
      simp only [Bool.and_eq_true, decide_eq_true_eq] at h
      simp only [regB, Bool.or_eq_true, Bool.and_eq_true, decide_eq_true_eq] at hb
      omega
    generalize (hasA (formI i.op) && decide (¬ i.a = 0)) = p at pa
    generalize (hasB (formI i.op) && decide (¬ i.b = 0)) = q at pb
    cases p <;> cases q <;> simp only [if_true, if_false, Bool.false_eq_true, List.nil_append, List.append_nil, List.cons_append]
    · exact ⟨Nat.zero_le _, fun x hx => by cases hx⟩
    · refine ⟨by simp, fun x hx => ?_⟩
      simp only [List.mem_singleton] at hx
      subst hx; exact pb rfl
    · refine ⟨by simp, fun x hx => ?_⟩
      simp only [List.mem_singleton] at hx
      subst hx; exact pa rfl
    · refine ⟨by simp, fun x hx => ?_⟩
      simp only [List.mem_cons, List.not_mem_nil, or_false] at hx
      rcases hx with rfl | rfl
      · exact pa rfl
      · exact pb rfl
theorem sk_side : SkOk Try.prog (90, sideS) := skOf_ok fun ⟨i, o⟩ _ => by
  show Pure _ _ (cons [e_Ins i, e_own o]) (con (.int .i64 (sideF i o)))
  refine pureR (u := 80) (k := 20) mix TT2ok ?_
  refine Eq.mpr (r_side i o _) ?_
  simp only [g1, g2, g3, g4, g5, g6, g7, allN_true, cond_true, Nat.le_refl, decide_true, pl_eq]
  simp only [bor, band]
  unfold sideF
  generalize formI i.op = f
  by_cases hf : f < 1 ∨ f > 3
  · rw [if_pos hf]
    rcases hf with h | h <;> (simp only [decide_eq_true h, Bool.true_or, Bool.or_true, cond_true]; exact .rfl)
  rw [if_neg hf]
  have f1 : ¬ f < 1 := fun h => hf (.inl h)
  have f2 : ¬ f > 3 := fun h => hf (.inr h)
  simp only [f1, f2, decide_false, Bool.or_false, cond_false]
  refine ⟨i, .rfl, ⟨trivial⟩, ?_⟩
  rintro y rfl
  refine ⟨(o, i.d), .rfl, ⟨trivial⟩, ?_⟩
  intro y1 hy
  replace hy : y1 = ownedF o i.d := hy
  subst hy
  by_cases h1 : ownedF o i.d = 1
  · rw [if_pos (.inl h1)]
    simp only [h1, decide_true, Bool.not_true, Bool.not_false, Bool.false_and, Bool.true_and, Bool.or_true, Bool.true_or, cond_true, cond_false, Bool.false_or]
    exact .rfl
  · simp only [h1, decide_false, Bool.not_true, Bool.not_false, Bool.false_and, Bool.true_and, Bool.or_true, Bool.true_or, cond_true, cond_false, Bool.false_or]
    by_cases h2 : i.d = 0
    · simp only [h2, decide_true, cond_true]
      refine ⟨(o, readsF i), .rfl, ⟨by have := reads_ok (i := i); exact ⟨show (readsF i).length ≤ 1000000000 by omega, fun x hx => (this.2 x hx).2⟩⟩, ?_⟩
      intro y1 hy
      replace hy : y1 = anyEB o (readsF i) := hy
      subst hy
      cases anyEB o (readsF i) <;> (simp; exact .rfl)
    · simp only [h2, decide_false, cond_false, Bool.not_true, Bool.not_false, Bool.or_true, Bool.true_or, cond_true, false_and, or_self, if_false]
      exact .rfl
theorem sent_step {o : Nat → Int} {l : List Int} {i : Nat} (h : i < l.length) : sentL o (l.take (i + 1)) = if ownedF o (ix l i) = 1 ∧ findF (sentL o (l.take i)) (ix l i) < 0 then sentL o (l.take i) ++ [ix l i] else sentL o (l.take i) := by
  have e : l.take (i + 1) = l.take i ++ [ix l i] := by rw [ix_lt h]; exact (List.take_append_getElem h).symm
  rw [e]
  unfold sentL
  rw [List.foldl_append]
  rfl
theorem sent_len {o : Nat → Int} : ∀ {l : List Int}, (sentL o l).length ≤ l.length := by
  intro l
  unfold sentL
  have key : ∀ (l out : List Int), (l.foldl (fun out x => if ownedF o x = 1 ∧ findF out x < 0 then out ++ [x] else out) out).length ≤ out.length + l.length := by
    intro l
    induction l with
    | nil => intro out; simp
    | cons x l ih =>
      intro out
      simp only [List.foldl_cons, List.length_cons]
      split
      · have := ih (out ++ [x]); simp only [app_len] at this; omega
      · have := ih out; omega
  simpa using key l []
theorem sk_snt : SkOk Try.prog (93, sntT) := skOf_ok fun ⟨i, o⟩ _ => by
  show Pure _ _ (cons [e_Ins i, e_own o]) (con (e_row 1 e_i64 (sentF i o)))
  refine pureQ mix TT2ok t_ref10_sent (Nat.le_of_ble_eq_true rfl) ?_
  refine Eq.mpr (r_snt0 i o _) ?_
  refine ⟨i, .rfl, ⟨trivial⟩, ?_⟩
  rintro l rfl
  have hl := (reads_ok (i := i)).1
  unfold sentF
  generalize readsF i = l at hl
  refine loopQ mix TT2ok (fun k : Nat => sntS l o (sentL o (l.take k)) k) (fun k => k ≤ l.length) (fun k => l.length - k) 0 (Nat.zero_le _) (weakK [(0, 0), (1, 1)] rfl rfl rfl rfl rfl ⟨k_is rfl rfl, k_nil rfl, k_is rfl rfl, .ptr rfl, trivial⟩ ⟨⟨1, rfl⟩, .same rfl, trivial⟩) ?_
  intro k hk
  refine Eq.mpr (r_snt1 l o _ k _ _) ?_
  have hs : (sentL o (l.take k)).length ≤ 2 := by have := sent_len (o := o) (l := l.take k); simp at this; omega
  by_cases hlt : k < l.length
  · have h1 : (k : Int) < (l.length : Int) := by omega
    have w1 : IntKind.i64.wrap ((k : Int) + 1) = ((k + 1 : Nat) : Int) := wrap_i64 (by omega) (by omega)
    have st := sent_step (o := o) hlt
    generalize sentL o (l.take k) = out at st hs
    simp only [g1, g2, g3, g4, g5, g6, g7, allN_true, cond_true, Nat.le_refl, decide_true, pl_eq, h1, w1]
    refine ⟨(o, ix l k), .rfl, ⟨trivial⟩, ?_⟩
    intro y1 hy
    replace hy : y1 = ownedF o (ix l k) := hy
    subst hy
    have stay : sentL o (l.take (k + 1)) = out → ∃ j, j ≤ l.length ∧ WeakE 2 (XSt.st (XSt.mk [(7, .int .i64 ((k + 1 : Nat) : Int)), (6, .sl 2 [] 0 0 out.length 1), (5, e_row 1 e_i64 l), (3, .ptr 1 [] 0)] [(2, some (.tab out.length 1 fun i => e_i64 (ix out i))), (1, some (e_own o))] 3)) (sntS l o (sentL o (l.take j)) j).st ∧ l.length - j < l.length - k := fun h => by
      refine ⟨k + 1, hlt, ?_, by omega⟩
      rw [h]
      exact .of (weakX ⟨rfl, rfl, rfl, rfl, trivial⟩ ⟨rfl, rfl, trivial⟩ (Nat.le_refl _))
    by_cases h2 : ownedF o (ix l k) = 1
    · simp only [h2, decide_true, cond_true]
      refine ⟨(out, ix l k), .rfl, ⟨show out.length ≤ _ by omega⟩, ?_⟩
      intro y1 hy
      replace hy : y1 = findF out (ix l k) := hy
      subst hy
      by_cases h3 : findF out (ix l k) < 0
      · rw [if_pos ⟨h2, h3⟩] at st
        have b : (out.length + 1) * 8 ≤ 140737488355328 := by omega
        simp only [h3, b, decide_true, cond_true]
        refine ⟨k + 1, hlt, ?_, by omega⟩
        rw [st]
        unfold sntS
        rw [app_len]
        exact weakK [(0, 0), (1, 1), (2, 3)] rfl rfl rfl rfl rfl ⟨k_is rfl rfl, .sl rfl, k_is rfl rfl, .ptr rfl, trivial⟩ ⟨k_app (fun i hi => by simp only [hi, decide_true, cond_true]; rfl) (by simp; rfl) rfl, .same rfl, trivial⟩
      · rw [if_neg (fun h => h3 h.2)] at st
        simp only [h3, decide_true, decide_false, cond_true, cond_false]
        exact stay st
    · rw [if_neg (fun h => h2 h.1)] at st
      simp only [h2, decide_false, cond_false, Bool.not_false, cond_true]
      exact stay st
  · have h1 : ¬ (k : Int) < (l.length : Int) := by omega
    simp only [h1, decide_false, cond_false, g1, g2, g3, g4, g5, g6, g7, allN_true, cond_true, Nat.le_refl, decide_true, pl_eq]
    have : k = l.length := by omega
    subst this
    rw [List.take_length]
    exact .rfl
end Go.Proofs.Ythmlnmkbeohojaa

/- The cells of an instruction. -/
namespace Go.Proofs.Ythmlnmkbeohojaa
open Go.Ra
set_option linter.unusedVariables false
set_option linter.unusedSimpArgs false
/-- The same as sntT, by how many there are. -/
def sntC : List XV → Option ((XV → Prop) → Prop) := fun args => some fun K => ∃ s : Ins × (Nat → Int), ArgsLe args [e_Ins s.1, e_own s.2] ∧ ∀ y : List Int, y = sentF s.1 s.2 → (y = [] → K (.row false 1 0 (fun _ => .int .i64 0))) ∧ (∀ a : Int, y = [a] → K (.row false 1 1 (fun _ => .int .i64 a))) ∧ (∀ a b : Int, y = [a, b] → K (.row false 1 2 (fun i => .int .i64 (bif Nat.beq i 0 then a else b))))
def TT3 : Tab := mkT2 qq cl_ref10 [(65, formSp), (57, rtSp)] [] [(87, anyES), (86, onES), (94, owndS), (70, redS), (90, sideS), (93, sntC)] []
def cI (k : Int) (i : Ins) (pc off : Int) : Cell := ⟨k, i, 0, pc, off⟩
def cR (k : Int) (pc off : Int) (n : Int) : Cell := ⟨k, ⟨0, 0, 0, 0, 0⟩, n, pc, off⟩
def cP (k : Int) (pc off : Int) : Cell := ⟨k, ⟨0, 0, 0, 0, 0⟩, 0, pc, off⟩
def e_cells (y : List Cell × List Cell) : XV := .tup [e_row 9 e_Cell y.1, e_row 9 e_Cell y.2]
/-- A's cells of an instruction, and E's. -/
def emitF (i : Ins) (o : Nat → Int) (pc off : Int) : List Cell × List Cell :=
  if rightIns i = false then ([], [])
  else if formI i.op = 1 ∨ formI i.op = 2 ∨ formI i.op = 3 then
    if sideF i o = 1 then ([cI 1 i pc off], []) else ((sentF i o).map (cR 5 pc off), (sentF i o).map (cR 6 pc off) ++ [cI 1 i pc off])
  else if formI i.op = 4 then
    if onEB o i.d = true then ([cI 3 i pc off], [cI 7 i pc off]) else ([cI 2 i pc off], [])
  else if formI i.op = 5 then
    if ownedF o i.b = 1 then ([cR 5 pc off i.b, cI 4 i pc off], [cR 6 pc off i.b, cR 8 pc off i.b]) else ([cI 4 i pc off], [cR 8 pc off i.b])
  else if formI i.op = 6 then
    if anyEB o (readsF i) = false then ([cI 9 i pc off], [cP 10 pc off]) else ((sentF i o).map (cR 5 pc off) ++ [cP 10 pc off], (sentF i o).map (cR 6 pc off) ++ [cI 9 i pc off])
  else if formI i.op = 7 then ([cP 11 pc off], [cP 11 pc off])
  else if formI i.op = 8 then ([cP 12 pc off], [cP 12 pc off])
  else ([], [])
def emtS : List XV → Option ((XV → Prop) → Prop) := skOf (fun q : Ins × (Nat → Int) × Int × Int => [e_Ins q.1, e_own q.2.1, .int .i64 q.2.2.1, .int .i64 q.2.2.2]) (fun q => True) (fun q => emitF q.1 q.2.1 q.2.2.1 q.2.2.2) (fun y => e_cells y)
theorem sentC_ok : SkOk Try.prog (93, sntC) := by
  intro args W hW K hK
  simp only [sntC, Option.some.injEq] at hW
  subst hW
  obtain ⟨⟨i, o⟩, h1, h2⟩ := hK
  obtain ⟨h3, h4, h5⟩ := h2 _ rfl
  have hl : (sentF i o).length ≤ 2 := by
    unfold sentF
    have := sent_len (o := o) (l := readsF i)
    have := (reads_ok (i := i)).1
    omega
  obtain ⟨v, hp, hk⟩ := sk_snt args _ rfl (fun v => v = e_row 1 e_i64 (sentF i o)) ⟨(i, o), h1, ⟨trivial⟩, fun y hy => by rw [hy]⟩
  subst hk
  revert h3 h4 h5 hl hp
  generalize sentF i o = l
  intro h3 h4 h5 hl hp
  match l, hl with
  | [], _ => exact ⟨_, hp.out (lq_row rfl (.inl rfl) fun j hj => absurd hj (Nat.not_lt_zero _)), h3 rfl⟩
  | [a], _ => exact ⟨_, hp.out (lq_row rfl (.inl rfl) fun j hj => by
      have : j = 0 := by simp at hj; exact hj
      subst this; exact .refl _), h4 a rfl⟩
  | [a, b], _ => exact ⟨_, hp.out (lq_row rfl (.inl rfl) fun j hj => by
      have hj : j < 2 := hj
      rcases (by omega : j = 0 ∨ j = 1) with rfl | rfl <;> exact .refl _), h5 a b rfl⟩
  | _ :: _ :: _ :: _, h => simp at h
theorem TT3ok : TabOk Try.prog TT3 := mkT2_ok clok_ref10 ⟨sp_form, sp_rt, trivial⟩ trivial ⟨sk_anyE, sk_onE, sk_ownd, sk_reads, sk_side, sentC_ok, trivial⟩ trivial
theorem r_emit (i : Ins) (o : Nat → Int) (pc off : Int) (r : XV) : (quietGo TT3 80 (callI TT3 80 20) 69 [e_Ins i, e_own o, .int .i64 pc, .int .i64 off] (fun v => ResLe v r)) = (let q1 : XV := .row true 0 0 fun x => .unk;
let q2 : List XV := [q1];
let q3 : XV := .tup (q1 :: q2);
let q4 : Bool := decide (formI (Ins.op i) = 1);
let q5
 : XV := .tab 16 1 fun i => .int .i64 (o i);
let q6 : List XV := [e_Ins i, q5];
let q7 : Ins × (Nat → Int) → List XV := fun (s : Ins × (Nat → Int)) => [e_Ins (Prod.fst
 s), e_own (Prod.snd s)];
let q8 : Ins × (Nat → Int) → Int := fun (s : Ins × (Nat → Int)) => sideF (Prod.fst s) (Prod.snd s);
let q9 : Int → Bool := fun y => decide
 (y = 1);
let q10 : List XV := [.int .i64 pc, .int .i64 off];
let q11 : List XV := .int .i64 0 :: q10;
let q12 : List XV := e_Ins i :: q11;
let q13 : XV := .row false
 9 1 fun i => .agg 9 (.int .i64 1 :: q12);
let q14 : XV := .tup (q13 :: q2);
let q15 : Ins × (Nat → Int) → List Int := fun (s : Ins × (Nat → Int)) => sentF (Prod.fst
 s) (Prod.snd s);
let q16 : List XV := [q13];
let q17 : XV := .tup (q1 :: q16);
let q18 : Nat := List.length [AX.t 21];
let q19 : Nat := pl 0 q18;
let q20 : Nat →
 Bool := fun i => decide (i < 1);
let q21 : Nat → XV := fun i_1 => .agg 5 [.int .i64 (bif q20 i_1 then (0 : Int) else Ins.op i), .int .i64 (bif q20 i_1 then (0 :
 Int) else Ins.d i), .int .i64 (bif q20 i_1 then (0 : Int) else Ins.a i), .int .i64 (bif q20 i_1 then (0 : Int) else Ins.b i), .int .i64 (bif q20 i_1 then (0 : Int)
 else Ins.imm i)];
let q22 : Nat → List XV := fun i => [.int .i64 (bif q20 i then pc else pc), .int .i64 (bif q20 i then off else off)];
let q23 : Nat → Int → List
 XV := fun (i : Nat) (a : Int) => .int .i64 (bif q20 i then a else (0 : Int)) :: q22 i;
let q24 : Nat → Int → List XV := fun (i : Nat) (a : Int) => q21 i :: q23 i
 a;
let q25 : Int → List XV := fun a => [.row false 9 2 fun i => .agg 9 (.int .i64 (bif q20 i then (6 : Int) else (1 : Int)) :: q24 i a)];
let q26 : Int → XV := fun
 a => .tup (q1 :: q25 a);
let q27 : Nat → Bool := fun i => decide (i < 2);
let q28 : Nat → Bool := fun i => decide (i < 1);
let q29 : Nat → Int := fun i => bif q28
 i then (6 : Int) else (6 : Int);
let q30 : Nat → Int := fun i => bif q28 i then (0 : Int) else (0 : Int);
let q31 : Nat → Int → Int → List XV := fun (i : Nat) (a
 b : Int) => [.int .i64 (bif q27 i then bif q28 i then a else b else (0 : Int)), .int .i64 (bif q27 i then bif q28 i then pc else pc else pc), .int .i64 (bif q27
 i then bif q28 i then off else off else off)];
let q32 : Nat → Int → Int → List XV := fun (i_1 : Nat) (a b : Int) => .agg 5 [.int .i64 (bif q27 i_1 then q30 i_1
 else Ins.op i), .int .i64 (bif q27 i_1 then q30 i_1 else Ins.d i), .int .i64 (bif q27 i_1 then q30 i_1 else Ins.a i), .int .i64 (bif q27 i_1 then q30 i_1 else Ins.b
 i), .int .i64 (bif q27 i_1 then q30 i_1 else Ins.imm i)] :: q31 i_1 a b;
let q33 : Int → Int → List XV := fun (a b : Int) => [.row false 9 3 fun i => .agg 9 (.int
 .i64 (bif q27 i then q29 i else (1 : Int)) :: q32 i a b)];
let q34 : Int → Int → XV := fun (a b : Int) => .tup (q1 :: q33 a b);
let q35 : XV := .agg 5 [.int .i64
 0, .int .i64 0, .int .i64 0, .int .i64 0, .int .i64 0];
let q36 : Int → XV := fun a => .row false 9 1 fun i => .agg 9 (.int .i64 5 :: q35 :: .int .i64 a :: q10);
let
 q37 : Int → XV := fun a => .tup (q36 a :: q16);
let q38 : Int → Int → XV := fun (a a_1 : Int) => .tup (q36 a :: q25 a_1);
let q39 : Int → Int → Int → XV := fun (a
 a_1 b : Int) => .tup (q36 a :: q33 a_1 b);
let q40 : Nat → XV := fun i => .int .i64 (bif q20 i then (0 : Int) else (0 : Int));
let q41 : Nat → XV := fun i => .agg
 5 [q40 i, q40 i, q40 i, q40 i, q40 i];
let q42 : Int → Int → XV := fun (a b : Int) => .row false 9 2 fun i => .agg 9 (.int .i64 (bif q20 i then (5 : Int) else (5
 : Int)) :: q41 i :: .int .i64 (bif q20 i then a else b) :: q22 i);
let q43 : Int → Int → XV := fun (a b : Int) => .tup (q42 a b :: q16);
let q44 : Int → Int → Int
 → XV := fun (a b a_1 : Int) => .tup (q42 a b :: q25 a_1);
let q45 : Int → Int → Int → Int → XV := fun (a b a_1 b_1 : Int) => .tup (q42 a b :: q33 a_1 b_1);
let q46
 : Bool := decide (formI (Ins.op i) = 4);
let q47 : List XV := [q5, .int .i64 (Ins.d i)];
let q48 : (Nat → Int) × Int → List XV := fun (s : (Nat → Int) × Int) =>
 [e_own (Prod.fst s), .int .i64 (Prod.snd s)];
let q49 : (Nat → Int) × Int → Bool := fun (s : (Nat → Int) × Int) => onEB (Prod.fst s) (Prod.snd s);
let q50 : XV :=
 .tup [.row false 9 1 fun i => .agg 9 (.int .i64 3 :: q12), .row false 9 1 fun i => .agg 9 (.int .i64 7 :: q12)];
let q51 : XV := .tup ((.row false 9 1 fun i => .agg
 9 (.int .i64 2 :: q12)) :: q2);
let q52 : Bool := decide (formI (Ins.op i) = 5);
let q53 : List XV := [q5, .int .i64 (Ins.b i)];
let q54 : (Nat → Int) × Int → Int
 := fun (s : (Nat → Int) × Int) => ownedF (Prod.fst s) (Prod.snd s);
let q55 : XV := .tup [.row false 9 2 fun i_1 => .agg 9 (.int .i64 (bif q20 i_1 then (5 : Int)
 else (4 : Int)) :: q21 i_1 :: .int .i64 (bif q20 i_1 then Ins.b i else (0 : Int)) :: q22 i_1), .row false 9 2 fun i_1 => .agg 9 (.int .i64 (bif q20 i_1 then (6 :
 Int) else (8 : Int)) :: q41 i_1 :: .int .i64 (bif q20 i_1 then Ins.b i else Ins.b i) :: q22 i_1)];
let q56 : XV := .tup [.row false 9 1 fun i => .agg 9 (.int .i64
 4 :: q12), .row false 9 1 fun i_1 => .agg 9 (.int .i64 8 :: q35 :: .int .i64 (Ins.b i) :: q10)];
let q57 : Bool := decide (formI (Ins.op i) = 6);
let q58 : List
 Int → List XV := fun (y : List Int) => [q5, e_row 1 e_i64 y];
let q59 : (Nat → Int) × List Int → List XV := fun (s : (Nat → Int) × List Int) => [e_own (Prod.fst
 s), e_row 1 e_i64 (Prod.snd s)];
let q60 : (Nat → Int) × List Int → Bool := fun (s : (Nat → Int) × List Int) => anyEB (Prod.fst s) (Prod.snd s);
let q61 : XV :=
 .row false 9 1 fun i => .agg 9 (.int .i64 9 :: q12);
let q62 : List XV := q35 :: q11;
let q63 : XV := .row false 9 1 fun i => .agg 9 (.int .i64 10 :: q62);
let q64
 : XV := .tup [q61, q63];
let q65 : List XV := [q61];
let q66 : XV := .tup (q63 :: q65);
let q67 : Int → List XV := fun a => [.row false 9 2 fun i => .agg 9 (.int
 .i64 (bif q20 i then (6 : Int) else (9 : Int)) :: q24 i a)];
let q68 : Int → XV := fun a => .tup (q63 :: q67 a);
let q69 : Int → Int → List XV := fun (a b : Int)
 => [.row false 9 3 fun i => .agg 9 (.int .i64 (bif q27 i then q29 i else (9 : Int)) :: q32 i a b)];
let q70 : Int → Int → XV := fun (a b : Int) => .tup (q63 :: q69
 a b);
let q71 : Int → XV := fun a => .row false 9 2 fun i => .agg 9 (.int .i64 (bif q20 i then (5 : Int) else (10 : Int)) :: q41 i :: q23 i a);
let q72 : Int → XV
 := fun a => .tup (q71 a :: q65);
let q73 : Int → Int → XV := fun (a a_1 : Int) => .tup (q71 a :: q67 a_1);
let q74 : Int → Int → Int → XV := fun (a a_1 b : Int)
 => .tup (q71 a :: q69 a_1 b);
let q75 : Nat → XV := fun i => .int .i64 (bif q27 i then q30 i else (0 : Int));
let q76 : Int → Int → XV := fun (a b : Int) => .row
 false 9 3 fun i => .agg 9 (.int .i64 (bif q27 i then bif q28 i then (5 : Int) else (5 : Int) else (10 : Int)) :: .agg 5 [q75 i, q75 i, q75 i, q75 i, q75 i] :: q31
 i a b);
let q77 : Int → Int → XV := fun (a b : Int) => .tup (q76 a b :: q65);
let q78 : Int → Int → Int → XV := fun (a b a_1 : Int) => .tup (q76 a b :: q67 a_1);
let
 q79 : Int → Int → Int → Int → XV := fun (a b a_1 b_1 : Int) => .tup (q76 a b :: q69 a_1 b_1);
let q80 : Bool := decide (formI (Ins.op i) = 7);
let q81 : XV := .row
 false 9 1 fun i => .agg 9 (.int .i64 11 :: q62);
let q82 : XV := .tup [q81, q81];
let q83 : Bool := decide (formI (Ins.op i) = 8);
let q84 : XV := .row false 9 1
 fun i => .agg 9 (.int .i64 12 :: q62);
let q85 : XV := .tup [q84, q84];
let q86 : Bool := decide (formI (Ins.op i) = 2);
bif !rightIns i then ResLe q3 r
else bif
 q4 then bif q4 then ∃ (s : Ins × (Nat → Int)), ArgsLe q6 (q7 s) ∧ PreIs True ∧ ∀ (y : Int), y = q8 s → bif q9 y then ResLe q14 r else ∃ (s : Ins × (Nat → Int)),
 ArgsLe q6 (q7 s) ∧ ∀ (y : List Int), y = q15 s → (y = [] → ∃ (s : Ins × (Nat → Int)), ArgsLe q6 (q7 s) ∧ ∀ (y : List Int), y = q15 s → (y = [] → ResLe q17 r) ∧ (∀
 (a : Int), y = [a] → ResLe (q26 a) r) ∧ ∀ (a b : Int), y = [a, b] → ResLe (q34 a b) r) ∧ (∀ (a : Int), y = [a] → ∃ (s : Ins × (Nat → Int)), ArgsLe q6 (q7 s) ∧ ∀
 (y : List Int), y = q15 s → (y = [] → ResLe (q37 a) r) ∧ (∀ (a_3 : Int), y = [a_3] → ResLe (q38 a a_3) r) ∧ ∀ (a_3 b : Int), y = [a_3, b] → ResLe (q39 a a_3 b) r)
 ∧ ∀ (a b : Int), y = [a, b] → ∃ (s : Ins × (Nat → Int)), ArgsLe q6 (q7 s) ∧ ∀ (y : List Int), y = q15 s → (y = [] → ResLe (q43 a b) r) ∧ (∀ (a_3 : Int), y = [a_3]
 → ResLe (q44 a b a_3) r) ∧ ∀ (a_3 b_1 : Int), y = [a_3, b_1] → ResLe (q45 a b a_3 b_1) r else bif q46 then ∃ (s : (Nat → Int) × Int), ArgsLe q47 (q48 s) ∧ PreIs
 (Prod.snd s ≤ 15) ∧ ∀ (y : Bool), y = q49 s → bif y then ResLe q50 r else ResLe q51 r else bif q52 then ∃ (s : (Nat → Int) × Int), ArgsLe q53 (q48 s) ∧ PreIs True
 ∧ ∀ (y : Int), y = q54 s → bif q9 y then ResLe q55 r else ResLe q56 r else bif q57 then ∃ (s : Ins), ArgsLe [e_Ins i] [e_Ins s] ∧ PreIs True ∧ ∀ (y : List Int),
 y = readsF s → ∃ (s : (Nat → Int) × List Int), ArgsLe (q58 y) (q59 s) ∧ PreIs (List.length (Prod.snd s) ≤ 1000000000 ∧ ∀ (x : Int), x ∈ Prod.snd s → x ≤ 15) ∧ ∀
 (y : Bool), y = q60 s → bif !y then ResLe q64 r else ∃ (s : Ins × (Nat → Int)), ArgsLe q6 (q7 s) ∧ ∀ (y : List Int), y = q15 s → (y = [] → ∃ (s : Ins × (Nat → Int)),
 ArgsLe q6 (q7 s) ∧ ∀ (y : List Int), y = q15 s → (y = [] → ResLe q66 r) ∧ (∀ (a : Int), y = [a] → ResLe (q68 a) r) ∧ ∀ (a b : Int), y = [a, b] → ResLe (q70 a b)
 r) ∧ (∀ (a : Int), y = [a] → ∃ (s : Ins × (Nat → Int)), ArgsLe q6 (q7 s) ∧ ∀ (y : List Int), y = q15 s → (y = [] → ResLe (q72 a) r) ∧ (∀ (a_3 : Int), y = [a_3] →
 ResLe (q73 a a_3) r) ∧ ∀ (a_3 b : Int), y = [a_3, b] → ResLe (q74 a a_3 b) r) ∧ ∀ (a b : Int), y = [a, b] → ∃ (s : Ins × (Nat → Int)), ArgsLe q6 (q7 s) ∧ ∀ (y :
 List Int), y = q15 s → (y = [] → ResLe (q77 a b) r) ∧ (∀ (a_3 : Int), y = [a_3] → ResLe (q78 a b a_3) r) ∧ ∀ (a_3 b_1 : Int), y = [a_3, b_1] → ResLe (q79 a b a_3
 b_1) r else bif q80 then ResLe q82 r else bif q83 then ResLe q85 r else ResLe q3 r else bif q86 then bif q86 then ∃ (s : Ins × (Nat → Int)), ArgsLe q6 (q7 s) ∧ PreIs
 True ∧ ∀ (y : Int), y = q8 s → bif q9 y then ResLe q14 r else ∃ (s : Ins × (Nat → Int)), ArgsLe q6 (q7 s) ∧ ∀ (y : List Int), y = q15 s → (y = [] → ∃ (s : Ins ×
 (Nat → Int)), ArgsLe q6 (q7 s) ∧ ∀ (y : List Int), y = q15 s → (y = [] → ResLe q17 r) ∧ (∀ (a : Int), y = [a] → ResLe (q26 a) r) ∧ ∀ (a b : Int), y = [a, b] → ResLe
 (q34 a b) r) ∧ (∀ (a : Int), y = [a] → ∃ (s : Ins × (Nat → Int)), ArgsLe q6 (q7 s) ∧ ∀ (y : List Int), y = q15 s → (y = [] → ResLe (q37 a) r) ∧ (∀ (a_3 : Int), y
 = [a_3] → ResLe (q38 a a_3) r) ∧ ∀ (a_3 b : Int), y = [a_3, b] → ResLe (q39 a a_3 b) r) ∧ ∀ (a b : Int), y = [a, b] → ∃ (s : Ins × (Nat → Int)), ArgsLe q6 (q7 s)
 ∧ ∀ (y : List Int), y = q15 s → (y = [] → ResLe (q43 a b) r) ∧ (∀ (a_3 : Int), y = [a_3] → ResLe (q44 a b a_3) r) ∧ ∀ (a_3 b_1 : Int), y = [a_3, b_1] → ResLe (q45
 a b a_3 b_1) r else bif q46 then ∃ (s : (Nat → Int) × Int), ArgsLe q47 (q48 s) ∧ PreIs (Prod.snd s ≤ 15) ∧ ∀ (y : Bool), y = q49 s → bif y then ResLe q50 r else
 ResLe q51 r else bif q52 then ∃ (s : (Nat → Int) × Int), ArgsLe q53 (q48 s) ∧ PreIs True ∧ ∀ (y : Int), y = q54 s → bif q9 y then ResLe q55 r else ResLe q56 r else
 bif q57 then ∃ (s : Ins), ArgsLe [e_Ins i] [e_Ins s] ∧ PreIs True ∧ ∀ (y : List Int), y = readsF s → ∃ (s : (Nat → Int) × List Int), ArgsLe (q58 y) (q59 s) ∧ PreIs
 (List.length (Prod.snd s) ≤ 1000000000 ∧ ∀ (x : Int), x ∈ Prod.snd s → x ≤ 15) ∧ ∀ (y : Bool), y = q60 s → bif !y then ResLe q64 r else ∃ (s : Ins × (Nat → Int)),
 ArgsLe q6 (q7 s) ∧ ∀ (y : List Int), y = q15 s → (y = [] → ∃ (s : Ins × (Nat → Int)), ArgsLe q6 (q7 s) ∧ ∀ (y : List Int), y = q15 s → (y = [] → ResLe q66 r) ∧ (∀
 (a : Int), y = [a] → ResLe (q68 a) r) ∧ ∀ (a b : Int), y = [a, b] → ResLe (q70 a b) r) ∧ (∀ (a : Int), y = [a] → ∃ (s : Ins × (Nat → Int)), ArgsLe q6 (q7 s) ∧ ∀
 (y : List Int), y = q15 s → (y = [] → ResLe (q72 a) r) ∧ (∀ (a_3 : Int), y = [a_3] → ResLe (q73 a a_3) r) ∧ ∀ (a_3 b : Int), y = [a_3, b] → ResLe (q74 a a_3 b) r)
 ∧ ∀ (a b : Int), y = [a, b] → ∃ (s : Ins × (Nat → Int)), ArgsLe q6 (q7 s) ∧ ∀ (y : List Int), y = q15 s → (y = [] → ResLe (q77 a b) r) ∧ (∀ (a_3 : Int), y = [a_3]
 → ResLe (q78 a b a_3) r) ∧ ∀ (a_3 b_1 : Int), y = [a_3, b_1] → ResLe (q79 a b a_3 b_1) r else bif q80 then ResLe q82 r else bif q83 then ResLe q85 r else ResLe q3
 r else bif decide (formI (Ins.op i) = 3) then ∃ (s : Ins × (Nat → Int)), ArgsLe q6 (q7 s) ∧ PreIs True ∧ ∀ (y : Int), y = q8 s → bif q9 y then ResLe q14 r else ∃
 (s : Ins × (Nat → Int)), ArgsLe q6 (q7 s) ∧ ∀ (y : List Int), y = q15 s → (y = [] → ∃ (s : Ins × (Nat → Int)), ArgsLe q6 (q7 s) ∧ ∀ (y : List Int), y = q15 s → (y
 = [] → ResLe q17 r) ∧ (∀ (a : Int), y = [a] → ResLe (q26 a) r) ∧ ∀ (a b : Int), y = [a, b] → ResLe (q34 a b) r) ∧ (∀ (a : Int), y = [a] → ∃ (s : Ins × (Nat → Int)),
 ArgsLe q6 (q7 s) ∧ ∀ (y : List Int), y = q15 s → (y = [] → ResLe (q37 a) r) ∧ (∀ (a_3 : Int), y = [a_3] → ResLe (q38 a a_3) r) ∧ ∀ (a_3 b : Int), y = [a_3, b] →
 ResLe (q39 a a_3 b) r) ∧ ∀ (a b : Int), y = [a, b] → ∃ (s : Ins × (Nat → Int)), ArgsLe q6 (q7 s) ∧ ∀ (y : List Int), y = q15 s → (y = [] → ResLe (q43 a b) r) ∧ (∀
 (a_3 : Int), y = [a_3] → ResLe (q44 a b a_3) r) ∧ ∀ (a_3 b_1 : Int), y = [a_3, b_1] → ResLe (q45 a b a_3 b_1) r else bif q46 then ∃ (s : (Nat → Int) × Int), ArgsLe
 q47 (q48 s) ∧ PreIs (Prod.snd s ≤ 15) ∧ ∀ (y : Bool), y = q49 s → bif y then ResLe q50 r else ResLe q51 r else bif q52 then ∃ (s : (Nat → Int) × Int), ArgsLe q53
 (q48 s) ∧ PreIs True ∧ ∀ (y : Int), y = q54 s → bif q9 y then ResLe q55 r else ResLe q56 r else bif q57 then ∃ (s : Ins), ArgsLe [e_Ins i] [e_Ins s] ∧ PreIs True
 ∧ ∀ (y : List Int), y = readsF s → ∃ (s : (Nat → Int) × List Int), ArgsLe (q58 y) (q59 s) ∧ PreIs (List.length (Prod.snd s) ≤ 1000000000 ∧ ∀ (x : Int), x ∈ Prod.snd
 s → x ≤ 15) ∧ ∀ (y : Bool), y = q60 s → bif !y then ResLe q64 r else ∃ (s : Ins × (Nat → Int)), ArgsLe q6 (q7 s) ∧ ∀ (y : List Int), y = q15 s → (y = [] → ∃ (s :
 Ins × (Nat → Int)), ArgsLe q6 (q7 s) ∧ ∀ (y : List Int), y = q15 s → (y = [] → ResLe q66 r) ∧ (∀ (a : Int), y = [a] → ResLe (q68 a) r) ∧ ∀ (a b : Int), y = [a, b]
 → ResLe (q70 a b) r) ∧ (∀ (a : Int), y = [a] → ∃ (s : Ins × (Nat → Int)), ArgsLe q6 (q7 s) ∧ ∀ (y : List Int), y = q15 s → (y = [] → ResLe (q72 a) r) ∧ (∀ (a_3 :
 Int), y = [a_3] → ResLe (q73 a a_3) r) ∧ ∀ (a_3 b : Int), y = [a_3, b] → ResLe (q74 a a_3 b) r) ∧ ∀ (a b : Int), y = [a, b] → ∃ (s : Ins × (Nat → Int)), ArgsLe q6
 (q7 s) ∧ ∀ (y : List Int), y = q15 s → (y = [] → ResLe (q77 a b) r) ∧ (∀ (a_3 : Int), y = [a_3] → ResLe (q78 a b a_3) r) ∧ ∀ (a_3 b_1 : Int), y = [a_3, b_1] → ResLe
 (q79 a b a_3 b_1) r else bif q80 then ResLe q82 r else bif q83 then ResLe q85 r else ResLe q3 r) := by kernel_rfl
theorem sk_emit : SkOk Try.prog (69, emtS) := skOf_ok fun ⟨i, o, pc, off⟩ _ => by
  show Pure _ _ (cons [e_Ins i, e_own o, .int .i64 pc, .int .i64 off]) (con (e_cells (emitF i o pc off)))
  refine pureR (u := 80) (k := 20) mix TT3ok ?_
  refine Eq.mpr (r_emit i o pc off _) ?_
  unfold emitF
  cases hr : rightIns i with
  | false =>
    simp only [Bool.not_false, cond_true, if_true]
    exact ⟨lq_tup (lqs_cons lq_lit0 (lqs_cons lq_lit0 lqs_nil))⟩
  | true =>
  have hd : formI i.op = 4 → i.d ≤ 15 := fun h => by
    simp only [rightIns, Bool.and_eq_true] at hr
    have hb := hr.2.1
    simp only [regB, hasD, h, Bool.or_eq_true, Bool.and_eq_true, decide_eq_true_eq] at hb
    omega
  simp only [Bool.not_true, cond_false, Bool.true_eq_false, if_false]
  generalize formI i.op = f at hd
  by_cases hf : f = 1 ∨ f = 2 ∨ f = 3
  · rw [if_pos hf]
    rcases hf with rfl | rfl | rfl
    all_goals
      simp only [Int.reduceEq, decide_true, decide_false, cond_true, cond_false]
      refine ⟨(i, o), .rfl, ⟨trivial⟩, ?_⟩
      intro y hy
      replace hy : y = sideF i o := hy
      subst hy
      by_cases h1 : sideF i o = 1
      · simp only [h1, decide_true, cond_true, if_true]
        exact ⟨lq_tup (lqs_cons (by first | exact lq_lit0 | exact lq_lit1 (.refl _) | exact lq_lit2 (.refl _) (.refl _) | exact lq_lit3 (.refl _) (.refl _) (.refl _)) (lqs_cons (by first | exact lq_lit0 | exact lq_lit1 (.refl _) | exact lq_lit2 (.refl _) (.refl _) | exact lq_lit3 (.refl _) (.refl _) (.refl _)) lqs_nil))⟩
      · simp only [h1, decide_false, cond_false, if_false]
        refine ⟨(i, o), .rfl, ?_⟩
        intro y hy
        replace hy : y = sentF i o := hy
        subst hy
        refine ⟨fun e1 => ?_, fun a e1 => ?_, fun a b e1 => ?_⟩
        · refine ⟨(i, o), .rfl, ?_⟩
          intro y hy
          replace hy : y = sentF i o := hy
          subst hy
          refine ⟨fun e2 => ?_, fun c e2 => ?_, fun c d e2 => ?_⟩
          · rw [e1]; exact ⟨lq_tup (lqs_cons (by first | exact lq_lit0 | exact lq_lit1 (.refl _) | exact lq_lit2 (.refl _) (.refl _) | exact lq_lit3 (.refl _) (.refl _) (.refl _)) (lqs_cons (by first | exact lq_lit0 | exact lq_lit1 (.refl _) | exact lq_lit2 (.refl _) (.refl _) | exact lq_lit3 (.refl _) (.refl _) (.refl _)) lqs_nil))⟩
          · rw [e1] at e2; cases e2
          · rw [e1] at e2; cases e2
        · refine ⟨(i, o), .rfl, ?_⟩
          intro y hy
          replace hy : y = sentF i o := hy
          subst hy
          refine ⟨fun e2 => ?_, fun c e2 => ?_, fun c d e2 => ?_⟩
          · rw [e1] at e2; cases e2
          · rw [e1] at e2; cases e2; rw [e1]; exact ⟨lq_tup (lqs_cons (by first | exact lq_lit0 | exact lq_lit1 (.refl _) | exact lq_lit2 (.refl _) (.refl _) | exact lq_lit3 (.refl _) (.refl _) (.refl _)) (lqs_cons (by first | exact lq_lit0 | exact lq_lit1 (.refl _) | exact lq_lit2 (.refl _) (.refl _) | exact lq_lit3 (.refl _) (.refl _) (.refl _)) lqs_nil))⟩
          · rw [e1] at e2; cases e2
        · refine ⟨(i, o), .rfl, ?_⟩
          intro y hy
          replace hy : y = sentF i o := hy
          subst hy
          refine ⟨fun e2 => ?_, fun c e2 => ?_, fun c d e2 => ?_⟩
          · rw [e1] at e2; cases e2
          · rw [e1] at e2; cases e2
          · rw [e1] at e2; cases e2; rw [e1]; exact ⟨lq_tup (lqs_cons (by first | exact lq_lit0 | exact lq_lit1 (.refl _) | exact lq_lit2 (.refl _) (.refl _) | exact lq_lit3 (.refl _) (.refl _) (.refl _)) (lqs_cons (by first | exact lq_lit0 | exact lq_lit1 (.refl _) | exact lq_lit2 (.refl _) (.refl _) | exact lq_lit3 (.refl _) (.refl _) (.refl _)) lqs_nil))⟩
  rw [if_neg hf]
  have h1 : ¬ f = 1 := fun h => hf (.inl h)
  have h2 : ¬ f = 2 := fun h => hf (.inr (.inl h))
  have h3 : ¬ f = 3 := fun h => hf (.inr (.inr h))
  simp only [h1, h2, h3, decide_false, cond_false]
  by_cases h4 : f = 4
  · simp only [h4, decide_true, cond_true, if_true]
    refine ⟨(o, i.d), .rfl, ⟨hd h4⟩, ?_⟩
    intro y hy
    replace hy : y = onEB o i.d := hy
    subst hy
    cases onEB o i.d with
    | true => simp only [cond_true, if_true]; exact ⟨lq_tup (lqs_cons (by first | exact lq_lit0 | exact lq_lit1 (.refl _) | exact lq_lit2 (.refl _) (.refl _) | exact lq_lit3 (.refl _) (.refl _) (.refl _)) (lqs_cons (by first | exact lq_lit0 | exact lq_lit1 (.refl _) | exact lq_lit2 (.refl _) (.refl _) | exact lq_lit3 (.refl _) (.refl _) (.refl _)) lqs_nil))⟩
    | false => simp only [cond_false, Bool.false_eq_true, if_false]; exact ⟨lq_tup (lqs_cons (by first | exact lq_lit0 | exact lq_lit1 (.refl _) | exact lq_lit2 (.refl _) (.refl _) | exact lq_lit3 (.refl _) (.refl _) (.refl _)) (lqs_cons (by first | exact lq_lit0 | exact lq_lit1 (.refl _) | exact lq_lit2 (.refl _) (.refl _) | exact lq_lit3 (.refl _) (.refl _) (.refl _)) lqs_nil))⟩
  simp only [h4, decide_false, cond_false, if_false]
  by_cases h5 : f = 5
  · simp only [h5, decide_true, cond_true, if_true]
    refine ⟨(o, i.b), .rfl, ⟨trivial⟩, ?_⟩
    intro y hy
    replace hy : y = ownedF o i.b := hy
    subst hy
    by_cases g : ownedF o i.b = 1
    · simp only [g, decide_true, cond_true, if_true]; exact ⟨lq_tup (lqs_cons (by first | exact lq_lit0 | exact lq_lit1 (.refl _) | exact lq_lit2 (.refl _) (.refl _) | exact lq_lit3 (.refl _) (.refl _) (.refl _)) (lqs_cons (by first | exact lq_lit0 | exact lq_lit1 (.refl _) | exact lq_lit2 (.refl _) (.refl _) | exact lq_lit3 (.refl _) (.refl _) (.refl _)) lqs_nil))⟩
    · simp only [g, decide_false, cond_false, if_false]; exact ⟨lq_tup (lqs_cons (by first | exact lq_lit0 | exact lq_lit1 (.refl _) | exact lq_lit2 (.refl _) (.refl _) | exact lq_lit3 (.refl _) (.refl _) (.refl _)) (lqs_cons (by first | exact lq_lit0 | exact lq_lit1 (.refl _) | exact lq_lit2 (.refl _) (.refl _) | exact lq_lit3 (.refl _) (.refl _) (.refl _)) lqs_nil))⟩
  simp only [h5, decide_false, cond_false, if_false]
  by_cases h6 : f = 6
  · simp only [h6, decide_true, cond_true, if_true]
    refine ⟨i, .rfl, ⟨trivial⟩, ?_⟩
    rintro y rfl
    refine ⟨(o, readsF i), .rfl, ⟨by have := reads_ok (i := i); exact ⟨show (readsF i).length ≤ 1000000000 by omega, fun x hx => (this.2 x hx).2⟩⟩, ?_⟩
    intro y hy
    replace hy : y = anyEB o (readsF i) := hy
    subst hy
    cases anyEB o (readsF i) with
    | false => simp only [Bool.not_false, cond_true, if_true]; exact ⟨lq_tup (lqs_cons (by first | exact lq_lit0 | exact lq_lit1 (.refl _) | exact lq_lit2 (.refl _) (.refl _) | exact lq_lit3 (.refl _) (.refl _) (.refl _)) (lqs_cons (by first | exact lq_lit0 | exact lq_lit1 (.refl _) | exact lq_lit2 (.refl _) (.refl _) | exact lq_lit3 (.refl _) (.refl _) (.refl _)) lqs_nil))⟩
    | true =>
      simp only [Bool.not_true, cond_false, Bool.true_eq_false, if_false]
      refine ⟨(i, o), .rfl, ?_⟩
      intro y hy
      replace hy : y = sentF i o := hy
      subst hy
      refine ⟨fun e1 => ?_, fun a e1 => ?_, fun a b e1 => ?_⟩
      · refine ⟨(i, o), .rfl, ?_⟩
        intro y hy
        replace hy : y = sentF i o := hy
        subst hy
        refine ⟨fun e2 => ?_, fun c e2 => ?_, fun c d e2 => ?_⟩
        · rw [e1]; exact ⟨lq_tup (lqs_cons (by first | exact lq_lit0 | exact lq_lit1 (.refl _) | exact lq_lit2 (.refl _) (.refl _) | exact lq_lit3 (.refl _) (.refl _) (.refl _)) (lqs_cons (by first | exact lq_lit0 | exact lq_lit1 (.refl _) | exact lq_lit2 (.refl _) (.refl _) | exact lq_lit3 (.refl _) (.refl _) (.refl _)) lqs_nil))⟩
        · rw [e1] at e2; cases e2
        · rw [e1] at e2; cases e2
      · refine ⟨(i, o), .rfl, ?_⟩
        intro y hy
        replace hy : y = sentF i o := hy
        subst hy
        refine ⟨fun e2 => ?_, fun c e2 => ?_, fun c d e2 => ?_⟩
        · rw [e1] at e2; cases e2
        · rw [e1] at e2; cases e2; rw [e1]; exact ⟨lq_tup (lqs_cons (by first | exact lq_lit0 | exact lq_lit1 (.refl _) | exact lq_lit2 (.refl _) (.refl _) | exact lq_lit3 (.refl _) (.refl _) (.refl _)) (lqs_cons (by first | exact lq_lit0 | exact lq_lit1 (.refl _) | exact lq_lit2 (.refl _) (.refl _) | exact lq_lit3 (.refl _) (.refl _) (.refl _)) lqs_nil))⟩
        · rw [e1] at e2; cases e2
      · refine ⟨(i, o), .rfl, ?_⟩
        intro y hy
        replace hy : y = sentF i o := hy
        subst hy
        refine ⟨fun e2 => ?_, fun c e2 => ?_, fun c d e2 => ?_⟩
        · rw [e1] at e2; cases e2
        · rw [e1] at e2; cases e2
        · rw [e1] at e2; cases e2; rw [e1]; exact ⟨lq_tup (lqs_cons (by first | exact lq_lit0 | exact lq_lit1 (.refl _) | exact lq_lit2 (.refl _) (.refl _) | exact lq_lit3 (.refl _) (.refl _) (.refl _)) (lqs_cons (by first | exact lq_lit0 | exact lq_lit1 (.refl _) | exact lq_lit2 (.refl _) (.refl _) | exact lq_lit3 (.refl _) (.refl _) (.refl _)) lqs_nil))⟩
  simp only [h6, decide_false, cond_false, if_false]
  by_cases h7 : f = 7
  · simp only [h7, decide_true, cond_true, if_true]; exact ⟨lq_tup (lqs_cons (by first | exact lq_lit0 | exact lq_lit1 (.refl _) | exact lq_lit2 (.refl _) (.refl _) | exact lq_lit3 (.refl _) (.refl _) (.refl _)) (lqs_cons (by first | exact lq_lit0 | exact lq_lit1 (.refl _) | exact lq_lit2 (.refl _) (.refl _) | exact lq_lit3 (.refl _) (.refl _) (.refl _)) lqs_nil))⟩
  simp only [h7, decide_false, cond_false, if_false]
  by_cases h8 : f = 8
  · simp only [h8, decide_true, cond_true, if_true]; exact ⟨lq_tup (lqs_cons (by first | exact lq_lit0 | exact lq_lit1 (.refl _) | exact lq_lit2 (.refl _) (.refl _) | exact lq_lit3 (.refl _) (.refl _) (.refl _)) (lqs_cons (by first | exact lq_lit0 | exact lq_lit1 (.refl _) | exact lq_lit2 (.refl _) (.refl _) | exact lq_lit3 (.refl _) (.refl _) (.refl _)) lqs_nil))⟩
  simp only [h8, decide_false, cond_false, if_false]
  exact ⟨lq_tup (lqs_cons (by first | exact lq_lit0 | exact lq_lit1 (.refl _) | exact lq_lit2 (.refl _) (.refl _) | exact lq_lit3 (.refl _) (.refl _) (.refl _)) (lqs_cons (by first | exact lq_lit0 | exact lq_lit1 (.refl _) | exact lq_lit2 (.refl _) (.refl _) | exact lq_lit3 (.refl _) (.refl _) (.refl _)) lqs_nil))⟩
end Go.Proofs.Ythmlnmkbeohojaa

/- Where blocks begin. -/
namespace Go.Proofs.Ythmlnmkbeohojaa
open Go.Ra
set_option linter.unusedVariables false
set_option linter.unusedSimpArgs false
def TT4 : Tab := mkT2 qq cl_ref10 [(97, endsSp)] [] [(82, tgtS), (29, rprS)] []
/-- Does a block begin here, as far as the first so many instructions tell? -/
def leadB (p : Prog) (i j : Nat) : Bool := decide (j = 0) || (List.range i).any (fun m => decide (targetF p m = (j : Int)) || (endsB (ix p.code m) && decide (m + 1 = j ∧ m + 1 < p.code.length)))
def leadK (p : Prog) (k : Nat) : List Int := ((List.range k).filter (leadB p p.code.length)).map (fun j : Nat => (j : Int))
/-- Where blocks begin. -/
def leadersF (p : Prog) : List Int := if rightProg p then leadK p p.code.length else []
def ldrS : List XV → Option ((XV → Prop) → Prop) := skOf (fun p : Prog => [e_Prog p]) (fun p => p.wf) (fun p => leadersF p) (fun y => e_row 1 e_i64 y)
def ld1 (p : Prog) (g : Nat → Bool) (i : Nat) : XSt := ⟨[(4, .int .i64 i), (3, .sl 1 [] 0 0 p.code.length 1), (1, .ptr 0 [] 0)], [(1, some (.tab p.code.length 1 (fun j => .bool (g j)))), (0, some (e_Prog p))], 2⟩
def ld2 (p : Prog) (g : Nat → Bool) (out : List Int) (i : Nat) : XSt := ⟨[(7, .int .i64 i), (6, .sl 2 [] 0 0 out.length 1), (3, .sl 1 [] 0 0 p.code.length 1)], [(2, some (.tab out.length 1 (fun i => e_i64 (ix out i)))), (1, some (.tab p.code.length 1 (fun j => .bool (g j))))], 3⟩
theorem r_lead0 (p : Prog) (r : XV) : (goQ Try.prog TT4 [(.tmp 2)] r (.run c_ref10_Leaders) [] ⟨envX 0 [e_Prog p], [], 0⟩) = (∃ (s : Prog), ArgsLe [e_Prog p] [e_Prog s] ∧ PreIs (Prog.wf s) ∧ ∀ (y : Bool), y = rightProg s → bif !y then ResLe (.row true 0 0 fun x => .unk) r else bif decide
 (List.length (Prog.code p) * 1 ≤ 140737488355328) then bif decide (0 < (↑(List.length (Prog.code p)) : Int)) then bif decide (0 < List.length (Prog.code p)) then
 bif decide (0 < List.length (Prog.code p)) then LoopAt (Ok Try.prog (Tab.q TT4)) c_ref10_Leaders_l1 (XSt.mk [(4, .int .i64 0), (3, .sl 1 [] 0 0 (List.length (Prog.code
 p)) 1), (2, .row true 0 0 fun x => .unk), (1, .ptr 0 [] 0)] [(1, some (.tab (List.length (Prog.code p)) 1 fun j => .bool (bif Nat.beq j 0 then true else false))),
 (0, some (e_Prog p))] 2) [Frm.blk 0, Frm.seq c_ref10_Leaders_p2] (finQR [AR.tmp 2] r) else False else False else False else False) := by kernel_rfl
theorem r_lead1 (p : Prog) (g : Nat → Bool) (i : Nat) (r : XV) (A : XSt → Prop) : (goQ Try.prog TT4 [(.tmp 2)] r (.run c_ref10_Leaders_l1) [.lp c_ref10_Leaders_l1 A, .blk 0, .seq c_ref10_Leaders_p2] (ld1 p g i)) = (bif decide ((↑i : Int) < (↑(List.length (Prog.code p)) : Int)) then ∃ (s : Prog × Nat), ArgsLe [e_Prog p, .int .i64 (↑i : Int)] [e_Prog (Prod.fst s), .int .i64
 (↑(Prod.snd s) : Int)] ∧ PreIs (Prog.wf (Prod.fst s) ∧ Prod.snd s < List.length (Prog.code (Prod.fst s))) ∧ ∀ (y : Int), y = targetF (Prod.fst s) (Prod.snd s) →
 bif decide (y ≥ 0) then bif decide (0 ≤ y) then bif decide (y < (↑(List.length (Prog.code p)) : Int)) then bif Nat.beq (Int.toNat y * 1) (Int.toNat y * 1) then bif
 decide (Int.toNat y < List.length (Prog.code p)) then bif decide (Int.toNat y < List.length (Prog.code p)) then bif decide ((↑i : Int) < (↑(List.length (Prog.code
 p)) : Int)) then bif bif endsB (ix (Prog.code p) i) then endsB (ix (Prog.code p) i) else true then bif bif endsB (ix (Prog.code p) i) then decide (IntKind.wrap .i64
 ((↑i : Int) + (1 : Int)) < (↑(List.length (Prog.code p)) : Int)) else false then bif decide (0 ≤ IntKind.wrap .i64 ((↑i : Int) + (1 : Int))) then bif decide (IntKind.wrap
 .i64 ((↑i : Int) + (1 : Int)) < (↑(List.length (Prog.code p)) : Int)) then bif Nat.beq (Int.toNat (IntKind.wrap .i64 ((↑i : Int) + (1 : Int))) * 1) (Int.toNat (IntKind.wrap
 .i64 ((↑i : Int) + (1 : Int))) * 1) then bif decide (Int.toNat (IntKind.wrap .i64 ((↑i : Int) + (1 : Int))) < List.length (Prog.code p)) then bif decide (Int.toNat
 (IntKind.wrap .i64 ((↑i : Int) + (1 : Int))) < List.length (Prog.code p)) then A (XSt.mk [(4, .int .i64 (IntKind.wrap .i64 ((↑i : Int) + (1 : Int)))), (3, .sl 1
 [] 0 0 (List.length (Prog.code p)) 1), (1, .ptr 0 [] 0)] [(1, some (.tab (List.length (Prog.code p)) 1 fun j => .bool (bif Nat.beq j (Int.toNat (IntKind.wrap .i64
 ((↑i : Int) + (1 : Int)))) then true else bif Nat.beq j (Int.toNat y) then true else g j))), (0, some (e_Prog p))] 2) else False else False else False else False
 else False else A (XSt.mk [(4, .int .i64 (IntKind.wrap .i64 ((↑i : Int) + (1 : Int)))), (3, .sl 1 [] 0 0 (List.length (Prog.code p)) 1), (1, .ptr 0 [] 0)] [(1, some
 (.tab (List.length (Prog.code p)) 1 fun j => .bool (bif Nat.beq j (Int.toNat y) then true else g j))), (0, some (e_Prog p))] 2) else False else False else False
 else False else False else False else False else bif decide ((↑i : Int) < (↑(List.length (Prog.code p)) : Int)) then bif bif endsB (ix (Prog.code p) i) then endsB
 (ix (Prog.code p) i) else true then bif bif endsB (ix (Prog.code p) i) then decide (IntKind.wrap .i64 ((↑i : Int) + (1 : Int)) < (↑(List.length (Prog.code p)) :
 Int)) else false then bif decide (0 ≤ IntKind.wrap .i64 ((↑i : Int) + (1 : Int))) then bif decide (IntKind.wrap .i64 ((↑i : Int) + (1 : Int)) < (↑(List.length (Prog.code
 p)) : Int)) then bif Nat.beq (Int.toNat (IntKind.wrap .i64 ((↑i : Int) + (1 : Int))) * 1) (Int.toNat (IntKind.wrap .i64 ((↑i : Int) + (1 : Int))) * 1) then bif decide
 (Int.toNat (IntKind.wrap .i64 ((↑i : Int) + (1 : Int))) < List.length (Prog.code p)) then bif decide (Int.toNat (IntKind.wrap .i64 ((↑i : Int) + (1 : Int))) < List.length
 (Prog.code p)) then A (XSt.mk [(4, .int .i64 (IntKind.wrap .i64 ((↑i : Int) + (1 : Int)))), (3, .sl 1 [] 0 0 (List.length (Prog.code p)) 1), (1, .ptr 0 [] 0)] [(1,
 some (.tab (List.length (Prog.code p)) 1 fun j => .bool (bif Nat.beq j (Int.toNat (IntKind.wrap .i64 ((↑i : Int) + (1 : Int)))) then true else g j))), (0, some (e_Prog
 p))] 2) else False else False else False else False else False else A (XSt.mk [(4, .int .i64 (IntKind.wrap .i64 ((↑i : Int) + (1 : Int)))), (3, .sl 1 [] 0 0 (List.length
 (Prog.code p)) 1), (1, .ptr 0 [] 0)] [(1, some (.tab (List.length (Prog.code p)) 1 fun j => .bool (g j))), (0, some (e_Prog p))] 2) else False else False
else LoopAt
 (Ok Try.prog (Tab.q TT4)) c_ref10_Leaders_l2 (XSt.mk [(7, .int .i64 0), (6, .row true 0 0 fun x => .unk), (3, .sl 1 [] 0 0 (List.length (Prog.code p)) 1)] [(1, some
 (.tab (List.length (Prog.code p)) 1 fun j => .bool (g j))), (0, some (e_Prog p))] 2) [Frm.blk 2, Frm.seq c_ref10_Leaders_p1] (finQR [AR.tmp 2] r)) := by kernel_rfl 

theorem r_lead2 (p : Prog) (g : Nat → Bool) (out : List Int) (i : Nat) (r : XV) (A : XSt → Prop) : (goQ Try.prog TT4 [(.tmp 2)] r (.run c_ref10_Leaders_l2) [.lp c_ref10_Leaders_l2 A, .blk 2, .seq c_ref10_Leaders_p1] (ld2 p g out i)) = (bif decide ((↑i : Int) < (↑(List.length (Prog.code p)) : Int)) then bif decide ((↑i : Int) < (↑(List.length (Prog.code p)) : Int)) then bif Nat.beq (i * 1) (i
 * 1) then bif decide (i < List.length (Prog.code p)) then bif g i then bif decide (List.length out ≤ List.length out) then bif decide (pl (List.length out) 1 * 8
 ≤ 140737488355328) then A (XSt.mk [(7, .int .i64 (IntKind.wrap .i64 ((↑i : Int) + (1 : Int)))), (6, .sl 3 [] 0 0 (pl (List.length out) 1) 1), (3, .sl 1 [] 0 0 (List.length
 (Prog.code p)) 1)] [(3, some (.tab (pl (List.length out) 1) 1 fun i_1 => .int .i64 (bif decide (i_1 < List.length out) then ix out i_1 else (↑i : Int)))), (2, none),
 (1, some (.tab (List.length (Prog.code p)) 1 fun j => .bool (g j)))] 4) else False else False else A (XSt.mk [(7, .int .i64 (IntKind.wrap .i64 ((↑i : Int) + (1 :
 Int)))), (6, .sl 2 [] 0 0 (List.length out) 1), (3, .sl 1 [] 0 0 (List.length (Prog.code p)) 1)] [(2, some (.tab (List.length out) 1 fun i => e_i64 (ix out i))),
 (1, some (.tab (List.length (Prog.code p)) 1 fun j => .bool (g j)))] 3) else False else False else False
else bif decide (List.length out ≤ List.length out) then
 ResLe (e_row 1 e_i64 out) r else False) := by kernel_rfl
theorem TT4ok : TabOk Try.prog TT4 := mkT2_ok clok_ref10 ⟨sp_ends, trivial⟩ trivial ⟨sk_tgt, sk_rpr, trivial⟩ trivial
theorem tgt_lt {p : Prog} {n : Nat} (h : 0 ≤ targetF p n) : targetF p n < p.code.length := by
  unfold targetF at h ⊢
  split at h
  · omega
  · rename_i hn
    rw [if_neg hn]
    omega
theorem lead_step {p : Prog} {i j : Nat} : leadB p (i + 1) j = (leadB p i j || (decide (targetF p i = (j : Int)) || (endsB (ix p.code i) && decide (i + 1 = j ∧ i + 1 < p.code.length)))) := by
  unfold leadB
  rw [List.range_succ, List.any_append]
  simp [Bool.or_assoc]
theorem leadK_step {p : Prog} {k : Nat} : leadK p (k + 1) = if leadB p p.code.length k then leadK p k ++ [(k : Int)] else leadK p k := by
  unfold leadK
  rw [List.range_succ, List.filter_append, List.map_append]
  cases h : leadB p p.code.length k <;> simp [h]
theorem leadK_len {p : Prog} {k : Nat} : (leadK p k).length ≤ k := by
  unfold leadK
  rw [List.length_map]
  have := List.length_filter_le (leadB p p.code.length) (List.range k)
  simpa using this
theorem sk_ldr : SkOk Try.prog (88, ldrS) := skOf_ok fun p hw => by
  have hw : p.wf := hw
  have hl := hw.1.2
  refine pureQ mix TT4ok t_ref10_Leaders (Nat.le_of_ble_eq_true rfl) ?_
  refine Eq.mpr (r_lead0 p _) ?_
  refine ⟨p, .rfl, ⟨hw⟩, ?_⟩
  rintro y rfl
  unfold leadersF
  cases hr : rightProg p with
  | false => exact ⟨lq_lit0⟩
  | true =>
    have hn : 1 ≤ p.code.length ∧ p.code.length ≤ 2000 := by
      simp only [rightProg, Bool.and_eq_true, decide_eq_true_eq] at hr
      exact ⟨hr.1.1, hr.1.2.1⟩
    have b1 : p.code.length * 1 ≤ 140737488355328 := by omega
    have b2 : (0 : Int) < (p.code.length : Int) := by omega
    have b3 : 0 < p.code.length := by omega
    simp only [Bool.not_true, cond_false, b1, b2, b3, decide_true, cond_true, if_true]
    refine loopQ mix TT4ok (fun i : Nat => ld1 p (leadB p i) i) (fun i => i ≤ p.code.length) (fun i => p.code.length - i) 0 (Nat.zero_le _) (.of (weakX ⟨rfl, rfl, rfl, trivial⟩ ⟨congrArg some (con_tabC fun j hj => conB ?_), rfl, trivial⟩ (Nat.le_refl _))) ?_
    · rw [beq_dec]; simp [leadB]
    intro i hi
    refine Eq.mpr (r_lead1 p _ i _ _) ?_
    by_cases hlt : i < p.code.length
    · have h1 : (i : Int) < (p.code.length : Int) := by omega
      have w1 : IntKind.i64.wrap ((i : Int) + 1) = ((i + 1 : Nat) : Int) := wrap_i64 (by omega) (by omega)
      have h0 : (0 : Int) ≤ ((i + 1 : Nat) : Int) := by omega
      simp only [g1, g2, g3, g4, g5, g6, g7, allN_true, cond_true, Nat.le_refl, decide_true, pl_eq, h1, w1, h0, Int.toNat_natCast, Nat.beq_refl]
      refine ⟨(p, i), .rfl, ⟨hw, hlt⟩, ?_⟩
      intro y hy
      replace hy : y = targetF p i := hy
      subst hy
      have next : ∀ g : Nat → Bool, (∀ j, j < p.code.length → g j = leadB p (i + 1) j) → ∃ j, j ≤ p.code.length ∧ WeakE 2 (XSt.st (XSt.mk [(4, .int .i64 ((i + 1 : Nat) : Int)), (3, .sl 1 [] 0 0 p.code.length 1), (1, .ptr 0 [] 0)] [(1, some (.tab p.code.length 1 fun j => .bool (g j))), (0, some (e_Prog p))] 2)) (ld1 p (leadB p j) j).st ∧ p.code.length - j < p.code.length - i := fun g hg => by
        refine ⟨i + 1, hlt, .of (weakX ⟨rfl, rfl, rfl, trivial⟩ ⟨congrArg some (con_tabC fun j hj => conB (hg j hj)), rfl, trivial⟩ (Nat.le_refl _)), by omega⟩
      have tt : 0 ≤ targetF p i → ∀ j : Nat, decide (j = (targetF p i).toNat) = decide (targetF p i = (j : Int)) := fun h j => by
        rw [decide_eq_decide]; omega
      have tn : ¬ 0 ≤ targetF p i → ∀ j : Nat, decide (targetF p i = (j : Int)) = false := fun h j => decide_eq_false (by omega)
      by_cases hy : 0 ≤ targetF p i
      · have hy2 : targetF p i ≥ 0 := hy
        have hy3 := tgt_lt hy
        have hy4 : (targetF p i).toNat < p.code.length := by omega
        simp only [hy, hy2, hy3, hy4, decide_true, cond_true]
        simp only [band]
        by_cases he : endsB (ix p.code i) = true ∧ i + 1 < p.code.length
        · have he2 : ((i + 1 : Nat) : Int) < (p.code.length : Int) := by omega
          simp only [he.1, he.2, he2, decide_true, Bool.and_self, cond_true]
          refine next _ fun j hj => ?_
          rw [lead_step, he.1, beq_dec, beq_dec, tt hy]
          simp only [bor, he.2, and_true]
          rw [show decide (j = i + 1) = decide (i + 1 = j) from by rw [decide_eq_decide]; omega]
          cases leadB p i j <;> cases decide (i + 1 = j) <;> cases decide (targetF p i = (j : Int)) <;> rfl
        · have he2 : (endsB (ix p.code i) && decide (((i + 1 : Nat) : Int) < (p.code.length : Int))) = false := by
            rw [Bool.and_eq_false_iff, decide_eq_false_iff_not]
            by_cases h : endsB (ix p.code i) = true
            · exact .inr fun h2 => he ⟨h, by omega⟩
            · exact .inl (by simpa using h)
          simp only [he2, cond_false]
          refine next _ fun j hj => ?_
          have he3 : (endsB (ix p.code i) && decide (i + 1 = j ∧ i + 1 < p.code.length)) = false := by
            rw [Bool.and_eq_false_iff, decide_eq_false_iff_not]
            by_cases h : endsB (ix p.code i) = true
            · exact .inr fun h2 => he ⟨h, h2.2⟩
            · exact .inl (by simpa using h)
          rw [lead_step, he3, beq_dec, tt hy]
          simp only [bor]
          cases leadB p i j <;> cases decide (targetF p i = (j : Int)) <;> rfl
      · have hy2 : ¬ targetF p i ≥ 0 := hy
        simp only [hy2, decide_false, cond_false]
        simp only [band]
        by_cases he : endsB (ix p.code i) = true ∧ i + 1 < p.code.length
        · have he2 : ((i + 1 : Nat) : Int) < (p.code.length : Int) := by omega
          simp only [he.1, he.2, he2, decide_true, Bool.and_self, cond_true]
          refine next _ fun j hj => ?_
          rw [lead_step, he.1, beq_dec, tn hy]
          simp only [bor, he.2, and_true]
          rw [show decide (j = i + 1) = decide (i + 1 = j) from by rw [decide_eq_decide]; omega]
          cases leadB p i j <;> cases decide (i + 1 = j) <;> rfl
        · have he2 : (endsB (ix p.code i) && decide (((i + 1 : Nat) : Int) < (p.code.length : Int))) = false := by
            rw [Bool.and_eq_false_iff, decide_eq_false_iff_not]
            by_cases h : endsB (ix p.code i) = true
            · exact .inr fun h2 => he ⟨h, by omega⟩
            · exact .inl (by simpa using h)
          simp only [he2, cond_false]
          refine next _ fun j hj => ?_
          have he3 : (endsB (ix p.code i) && decide (i + 1 = j ∧ i + 1 < p.code.length)) = false := by
            rw [Bool.and_eq_false_iff, decide_eq_false_iff_not]
            by_cases h : endsB (ix p.code i) = true
            · exact .inr fun h2 => he ⟨h, h2.2⟩
            · exact .inl (by simpa using h)
          rw [lead_step, he3, tn hy]
          cases leadB p i j <;> rfl
    · have h1 : ¬ (i : Int) < (p.code.length : Int) := by omega
      simp only [h1, decide_false, cond_false]
      obtain rfl : i = p.code.length := by omega
      refine loopQ mix TT4ok (fun k : Nat => ld2 p (leadB p p.code.length) (leadK p k) k) (fun k => k ≤ p.code.length) (fun k => p.code.length - k) 0 (Nat.zero_le _) (weakK [(0, 0), (1, 1)] rfl rfl rfl rfl rfl ⟨k_is rfl rfl, k_nil rfl, .sl rfl, trivial⟩ ⟨⟨1, rfl⟩, .same rfl, trivial⟩) ?_
      intro k hk
      refine Eq.mpr (r_lead2 p _ _ k _ _) ?_
      have hkl := leadK_len (p := p) (k := k)
      by_cases hlt2 : k < p.code.length
      · have h2 : (k : Int) < (p.code.length : Int) := by omega
        have w1 : IntKind.i64.wrap ((k : Int) + 1) = ((k + 1 : Nat) : Int) := wrap_i64 (by omega) (by omega)
        have b : ((leadK p k).length + 1) * 8 ≤ 140737488355328 := by omega
        have st := leadK_step (p := p) (k := k)
        simp only [g1, g2, g3, g4, g5, g6, g7, allN_true, cond_true, Nat.le_refl, decide_true, pl_eq, h2, hlt2, w1, b, Nat.beq_refl]
        refine cnd2 (fun h => ?_) (fun h => ?_)
        · rw [if_pos h] at st
          refine ⟨k + 1, hlt2, ?_, by omega⟩
          rw [st]
          unfold ld2
          rw [app_len]
          exact weakK [(0, 0), (1, 1), (2, 3)] rfl rfl rfl rfl rfl ⟨k_is rfl rfl, .sl rfl, .sl rfl, trivial⟩ ⟨k_app (fun i hi => by simp only [hi, decide_true, cond_true]; rfl) (by simp; rfl) rfl, .same rfl, trivial⟩
        · rw [if_neg (by rw [h]; simp)] at st
          refine ⟨k + 1, hlt2, ?_, by omega⟩
          rw [st]
          exact .of (weakX ⟨rfl, rfl, rfl, trivial⟩ ⟨rfl, rfl, trivial⟩ (Nat.le_refl _))
      · have h2 : ¬ (k : Int) < (p.code.length : Int) := by omega
        simp only [h2, decide_false, cond_false, g1, g2, g3, g4, g5, g6, g7, allN_true, cond_true, Nat.le_refl, decide_true, pl_eq]
        obtain rfl : k = p.code.length := by omega
        exact .rfl
end Go.Proofs.Ythmlnmkbeohojaa

/- The blocks of a program, without cells. -/
namespace Go.Proofs.Ythmlnmkbeohojaa
open Go.Ra
set_option linter.unusedVariables false
set_option linter.unusedSimpArgs false
def TT5 : Tab := mkT2 qq cl_ref10 [] [] [(82, tgtS), (88, ldrS), (89, findS)] []
/-- A block that has no cells yet. -/
def e_blk0 (b : Block) : XV := .agg 6 [.int .i64 b.src, .int .i64 b.dst, .int .i64 b.next, .int .i64 b.taken, .row true 0 0 (fun _ => .unk), .row true 0 0 (fun _ => .unk)]
def cutTo (p : Prog) (l : List Int) (i : Nat) : Int := if i + 1 < l.length then ix l (i + 1) else p.code.length
def cutNx (p : Prog) (l : List Int) (i : Nat) : Int := if ¬ (ix p.code (cutTo p l i - 1).toNat).op = 40 ∧ ¬ (ix p.code (cutTo p l i - 1).toNat).op = 41 then findF l (cutTo p l i) else -1
def cutTk (p : Prog) (l : List Int) (i : Nat) : Int := if targetF p (cutTo p l i - 1).toNat ≥ 0 then findF l (targetF p (cutTo p l i - 1).toNat) else -1
def cutB (p : Prog) (l : List Int) (i : Nat) : Block := ⟨ix l i, cutTo p l i, cutNx p l i, cutTk p l i, [], []⟩
def cutK (p : Prog) (l : List Int) (k : Nat) : List Block := (List.range k).map (cutB p l)
/-- The blocks of a program, without cells. -/
def cutF (p : Prog) : List Block := cutK p (leadersF p) (leadersF p).length
def ctS (p : Prog) (l : List Int) (out : List Block) (i : Nat) : XSt := ⟨[(5, .int .i64 i), (4, .sl 1 [] 0 0 out.length 6), (3, e_row 1 e_i64 l), (1, .ptr 0 [] 0)], [(1, some (.tab out.length 6 (fun i => e_blk0 (ix out i)))), (0, some (e_Prog p))], 2⟩
def cutM : List XV → XSt → Option ((XV → XSt → Prop) → Prop) := mkOf (fun p : Prog => [e_Prog p]) (fun p => p.wf) (fun p => cutF p) (fun n y => .sl n [] 0 0 y.length 6) (fun y => .tab y.length 6 (fun i => e_blk0 (ix y i)))
theorem r_cut0 (p : Prog) (r t : XV) : (goM Try.prog TT5 [(.tmp 2)] r t (.run c_ref10_Cut) [] ⟨envX 0 [e_Prog p], [], 0⟩) = (∃ (s : Prog), ArgsLe [e_Prog p] [e_Prog s] ∧ PreIs (Prog.wf s) ∧ ∀ (y : List Int), y = leadersF s → LoopAt (Ok Try.prog (Tab.q TT5)) c_ref10_Cut_l1 (XSt.mk [(5,
 .int .i64 0), (4, .row true 0 0 fun x => .unk), (3, e_row 1 e_i64 y), (2, .row true 0 0 fun x => .unk), (1, .ptr 0 [] 0)] [(0, some (e_Prog p))] 1) [Frm.blk 0, Frm.seq
 c_ref10_Cut_p1] (finMR [AR.tmp 2] r t)) := by kernel_rfl
theorem r_cut1 (p : Prog) (l : List Int) (out : List Block) (i : Nat) (r t : XV) (A : XSt → Prop) : (goM Try.prog TT5 [(.tmp 2)] r t (.run c_ref10_Cut_l1) [.lp c_ref10_Cut_l1 A, .blk 0, .seq c_ref10_Cut_p1] (ctS p l out i)) = (let q1 : Bool := decide ((↑i : Int) < (↑(List.length l) : Int));
let q2 : Int := IntKind.wrap .i64 ((↑i : Int) + (1 : Int));
let q3 : Bool := decide (q2 < (↑(List.length
 l) : Int));
let q4 : Int := ix l (Int.toNat q2);
let q5 : Int := IntKind.wrap .i64 (q4 - (1 : Int));
let q6 : Ins := ix (Prog.code p) (Int.toNat q5);
let q7 : Int
 := Ins.op q6;
let q8 : Bool := decide ¬q7 = 40;
let q9 : XV := .int .i64 q4;
let q10 : List Int × Int → List XV := fun (s : List Int × Int) => [e_row 1 e_i64 (Prod.fst
 s), .int .i64 (Prod.snd s)];
let q11 : List XV := [e_Prog p, .int .i64 q5];
let q12 : Prog × Nat → List XV := fun (s : Prog × Nat) => [e_Prog (Prod.fst s), .int
 .i64 (↑(Prod.snd s) : Int)];
let q13 : Int → Bool := fun y => decide (y ≥ 0);
let q14 : Int → List XV := fun y => [e_row 1 e_i64 l, .int .i64 y];
let q15 : Bool
 := decide (List.length out ≤ List.length out);
let q16 : Bool := decide (pl (List.length out) 1 * 80 ≤ 140737488355328);
let q17 : List (Nat × XV) := [(3, e_row
 1 e_i64 l), (1, .ptr 0 [] 0)];
let q18 : List (Nat × XV) := (5, .int .i64 q2) :: (4, .sl 4 [] 0 0 (pl (List.length out) 1) 6) :: q17;
let q19 : Nat → Bool := fun
 i => decide (i < List.length out);
let q20 : Nat → XV := fun i_1 => .int .i64 (bif q19 i_1 then Block.src (ix out i_1) else ix l i);
let q21 : Nat → XV := fun i
 => .int .i64 (bif q19 i then Block.dst (ix out i) else q4);
let q22 : Nat → Int → XV := fun (i : Nat) (y : Int) => .int .i64 (bif q19 i then Block.next (ix out i)
 else y);
let q23 : Nat → XV := fun i => .row (bif q19 i then true else true) 0 (bif q19 i then 0 else 0) fun i_1 => XV.raw (bif q19 i then con .unk else con ((fun
 x => .unk) i_1));
let q24 : Nat → List XV := fun i => [q23 i, q23 i];
let q25 : Nat → Int → List XV := fun (i : Nat) (y : Int) => .int .i64 (bif q19 i then Block.taken
 (ix out i) else y) :: q24 i;
let q26 : Nat → Int → Int → List XV := fun (i : Nat) (y y_1 : Int) => q22 i y :: q25 i y_1;
let q27 : XV := e_Ins q6;
let q28 : XV :=
 .row true 0 0 fun x => .unk;
let q29 : List XV := [q28, q28];
let q30 : Int → List XV := fun y => .int .i64 y :: q29;
let q31 : Int → Int → List XV := fun (y y_1
 : Int) => .int .i64 y :: q30 y_1;
let q32 : List (Nat × Option XV) := [(0, some (e_Prog p))];
let q33 : List (Nat × Option XV) := (1, none) :: q32;
let q34 : Nat
 → List XV := fun i => .int .i64 (bif q19 i then Block.taken (ix out i) else (-1 : Int)) :: q24 i;
let q35 : Nat → Int → List XV := fun (i : Nat) (y : Int) => q22
 i y :: q34 i;
let q36 : List XV := .int .i64 (-1 : Int) :: q29;
let q37 : Int → List XV := fun y => .int .i64 y :: q36;
let q38 : Nat → XV := fun i => .int .i64
 (bif q19 i then Block.next (ix out i) else (-1 : Int));
let q39 : Nat → Int → List XV := fun (i : Nat) (y : Int) => q38 i :: q25 i y;
let q40 : Int → List XV :=
 fun y => .int .i64 (-1 : Int) :: q30 y;
let q41 : Nat → List XV := fun i => q38 i :: q34 i;
let q42 : List XV := .int .i64 (-1 : Int) :: q36;
let q43 : Int := IntKind.wrap
 .i64 ((↑(List.length (Prog.code p)) : Int) - (1 : Int));
let q44 : Ins := ix (Prog.code p) (Int.toNat q43);
let q45 : Int := Ins.op q44;
let q46 : Bool := decide
 ¬q45 = 40;
let q47 : List XV := [e_Prog p, .int .i64 q43];
let q48 : Nat → XV := fun i => .int .i64 (bif q19 i then Block.dst (ix out i) else (↑(List.length (Prog.code
 p)) : Int));
let q49 : XV := e_Ins q44;
let q50 : XV := .sl 1 [] 0 0 (List.length out) 6;
bif q1 then bif q1 then bif q3 then bif decide (0 ≤ q2) then bif q3 then
 bif decide (0 ≤ q5) then bif decide (q5 < (↑(List.length (Prog.code p)) : Int)) then bif bif q8 then q8 else true then bif bif q8 then decide ¬q7 = 41 else false
 then ∃ (s : List Int × Int), ArgsLe [e_row 1 e_i64 l, q9] (q10 s) ∧ PreIs (List.length (Prod.fst s) ≤ 1000000000) ∧ ∀ (y : Int), y = findF (Prod.fst s) (Prod.snd
 s) → ∃ (s : Prog × Nat), ArgsLe q11 (q12 s) ∧ PreIs (Prog.wf (Prod.fst s) ∧ Prod.snd s < List.length (Prog.code (Prod.fst s))) ∧ ∀ (y_1 : Int), y_1 = targetF (Prod.fst
 s) (Prod.snd s) → bif q13 y_1 then ∃ (s : List Int × Int), ArgsLe (q14 y_1) (q10 s) ∧ PreIs (List.length (Prod.fst s) ≤ 1000000000) ∧ ∀ (y_2 : Int), y_2 = findF
 (Prod.fst s) (Prod.snd s) → bif q15 then bif q16 then A (XSt.mk q18 ((4, some (.tab (pl (List.length out) 1) 6 fun i => .agg 6 (q20 i :: q21 i :: q26 i y y_2)))
 :: (3, some q27) :: (2, some (.agg 6 (.int .i64 (ix l i) :: q9 :: q31 y y_2))) :: q33) 5) else False else False else bif q15 then bif q16 then A (XSt.mk q18 ((4,
 some (.tab (pl (List.length out) 1) 6 fun i => .agg 6 (q20 i :: q21 i :: q35 i y))) :: (3, some q27) :: (2, some (.agg 6 (.int .i64 (ix l i) :: q9 :: q37 y))) ::
 q33) 5) else False else False else ∃ (s : Prog × Nat), ArgsLe q11 (q12 s) ∧ PreIs (Prog.wf (Prod.fst s) ∧ Prod.snd s < List.length (Prog.code (Prod.fst s))) ∧ ∀
 (y : Int), y = targetF (Prod.fst s) (Prod.snd s) → bif q13 y then ∃ (s : List Int × Int), ArgsLe (q14 y) (q10 s) ∧ PreIs (List.length (Prod.fst s) ≤ 1000000000)
 ∧ ∀ (y : Int), y = findF (Prod.fst s) (Prod.snd s) → bif q15 then bif q16 then A (XSt.mk q18 ((4, some (.tab (pl (List.length out) 1) 6 fun i => .agg 6 (q20 i ::
 q21 i :: q39 i y))) :: (3, some q27) :: (2, some (.agg 6 (.int .i64 (ix l i) :: q9 :: q40 y))) :: q33) 5) else False else False else bif q15 then bif q16 then A
 (XSt.mk q18 ((4, some (.tab (pl (List.length out) 1) 6 fun i => .agg 6 (q20 i :: q21 i :: q41 i))) :: (3, some q27) :: (2, some (.agg 6 (.int .i64 (ix l i) :: q9
 :: q42))) :: q33) 5) else False else False else False else False else False else False else False else bif decide (0 ≤ q43) then bif decide (q43 < (↑(List.length
 (Prog.code p)) : Int)) then bif bif q46 then q46 else true then bif bif q46 then decide ¬q45 = 41 else false then ∃ (s : List Int × Int), ArgsLe [e_row 1 e_i64 l,
 .int .i64 (↑(List.length (Prog.code p)) : Int)] (q10 s) ∧ PreIs (List.length (Prod.fst s) ≤ 1000000000) ∧ ∀ (y : Int), y = findF (Prod.fst s) (Prod.snd s) → ∃ (s
 : Prog × Nat), ArgsLe q47 (q12 s) ∧ PreIs (Prog.wf (Prod.fst s) ∧ Prod.snd s < List.length (Prog.code (Prod.fst s))) ∧ ∀ (y_1 : Int), y_1 = targetF (Prod.fst s)
 (Prod.snd s) → bif q13 y_1 then ∃ (s : List Int × Int), ArgsLe (q14 y_1) (q10 s) ∧ PreIs (List.length (Prod.fst s) ≤ 1000000000) ∧ ∀ (y_2 : Int), y_2 = findF (Prod.fst
 s) (Prod.snd s) → bif q15 then bif q16 then A (XSt.mk q18 ((4, some (.tab (pl (List.length out) 1) 6 fun i => .agg 6 (q20 i :: q48 i :: q26 i y y_2))) :: (3, some
 q49) :: (2, some (.agg 6 (.int .i64 (ix l i) :: .int .i64 (↑(List.length (Prog.code p)) : Int) :: q31 y y_2))) :: q33) 5) else False else False else bif q15 then
 bif q16 then A (XSt.mk q18 ((4, some (.tab (pl (List.length out) 1) 6 fun i => .agg 6 (q20 i :: q48 i :: q35 i y))) :: (3, some q49) :: (2, some (.agg 6 (.int .i64
 (ix l i) :: .int .i64 (↑(List.length (Prog.code p)) : Int) :: q37 y))) :: q33) 5) else False else False else ∃ (s : Prog × Nat), ArgsLe q47 (q12 s) ∧ PreIs (Prog.wf
 (Prod.fst s) ∧ Prod.snd s < List.length (Prog.code (Prod.fst s))) ∧ ∀ (y : Int), y = targetF (Prod.fst s) (Prod.snd s) → bif q13 y then ∃ (s : List Int × Int), ArgsLe
 (q14 y) (q10 s) ∧ PreIs (List.length (Prod.fst s) ≤ 1000000000) ∧ ∀ (y : Int), y = findF (Prod.fst s) (Prod.snd s) → bif q15 then bif q16 then A (XSt.mk q18 ((4,
 some (.tab (pl (List.length out) 1) 6 fun i => .agg 6 (q20 i :: q48 i :: q39 i y))) :: (3, some q49) :: (2, some (.agg 6 (.int .i64 (ix l i) :: .int .i64 (↑(List.length
 (Prog.code p)) : Int) :: q40 y))) :: q33) 5) else False else False else bif q15 then bif q16 then A (XSt.mk q18 ((4, some (.tab (pl (List.length out) 1) 6 fun i
 => .agg 6 (q20 i :: q48 i :: q41 i))) :: (3, some q49) :: (2, some (.agg 6 (.int .i64 (ix l i) :: .int .i64 (↑(List.length (Prog.code p)) : Int) :: q42))) :: q33)
 5) else False else False else False else False else False else False
else MakesAt q50 (XSt.mk ((2, q50) :: (71, q50) :: (14, .bool q1) :: (13, .int .i64 (↑(List.length
 l) : Int)) :: (12, e_row 1 e_i64 l) :: (11, .int .i64 (↑i : Int)) :: (5, .int .i64 (↑i : Int)) :: (4, q50) :: q17) ((1, some (.tab (List.length out) 6 fun i => e_blk0
 (ix out i))) :: q32) 2) r t) := by kernel_rfl
theorem TT5ok : TabOk Try.prog TT5 := mkT2_ok clok_ref10 trivial trivial ⟨sk_tgt, sk_ldr, sk_find, trivial⟩ trivial
/-- Blocks begin one behind the other, in the code. -/
theorem leadK_ok {p : Prog} {k : Nat} : (∀ x ∈ leadK p k, 0 ≤ x ∧ x < k) ∧ (leadK p k).Pairwise (· < ·) := by
  unfold leadK
  refine ⟨fun x hx => ?_, ?_⟩
  · obtain ⟨j, hj, rfl⟩ := List.mem_map.1 hx
    have := List.mem_range.1 (List.mem_filter.1 hj).1
    omega
  · rw [List.pairwise_map]
    refine ((List.pairwise_lt_range (n := k)).filter _).imp fun h => ?_
    omega
theorem lead_ok {p : Prog} : (∀ x ∈ leadersF p, 0 ≤ x ∧ x < p.code.length) ∧ (leadersF p).Pairwise (· < ·) ∧ (leadersF p).length ≤ 2000 := by
  unfold leadersF
  cases hr : rightProg p with
  | false => exact ⟨fun x hx => (by cases hx), .nil, Nat.zero_le _⟩
  | true =>
    simp only [rightProg, Bool.and_eq_true, decide_eq_true_eq] at hr
    have := leadK_len (p := p) (k := p.code.length)
    exact ⟨leadK_ok.1, leadK_ok.2, show (leadK p p.code.length).length ≤ 2000 by omega⟩
theorem pw_ix {l : List Int} (h : l.Pairwise (· < ·)) {i j : Nat} (hij : i < j) (hj : j < l.length) : ix l i < ix l j := by
  rw [ix_lt (by omega), ix_lt hj]
  exact List.pairwise_iff_getElem.1 h i j (by omega) hj hij
theorem cutTo_ok {p : Prog} {i : Nat} (h : i < (leadersF p).length) : 1 ≤ cutTo p (leadersF p) i ∧ cutTo p (leadersF p) i ≤ p.code.length ∧ ix (leadersF p) i < cutTo p (leadersF p) i := by
  have ok := lead_ok (p := p)
  have h1 := ok.1 _ (ix_mem h)
  unfold cutTo
  split
  · rename_i h2
    have h3 := pw_ix ok.2.1 (Nat.lt_succ_self i) h2
    have h4 := ok.1 _ (ix_mem h2)
    have h3 : ix (leadersF p) i < ix (leadersF p) (i + 1) := h3
    omega
  · omega
theorem cutK_step {p : Prog} {l : List Int} {k : Nat} : cutK p l (k + 1) = cutK p l k ++ [cutB p l k] := by
  unfold cutK
  rw [List.range_succ, List.map_append]
  rfl
theorem cutK_len {p : Prog} {l : List Int} {k : Nat} : (cutK p l k).length = k := by simp [cutK]
theorem mk_cut : GkOk Try.prog qq (68, cutM) := mkOf_ok (fun n y => rfl) fun p hw => by
  have hw : p.wf := hw
  have hl := hw.1.2
  refine makeG mix TT5ok t_ref10_Cut (Nat.le_of_ble_eq_true rfl) (con_sol _ (allN_iff.2 fun i _ => rfl)) rfl ?_
  refine Eq.mpr (r_cut0 p _ _) ?_
  refine ⟨p, .rfl, ⟨hw⟩, ?_⟩
  rintro l rfl
  unfold cutF
  have hok := lead_ok (p := p)
  have hto : ∀ i, i < (leadersF p).length → 1 ≤ cutTo p (leadersF p) i ∧ cutTo p (leadersF p) i ≤ p.code.length := fun i hi => ⟨(cutTo_ok hi).1, (cutTo_ok hi).2.1⟩
  generalize leadersF p = l at *
  refine loopM mix TT5ok (fun k : Nat => ctS p l (cutK p l k) k) (fun k => k ≤ l.length) (fun k => l.length - k) 0 (Nat.zero_le _) (weakK [(0, 0)] rfl rfl rfl rfl rfl ⟨k_is rfl rfl, k_nil rfl, k_is rfl rfl, .ptr rfl, trivial⟩ ⟨⟨6, rfl⟩, .same rfl, trivial⟩) ?_
  intro i hi
  refine Eq.mpr (r_cut1 p l _ i _ _ _) ?_
  have hkl := cutK_len (p := p) (l := l) (k := i)
  by_cases hlt : i < l.length
  · have h1 : (i : Int) < (l.length : Int) := by omega
    have w1 : IntKind.i64.wrap ((i : Int) + 1) = ((i + 1 : Nat) : Int) := wrap_i64 (by omega) (by omega)
    obtain ⟨t1, t2⟩ := hto i hlt
    have w2 : IntKind.i64.wrap (cutTo p l i - 1) = (((cutTo p l i - 1).toNat : Nat) : Int) := by rw [wrap_i64 (by omega) (by omega)]; omega
    have t3 : (cutTo p l i - 1).toNat < p.code.length := by omega
    have t4 : (0 : Int) ≤ (((cutTo p l i - 1).toNat : Nat) : Int) := by omega
    have t5 : (((cutTo p l i - 1).toNat : Nat) : Int) < (p.code.length : Int) := by omega
    have st := cutK_step (p := p) (l := l) (k := i)
    have b : (i + 1) * 80 ≤ 140737488355328 := by omega
    have next : ∀ (f : Nat → XV) (h2 h3 : XV), (∀ j, j < i → con (f j) = con (e_blk0 (ix (cutK p l i) j))) → con (f i) = con (e_blk0 (cutB p l i)) →
        ∃ j, j ≤ l.length ∧ WeakE 1 (XSt.st (XSt.mk [(5, .int .i64 ((i + 1 : Nat) : Int)), (4, .sl 4 [] 0 0 (i + 1) 6), (3, e_row 1 e_i64 l), (1, .ptr 0 [] 0)] [(4, some (.tab (i + 1) 6 f)), (3, some h3), (2, some h2), (1, none), (0, some (e_Prog p))] 5)) (ctS p l (cutK p l j) j).st ∧ l.length - j < l.length - i := fun f h2 h3 e1 e2 => by
      refine ⟨i + 1, hlt, ?_, by omega⟩
      rw [st]
      unfold ctS
      rw [app_len]
      have e1' : ∀ j, j < (cutK p l i).length → con (f j) = con (e_blk0 (ix (cutK p l i) j)) := fun j hj => e1 j (by omega)
      have e2' : con (f (cutK p l i).length) = con (e_blk0 (cutB p l i)) := by rw [hkl]; exact e2
      have := k_app (κ := kap [(0, 0), (1, 4)]) (es := 6) (f := f) (en := e_blk0) (l := cutK p l i) (x := cutB p l i) e1' e2' rfl
      rw [hkl] at this ⊢
      exact weakK [(0, 0), (1, 4)] rfl rfl rfl rfl rfl ⟨k_is rfl rfl, .sl rfl, k_is rfl rfl, .ptr rfl, trivial⟩ ⟨this, .same rfl, trivial⟩
    have fin : ∀ (to nx tk : Int) (f : Nat → XV), cutTo p l i = to → cutNx p l i = nx → cutTk p l i = tk → (∀ j, f j = .agg 6 [.int .i64 (bif decide (j < i) then (ix (cutK p l i) j).src else ix l i), .int .i64 (bif decide (j < i) then (ix (cutK p l i) j).dst else to), .int .i64 (bif decide (j < i) then (ix (cutK p l i) j).next else nx), .int .i64 (bif decide (j < i) then (ix (cutK p l i) j).taken else tk), .row (bif decide (j < i) then true else true) 0 (bif decide (j < i) then 0 else 0) (fun i_2 => .raw (bif decide (j < i) then con .unk else con ((fun _ => XV.unk) i_2))), .row (bif decide (j < i) then true else true) 0 (bif decide (j < i) then 0 else 0) (fun i_2 => .raw (bif decide (j < i) then con .unk else con ((fun _ => XV.unk) i_2)))]) →
        (∀ j, j < i → con (f j) = con (e_blk0 (ix (cutK p l i) j))) ∧ con (f i) = con (e_blk0 (cutB p l i)) := fun to nx tk f e1 e2 e3 e4 => by
      refine ⟨fun j hj => ?_, ?_⟩
      · rw [e4]
        simp only [hj, decide_true, cond_true]
        rfl
      · rw [e4]
        simp only [Nat.lt_irrefl, decide_false, cond_false]
        unfold cutB
        rw [e1, e2, e3]
        rfl
    have nx1 : ¬ (ix p.code (cutTo p l i - 1).toNat).op = 40 ∧ ¬ (ix p.code (cutTo p l i - 1).toNat).op = 41 → cutNx p l i = findF l (cutTo p l i) := fun h => by unfold cutNx; rw [if_pos h]
    have nx2 : ¬ (¬ (ix p.code (cutTo p l i - 1).toNat).op = 40 ∧ ¬ (ix p.code (cutTo p l i - 1).toNat).op = 41) → cutNx p l i = -1 := fun h => by unfold cutNx; rw [if_neg h]
    have tk1 : targetF p (cutTo p l i - 1).toNat ≥ 0 → cutTk p l i = findF l (targetF p (cutTo p l i - 1).toNat) := fun h => by unfold cutTk; rw [if_pos h]
    have tk2 : ¬ targetF p (cutTo p l i - 1).toNat ≥ 0 → cutTk p l i = -1 := fun h => by unfold cutTk; rw [if_neg h]
    have hl9 : l.length ≤ 1000000000 := by omega
    have cases2 : ∀ (Y N : Prop), (¬ (ix p.code (cutTo p l i - 1).toNat).op = 40 ∧ ¬ (ix p.code (cutTo p l i - 1).toNat).op = 41 → Y) → (¬ (¬ (ix p.code (cutTo p l i - 1).toNat).op = 40 ∧ ¬ (ix p.code (cutTo p l i - 1).toNat).op = 41) → N) → cond (bif decide (¬ (ix p.code (cutTo p l i - 1).toNat).op = 40) then decide (¬ (ix p.code (cutTo p l i - 1).toNat).op = 41) else false) Y N := fun Y N hY hN => by
      rw [band]
      refine cnd2 (fun h => hY ?_) (fun h => hN fun g => ?_)
      · simpa [Bool.and_eq_true, decide_eq_true_eq] using h
      · rw [decide_eq_true g.1, decide_eq_true g.2] at h; cases h
    by_cases ht : i + 1 < l.length
    · have ht' : ((i + 1 : Nat) : Int) < (l.length : Int) := by omega
      have ht0 : (0 : Int) ≤ ((i + 1 : Nat) : Int) := by omega
      have eT : ix l (i + 1) = cutTo p l i := by unfold cutTo; rw [if_pos ht]
      simp only [g1, g2, g3, g4, g5, g6, g7, allN_true, cond_true, Nat.le_refl, decide_true, pl_eq, h1, w1, ht', ht0, Int.toNat_natCast, eT, w2, t4, t5, hkl, b]
      refine cases2 _ _ (fun hY => ?_) (fun hN => ?_)
      · refine ⟨(l, cutTo p l i), .rfl, ⟨hl9⟩, fun y hy => ?_⟩
        replace hy : y = findF l (cutTo p l i) := hy
        subst hy
        refine ⟨(p, (cutTo p l i - 1).toNat), .rfl, ⟨hw, t3⟩, fun y hy => ?_⟩
        replace hy : y = targetF p (cutTo p l i - 1).toNat := hy
        subst hy
        refine cnd2 (fun g => ?_) (fun g => ?_) <;> simp only [decide_eq_true_eq, decide_eq_false_iff_not] at g
        · refine ⟨(l, _), .rfl, ⟨hl9⟩, fun y hy => ?_⟩
          replace hy : y = findF l (targetF p (cutTo p l i - 1).toNat) := hy
          subst hy
          obtain ⟨q1, q2⟩ := fin _ _ _ _ rfl (nx1 hY) (tk1 g) (fun _ => rfl)
          exact next _ _ _ q1 q2
        · obtain ⟨q1, q2⟩ := fin _ _ _ _ rfl (nx1 hY) (tk2 g) (fun _ => rfl)
          exact next _ _ _ q1 q2
      · refine ⟨(p, (cutTo p l i - 1).toNat), .rfl, ⟨hw, t3⟩, fun y hy => ?_⟩
        replace hy : y = targetF p (cutTo p l i - 1).toNat := hy
        subst hy
        refine cnd2 (fun g => ?_) (fun g => ?_) <;> simp only [decide_eq_true_eq, decide_eq_false_iff_not] at g
        · refine ⟨(l, _), .rfl, ⟨hl9⟩, fun y hy => ?_⟩
          replace hy : y = findF l (targetF p (cutTo p l i - 1).toNat) := hy
          subst hy
          obtain ⟨q1, q2⟩ := fin _ _ _ _ rfl (nx2 hN) (tk1 g) (fun _ => rfl)
          exact next _ _ _ q1 q2
        · obtain ⟨q1, q2⟩ := fin _ _ _ _ rfl (nx2 hN) (tk2 g) (fun _ => rfl)
          exact next _ _ _ q1 q2
    · have ht' : ¬ ((i + 1 : Nat) : Int) < (l.length : Int) := by omega
      have eT : (p.code.length : Int) = cutTo p l i := by unfold cutTo; rw [if_neg ht]
      have eN : IntKind.i64.wrap ((p.code.length : Int) - 1) = (((cutTo p l i - 1).toNat : Nat) : Int) := by rw [eT]; exact w2
      simp only [g1, g2, g3, g4, g5, g6, g7, allN_true, cond_true, Nat.le_refl, decide_true, pl_eq, h1, w1, ht', decide_false, cond_false, eN, Int.toNat_natCast, t4, t5, hkl, b]
      refine cases2 _ _ (fun hY => ?_) (fun hN => ?_)
      · refine ⟨(l, p.code.length), .rfl, ⟨hl9⟩, fun y hy => ?_⟩
        replace hy : y = findF l (p.code.length : Int) := hy
        rw [eT] at hy
        subst hy
        refine ⟨(p, (cutTo p l i - 1).toNat), .rfl, ⟨hw, t3⟩, fun y hy => ?_⟩
        replace hy : y = targetF p (cutTo p l i - 1).toNat := hy
        subst hy
        refine cnd2 (fun g => ?_) (fun g => ?_) <;> simp only [decide_eq_true_eq, decide_eq_false_iff_not] at g
        · refine ⟨(l, _), .rfl, ⟨hl9⟩, fun y hy => ?_⟩
          replace hy : y = findF l (targetF p (cutTo p l i - 1).toNat) := hy
          subst hy
          obtain ⟨q1, q2⟩ := fin _ _ _ _ eT.symm (nx1 hY) (tk1 g) (fun _ => rfl)
          exact next _ _ _ q1 q2
        · obtain ⟨q1, q2⟩ := fin _ _ _ _ eT.symm (nx1 hY) (tk2 g) (fun _ => rfl)
          exact next _ _ _ q1 q2
      · refine ⟨(p, (cutTo p l i - 1).toNat), .rfl, ⟨hw, t3⟩, fun y hy => ?_⟩
        replace hy : y = targetF p (cutTo p l i - 1).toNat := hy
        subst hy
        refine cnd2 (fun g => ?_) (fun g => ?_) <;> simp only [decide_eq_true_eq, decide_eq_false_iff_not] at g
        · refine ⟨(l, _), .rfl, ⟨hl9⟩, fun y hy => ?_⟩
          replace hy : y = findF l (targetF p (cutTo p l i - 1).toNat) := hy
          subst hy
          obtain ⟨q1, q2⟩ := fin _ _ _ _ eT.symm (nx2 hN) (tk1 g) (fun _ => rfl)
          exact next _ _ _ q1 q2
        · obtain ⟨q1, q2⟩ := fin _ _ _ _ eT.symm (nx2 hN) (tk2 g) (fun _ => rfl)
          exact next _ _ _ q1 q2
  · have h1 : ¬ (i : Int) < (l.length : Int) := by omega
    simp only [h1, decide_false, cond_false]
    obtain rfl : i = l.length := by omega
    exact ⟨.inl ⟨1, rfl, rfl⟩⟩
end Go.Proofs.Ythmlnmkbeohojaa

