/- Regions: in the order of the text, and in any order. -/
import Derived.Test.YtfobbfdbojednaaRaJ
import Derived.Orders
namespace Go.Ra
set_option linter.unusedVariables false
set_option linter.unusedSimpArgs false

def AOp.eff (q : Nat → Bool) : AOp → Bool
  | .box _ => true
  | .store .. => true
  | .app .. => true
  | .copy .. => true
  | .mks .. => true
  | .call f _ => !q f
  | _ => false

def AOp.sens (q : Nat → Bool) (o : AOp) : Bool :=
  o.eff q || match o with
    | .load .. => true
    | .b2s .. => true
    | .appf .. => true
    | .mksf .. => true
    | .aslice .. => true
    | .call .. => true
    | .callv .. => true
    | _ => false

def edgesOf (o : Oper) : List Nat := (o.after.toList.filter (Region.binds .any)).map (·.on)

def dstIn (d : Option Nat) (l : List Nat) : Bool :=
  match d with
  | some d => l.contains d
  | none => false

/-- A constant without memory of one's own. -/
def okConst : AV → Bool
  | .sc _ => true
  | .fro .. => true
  | .clo _ [] => true
  | _ => false
/-- A load, or a call that leaves memory alone, by names that are looked at. -/
def rdC (q : Nat → Bool) (ops : Array Oper) (x : Oper) (g : AG) : Bool :=
  match g.o with
  | .load _ _ (.t i) => (x.looksAt ops).contains i
  | .call f args => q f && args.all fun y =>
    match y with
    | .t i => (x.looksAt ops).contains i
    | .c v => okConst v
  | _ => false
/-- What only makes new memory; of calls q says so of the function's number plus 1000000. -/
def alC (q : Nat → Bool) (g : AG) : Bool :=
  match g.o with
  | .box _ => true
  | .mks .. => true
  | .call f _ => q (f + 1000000)
  | _ => false
/-- The one reads, the other only makes new memory: they may come in either order. -/
def excused (q : Nat → Bool) (ops : Array Oper) (x : Oper) (g : AG) (y : Oper) (h : AG) : Bool := (rdC q ops x g && alC q h) || (alC q g && rdC q ops y h)

def needs (q : Nat → Bool) (ops : Array Oper) (x : Oper) (g : AG) (y : Oper) (h : AG) : Bool :=
  dstIn x.dst (y.looksAt ops) || dstIn y.dst (x.looksAt ops) || (((g.o.eff q && h.o.sens q) || (g.o.sens q && h.o.eff q)) && !excused q ops x g y h)

def apartD (x y : Option Nat) : Bool :=
  match x, y with
  | some a, some b => decide (a ≠ b)
  | _, _ => true

def allN (f : Nat → Bool) : Nat → Bool
  | 0 => true
  | n + 1 => f n && allN f n

theorem allN_spec {f : Nat → Bool} : ∀ {n : Nat}, allN f n = true → ∀ k, k < n → f k = true
  | 0, _, k, hk => by omega
  | n + 1, h, k, hk => by
    simp only [allN, Bool.and_eq_true] at h
    by_cases hkn : k = n
    · subst hkn; exact h.1
    · exact allN_spec h.2 k (by omega)

def okPair (q : Nat → Bool) (ops : Array Oper) (l : List AG) (ms : Array Nat) (k j : Nat) : Bool :=
  match ops[k]?, l[k]?, ops[j]?, l[j]? with
  | some y, some h, some x, some g =>
    (!(ms.getD k 0).testBit j || (edgesOf y).any fun e => e == j || (decide (j < e) && (ms.getD e 0).testBit j)) && ((ms.getD k 0).testBit j || !needs q ops x g y h) && apartD x.dst y.dst
  | _, _, _, _ => false

/-- May the operations of a region come up in any order that its edges allow, as if it were the text's? -/
def okR (q : Nat → Bool) (ops : Array Oper) (l : List AG) : Bool :=
  let ms := Region.before ops
  allN (fun k => (match ops[k]? with | some o => (edgesOf o).all fun e => decide (e < k) | none => false) && allN (okPair q ops l ms k) k) ops.size

/-- A state of a walk: what is known of the temporaries and of memory. -/
def Env (G : Gh) (w : World) (σ : St) (a : Act) : Prop := ∀ t, RelV w G.F G.ρ (get σ.env t) (a.tmps.getD t undef)

def Sim (fr : Fr) (G0 : Gh) (w0 : World) (nt : Nat) (σ : St) (a : Act) (w : World) : Prop :=
  ∃ G, Goto fr G0 w0 G w σ ∧ Env G w σ a ∧ a.defers = [] ∧ a.tmps.size = nt

theorem Goto.trans {fr : Fr} {G0 G G' : Gh} {w0 w w' : World} {σ τ : St} (h : Goto fr G0 w0 G w σ) (k : Goto fr G w G' w' τ) : Goto fr G0 w0 G' w' τ :=
  ⟨k.wf, k.fr, h.ext.trans k.ext h.leF, fun b hb => k.leF b (h.leF b hb), fun i l hi => k.leR i l (h.leR i l hi)⟩

theorem Goto.same {fr : Fr} {G0 G : Gh} {w0 w : World} {σ τ : St} (h : Goto fr G0 w0 G w σ) (h1 : τ.hl = σ.hl) (h2 : τ.hb = σ.hb) (h3 : τ.n = σ.n) : Goto fr G0 w0 G w τ := by
  have e : τ.H = σ.H := by unfold St.H; rw [h1, h2]
  unfold Goto at *
  rw [e, h3]; exact h

theorem Goto.drew {fr : Fr} {G0 G : Gh} {w0 w : World} {σ : St} (h : Goto fr G0 w0 G w σ) {w' : World} (hs : SameHeap w w') : Goto fr G0 w0 G w' σ :=
  h.trans (Nxt.same h.wf h.fr hs)

theorem put_get {a : Act} {nt d t : Nat} {u : Value} (hs : a.tmps.size = nt) (hd : d < nt) : (a.put (some d) u).tmps.getD t undef = if t = d then u else a.tmps.getD t undef := by
  simp only [Act.put, Array.getD_eq_getD_getElem?, Array.getElem?_setIfInBounds]
  by_cases h : d = t
  · subst h; simp [hs, hd]
  · rw [if_neg h, if_neg (fun e => h e.symm)]
theorem put_defers {a : Act} {d : Option Nat} {u : Value} : (a.put d u).defers = a.defers := by cases d <;> rfl
theorem put_size {a : Act} {d : Option Nat} {u : Value} : (a.put d u).tmps.size = a.tmps.size := by cases d <;> simp [Act.put]
theorem put_env {σ : St} {d : Option Nat} {v : AV} {t : Nat} : get (σ.put d v).env t = if d = some t then v else get σ.env t := by
  cases d with
  | none => simp [St.put]
  | some d =>
    simp only [St.put, get, Option.some.injEq]
    by_cases h : d = t
    · subst h; simp
    · rw [if_neg h, if_neg (fun e => h e.symm)]
theorem put_hl {σ : St} {d : Option Nat} {v : AV} : (σ.put d v).hl = σ.hl := by cases d <;> rfl
theorem put_hb {σ : St} {d : Option Nat} {v : AV} : (σ.put d v).hb = σ.hb := by cases d <;> rfl
theorem put_n {σ : St} {d : Option Nat} {v : AV} : (σ.put d v).n = σ.n := by cases d <;> rfl

theorem env_put {G G' : Gh} {fr : Fr} {w w' : World} {σ τ : St} {a : Act} {nt : Nat} {d : Option Nat} {v : AV} {u : Value} (he : Env G w σ a) (hs : a.tmps.size = nt) (hd : ∀ t, d = some t → t < nt) (hgo : Goto fr G w G' w' τ) (henv : τ.env = σ.env) (hr : RelV w' G'.F G'.ρ v u) :
    Env G' w' (τ.put d v) (a.put d u) := by
  intro t
  rw [put_env]
  cases d with
  | none =>
    rw [if_neg (by simp), henv]
    exact hgo.mono (he t)
  | some d =>
    rw [put_get hs (hd d rfl)]
    by_cases h : d = t
    · subst h; simpa using hr
    · rw [if_neg (by simpa using h), if_neg (fun e => h e.symm), henv]
      exact hgo.mono (he t)

theorem mapM_cons_inv {α β : Type} {f : α → Option β} {x : α} {xs : List α} {r : List β} (h : (x :: xs).mapM f = some r) : ∃ y ys, f x = some y ∧ xs.mapM f = some ys ∧ r = y :: ys := by
  rw [List.mapM_cons] at h
  cases hx : f x with
  | none => rw [hx] at h; cases h
  | some y =>
    rw [hx] at h
    cases hxs : xs.mapM f with
    | none => rw [hxs] at h; cases h
    | some ys =>
      rw [hxs] at h
      exact ⟨y, ys, rfl, rfl, by simpa using h.symm⟩

theorem mapM_get {α β : Type} {f : α → Option β} : ∀ {l : List α} {r : List β}, l.mapM f = some r → ∀ (k : Nat) (x : α), l[k]? = some x → ∃ y, r[k]? = some y ∧ f x = some y
  | [], r, h, k, x, hk => by simp at hk
  | a :: l, r, h, k, x, hk => by
    obtain ⟨y, ys, h1, h2, rfl⟩ := mapM_cons_inv h
    cases k with
    | zero =>
      simp only [List.getElem?_cons_zero, Option.some.injEq] at hk
      subst hk
      exact ⟨y, rfl, h1⟩
    | succ k => exact mapM_get h2 k x (by simpa using hk)

theorem mapM_len {α β : Type} {f : α → Option β} : ∀ {l : List α} {r : List β}, l.mapM f = some r → r.length = l.length
  | [], r, h => by simp at h; subst h; rfl
  | a :: l, r, h => by
    obtain ⟨y, ys, h1, h2, rfl⟩ := mapM_cons_inv h
    simp [mapM_len h2]

section
variable {P : Program} {z : Bool}
theorem trOper_inv {nt : Nat} {ops : Array Oper} {o : Oper} {g : AG} (h : trOper z P nt ops o = some g) : TrO P o.op g.o ∧ trG ops o.guard = some g.g ∧ g.d = o.dst ∧ ∀ t, o.dst = some t → t < nt := by
  unfold trOper at h
  split at h
  · rename_i ao g' h1 h2
    cases hd : o.dst with
    | none =>
      rw [hd] at h
      simp only [if_true, Option.some.injEq] at h
      subst h
      exact ⟨trO_of h1 z, h2, rfl, fun t ht => by cases ht⟩
    | some d =>
      rw [hd] at h
      simp only [decide_eq_true_eq] at h
      split at h
      · rename_i h3
        simp only [Option.some.injEq] at h
        subst h
        refine ⟨trO_of h1 z, h2, rfl, fun t ht => ?_⟩
        simp only [Option.some.injEq] at ht
        subst ht
        exact h3
      · cases h
  · cases h

theorem Stp.env {C : Orc} {σ τ : St} {o : Op} {g : AG} {v : AV} (htr : TrO P o g.o) (h : Stp C σ g v τ) : τ.env = σ.env := by
  cases h with
  | op hp hs =>
    obtain ⟨c, rfl, _⟩ := htr.1 σ τ v hs
    exact c.st_env σ
  | call hp hc => rfl
  | callv hp hx hc _ => rfl
  | skip hp => rfl

theorem step_of {P : Program} {z : Bool} {C : Orc} (hC : OrcOk P C) {nt : Nat} {ops : Array Oper} {o : Oper} {g : AG} (htr : trOper z P nt ops o = some g) {σ τ : St} {v : AV} (h : Stp C σ g v τ)
    {fr : Fr} {G : Gh} {w : World} {a : Act} (hw : Own fr G w σ) (hr : ∀ t ∈ o.looksAt ops, RelV w G.F G.ρ (get σ.env t) (a.tmps.getD t undef)) {K : Act → World → Prop} {Q : Exit → Act → World → Prop}
    (hK : ∀ u w' G', Goto fr G w G' w' τ → RelV w' G'.F G'.ρ v u → K (a.put o.dst u) w') :
    if Region.wanted o (yielded ops a.tmps) = true then o.wp P a w K Q else K (a.put o.dst undef) w := by
  obtain ⟨h1, h2, h3, h4⟩ := trOper_inv htr
  obtain ⟨d, ao, g'⟩ := g
  simp only at h1 h2 h3
  subst h3
  exact stp_sound hC h1 h2 h hw hr hK

/-- A region in the order of the text. -/
theorem text_list {C : Orc} (hC : OrcOk P C) {nt : Nat} {ops : Array Oper} {fr : Fr} {G0 : Gh} {w0 : World} {KA : St → Prop} {Q : Exit → Act → World → Prop} (hQ : ∀ σ a w, Sim fr G0 w0 nt σ a w → KA σ → Q .normal a w) :
    ∀ (l : List Oper) (r : List AG), l.mapM (trOper z P nt ops) = some r → ∀ (σ : St) (a : Act) (w : World), Sim fr G0 w0 nt σ a w → wpOps C r σ KA → wpList P ops Q l a w
  | [], r, hr, σ, a, w, hs, h => by
    simp at hr
    subst hr
    exact hQ σ a w hs h
  | o :: l, r, hr, σ, a, w, hs, h => by
    obtain ⟨g, gs, h1, h2, rfl⟩ := mapM_cons_inv hr
    obtain ⟨v, τ, h3, h4⟩ := wpOps_step h
    obtain ⟨t1, t2, t3, t4⟩ := trOper_inv h1
    obtain ⟨G, s1, s2, s3, s4⟩ := hs
    have := step_of hC h1 h3 (a := a) s1.own (fun t _ => s2 t) (K := wpList P ops Q l) (Q := Q) (fun u w' G' hgo hrel => by
      refine text_list hC hQ l gs h2 (τ.put g.d v) _ w' ⟨G', ?_, ?_, ?_, ?_⟩ h4
      · exact (s1.trans hgo).same put_hl put_hb put_n
      · rw [t3]
        exact env_put s2 s4 t4 hgo (h3.env t1) hrel
      · rw [put_defers]; exact s3
      · rw [put_size]; exact s4)
    unfold wpList
    split
    · rename_i hw
      rw [if_pos hw] at this
      exact .inl this
    · rename_i hw
      rw [if_neg hw] at this
      exact this
end

theorem stepE_same {q : Nat → Bool} {o : AOp} {σ τ : St} {v : AV} (he : o.eff q = false) (h : stepE o σ = some (v, τ)) : τ = σ := by
  cases o <;> simp only [AOp.eff] at he <;> first | (cases he; done) | skip
  all_goals
    simp only [stepE] at h
    repeat' split at h
    all_goals first
      | (cases h; done)
      | (simp only [Option.some.injEq, Prod.mk.injEq] at h; exact h.2.symm)

theorem ev_env {σ : St} {hl : List (Nat × Option AV)} {hb : Nat → Option AV} {n : Nat} : St.ev ⟨σ.env, hl, hb, n⟩ = σ.ev := by
  funext x; cases x <;> rfl

theorem stepE_pure {q : Nat → Bool} {o : AOp} {σ τ : St} {v : AV} (he : o.sens q = false) (h : stepE o σ = some (v, τ)) (hl : List (Nat × Option AV)) (hb : Nat → Option AV) (n : Nat) : stepE o ⟨σ.env, hl, hb, n⟩ = some (v, ⟨σ.env, hl, hb, n⟩) := by
  cases o <;> simp only [AOp.sens, AOp.eff, Bool.or_false, Bool.or_true, Bool.true_or, Bool.or_eq_false_iff] at he <;> first | (cases he; done) | (cases he.2; done) | skip
  all_goals
    simp only [stepE, ev_env] at h ⊢
    repeat' split at h
    all_goals first
      | (cases h; done)
      | (simp only [Option.some.injEq, Prod.mk.injEq] at h; obtain ⟨rfl, rfl⟩ := h; simp_all)
end Go.Ra
